/- Merged by program: Rwr, Rwr2, DfREnc. -/
import Derived.Test.YtgjnmfmbheejoaaGreatDoorRdB
import Derived.Lib.ConvBytes
import Derived.Lib.SmallJoins
import Derived.Test.YtgjnmfmbheejoaaGreatDoorWrA
namespace Go.Proofs.YtgjnmfmbheejoaaGreatDoor
section
open Go.RowKit Go.Shelf

theorem num_byte {m : Nat} : (u8V (m % 128 + 128).toUInt8 = .int .u8 ((m : Int) % 128 + 128)) := by
  unfold u8V; rw [u8_lt (by omega)]; congr 1
theorem own_one (w : World) (c : UInt8) : (w.alloc (.cells #[u8V c] 5)).ownsRow w.heap.size 5 1 (.slice (some ⟨w.heap.size, 0, none⟩) 1 1) 1 (bV [c]) :=
  World.ownsRow_lit w #[u8V c] 1 (Nat.le_refl _) (by decide) rfl
set_option maxRecDepth 100000 in
set_option maxHeartbeats 2000000 in
theorem rnumber_any : ∀ (n : Nat) (w : World), n < 18446744073709551616 →
    Calls Tryz.prog 129 #[.int .u64 (n : Int)] w fun e w' => (∃ v, e = .returned v ∧ w'.ownsRow w.heap.size 5 1 v (uvB n).length (bV (uvB n))) ∧ Below w.heap.size w w' := by
  intro n
  induction n using Nat.strongRecOn with
  | ind n ih =>
    intro w hn
    by_cases hlt : n < 128
    · have ho := own_one w n.toUInt8
      rw [dig_last hlt] at ho
      have HO := Lib.hid ho
      have HE : Hid (uvB n = [n.toUInt8]) := Lib.hid (uvB_lt hlt)
      clear ho ih
      go_enter Tryz.func129, Tryz.ntmps129
      go_wp2
      go_ret
      exact ⟨⟨_, rfl, by rw [HE.out]; exact HO.out⟩, (Below.refl _ _).alloc (Nat.le_refl _) _⟩
    · have hge : 128 ≤ n := by omega
      have ho := own_one w (n % 128 + 128).toUInt8
      rw [num_byte] at ho
      have I := Lib.hid (fun W => ih (n / 128) (by omega) W (by omega))
      have HE : Hid (uvB n = (n % 128 + 128).toUInt8 :: uvB (n / 128)) := Lib.hid (uvB_ge hge)
      have hcast : ((n / 128 : Nat) : Int) = (n : Int) / 128 := by omega
      simp only [hcast] at I
      have HO := Lib.hid ho
      have HL : Hid ((uvB (n / 128)).length ≤ 10) := Lib.hid (uvB_len10 (by omega))
      clear ho ih hcast
      go_enter Tryz.func129, Tryz.ntmps129
      go_upto_region 3 with fail
      go_wp2_with (first
        | (go_at_call 129; refine (I.out _).mono ?_; rintro e w1 ⟨⟨v1, rfl, ho1⟩, hB⟩; obtain ⟨A1, c1, rfl, hc1⟩ := own_slice ho1; have hk := HO.out.kept (gbelow hB) (Classical.em _); obtain ⟨v', w', hrun, hown', hgrow⟩ := run_app_src w1 A1 _ c1 (uvB (n / 128)) (SlB.of_own ho1) (by have := HL.out; omega) hk (by have := HL.out; omega) (by have := hB.size; simp at this; omega); have HR := Lib.hid hrun; have HF := Lib.hid (And.intro hown' ((((Below.refl w.heap.size w).alloc (Nat.le_refl _) _).trans (hB.mono (by simp))).grown hgrow (by have := hB.size; simp at this; omega) (fun k e => by simp [Value.ownBlock] at e; omega))); clear hrun hown' hgrow ho1 hB hk hc1)
        | (at_builtin; refine wpList_append_run rfl (.tmp 12) (.tmp 15) 22 22 rfl rfl rfl HR.out ?_))
      go_ret
      refine ⟨⟨_, rfl, ?_⟩, HF.out.2⟩
      rw [HE.out]
      have := HF.out.1
      rw [← bV_app, Nat.add_comm] at this
      exact this

/-- A writer of the reference in memory with these bytes. -/
def WrQ (W : World) (base C : Nat) (l : List UInt8) : Prop := base ≤ C ∧ ∃ v, Whole W C 170 #[.bool true, v] ∧ W.ownsRow base 5 1 v l.length (bV l)
theorem WrQ.lt {W : World} {base C : Nat} {l : List UInt8} (h : WrQ W base C l) : C < W.heap.size := by obtain ⟨_, v, h1, _⟩ := h; exact h1.lt
theorem WrQ.keep {W W' : World} {base C : Nat} {l : List UInt8} (h : WrQ W base C l) (hb : Below W.heap.size W W') : WrQ W' base C l := by
  obtain ⟨h0, v, h1, h2⟩ := h
  exact ⟨h0, v, h1.keep hb, h2.kept (gbelow hb) (Classical.em _)⟩
theorem WrQ.store {W w' : World} {base C : Nat} {l m : List UInt8} {v v' : Value} (hb : base ≤ C) (hC : Whole W C 170 #[.bool true, v]) (hown : W.ownsRow base 5 1 v l.length (bV l)) (hg : W.grownBy w' v.ownBlock)
    (hown' : w'.ownsRow base 5 1 v' (l.length + m.length) (bV l ++ bV m)) : WrQ (w'.setCell ⟨C, 1, none⟩ v') base C (l ++ m) ∧ WrK W (w'.setCell ⟨C, 1, none⟩ v') base C ∧ Whole w' C 170 #[.bool true, v] := by
  have hC' := hC.grown hg (own_ne hown hC (by decide))
  refine ⟨⟨hb, v', ?_, ?_⟩, ⟨?_, fun b t cs hx ht hne => ?_⟩, hC'⟩
  · have := hC'.put 1 v'
    simpa using this
  · rw [List.length_append, bV_app]
    exact hown'.kept (grown_set (World.grownBy.refl w' (some C)) 1 v') (.inr (own_ne hown' hC' (by decide)).symm)
  · refine ((Below.refl base W).grown hg (by have := hC.lt; omega) (fun k e => ?_)).setCell (p := ⟨C, 1, none⟩) hb v'
    exact (hown.lt k e).1
  · exact (Below.heap_setCell w' ⟨C, 1, none⟩ v' b hne).trans (hg.block b (Array.getElem?_eq_some_iff.1 hx).1 (own_not hown hx ht))
theorem rnew_any (w : World) : Calls Tryz.prog 67 #[] w fun e w' => e = .returned (.pointer (some ⟨w.heap.size, 0, none⟩)) ∧ w' = w.alloc (.cells #[.bool true, .slice none 0 0] 170) := by
  go_enter Tryz.func67, Tryz.ntmps67
  go_wp2
  go_ret
  exact ⟨rfl, rfl⟩
theorem WrQ.new (w : World) {base : Nat} (h : base ≤ w.heap.size) : WrQ (w.alloc (.cells #[.bool true, .slice none 0 0] 170)) base w.heap.size [] :=
  ⟨h, _, Whole.new w _ _, World.ownsRow_nil _ _ _ _⟩
theorem wvalid_any (C : Nat) (v : Value) (w : World) (h : Whole w C 170 #[.bool true, v]) :
    Calls Tryz.prog 131 #[.pointer (some ⟨C, 0, none⟩)] w fun e w' => e = .returned (.bool true) ∧ w = w' := by
  have c0 := h.cell 0
  simp only [List.getElem?_toArray, List.getElem?_cons_zero] at c0
  clear h
  go_enter Tryz.func131, Tryz.ntmps131
  go_wp2
  go_ret
  exact ⟨rfl, rfl⟩
set_option maxHeartbeats 2000000 in
theorem radd_any (C base : Nat) (A : Option Addr) (n c : Nat) (l m : List UInt8) (w : World) (h : WrQ w base C l) (hm : SlB w A n m) (hn : n ≤ 1000000000000) (hl : l.length + n ≤ 1099511627776) :
    Calls Tryz.prog 128 #[.pointer (some ⟨C, 0, none⟩), .slice A n c] w fun e w' => e = .returned (.tuple #[]) ∧ WrQ w' base C (l ++ m) ∧ WrK w w' base C := by
  obtain ⟨hb, v, hC, hown⟩ := id h
  have V := Lib.hid (wvalid_any C v w hC)
  have c1 := hC.cell 1
  simp only [List.getElem?_toArray, List.getElem?_cons_succ, List.getElem?_cons_zero] at c1
  obtain ⟨v', w', hrun, hown', hgrow⟩ := run_app_src w A n c m hm hn hown hl (by have := hC.lt; omega)
  obtain ⟨s1, s2, s4⟩ := WrQ.store (m := m) hb hC hown hgrow (by rw [hm.1]; exact hown')
  have e1 := s4.cell 1
  have e2 := s4.fr 1
  simp only [List.getElem?_toArray, List.getElem?_cons_succ, List.getElem?_cons_zero] at e1
  have HR := Lib.hid hrun
  have HF := Lib.hid (And.intro s1 s2)
  obtain ⟨A', c', rfl, _⟩ := own_slice hown'
  clear h hm hC hown hrun hown' hgrow s1 s2 s4 hn hl
  go_enter Tryz.func128, Tryz.ntmps128
  go_wp2_with (first
    | (go_at_call 131; refine V.out.mono ?_; rintro e w1 ⟨rfl, rfl⟩)
    | (at_builtin; refine wpList_append_run rfl (.tmp 10) (.tmp 11) 22 22 rfl rfl rfl HR.out ?_))
  go_end0
  exact ⟨rfl, HF.out⟩
set_option maxHeartbeats 1000000 in
theorem ruint_w (C base n : Nat) (l : List UInt8) (w : World) (h : WrQ w base C l) (hn : n < 18446744073709551616) (hl : l.length ≤ 1000000000000) :
    Calls Tryz.prog 68 #[.pointer (some ⟨C, 0, none⟩), .int .u64 (n : Int)] w fun e w' => e = .returned (.tuple #[]) ∧ WrQ w' base C (l ++ uvB n) ∧ WrK w w' base C := by
  have N := Lib.hid (rnumber_any n w hn)
  have HL : Hid ((uvB n).length ≤ 10) := Lib.hid (uvB_len10 (by omega))
  have HB : Hid (base ≤ w.heap.size) := Lib.hid (by have := h.lt; have := h.1; omega)
  have H := Lib.hid h
  clear h hn
  go_enter Tryz.func68, Tryz.ntmps68
  go_wp2_with (first
    | (go_at_call 129; refine N.out.mono ?_; rintro e w1 ⟨⟨v1, rfl, ho1⟩, hB⟩; obtain ⟨A1, c1, rfl, hc1⟩ := own_slice ho1; have HA := Lib.hid (radd_any C base A1 _ c1 l (uvB n) w1 (H.out.keep hB) (SlB.of_own ho1) (by have := HL.out; omega) (by have := HL.out; omega)); have HK := Lib.hid (WrK.of_below (C := C) hB HB.out); clear ho1 hB hc1)
    | (go_at_call 128; refine HA.out.mono ?_; rintro e w2 ⟨rfl, hP, hK⟩))
  go_end0
  exact ⟨rfl, hP, HK.out.trans hK⟩
set_option maxHeartbeats 1000000 in
theorem rint_w (C base : Nat) (n : Int) (l : List UInt8) (w : World) (h : WrQ w base C l) (h1 : -9223372036854775808 ≤ n) (h2 : n ≤ 9223372036854775807) (hl : l.length ≤ 1000000000000) :
    Calls Tryz.prog 69 #[.pointer (some ⟨C, 0, none⟩), .int .i64 n] w fun e w' => e = .returned (.tuple #[]) ∧ WrQ w' base C (l ++ uvB (zig n)) ∧ WrK w w' base C := by
  have Z := Lib.hid (rzig_any n w h1 h2)
  have hz : zig n < 18446744073709551616 := by have := zig_lt h1 h2; omega
  have N := Lib.hid (rnumber_any (zig n) w hz)
  have HL : Hid ((uvB (zig n)).length ≤ 10) := Lib.hid (uvB_len10 (by omega))
  have HB : Hid (base ≤ w.heap.size) := Lib.hid (by have := h.lt; have := h.1; omega)
  have H := Lib.hid h
  generalize zig n = z at Z N HL ⊢
  clear h h1 h2 hz
  go_enter Tryz.func69, Tryz.ntmps69
  go_wp2_with (first
    | (go_at_call 130; refine Z.out.mono ?_; rintro e w1 ⟨rfl, rfl⟩)
    | (go_at_call 129; refine N.out.mono ?_; rintro e w1 ⟨⟨v1, rfl, ho1⟩, hB⟩; obtain ⟨A1, c1, rfl, hc1⟩ := own_slice ho1; have HA := Lib.hid (radd_any C base A1 _ c1 l (uvB z) w1 (H.out.keep hB) (SlB.of_own ho1) (by have := HL.out; omega) (by have := HL.out; omega)); have HK := Lib.hid (WrK.of_below (C := C) hB HB.out); clear ho1 hB hc1)
    | (go_at_call 128; refine HA.out.mono ?_; rintro e w2 ⟨rfl, hP, hK⟩))
  go_end0
  exact ⟨rfl, hP, HK.out.trans hK⟩
end
section
open Go.RowKit Go.Shelf

theorem conv_str (s : ByteArray) (W : World) : (convert 9 22 (.string s)).run Tryz.prog W = .ok (.slice (some ⟨W.heap.size, 0, none⟩) s.size (grownCap W s.size 0 5)) (Lib.bytesWorld W 5 s) :=
  Lib.run_convert_string_bytes (P := Tryz.prog) W 9 22 5 s Tryz.underlying9 Tryz.underlying22 Tryz.underlying5
theorem slB_conv (s : ByteArray) (W : World) : SlB (Lib.bytesWorld W 5 s) (some ⟨W.heap.size, 0, none⟩) s.size s.data.toList := by
  refine ⟨by rw [← Lib.size_eq], fun i c hi => ⟨_, _, rfl, ?_⟩⟩
  have hlt : i < s.size := by rw [Lib.size_eq]; exact (List.getElem?_eq_some_iff.1 hi).1
  rw [Nat.zero_add, Lib.bytesWorld_cell W 5 s i hlt]
  unfold u8V
  rw [List.getD_eq_getElem?_getD, hi]
  rfl
theorem below_conv (s : ByteArray) (W : World) : Below W.heap.size W (Lib.bytesWorld W 5 s) := Joins.below_bytesWorld _ W _ s (Nat.le_refl _)
set_option maxHeartbeats 2000000 in
theorem rtext_w (C base : Nat) (s : ByteArray) (l : List UInt8) (w : World) (h : WrQ w base C l) (hs : s.size ≤ 1000000000) (hl : l.length ≤ 100000000000) :
    Calls Tryz.prog 70 #[.pointer (some ⟨C, 0, none⟩), .string s] w fun e w' => e = .returned (.tuple #[]) ∧ WrQ w' base C (l ++ txB s.data.toList) ∧ WrK w w' base C := by
  have hlen : s.data.toList.length = s.size := by rw [← Lib.size_eq]
  have N := Lib.hid (rnumber_any s.size w (by omega))
  have HL : Hid ((uvB s.size).length ≤ 10) := Lib.hid (uvB_len10 (by omega))
  have HB : Hid (base ≤ w.heap.size) := Lib.hid (by have := h.lt; have := h.1; omega)
  have hcv := conv_str s
  have HE : Hid (l ++ txB s.data.toList = (l ++ uvB s.size) ++ s.data.toList) := Lib.hid (by unfold txB; rw [hlen, List.append_assoc])
  have H := Lib.hid h
  clear h hlen
  go_enter Tryz.func70, Tryz.ntmps70
  go_upto_region 1 with (first
    | (go_at_call 129; refine N.out.mono ?_; rintro e w1 ⟨⟨v1, rfl, ho1⟩, hB⟩; obtain ⟨A1, c1, rfl, hc1⟩ := own_slice ho1; have HA := Lib.hid (radd_any C base A1 _ c1 l (uvB s.size) w1 (H.out.keep hB) (SlB.of_own ho1) (by have := HL.out; omega) (by have := HL.out; omega)); have HK := Lib.hid (WrK.of_below (C := C) hB HB.out); clear ho1 hB hc1)
    | (go_at_call 128; refine HA.out.mono ?_; rintro e w2 ⟨rfl, hP, hK⟩))
  have HA2 := Lib.hid (fun c => radd_any C base (some ⟨w2.heap.size, 0, none⟩) s.size c (l ++ uvB s.size) s.data.toList (Lib.bytesWorld w2 5 s) (hP.keep (below_conv s w2)) (slB_conv s w2) (by omega) (by have := HL.out; rw [List.length_append]; omega))
  have HK2 := Lib.hid (HK.out.trans (hK.trans (WrK.of_below (C := C) (below_conv s w2) (by have := hP.lt; have := hP.1; omega))))
  clear hP hK hs hl
  go_wp2_with (go_at_call 128; refine (HA2.out _).mono ?_; rintro e w3 ⟨rfl, hP3, hK3⟩)
  go_end0
  exact ⟨rfl, by rw [HE.out]; exact hP3, HK2.out.trans hK3⟩
set_option maxHeartbeats 1000000 in
theorem rbytes_w (C base : Nat) (l : List UInt8) (w : World) (h : WrQ w base C l) (hl : l.length ≤ 1000000000000) :
    Calls Tryz.prog 72 #[.pointer (some ⟨C, 0, none⟩)] w fun e w' => (∃ v, e = .returned v ∧ w'.ownsRow w.heap.size 5 1 v l.length (bV l)) ∧ Below w.heap.size w w' := by
  obtain ⟨hb, v, hC, hown⟩ := id h
  have V := Lib.hid (wvalid_any C v w hC)
  obtain ⟨A, c, rfl, _⟩ := own_slice hown
  have c1 := (hC.alloc (.cells #[] 5)).cell 1
  simp only [List.getElem?_toArray, List.getElem?_cons_succ, List.getElem?_cons_zero] at c1
  have h2 := (SlB.of_own hown).keep ((Below.refl _ w).alloc (Nat.le_refl _) (.cells #[] 5))
  have hm : (w.alloc (.cells #[] 5)).ownsRow w.heap.size 5 1 (.slice (some ⟨w.heap.size, 0, none⟩) 0 0) 0 [] := World.ownsRow_made _ _ _ (Nat.le_refl _) (Nat.zero_le _) rfl
  obtain ⟨v', w', hrun, hown', hgrow⟩ := run_app_src _ A l.length c l h2 hl hm (by omega) (by simp)
  have HR := Lib.hid hrun
  rw [Nat.zero_add, List.nil_append] at hown'
  have HF : Hid (w'.ownsRow w.heap.size 5 1 v' l.length (bV l) ∧ Below w.heap.size w w') := Lib.hid ⟨hown', ((Below.refl _ w).alloc (Nat.le_refl _) _).grown hgrow (by simp) (fun k e => by simp [Value.ownBlock] at e; omega)⟩
  generalize l.length = N at HR HF c1 ⊢
  clear hrun hown' hgrow hm h2 h hC hown hl
  go_enter Tryz.func72, Tryz.ntmps72
  go_wp2_with (first
    | (go_at_call 131; refine V.out.mono ?_; rintro e w1 ⟨rfl, rfl⟩)
    | (at_builtin; refine wpList_append_run rfl (.tmp 6) (.tmp 10) 22 22 rfl rfl rfl HR.out ?_))
  go_ret
  exact ⟨⟨_, rfl, HF.out.1⟩, HF.out.2⟩
set_option maxHeartbeats 1000000 in
theorem rlen_w (C base : Nat) (l : List UInt8) (w : World) (h : WrQ w base C l) (hl : l.length ≤ 1000000000000) :
    Calls Tryz.prog 71 #[.pointer (some ⟨C, 0, none⟩)] w fun e w' => e = .returned (.int .i64 (l.length : Int)) ∧ Below w.heap.size w w' := by
  have B := Lib.hid (rbytes_w C base l w h hl)
  generalize l.length = N at B ⊢
  clear h hl
  go_enter Tryz.func71, Tryz.ntmps71
  go_wp2_with (go_at_call 72; refine B.out.mono ?_; rintro e w1 ⟨⟨v1, rfl, ho⟩, hB⟩; obtain ⟨A1, c1, rfl, hc1⟩ := own_slice ho)
  go_ret
  exact ⟨rfl, hB⟩
end
section
open Go.RowKit Go.Shelf

theorem preD_one (d : Dv) : preD d 0 ++ uvB d.r.toNat = preD d 1 := preD_next rfl
theorem preD_two (d : Dv) : preD d 1 ++ uvB d.dl.toNat = preD d 2 := preD_next rfl
theorem preD_three (d : Dv) : preD d 2 ++ uvB d.s.length = preD d 3 := preD_next rfl
set_option maxRecDepth 100000 in
set_option maxHeartbeats 8000000 in
theorem refDefEncode_any (d : Dv) (A : Option Addr) (n c : Nat) (w : World) (h : DefAt w A n c d) :
    Calls Tryz.prog 75 #[dV d A n c] w fun e w' => EncR w w' d e ∧ Below w.heap.size w w' := by
  have b1 := (Below.refl w.heap.size w).alloc (Nat.le_refl _) (.cells #[.string d.n, .int .i64 d.r, .int .i64 d.dl, .slice A n c] 31)
  have CK := Lib.hid (refDefCheck_any d A n c _ (h.keep b1))
  have HW0 := Lib.hid (Whole.new w 31 #[.string d.n, .int .i64 d.r, .int .i64 d.dl, .slice A n c])
  have HB := Lib.hid b1
  have H := Lib.hid h
  have hbig := h.big
  unfold dV at CK ⊢
  clear h b1
  by_cases hok : defOk d
  case neg =>
    rw [ckD_no hok] at CK
    have HN := Lib.hid hok
    clear hok
    go_enter Tryz.func75, Tryz.ntmps75
    go_wp2_with (go_at_call 132; refine CK.out.mono ?_; rintro e w1 ⟨rfl, hb⟩)
    go_ret2
    exact ⟨Or.inr ⟨HN.out, rfl⟩, HB.out.trans (hb.mono HB.out.size)⟩
  rw [ckD_yes hok] at CK
  have HOK := Lib.hid hok
  have HL := Lib.hid H.out.len
  have hnl : d.n.size ≤ 1000000000 := by have := (isName_len hok.1).2.1; rw [Lib.size_eq]; omega
  obtain ⟨_, r0, r1, t0, t1, n1, n8, _⟩ := id hok
  rw [HL.out] at n1 n8
  have er : ((d.r.toNat : Nat) : Int) = d.r := by omega
  have et : ((d.dl.toNat : Nat) : Int) = d.dl := by omega
  have HR : Hid (d.r.toNat ≤ 1000000 ∧ d.dl.toNat ≤ 1000000 ∧ d.s.length = n) := Lib.hid ⟨by omega, by omega, HL.out⟩
  have ur : IntKind.u64.wrap d.r = d.r := by rw [IntKind.wrap_u64]; omega
  have ut : IntKind.u64.wrap d.dl = d.dl := by rw [IntKind.wrap_u64]; omega
  have un : IntKind.u64.wrap (n : Int) = (n : Int) := by rw [IntKind.wrap_u64]; omega
  have HPL := Lib.hid (fun k => preD_len (defOk_hd HOK.out) k)
  clear hok
  go_enter Tryz.func75, Tryz.ntmps75
  go_upto_region 4 with (first
    | (go_at_call 132; refine CK.out.mono ?_; rintro e w1 ⟨rfl, hb⟩)
    | (go_at_call 67; refine (rnew_any _).mono ?_; rintro e w2 ⟨rfl, rfl⟩))
  have BW := Lib.hid (HB.out.trans (hb.mono HB.out.size))
  have HW1 := Lib.hid (HW0.out.keep hb)
  clear CK hb HW0 HB r0 r1 t0 t1
  have HT := Lib.hid (rtext_w w1.heap.size w1.heap.size d.n [] _ (WrQ.new w1 (Nat.le_refl _)) hnl (by simp))
  rw [← preD_zero] at HT
  have BN := Lib.hid ((Below.refl _ w1).alloc (Nat.le_refl _) (.cells #[.bool true, .slice none 0 0] 170))
  generalize hwn : w1.alloc (.cells #[.bool true, .slice none 0 0] 170) = wn at HT BN ⊢
  clear hwn
  have x0 := (HW1.out.keep BN.out).cell 0
  simp only [List.getElem?_toArray, List.getElem?_cons_zero] at x0
  go_upto_region 5 with (go_at_call 70; refine HT.out.mono ?_; rintro e w3 ⟨rfl, hP3, hK3⟩)
  have B3 := Lib.hid (BN.out.trans hK3.1)
  have U := Lib.hid (ruint_w w1.heap.size w1.heap.size d.r.toNat _ w3 hP3 (by have := HR.out.1; omega) (by have := HPL.out 0; omega))
  rw [preD_one, er] at U
  have x1 := (HW1.out.keep B3.out).cell 1
  simp only [List.getElem?_toArray, List.getElem?_cons_succ, List.getElem?_cons_zero] at x1
  clear hP3 hK3 x0 HT BN
  go_upto_region 6 with (go_at_call 68; refine U.out.mono ?_; rintro e w4 ⟨rfl, hP4, hK4⟩)
  have B4 := Lib.hid (B3.out.trans hK4.1)
  have U2 := Lib.hid (ruint_w w1.heap.size w1.heap.size d.dl.toNat _ w4 hP4 (by have := HR.out.2.1; omega) (by have := HPL.out 1; omega))
  rw [preD_two, et] at U2
  have x2 := (HW1.out.keep B4.out).cell 2
  simp only [List.getElem?_toArray, List.getElem?_cons_succ, List.getElem?_cons_zero] at x2
  clear hP4 hK4 x1 U B3
  go_upto_region 7 with (go_at_call 68; refine U2.out.mono ?_; rintro e w5 ⟨rfl, hP5, hK5⟩)
  have B5 := Lib.hid (B4.out.trans hK5.1)
  have U3 := Lib.hid (ruint_w w1.heap.size w1.heap.size d.s.length _ w5 hP5 (by have := HR.out.2.2; omega) (by have := HPL.out 2; omega))
  rw [preD_three, HL.out] at U3
  have x3 := (HW1.out.keep B5.out).cell 3
  simp only [List.getElem?_toArray, List.getElem?_cons_succ, List.getElem?_cons_zero] at x3
  clear hP5 hK5 x2 U2 B4
  go_upto_region 8 with (go_at_call 68; refine U3.out.mono ?_; rintro e w6 ⟨rfl, hP6, hK6⟩)
  have hlt := HW1.out.lt
  have J0 : Hid (WrQ w6 w1.heap.size w1.heap.size (bysD d 0) ∧ Below w1.heap.size w1 w6) := Lib.hid ⟨by rw [bysD_zero]; exact hP6, B5.out.trans hK6.1⟩
  have HBL := Lib.hid (fun k => bysD_len HOK.out k)
  clear hP6 hK6 U3 B5 x3 er et ur ut un HPL HR
  go_wp2_with fail
  go_loopw [5] (fun i wr => ∃ k : Nat, k ≤ n ∧ i = .int .i64 k ∧ Hid (WrQ wr w1.heap.size w1.heap.size (bysD d k) ∧ Below w1.heap.size w1 wr)) (fun i _ => n - (intOf i).toNat)
  case atStart => exact ⟨0, by omega, rfl, J0⟩
  case round =>
    clear J0
    obtain ⟨k, hk, rfl, HI⟩ := hrel
    have x3 := (HW1.out.below HI.out.2 hlt).cell 3
    simp only [List.getElem?_toArray, List.getElem?_cons_succ, List.getElem?_cons_zero] at x3
    by_cases hkn : k < n
    · obtain ⟨p, hp⟩ : ∃ p, d.s[k]? = some p := ⟨_, List.getElem?_eq_getElem (by rw [HL.out]; exact hkn)⟩
      have BT := BW.out.trans (HI.out.2.mono (by have := hlt; omega))
      obtain ⟨g, o, rfl, y0, y1⟩ := H.out.s.keep BT k p hp
      have hst := HOK.out.2.2.2.2.2.2.2.all (List.mem_of_getElem? hp)
      obtain ⟨hq1, _, hq3, hq4⟩ := stOk_parts hst
      have hkl : p.k.size ≤ 1000000000 := by have := (isName_len hq1).2.1; rw [Lib.size_eq]; omega
      have T := Lib.hid (rtext_w w1.heap.size w1.heap.size p.k (bysD d k) _ HI.out.1 hkl (by have := HBL.out k; omega))
      have HN := Lib.hid (bysD_next hp)
      have HP := Lib.hid hp
      have HV := Lib.hid (And.intro hq3 hq4)
      have HTL : Hid ((bysD d k ++ txB p.k.data.toList).length ≤ 1000) := Lib.hid (by
        have h1 := HBL.out k
        have h2 := txB_len p.k.data.toList (by have := (isName_len hq1).2.1; omega)
        have h3 := (isName_len hq1).2.1
        rw [List.length_append]; omega)
      have hk0 : (0 : Int) ≤ (k : Int) := by omega
      have hkn' : (k : Int) < (n : Int) := by omega
      have hwk : IntKind.i64.wrap ((k : Int) + 1) = (k : Int) + 1 := IntWalk.i64_in _ (by omega)
      have HBT := Lib.hid BT
      clear hp BT hst hq1 hq3 hq4
      go_upto_region 12 with (go_at_call 70; refine T.out.mono ?_; rintro e w7 ⟨rfl, hP7, hK7⟩)
      have B7 := Lib.hid (HI.out.2.trans hK7.1)
      obtain ⟨g2, o2, hgg, y0', y1'⟩ := H.out.s.keep (BW.out.trans (B7.out.mono (by have := hlt; omega))) k p HP.out
      cases hgg
      have z3 := (HW1.out.below B7.out hlt).cell 3
      simp only [List.getElem?_toArray, List.getElem?_cons_succ, List.getElem?_cons_zero] at z3
      have T2 := Lib.hid (rint_w w1.heap.size w1.heap.size p.v _ w7 hP7 (by have := HV.out.1; omega) (by have := HV.out.2; omega) (by have := HTL.out; omega))
      clear hP7 hK7 x3 y0 y1
      go_wp2_with (go_at_call 69; refine T2.out.mono ?_; rintro e w8 ⟨rfl, hP8, hK8⟩)
      go_roundw
      case rel => exact ⟨k + 1, by omega, by go_num, Lib.hid ⟨by rw [← HN.out]; unfold spB; rw [← List.append_assoc]; exact hP8, B7.out.trans hK8.1⟩⟩
      case measure => simp [intOf]; omega
    · obtain rfl : k = n := by omega
      have F := Lib.hid (rbytes_w w1.heap.size w1.heap.size _ wr HI.out.1 (by have := HBL.out k; omega))
      have HE := Lib.hid ((congrArg (bysD d) HL.out).symm.trans (bysD_all d))
      have BT := Lib.hid (BW.out.trans (HI.out.2.mono (by have := hlt; omega)))
      clear HI
      go_wp2_with (go_at_call 72; refine F.out.mono ?_; rintro e w7 ⟨⟨v7, rfl, ho7⟩, hB7⟩)
      go_ret2
      refine ⟨Or.inl ⟨HOK.out, _, rfl, ?_⟩, BT.out.trans (hB7.mono BT.out.size)⟩
      rw [HE.out] at ho7
      exact ho7.mono (by exact BT.out.size)
end
end Go.Proofs.YtgjnmfmbheejoaaGreatDoor
