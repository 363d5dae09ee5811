/- The reference's bytes of a number, and its writers of bytes. Condition: what is written is no longer than a machine's integer can say. -/
import Derived.Test.YtgjnmfmbheejoaaGreatDoorRdr2
import Derived.Lib.ConvBytes
namespace Go.Proofs.YtgjnmfmbheejoaaGreatDoor
open Go.RowKit Go.Shelf

theorem num_byte {m : Nat} : (u8V (m % 128 + 128).toUInt8 = .int .u8 ((m : Int) % 128 + 128)) := by
  unfold u8V; rw [u8_lt (by omega)]; congr 1
theorem own_one (w : World) (c : UInt8) : (w.alloc (.cells #[u8V c] 5)).ownsRow w.heap.size 5 1 (.slice (some ⟨w.heap.size, 0, none⟩) 1 1) 1 (bV [c]) :=
  World.ownsRow_lit w #[u8V c] 1 (Nat.le_refl _) (by decide) rfl
set_option maxRecDepth 100000 in
set_option maxHeartbeats 2000000 in
theorem rnumber_any : ∀ (n : Nat) (w : World), n < 18446744073709551616 →
    Calls Tryz.prog 129 #[.int .u64 (n : Int)] w fun e w' => (∃ v, e = .returned v ∧ w'.ownsRow w.heap.size 5 1 v (uvB n).length (bV (uvB n))) ∧ Below w.heap.size w w' := by
  intro n
  induction n using Nat.strongRecOn with
  | ind n ih =>
    intro w hn
    by_cases hlt : n < 128
    · have ho := own_one w n.toUInt8
      rw [dig_last hlt] at ho
      have HO := Lib.hid ho
      have HE : Hid (uvB n = [n.toUInt8]) := Lib.hid (uvB_lt hlt)
      clear ho ih
      go_enter Tryz.func129, Tryz.ntmps129
      go_wp2
      go_ret
      exact ⟨⟨_, rfl, by rw [HE.out]; exact HO.out⟩, (Below.refl _ _).alloc (Nat.le_refl _) _⟩
    · have hge : 128 ≤ n := by omega
      have ho := own_one w (n % 128 + 128).toUInt8
      rw [num_byte] at ho
      have I := Lib.hid (fun W => ih (n / 128) (by omega) W (by omega))
      have HE : Hid (uvB n = (n % 128 + 128).toUInt8 :: uvB (n / 128)) := Lib.hid (uvB_ge hge)
      have hcast : ((n / 128 : Nat) : Int) = (n : Int) / 128 := by omega
      simp only [hcast] at I
      have HO := Lib.hid ho
      have HL : Hid ((uvB (n / 128)).length ≤ 10) := Lib.hid (uvB_len10 (by omega))
      clear ho ih hcast
      go_enter Tryz.func129, Tryz.ntmps129
      go_upto_region 3 with fail
      go_wp2_with (first
        | (go_at_call 129; refine (I.out _).mono ?_; rintro e w1 ⟨⟨v1, rfl, ho1⟩, hB⟩; obtain ⟨A1, c1, rfl, hc1⟩ := own_slice ho1; have hk := HO.out.kept (gbelow hB) (Classical.em _); obtain ⟨v', w', hrun, hown', hgrow⟩ := run_app_src w1 A1 _ c1 (uvB (n / 128)) (SlB.of_own ho1) (by have := HL.out; omega) hk (by have := HL.out; omega) (by have := hB.size; simp at this; omega); have HR := Lib.hid hrun; have HF := Lib.hid (And.intro hown' ((((Below.refl w.heap.size w).alloc (Nat.le_refl _) _).trans (hB.mono (by simp))).grown hgrow (by have := hB.size; simp at this; omega) (fun k e => by simp [Value.ownBlock] at e; omega))); clear hrun hown' hgrow ho1 hB hk hc1)
        | (at_builtin; refine wpList_append_run rfl (.tmp 12) (.tmp 15) 22 22 rfl rfl rfl HR.out ?_))
      go_ret
      refine ⟨⟨_, rfl, ?_⟩, HF.out.2⟩
      rw [HE.out]
      have := HF.out.1
      rw [← bV_app, Nat.add_comm] at this
      exact this

/-- A writer of the reference in memory with these bytes. -/
def WrQ (W : World) (base C : Nat) (l : List UInt8) : Prop := base ≤ C ∧ ∃ v, Whole W C 170 #[.bool true, v] ∧ W.ownsRow base 5 1 v l.length (bV l)
theorem WrQ.lt {W : World} {base C : Nat} {l : List UInt8} (h : WrQ W base C l) : C < W.heap.size := by obtain ⟨_, v, h1, _⟩ := h; exact h1.lt
theorem WrQ.keep {W W' : World} {base C : Nat} {l : List UInt8} (h : WrQ W base C l) (hb : Below W.heap.size W W') : WrQ W' base C l := by
  obtain ⟨h0, v, h1, h2⟩ := h
  exact ⟨h0, v, h1.keep hb, h2.kept (gbelow hb) (Classical.em _)⟩
theorem WrQ.store {W w' : World} {base C : Nat} {l m : List UInt8} {v v' : Value} (hb : base ≤ C) (hC : Whole W C 170 #[.bool true, v]) (hown : W.ownsRow base 5 1 v l.length (bV l)) (hg : W.grownBy w' v.ownBlock)
    (hown' : w'.ownsRow base 5 1 v' (l.length + m.length) (bV l ++ bV m)) : WrQ (w'.setCell ⟨C, 1, none⟩ v') base C (l ++ m) ∧ WrK W (w'.setCell ⟨C, 1, none⟩ v') base C ∧ Whole w' C 170 #[.bool true, v] := by
  have hC' := hC.grown hg (own_ne hown hC (by decide))
  refine ⟨⟨hb, v', ?_, ?_⟩, ⟨?_, fun b t cs hx ht hne => ?_⟩, hC'⟩
  · have := hC'.put 1 v'
    simpa using this
  · rw [List.length_append, bV_app]
    exact hown'.kept (grown_set (World.grownBy.refl w' (some C)) 1 v') (.inr (own_ne hown' hC' (by decide)).symm)
  · refine ((Below.refl base W).grown hg (by have := hC.lt; omega) (fun k e => ?_)).setCell (p := ⟨C, 1, none⟩) hb v'
    exact (hown.lt k e).1
  · exact (Below.heap_setCell w' ⟨C, 1, none⟩ v' b hne).trans (hg.block b (Array.getElem?_eq_some_iff.1 hx).1 (own_not hown hx ht))
theorem rnew_any (w : World) : Calls Tryz.prog 67 #[] w fun e w' => e = .returned (.pointer (some ⟨w.heap.size, 0, none⟩)) ∧ w' = w.alloc (.cells #[.bool true, .slice none 0 0] 170) := by
  go_enter Tryz.func67, Tryz.ntmps67
  go_wp2
  go_ret
  exact ⟨rfl, rfl⟩
theorem WrQ.new (w : World) {base : Nat} (h : base ≤ w.heap.size) : WrQ (w.alloc (.cells #[.bool true, .slice none 0 0] 170)) base w.heap.size [] :=
  ⟨h, _, Whole.new w _ _, World.ownsRow_nil _ _ _ _⟩
theorem wvalid_any (C : Nat) (v : Value) (w : World) (h : Whole w C 170 #[.bool true, v]) :
    Calls Tryz.prog 131 #[.pointer (some ⟨C, 0, none⟩)] w fun e w' => e = .returned (.bool true) ∧ w = w' := by
  have c0 := h.cell 0
  simp only [List.getElem?_toArray, List.getElem?_cons_zero] at c0
  clear h
  go_enter Tryz.func131, Tryz.ntmps131
  go_wp2
  go_ret
  exact ⟨rfl, rfl⟩
set_option maxHeartbeats 2000000 in
theorem radd_any (C base : Nat) (A : Option Addr) (n c : Nat) (l m : List UInt8) (w : World) (h : WrQ w base C l) (hm : SlB w A n m) (hn : n ≤ 1000000000000) (hl : l.length + n ≤ 1099511627776) :
    Calls Tryz.prog 128 #[.pointer (some ⟨C, 0, none⟩), .slice A n c] w fun e w' => e = .returned (.tuple #[]) ∧ WrQ w' base C (l ++ m) ∧ WrK w w' base C := by
  obtain ⟨hb, v, hC, hown⟩ := id h
  have V := Lib.hid (wvalid_any C v w hC)
  have c1 := hC.cell 1
  simp only [List.getElem?_toArray, List.getElem?_cons_succ, List.getElem?_cons_zero] at c1
  obtain ⟨v', w', hrun, hown', hgrow⟩ := run_app_src w A n c m hm hn hown hl (by have := hC.lt; omega)
  obtain ⟨s1, s2, s4⟩ := WrQ.store (m := m) hb hC hown hgrow (by rw [hm.1]; exact hown')
  have e1 := s4.cell 1
  have e2 := s4.fr 1
  simp only [List.getElem?_toArray, List.getElem?_cons_succ, List.getElem?_cons_zero] at e1
  have HR := Lib.hid hrun
  have HF := Lib.hid (And.intro s1 s2)
  obtain ⟨A', c', rfl, _⟩ := own_slice hown'
  clear h hm hC hown hrun hown' hgrow s1 s2 s4 hn hl
  go_enter Tryz.func128, Tryz.ntmps128
  go_wp2_with (first
    | (go_at_call 131; refine V.out.mono ?_; rintro e w1 ⟨rfl, rfl⟩)
    | (at_builtin; refine wpList_append_run rfl (.tmp 10) (.tmp 11) 22 22 rfl rfl rfl HR.out ?_))
  go_end0
  exact ⟨rfl, HF.out⟩
set_option maxHeartbeats 1000000 in
theorem ruint_w (C base n : Nat) (l : List UInt8) (w : World) (h : WrQ w base C l) (hn : n < 18446744073709551616) (hl : l.length ≤ 1000000000000) :
    Calls Tryz.prog 68 #[.pointer (some ⟨C, 0, none⟩), .int .u64 (n : Int)] w fun e w' => e = .returned (.tuple #[]) ∧ WrQ w' base C (l ++ uvB n) ∧ WrK w w' base C := by
  have N := Lib.hid (rnumber_any n w hn)
  have HL : Hid ((uvB n).length ≤ 10) := Lib.hid (uvB_len10 (by omega))
  have HB : Hid (base ≤ w.heap.size) := Lib.hid (by have := h.lt; have := h.1; omega)
  have H := Lib.hid h
  clear h hn
  go_enter Tryz.func68, Tryz.ntmps68
  go_wp2_with (first
    | (go_at_call 129; refine N.out.mono ?_; rintro e w1 ⟨⟨v1, rfl, ho1⟩, hB⟩; obtain ⟨A1, c1, rfl, hc1⟩ := own_slice ho1; have HA := Lib.hid (radd_any C base A1 _ c1 l (uvB n) w1 (H.out.keep hB) (SlB.of_own ho1) (by have := HL.out; omega) (by have := HL.out; omega)); have HK := Lib.hid (WrK.of_below (C := C) hB HB.out); clear ho1 hB hc1)
    | (go_at_call 128; refine HA.out.mono ?_; rintro e w2 ⟨rfl, hP, hK⟩))
  go_end0
  exact ⟨rfl, hP, HK.out.trans hK⟩
set_option maxHeartbeats 1000000 in
theorem rint_w (C base : Nat) (n : Int) (l : List UInt8) (w : World) (h : WrQ w base C l) (h1 : -9223372036854775808 ≤ n) (h2 : n ≤ 9223372036854775807) (hl : l.length ≤ 1000000000000) :
    Calls Tryz.prog 69 #[.pointer (some ⟨C, 0, none⟩), .int .i64 n] w fun e w' => e = .returned (.tuple #[]) ∧ WrQ w' base C (l ++ uvB (zig n)) ∧ WrK w w' base C := by
  have Z := Lib.hid (rzig_any n w h1 h2)
  have hz : zig n < 18446744073709551616 := by have := zig_lt h1 h2; omega
  have N := Lib.hid (rnumber_any (zig n) w hz)
  have HL : Hid ((uvB (zig n)).length ≤ 10) := Lib.hid (uvB_len10 (by omega))
  have HB : Hid (base ≤ w.heap.size) := Lib.hid (by have := h.lt; have := h.1; omega)
  have H := Lib.hid h
  generalize zig n = z at Z N HL ⊢
  clear h h1 h2 hz
  go_enter Tryz.func69, Tryz.ntmps69
  go_wp2_with (first
    | (go_at_call 130; refine Z.out.mono ?_; rintro e w1 ⟨rfl, rfl⟩)
    | (go_at_call 129; refine N.out.mono ?_; rintro e w1 ⟨⟨v1, rfl, ho1⟩, hB⟩; obtain ⟨A1, c1, rfl, hc1⟩ := own_slice ho1; have HA := Lib.hid (radd_any C base A1 _ c1 l (uvB z) w1 (H.out.keep hB) (SlB.of_own ho1) (by have := HL.out; omega) (by have := HL.out; omega)); have HK := Lib.hid (WrK.of_below (C := C) hB HB.out); clear ho1 hB hc1)
    | (go_at_call 128; refine HA.out.mono ?_; rintro e w2 ⟨rfl, hP, hK⟩))
  go_end0
  exact ⟨rfl, hP, HK.out.trans hK⟩
end Go.Proofs.YtgjnmfmbheejoaaGreatDoor
