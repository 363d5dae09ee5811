/- DefnTexts returns true at every definition and every byte. Conditions: as the statement's own. -/
import Derived.Test.YtgeljnjcpkmlmaaGreatDoorDfWrk
import Derived.Test.YtgeljnjcpkmlmaaGreatDoorDfShort
import Derived.BigQuiet
namespace Go.Proofs.YtgeljnjcpkmlmaaGreatDoor
open Go.RowKit Go.Shelf

/-- How many spaces stand among the first bytes. -/
def spc (l : List UInt8) (k : Nat) : Nat := (l.take k).countP (· == 32)
theorem spc_next {l : List UInt8} {k : Nat} {c : UInt8} (h : l[k]? = some c) : spc l (k + 1) = spc l k + (if c = 32 then 1 else 0) := by
  unfold spc
  rw [List.take_add_one, h, List.countP_append]
  by_cases hc : c = 32 <;> simp [hc]
theorem spc_le (l : List UInt8) (k : Nat) : spc l k ≤ l.length := by
  unfold spc
  have h1 := List.countP_le_length (p := fun c : UInt8 => c == 32) (l := l.take k)
  rw [List.length_take] at h1
  omega
theorem spc_join : ∀ (ws : List (List UInt8)), ws ≠ [] → (∀ w ∈ ws, (32 : UInt8) ∉ w) → (joinW ws).countP (· == 32) + 1 = ws.length
  | [], h, _ => absurd rfl h
  | [a], _, h => by
    have : a.countP (· == 32) = 0 := List.countP_eq_zero.2 (fun c hc e => h a (by simp) (by rw [beq_iff_eq] at e; rw [← e]; exact hc))
    simp [joinW, this]
  | a :: b :: l, _, h => by
    have h1 : a.countP (· == 32) = 0 := List.countP_eq_zero.2 (fun c hc e => h a (by simp) (by rw [beq_iff_eq] at e; rw [← e]; exact hc))
    have h2 := spc_join (b :: l) (by simp) (fun w hw => h w (by simp only [List.mem_cons] at hw ⊢; exact Or.inr hw))
    rw [joinW, List.countP_append, h1, List.countP_cons, List.length_cons, ← h2]
    simp
theorem spc_text {d : Dv} (h : defOk d) : spc (textD d) (textD d).length = 2 + d.s.length := by
  have h1 := spc_join (wordsD d) (by simp [wordsD]) (fun w hw => wordsD_no h hw)
  have h2 := wordsD_len d
  unfold spc
  rw [List.take_length]
  unfold textD
  omega
theorem text_pos (d : Dv) : 1 ≤ (textD d).length := by
  have := joinW_len (wordsD d)
  have h2 := wordsD_len d
  unfold textD; omega
theorem slB_new (c : UInt8) (W : World) : SlB (W.alloc (.cells #[.int .u8 (c.toNat : Int)] 5)) (some ⟨W.heap.size, 0, none⟩) 1 [c] := SlB.of_own (own_one W c)
theorem c1_keep {W W' : World} {b : Nat} {c : UInt8} (h : SlB W (some ⟨b, 0, none⟩) 1 [c]) (hb : Below W.heap.size W W') : SlB W' (some ⟨b, 0, none⟩) 1 [c] ∧ (convert 38 9 (.slice (some ⟨b, 0, none⟩) 1 1)).run Tryz.prog W' = .ok (.string ⟨#[c]⟩) W' := ⟨h.keep hb, conv_bytes (h.keep hb) 1⟩
theorem c1_new (c : UInt8) (W : World) {b : Nat} (hb : b = W.heap.size) : SlB (W.alloc (.cells #[.int .u8 (c.toNat : Int)] 5)) (some ⟨b, 0, none⟩) 1 [c] ∧ (convert 38 9 (.slice (some ⟨b, 0, none⟩) 1 1)).run Tryz.prog (W.alloc (.cells #[.int .u8 (c.toNat : Int)] 5)) = .ok (.string ⟨#[c]⟩) (W.alloc (.cells #[.int .u8 (c.toNat : Int)] 5)) := by
  subst hb
  exact ⟨slB_new c W, conv_bytes (slB_new c W) 1⟩
theorem anyH_switch {P : Program} {md : Region.Mode} {ops : Array Oper} {Q : Exit → Act → World → Prop} {S S' : World → Prop} (hS : ∀ w, S' w → S w) :
    ∀ (fuel : Nat) (listed : Array Bool) (a : Act) (w : World), wpAnyH P md ops Q S' fuel listed a w → wpAnyH P md ops Q S fuel listed a w
  | 0, _, _, _, h => h
  | fuel + 1, _, _, _, h => ⟨h.1, fun i hi => wpOp_mono (fun a' w' h' => ⟨hS _ h'.1, anyH_switch hS fuel _ a' w' h'.2⟩) (h.2 i hi)⟩
/-- Another text is not read as this definition. -/
theorem no_same {t : List UInt8} {d x : Dv} {e : Int} (h : ParR t x e) (hne : textD d ≠ t) (he : e = 0) : x ≠ d := by
  rcases h with ⟨_, _, h2⟩ | ⟨h1, _⟩
  · rintro rfl; exact hne h2
  · omega
set_option maxRecDepth 100000 in
set_option maxHeartbeats 4000000 in
theorem defnTexts_any (d : Dv) (A : Option Addr) (n c : Nat) (by8 : UInt8) (w : World) (hl : d.s.length = n) (hnc : n ≤ c) (hn : n ≤ 9223372036854775807) (hz : DefZ d) (hs : SlD w A d.s) (hE : DfE w) :
    Calls Tryz.prog 5 #[dV d A n c, .int .u8 (by8.toNat : Int)] w fun e w' => e = .returned (.bool true) ∧ Below w.heap.size w w' := by
  have b1 := (Below.refl w.heap.size w).alloc (Nat.le_refl _) (.cells #[.string d.n, .int .i64 d.r, .int .i64 d.dl, .slice A n c] 24)
  have SH := Lib.hid (short_any d A n c _ hl hn hz (hs.keep b1))
  have HW0 := Lib.hid (Whole.new w 24 #[.string d.n, .int .i64 d.r, .int .i64 d.dl, .slice A n c])
  have HB := Lib.hid b1
  have HE := Lib.hid hE
  have HA := Lib.hid (fun (W : World) (hb : Below w.heap.size w W) (hS : ShortD d) => (show DefAt W A n c d from ⟨hl, hnc, by have := hS.1; omega, hz, hs.keep hb⟩))
  have WK := Lib.hid (fun (W : World) (hb : Below w.heap.size w W) => works_any W (hE.keep hb))
  have HLn := Lib.hid hl
  have CK := Lib.hid (fun (W : World) (h : DefAt W A n c d) => defCheck_any d A n c W h)
  unfold dV at SH CK
  clear b1 hE hz hs hnc hn hl
  unfold dV
  go_enter Tryz.func5, Tryz.ntmps5
  go_upto_if 20 with (first
    | (go_at_call 11; refine SH.out.mono ?_; rintro e w1 ⟨⟨b, rfl, hb⟩, hB⟩; have B1 := Lib.hid (HB.out.trans (hB.mono HB.out.size)); have W1 := Lib.hid (HW0.out.keep hB); have y := W1.out; have y0 := y.cell 0; have y1 := y.cell 1; have y2 := y.cell 2; have y3 := y.cell 3; simp only [List.getElem?_toArray, List.getElem?_cons_succ, List.getElem?_cons_zero] at y0 y1 y2 y3; have HSh := Lib.hid hb; clear hb hB y; cases b))
  · have W1f := Lib.hid (WK.out w1 B1.out)
    go_wp2_with (go_at_call 12; refine W1f.out.mono ?_; rintro e w2 ⟨rfl, hB2⟩)
    go_ret
    exact ⟨rfl, B1.out.trans (hB2.mono B1.out.size)⟩
  have HS := Lib.hid (HSh.out trivial)
  have HD1 := Lib.hid (HA.out w1 B1.out HS.out)
  go_fit (CK.out w1 HD1.out)
  rintro e w2 ⟨rfl, hB2⟩
  have B2 := Lib.hid (B1.out.trans (hB2.mono B1.out.size))
  have W2 := Lib.hid (W1.out.keep hB2)
  clear hB2 y0 y1 y2 y3 HSh SH CK HW0 HB
  by_cases hok : defOk d
  case neg =>
    rw [ckD_no hok]
    have W2f := Lib.hid (WK.out w2 B2.out)
    clear hok
    go_wp2_with (go_at_call 12; refine W2f.out.mono ?_; rintro e w3 ⟨rfl, hB3⟩)
    go_ret
    exact ⟨rfl, B2.out.trans (hB3.mono B2.out.size)⟩
  rw [ckD_yes hok]
  have TX := Lib.hid ((defText_any d A n c w2 (HA.out w2 B2.out HS.out) (HE.out.keep B2.out)).mono (fun e w' ⟨h, hb⟩ => And.intro (h.resolve_right (fun h => h.1 hok)).2 hb))
  unfold dV at TX
  have HOK := Lib.hid hok
  clear hok
  obtain ⟨T, hT⟩ : ∃ T : ByteArray, T = ⟨(textD d).toArray⟩ := ⟨_, rfl⟩
  have HT : Hid (T.data.toList = textD d) := Lib.hid (by rw [hT])
  rw [← hT] at TX
  have hsz : 1 ≤ T.size ∧ T.size ≤ 451 := by
    have h1 := text_pos d
    have h2 := textD_le HOK.out
    rw [Lib.size_eq, HT.out]; exact ⟨h1, h2⟩
  obtain ⟨hs1, hs2⟩ := hsz
  have hs0 : ((T.size : Int) == 0) = false := by rw [beq_eq_false_iff_ne]; omega
  have y := W2.out
  have y0 := y.cell 0
  have y1 := y.cell 1
  have y2 := y.cell 2
  have y3 := y.cell 3
  simp only [List.getElem?_toArray, List.getElem?_cons_succ, List.getElem?_cons_zero] at y0 y1 y2 y3
  clear y hT
  go_upto_region 8 with (go_at_call 23; refine TX.out.mono ?_; rintro e w3 ⟨rfl, hB3⟩)
  have B3 := Lib.hid (B2.out.trans (hB3.mono B2.out.size))
  have W3 := Lib.hid (W2.out.keep hB3)
  clear hB3 y0 y1 y2 y3 TX hs0
  go_wp2_with fail
  go_loopw [7, 8] (fun sp i wr => ∃ k : Nat, k ≤ T.size ∧ i = .int .i64 k ∧ sp = .int .i64 (spc T.data.toList k : Nat) ∧ wr = w3) (fun _ i _ => T.size - (intOf i).toNat)
  case atStart => exact ⟨0, by omega, rfl, rfl, rfl⟩
  case round =>
    obtain ⟨k, hk, rfl, rfl, rfl⟩ := hrel
    by_cases hkn : k < T.size
    · obtain ⟨x, hx⟩ : ∃ x : UInt8, T[k]'hkn = x := ⟨_, rfl⟩
      have HX := Lib.hid (show T.data.toList[k]? = some x by rw [← hx]; exact Lib.data_getElem? T k hkn)
      have hsp := spc_le T.data.toList k
      rw [← Lib.size_eq] at hsp
      have HN := Lib.hid (spc_next HX.out)
      have hk0 : (0 : Int) ≤ (k : Int) := by omega
      have hkn' : (k : Int) < (T.size : Int) := by omega
      have hwk : IntKind.i64.wrap ((k : Int) + 1) = (k : Int) + 1 := IntWalk.i64_in _ (by omega)
      generalize spc T.data.toList k = q at hsp HN ⊢
      have hwq : IntKind.i64.wrap ((q : Int) + 1) = (q : Int) + 1 := IntWalk.i64_in _ (by omega)
      by_cases hc : x = 32
      · subst hc
        have h32 : ((((32 : UInt8).toNat : Nat) : Int) == 32) = true := by decide
        go_wp2_with fail
        go_roundw
        case rel => exact ⟨k + 1, by omega, by go_num, by rw [HN.out]; rfl, by first | rfl | trivial⟩
        case measure => simp [intOf]; omega
      · have h32 : ((x.toNat : Int) == 32) = false := by rw [beq_eq_false_iff_ne]; intro e; exact hc (UInt8.toNat_inj.1 (show x.toNat = 32 by omega))
        have HN2 := Lib.hid (show spc T.data.toList (k + 1) = q by rw [HN.out, if_neg hc, Nat.add_zero])
        clear hc
        go_wp2_with fail
        go_roundw
        case rel => exact ⟨k + 1, by omega, by go_num, by rw [HN2.out], by first | rfl | trivial⟩
        case measure => simp [intOf]; omega
    · obtain rfl : k = T.size := by omega
      obtain ⟨wo, hwo⟩ : ∃ wo, wo = wr := ⟨_, rfl⟩
      subst hwo
      have hsp : spc T.data.toList T.size = 2 + n := by rw [Lib.size_eq, HT.out, spc_text HOK.out, HLn.out]
      have hn8 : n ≤ 8 := by have := HOK.out.2.2.2.2.2.2.1; rw [HLn.out] at this; exact this
      have y3 := W3.out.cell 3
      simp only [List.getElem?_toArray, List.getElem?_cons_succ, List.getElem?_cons_zero] at y3
      rw [hsp, show ((2 + n : Nat) : Int) = 2 + (n : Int) by omega]
      have hw2 : IntKind.i64.wrap (2 + (n : Int)) = 2 + (n : Int) := IntWalk.i64_in _ (by omega)
      clear hsp hk hkn
      go_upto_region 14 with fail
      clear hw2 y3
      obtain ⟨ta, ea, _, sa⟩ := add_ba T ⟨#[by8]⟩ (by rw [show (⟨#[by8]⟩ : ByteArray).size = 1 from rfl]; omega)
      obtain ⟨tb, eb, _, sb⟩ := add_ba ⟨#[by8]⟩ T (by rw [show (⟨#[by8]⟩ : ByteArray).size = 1 from rfl]; omega)
      go_cut [69, 70, 71] from 52 (fun s69 s70 s71 wx => ∃ G : Nat, s69 = .slice (some ⟨G, 0, none⟩) 4 4 ∧ s70 = .int .i64 4 ∧ s71 = .int .i64 0 ∧ Hid ((∀ (k : Nat) x, [ta, tb, T.extract 1 T.size, T.extract 0 (T.size - 1)][k]? = some x → wx.cell? ⟨G, k, none⟩ = some (.string x)) ∧ Below wo.heap.size wo wx))
      case first =>
        have hwl : IntKind.i64.wrap ((T.size : Int) - 1) = (T.size : Int) - 1 := IntWalk.i64_in _ (by omega)
        have htn : ((T.size : Int) - 1).toNat = T.size - 1 := by omega
        have hl0 : (0 : Int) ≤ (T.size : Int) - 1 := by omega
        have hl1 : (T.size : Int) - 1 ≤ (T.size : Int) := by omega
        have hT1 : (1 : Int) ≤ (T.size : Int) := by omega
        have SA : Hid (Below wo.heap.size wo wo.drew) := Lib.hid (Below.refl _ _).drew
        go_wp2_with fail
        refine wp_region_held_drew (S := fun wx => Below wo.heap.size wo wx) (by kernel_rfl) SA.out (fun hHeld => ?_)
        refine wpAnyH_take (i := 0) (v := ?_) rfl (by kernel_rfl) (by kernel_rfl) (by kernel_rfl) (fun _ _ _ h => h) (Or.inl ⟨by rfl, ?_⟩) (by assumption) ?_
        rotate_left
        · intro w hSw
          go_simp
          try with_reducible rfl
        simp only [Act.put, List.getElem_toArray, List.getElem_cons_zero, List.setIfInBounds_toArray, List.set_cons_zero, List.set_cons_succ]
        refine wpAnyH_take (i := 1) (v := ?_) rfl (by kernel_rfl) (by kernel_rfl) (by kernel_rfl) (fun _ _ _ h => h) (Or.inl ⟨by rfl, ?_⟩) (by assumption) ?_
        rotate_left
        · intro w hSw
          go_simp
          try with_reducible rfl
        simp only [Act.put, List.getElem_toArray, List.getElem_cons_succ, List.getElem_cons_zero, List.setIfInBounds_toArray, List.set_cons_zero, List.set_cons_succ]
        refine wpAnyH_take (i := 5) (v := ?_) rfl (by kernel_rfl) (by kernel_rfl) (by kernel_rfl) (fun _ _ _ h => h) (Or.inl ⟨by rfl, ?_⟩) (by assumption) ?_
        rotate_left
        · intro w hSw
          go_simp
          try with_reducible rfl
        simp only [Act.put, List.getElem_toArray, List.getElem_cons_succ, List.getElem_cons_zero, List.setIfInBounds_toArray, List.set_cons_zero, List.set_cons_succ]
        refine wpAnyH_take (i := 8) (v := ?_) rfl (by kernel_rfl) (by kernel_rfl) (by kernel_rfl) (fun _ _ _ h => h) (Or.inl ⟨by rfl, ?_⟩) (by assumption) ?_
        rotate_left
        · intro w hSw
          go_simp
          try with_reducible rfl
        simp only [Act.put, List.getElem_toArray, List.getElem_cons_succ, List.getElem_cons_zero, List.setIfInBounds_toArray, List.set_cons_zero, List.set_cons_succ]
        refine wpAnyH_take (i := 10) (v := ?_) rfl (by kernel_rfl) (by kernel_rfl) (by kernel_rfl) (fun _ _ _ h => h) (Or.inl ⟨by rfl, ?_⟩) (by assumption) ?_
        rotate_left
        · intro w hSw
          go_simp
          try with_reducible rfl
        simp only [Act.put, List.getElem_toArray, List.getElem_cons_succ, List.getElem_cons_zero, List.setIfInBounds_toArray, List.set_cons_zero, List.set_cons_succ]
        refine wpAnyH_take (i := 11) (v := ?_) rfl (by kernel_rfl) (by kernel_rfl) (by kernel_rfl) (fun _ _ _ h => h) (Or.inl ⟨by rfl, ?_⟩) (by assumption) ?_
        rotate_left
        · intro w hSw
          go_simp
          try with_reducible rfl
        simp only [Act.put, List.getElem_toArray, List.getElem_cons_succ, List.getElem_cons_zero, List.setIfInBounds_toArray, List.set_cons_zero, List.set_cons_succ]
        refine wpAnyH_take (i := 12) (v := ?_) rfl (by kernel_rfl) (by kernel_rfl) (by kernel_rfl) (fun _ _ _ h => h) (Or.inl ⟨by rfl, ?_⟩) (by assumption) ?_
        rotate_left
        · intro w hSw
          go_simp
          try with_reducible rfl
        simp only [Act.put, List.getElem_toArray, List.getElem_cons_succ, List.getElem_cons_zero, List.setIfInBounds_toArray, List.set_cons_zero, List.set_cons_succ]
        refine wpAnyH_take (i := 13) (v := ?_) rfl (by kernel_rfl) (by kernel_rfl) (by kernel_rfl) (fun _ _ _ h => h) (Or.inl ⟨by rfl, ?_⟩) (by assumption) ?_
        rotate_left
        · intro w hSw
          go_simp
          try with_reducible rfl
        simp only [Act.put, List.getElem_toArray, List.getElem_cons_succ, List.getElem_cons_zero, List.setIfInBounds_toArray, List.set_cons_zero, List.set_cons_succ]
        refine wpAnyH_take (i := 14) (v := ?_) rfl (by kernel_rfl) (by kernel_rfl) (by kernel_rfl) (fun _ _ _ h => h) (Or.inl ⟨by rfl, ?_⟩) (by assumption) ?_
        rotate_left
        · intro w hSw
          go_simp
          try with_reducible rfl
        simp only [Act.put, List.getElem_toArray, List.getElem_cons_succ, List.getElem_cons_zero, List.setIfInBounds_toArray, List.set_cons_zero, List.set_cons_succ]
        refine wpAnyH_take (i := 15) (v := ?_) rfl (by kernel_rfl) (by kernel_rfl) (by kernel_rfl) (fun _ _ _ h => h) (Or.inl ⟨by rfl, ?_⟩) (by assumption) ?_
        rotate_left
        · intro w hSw
          go_simp
          try with_reducible rfl
        simp only [Act.put, List.getElem_toArray, List.getElem_cons_succ, List.getElem_cons_zero, List.setIfInBounds_toArray, List.set_cons_zero, List.set_cons_succ]
        refine wpAnyH_take (i := 16) (v := ?_) rfl (by kernel_rfl) (by kernel_rfl) (by kernel_rfl) (fun _ _ _ h => h) (Or.inl ⟨by rfl, ?_⟩) (by assumption) ?_
        rotate_left
        · intro w hSw
          go_simp
          try with_reducible rfl
        simp only [Act.put, List.getElem_toArray, List.getElem_cons_succ, List.getElem_cons_zero, List.setIfInBounds_toArray, List.set_cons_zero, List.set_cons_succ]
        refine wpAnyH_take (i := 19) (v := ?_) rfl (by kernel_rfl) (by kernel_rfl) (by kernel_rfl) (fun _ _ _ h => h) (Or.inl ⟨by rfl, ?_⟩) (by assumption) ?_
        rotate_left
        · intro w hSw
          go_simp
          try with_reducible rfl
        simp only [Act.put, List.getElem_toArray, List.getElem_cons_succ, List.getElem_cons_zero, List.setIfInBounds_toArray, List.set_cons_zero, List.set_cons_succ]
        refine wpAnyH_ready (rs := [2, 6]) (by kernel_rfl) (by simp) ?_
        refine AllReadyH.cons rfl (fun K hK => ?_) (AllReadyH.cons rfl (fun K hK => ?_) AllReadyH.nil)
        · go_simp
          refine hK.out _ _ ?_ (fun hHeld' => ?_)
          · exact hHeld.alloc hHeld.size _
          clear hK K hHeld
          have hHeld := hHeld'
          clear hHeld'
          try simp only [Act.put, List.getElem_toArray, List.getElem_cons_succ, List.getElem_cons_zero, List.setIfInBounds_toArray, List.set_cons_zero, List.set_cons_succ]
          refine anyH_switch (S' := fun wx => (Below wo.heap.size wo wx) ∧ SlB wx (some ⟨wo.heap.size, 0, none⟩) 1 [by8] ∧ (convert 38 9 (.slice (some ⟨wo.heap.size, 0, none⟩) 1 1)).run Tryz.prog wx = .ok (.string ⟨#[by8]⟩) wx) (fun _ h => h.1) _ _ _ _ ?_
          have hHeld2 := And.intro hHeld (c1_new by8 wo.drew (b := wo.heap.size) rfl)
          clear hHeld
          have hHeld := hHeld2
          clear hHeld2
          refine wpAnyH_take (i := 3) (v := ?_) rfl (by kernel_rfl) (by kernel_rfl) (by kernel_rfl) (fun _ _ _ h => h) (Or.inl ⟨by rfl, ?_⟩) (by assumption) ?_
          rotate_left
          · intro w hSw
            go_simp
            try with_reducible rfl
          simp only [Act.put, List.getElem_toArray, List.getElem_cons_succ, List.getElem_cons_zero, List.setIfInBounds_toArray, List.set_cons_zero, List.set_cons_succ]
          refine wpAnyH_take (i := 4) (v := ?_) rfl (by kernel_rfl) (by kernel_rfl) (by kernel_rfl) (fun _ _ _ h => h) (Or.inl ⟨by rfl, ?_⟩) (by assumption) ?_
          rotate_left
          · intro w hSw
            go_simp
            try with_reducible rfl
          simp only [Act.put, List.getElem_toArray, List.getElem_cons_succ, List.getElem_cons_zero, List.setIfInBounds_toArray, List.set_cons_zero, List.set_cons_succ]
          refine wpAnyH_ready (rs := [6]) (by kernel_rfl) (by simp) ?_
          refine AllReadyH.cons rfl (fun K hK => ?_) AllReadyH.nil
          go_simp
          refine hK.out _ _ ?_ (fun hHeld' => ?_)
          · exact ⟨hHeld.1.alloc hHeld.1.size _, c1_keep hHeld.2.1 ((Below.refl _ _).alloc (Nat.le_refl _) _)⟩
          clear hK K hHeld
          have hHeld := hHeld'
          clear hHeld'
          try simp only [Act.put, List.getElem_toArray, List.getElem_cons_succ, List.getElem_cons_zero, List.setIfInBounds_toArray, List.set_cons_zero, List.set_cons_succ]
          refine anyH_switch (S' := fun wx => ((Below wo.heap.size wo wx) ∧ SlB wx (some ⟨wo.heap.size, 0, none⟩) 1 [by8] ∧ (convert 38 9 (.slice (some ⟨wo.heap.size, 0, none⟩) 1 1)).run Tryz.prog wx = .ok (.string ⟨#[by8]⟩) wx) ∧ SlB wx (some ⟨wo.heap.size + 1, 0, none⟩) 1 [by8] ∧ (convert 38 9 (.slice (some ⟨wo.heap.size + 1, 0, none⟩) 1 1)).run Tryz.prog wx = .ok (.string ⟨#[by8]⟩) wx) (fun _ h => h.1) _ _ _ _ ?_
          have hHeld2 := And.intro hHeld (c1_new by8 (wo.drew.alloc (.cells #[.int .u8 (by8.toNat : Int)] 5)) (b := wo.heap.size + 1) (by simp))
          clear hHeld
          have hHeld := hHeld2
          clear hHeld2
          refine wpAnyH_take (i := 7) (v := ?_) rfl (by kernel_rfl) (by kernel_rfl) (by kernel_rfl) (fun _ _ _ h => h) (Or.inl ⟨by rfl, ?_⟩) (by assumption) ?_
          rotate_left
          · intro w hSw
            go_simp
            try with_reducible rfl
          simp only [Act.put, List.getElem_toArray, List.getElem_cons_succ, List.getElem_cons_zero, List.setIfInBounds_toArray, List.set_cons_zero, List.set_cons_succ]
          refine wpAnyH_take (i := 9) (v := ?_) rfl (by kernel_rfl) (by kernel_rfl) (by kernel_rfl) (fun _ _ _ h => h) (Or.inl ⟨by rfl, ?_⟩) (by assumption) ?_
          rotate_left
          · intro w hSw
            go_simp
            try with_reducible rfl
          simp only [Act.put, List.getElem_toArray, List.getElem_cons_succ, List.getElem_cons_zero, List.setIfInBounds_toArray, List.set_cons_zero, List.set_cons_succ]
          refine wpAnyH_ready (rs := [17]) (by kernel_rfl) (by simp) ?_
          refine AllReadyH.cons rfl (fun K hK => ?_) AllReadyH.nil
          go_simp
          refine hK.out _ _ ?_ (fun hHeld' => ?_)
          · exact ⟨⟨hHeld.1.1.alloc hHeld.1.1.size _, c1_keep hHeld.1.2.1 ((Below.refl _ _).alloc (Nat.le_refl _) _)⟩, c1_keep hHeld.2.1 ((Below.refl _ _).alloc (Nat.le_refl _) _)⟩
          clear hK K hHeld
          have hHeld := hHeld'
          clear hHeld'
          try simp only [Act.put, List.getElem_toArray, List.getElem_cons_succ, List.getElem_cons_zero, List.setIfInBounds_toArray, List.set_cons_zero, List.set_cons_succ]
          refine wpAnyH_take (i := 18) (v := ?_) rfl (by kernel_rfl) (by kernel_rfl) (by kernel_rfl) (fun _ _ _ h => h) (Or.inl ⟨by rfl, ?_⟩) (by assumption) ?_
          rotate_left
          · intro w hSw
            go_simp
            try with_reducible rfl
          simp only [Act.put, List.getElem_toArray, List.getElem_cons_succ, List.getElem_cons_zero, List.setIfInBounds_toArray, List.set_cons_zero, List.set_cons_succ]
          refine wpAnyH_done (by kernel_rfl) ?_ _
          have hN := (Whole.new ((wo.drew.alloc (.cells #[.int .u8 (by8.toNat : Int)] 5)).alloc (.cells #[.int .u8 (by8.toNat : Int)] 5)) 9 #[.string ta, .string tb, .string (T.extract 1 T.size), .string (T.extract 0 (T.size - 1))])
          have HF := Lib.hid (And.intro hHeld.1.1 hN)
          clear hHeld hN SA hwl htn hl0 hl1 hT1
          go_wp2_with fail
          go_meet
          case rel =>
            refine ⟨_, rfl, rfl, rfl, Lib.hid ⟨fun k x hx => ?_, HF.out.1⟩⟩
            have h2 := HF.out.2.cell k
            rw [World.size_alloc, World.size_alloc] at h2
            refine h2.trans ?_
            rw [List.getElem?_toArray, show [Value.string ta, .string tb, .string (T.extract 1 T.size), .string (T.extract 0 (T.size - 1))] = [ta, tb, T.extract 1 T.size, T.extract 0 (T.size - 1)].map Value.string from rfl, List.getElem?_map, hx]
            rfl
        · go_simp
          refine hK.out _ _ ?_ (fun hHeld' => ?_)
          · exact hHeld.alloc hHeld.size _
          clear hK K hHeld
          have hHeld := hHeld'
          clear hHeld'
          try simp only [Act.put, List.getElem_toArray, List.getElem_cons_succ, List.getElem_cons_zero, List.setIfInBounds_toArray, List.set_cons_zero, List.set_cons_succ]
          refine anyH_switch (S' := fun wx => (Below wo.heap.size wo wx) ∧ SlB wx (some ⟨wo.heap.size, 0, none⟩) 1 [by8] ∧ (convert 38 9 (.slice (some ⟨wo.heap.size, 0, none⟩) 1 1)).run Tryz.prog wx = .ok (.string ⟨#[by8]⟩) wx) (fun _ h => h.1) _ _ _ _ ?_
          have hHeld2 := And.intro hHeld (c1_new by8 wo.drew (b := wo.heap.size) rfl)
          clear hHeld
          have hHeld := hHeld2
          clear hHeld2
          refine wpAnyH_take (i := 7) (v := ?_) rfl (by kernel_rfl) (by kernel_rfl) (by kernel_rfl) (fun _ _ _ h => h) (Or.inl ⟨by rfl, ?_⟩) (by assumption) ?_
          rotate_left
          · intro w hSw
            go_simp
            try with_reducible rfl
          simp only [Act.put, List.getElem_toArray, List.getElem_cons_succ, List.getElem_cons_zero, List.setIfInBounds_toArray, List.set_cons_zero, List.set_cons_succ]
          refine wpAnyH_take (i := 9) (v := ?_) rfl (by kernel_rfl) (by kernel_rfl) (by kernel_rfl) (fun _ _ _ h => h) (Or.inl ⟨by rfl, ?_⟩) (by assumption) ?_
          rotate_left
          · intro w hSw
            go_simp
            try with_reducible rfl
          simp only [Act.put, List.getElem_toArray, List.getElem_cons_succ, List.getElem_cons_zero, List.setIfInBounds_toArray, List.set_cons_zero, List.set_cons_succ]
          refine wpAnyH_ready (rs := [2]) (by kernel_rfl) (by simp) ?_
          refine AllReadyH.cons rfl (fun K hK => ?_) AllReadyH.nil
          go_simp
          refine hK.out _ _ ?_ (fun hHeld' => ?_)
          · exact ⟨hHeld.1.alloc hHeld.1.size _, c1_keep hHeld.2.1 ((Below.refl _ _).alloc (Nat.le_refl _) _)⟩
          clear hK K hHeld
          have hHeld := hHeld'
          clear hHeld'
          try simp only [Act.put, List.getElem_toArray, List.getElem_cons_succ, List.getElem_cons_zero, List.setIfInBounds_toArray, List.set_cons_zero, List.set_cons_succ]
          refine anyH_switch (S' := fun wx => ((Below wo.heap.size wo wx) ∧ SlB wx (some ⟨wo.heap.size, 0, none⟩) 1 [by8] ∧ (convert 38 9 (.slice (some ⟨wo.heap.size, 0, none⟩) 1 1)).run Tryz.prog wx = .ok (.string ⟨#[by8]⟩) wx) ∧ SlB wx (some ⟨wo.heap.size + 1, 0, none⟩) 1 [by8] ∧ (convert 38 9 (.slice (some ⟨wo.heap.size + 1, 0, none⟩) 1 1)).run Tryz.prog wx = .ok (.string ⟨#[by8]⟩) wx) (fun _ h => h.1) _ _ _ _ ?_
          have hHeld2 := And.intro hHeld (c1_new by8 (wo.drew.alloc (.cells #[.int .u8 (by8.toNat : Int)] 5)) (b := wo.heap.size + 1) (by simp))
          clear hHeld
          have hHeld := hHeld2
          clear hHeld2
          refine wpAnyH_take (i := 3) (v := ?_) rfl (by kernel_rfl) (by kernel_rfl) (by kernel_rfl) (fun _ _ _ h => h) (Or.inl ⟨by rfl, ?_⟩) (by assumption) ?_
          rotate_left
          · intro w hSw
            go_simp
            try with_reducible rfl
          simp only [Act.put, List.getElem_toArray, List.getElem_cons_succ, List.getElem_cons_zero, List.setIfInBounds_toArray, List.set_cons_zero, List.set_cons_succ]
          refine wpAnyH_take (i := 4) (v := ?_) rfl (by kernel_rfl) (by kernel_rfl) (by kernel_rfl) (fun _ _ _ h => h) (Or.inl ⟨by rfl, ?_⟩) (by assumption) ?_
          rotate_left
          · intro w hSw
            go_simp
            try with_reducible rfl
          simp only [Act.put, List.getElem_toArray, List.getElem_cons_succ, List.getElem_cons_zero, List.setIfInBounds_toArray, List.set_cons_zero, List.set_cons_succ]
          refine wpAnyH_ready (rs := [17]) (by kernel_rfl) (by simp) ?_
          refine AllReadyH.cons rfl (fun K hK => ?_) AllReadyH.nil
          go_simp
          refine hK.out _ _ ?_ (fun hHeld' => ?_)
          · exact ⟨⟨hHeld.1.1.alloc hHeld.1.1.size _, c1_keep hHeld.1.2.1 ((Below.refl _ _).alloc (Nat.le_refl _) _)⟩, c1_keep hHeld.2.1 ((Below.refl _ _).alloc (Nat.le_refl _) _)⟩
          clear hK K hHeld
          have hHeld := hHeld'
          clear hHeld'
          try simp only [Act.put, List.getElem_toArray, List.getElem_cons_succ, List.getElem_cons_zero, List.setIfInBounds_toArray, List.set_cons_zero, List.set_cons_succ]
          refine wpAnyH_take (i := 18) (v := ?_) rfl (by kernel_rfl) (by kernel_rfl) (by kernel_rfl) (fun _ _ _ h => h) (Or.inl ⟨by rfl, ?_⟩) (by assumption) ?_
          rotate_left
          · intro w hSw
            go_simp
            try with_reducible rfl
          simp only [Act.put, List.getElem_toArray, List.getElem_cons_succ, List.getElem_cons_zero, List.setIfInBounds_toArray, List.set_cons_zero, List.set_cons_succ]
          refine wpAnyH_done (by kernel_rfl) ?_ _
          have hN := (Whole.new ((wo.drew.alloc (.cells #[.int .u8 (by8.toNat : Int)] 5)).alloc (.cells #[.int .u8 (by8.toNat : Int)] 5)) 9 #[.string ta, .string tb, .string (T.extract 1 T.size), .string (T.extract 0 (T.size - 1))])
          have HF := Lib.hid (And.intro hHeld.1.1 hN)
          clear hHeld hN SA hwl htn hl0 hl1 hT1
          go_wp2_with fail
          go_meet
          case rel =>
            refine ⟨_, rfl, rfl, rfl, Lib.hid ⟨fun k x hx => ?_, HF.out.1⟩⟩
            have h2 := HF.out.2.cell k
            rw [World.size_alloc, World.size_alloc] at h2
            refine h2.trans ?_
            rw [List.getElem?_toArray, show [Value.string ta, .string tb, .string (T.extract 1 T.size), .string (T.extract 0 (T.size - 1))] = [ta, tb, T.extract 1 T.size, T.extract 0 (T.size - 1)].map Value.string from rfl, List.getElem?_map, hx]
            rfl
      case rest =>
        obtain ⟨G, rfl, rfl, rfl, HF⟩ := hcut
        have BC := Lib.hid (B3.out.trans (HF.out.2.mono B3.out.size))
        have HNE : Hid (∀ (k : Nat) x, [ta, tb, T.extract 1 T.size, T.extract 0 (T.size - 1)][k]? = some x → textD d ≠ x.data.toList ∧ x.size ≤ 1000000) := Lib.hid (fun k x hx => by
          have hT0 := HT.out
          have hl := Lib.size_eq T
          have key : ∀ y : ByteArray, y.data.toList.length ≠ T.data.toList.length → y.data.toList.length ≤ 1000 → textD d ≠ y.data.toList ∧ y.size ≤ 1000000 := fun y h1 h2 => ⟨fun e => h1 (by rw [← e, hT0]), by rw [Lib.size_eq]; omega⟩
          match k with
          | 0 => cases hx; exact key _ (by rw [ea.out]; simp) (by rw [ea.out]; simp; omega)
          | 1 => cases hx; exact key _ (by rw [eb.out]; simp) (by rw [eb.out]; simp; omega)
          | 2 => cases hx; exact key _ (by rw [extract_drop, List.length_drop]; omega) (by rw [extract_drop, List.length_drop]; omega)
          | 3 => cases hx; exact key _ (by rw [extract_take, List.length_take]; omega) (by rw [extract_take, List.length_take]; omega)
          | k + 4 => simp at hx)
        have HTS : Hid (∀ k, k < 4 → ∃ x, [ta, tb, T.extract 1 T.size, T.extract 0 (T.size - 1)][k]? = some x) := Lib.hid (fun k hk => ⟨_, List.getElem?_eq_getElem (by simpa using hk)⟩)
        generalize [ta, tb, T.extract 1 T.size, T.extract 0 (T.size - 1)] = ts at HF HNE HTS
        clear ea eb sa sb
        go_wp2_with fail
        go_loopw [71] (fun i wr => ∃ k : Nat, k ≤ 4 ∧ i = .int .i64 k ∧ Hid (Below wc.heap.size wc wr)) (fun i _ => 4 - (intOf i).toNat)
        case atStart => exact ⟨0, by omega, rfl, Lib.hid (Below.refl _ _)⟩
        case round =>
          obtain ⟨k, hk, rfl, HI⟩ := hrel
          by_cases hk4 : k < 4
          · obtain ⟨x, hx⟩ := HTS.out k hk4
            have z0 := bcell (HF.out.1 k x hx) HI.out
            have HX := Lib.hid (HNE.out k x hx)
            have BR := Lib.hid (BC.out.trans (HI.out.mono BC.out.size))
            have PX := Lib.hid ((defParse_any x wr HX.out.2 (HE.out.keep BR.out)).mono (R' := fun e w' => (∃ (dx : Dv) (Ax : Option Addr) (nx cx : Nat) (er : Int), e = .returned (.tuple #[.agg #[.string dx.n, .int .i64 dx.r, .int .i64 dx.dl, .slice Ax nx cx], .int .i64 er]) ∧ (er = 0 → dx ≠ d) ∧ (er = 0 ∨ er = 10) ∧ DefAt w' Ax nx cx dx) ∧ Below wr.heap.size wr w') (fun e w' ⟨⟨dx, Ax, nx, cx, er, he, hp, hd⟩, hb⟩ =>
              ⟨⟨dx, Ax, nx, cx, er, he, fun h => no_same hp HX.out.1 h, hp.elim (fun h => Or.inl h.1) (fun h => Or.inr h.1), hd⟩, hb⟩))
            have hk0 : (0 : Int) ≤ (k : Int) := by omega
            have hk4' : (k : Int) < 4 := by omega
            have hwk : IntKind.i64.wrap ((k : Int) + 1) = (k : Int) + 1 := IntWalk.i64_in _ (by omega)
            clear hx
            go_upto_region 18 with (go_at_call 27; go_fit PX.out; rintro e w5 ⟨⟨dx, Ax, nx, cx, er, rfl, hne, her, hd5⟩, hb5⟩)
            have BA := (Below.refl _ w5).alloc (Nat.le_refl _) (.cells #[.string dx.n, .int .i64 dx.r, .int .i64 dx.dl, .slice Ax nx cx] 24)
            have BI := Lib.hid (HI.out.trans ((hb5.trans (BA.mono hb5.size)).mono HI.out.size))
            have BZ := Lib.hid (BC.out.trans (BI.out.mono BC.out.size))
            have NX := Whole.new w5 24 #[.string dx.n, .int .i64 dx.r, .int .i64 dx.dl, .slice Ax nx cx]
            have HDX := Lib.hid (hd5.keep BA)
            have HNX := Lib.hid hne
            have WD := Lib.hid ((W3.out.keep (show Below _ _ _ from HF.out.2)).keep BI.out)
            clear hd5 hb5 BA hne z0 PX
            generalize w5.alloc (.cells #[.string dx.n, .int .i64 dx.r, .int .i64 dx.dl, .slice Ax nx cx] 24) = wa at BI BZ NX HDX WD ⊢
            obtain ⟨⟨n0, n1, n2, n3⟩, _⟩ := whole4 NX
            obtain ⟨⟨y0, y1, y2, y3⟩, _⟩ := whole4 WD.out
            rcases her with rfl | rfl
            · have EQ := Lib.hid (defEqual_any dx d Ax A nx n cx c wa HDX.out (HA.out wa BZ.out HS.out))
              unfold dV at EQ
              go_wp2_with (go_at_call 17; refine EQ.out.mono ?_; rintro e w6 ⟨⟨q, rfl, hq⟩, hb6⟩; obtain rfl : q = false := (by cases q; rfl; exact absurd (hq.1 rfl) (HNX.out rfl)))
              go_roundw
              case rel => exact ⟨k + 1, by omega, by go_num, Lib.hid (BI.out.trans (hb6.mono BI.out.size))⟩
              case measure => simp [intOf]; omega
            · go_wp2_with fail
              go_roundw
              case rel => exact ⟨k + 1, by omega, by go_num, BI⟩
              case measure => simp [intOf]; omega
          · obtain rfl : k = 4 := by omega
            rw [show ((4 : Nat) : Int) = 4 from rfl]
            have BR := Lib.hid (BC.out.trans (HI.out.mono BC.out.size))
            have WF := Lib.hid (WK.out wr BR.out)
            go_wp2_with (go_at_call 12; refine WF.out.mono ?_; rintro e w6 ⟨rfl, hb6⟩)
            go_ret
            exact ⟨rfl, BR.out.trans (hb6.mono BR.out.size)⟩
end Go.Proofs.YtgeljnjcpkmlmaaGreatDoor
