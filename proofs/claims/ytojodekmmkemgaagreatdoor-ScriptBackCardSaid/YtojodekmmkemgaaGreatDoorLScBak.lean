/- ScriptBack returns true at every input. Conditions: as the statement's own. -/
import Derived.Test.YtojodekmmkemgaaGreatDoorScUse
namespace Go.Proofs.YtojodekmmkemgaaGreatDoor
open Go.RowKit Go.Shelf

set_option maxRecDepth 100000 in
set_option maxHeartbeats 16000000 in
theorem scriptBack_any (x y : No) (hx : NoZ x) (hy : NoZ y) (s : ByteArray) (w : World) (hE : DfE w) (hs : s.size ≤ 9223372036854775807) :
    Calls Tryz.prog 8 #[.agg (nAo x), .agg (nAo y), .string s] w fun e w' => e = .returned (.bool true) ∧ Below w.heap.size w w' := by
  have HE := Lib.hid hE
  have HSZ := Lib.hid hs
  obtain ⟨c, hc⟩ : ∃ c, c = madeO x := ⟨_, rfl⟩
  obtain ⟨d, hd⟩ : ∃ d, d = madeO y := ⟨_, rfl⟩
  have hcok : opOk c := by rw [hc]; exact madeO_ok x hx.n
  have hdok : opOk d := by rw [hd]; exact madeO_ok y hy.n
  have HC := Lib.hid hcok
  have HD := Lib.hid hdok
  have MXa := fun W => made_any x W hx
  have MYa := fun W => made_any y W hy
  unfold MdO at MXa MYa
  rw [← hc, ← nLo_arr x] at MXa
  rw [← hd, ← nLo_arr y] at MYa
  obtain ⟨LX, hLX⟩ : ∃ L, L = nLo x := ⟨_, rfl⟩
  obtain ⟨LY, hLY⟩ : ∃ L, L = nLo y := ⟨_, rfl⟩
  rw [← hLX] at MXa
  rw [← hLY] at MYa
  have MX := Lib.hid MXa
  have MY := Lib.hid MYa
  have hi1 : (Tryz.prog.info? 27).map (·.size) = some LX.length := by rw [hLX]; exact nLo_info x
  have hi2 : (Tryz.prog.info? 27).map (·.size) = some LY.length := by rw [hLY]; exact nLo_info y
  have hRX : Hid (∀ {W : World} {B : Nat}, Whole W B 27 (nAo x) → W.rangeAt B 0 LX) := Lib.hid (fun h => by rw [hLX]; exact h.nrngo)
  have hRY : Hid (∀ {W : World} {B : Nat}, Whole W B 27 (nAo y) → W.rangeAt B 0 LY) := Lib.hid (fun h => by rw [hLY]; exact h.nrngo)
  have WK := Lib.hid (fun (W : World) (hb : Below w.heap.size w W) => works_any W (hE.keep hb))
  have I1 : Hid (Below w.heap.size w ((w.alloc (.cells (nAo x) 27)).alloc (.cells (nAo y) 27)) ∧ Whole ((w.alloc (.cells (nAo x) 27)).alloc (.cells (nAo y) 27)) w.heap.size 27 (nAo x) ∧ Whole ((w.alloc (.cells (nAo x) 27)).alloc (.cells (nAo y) 27)) (w.heap.size + 1) 27 (nAo y)) := by
    have b1 := (Below.refl w.heap.size w).alloc (Nat.le_refl _) (.cells (nAo x) 27)
    have b2 := b1.alloc b1.size (.cells (nAo y) 27)
    have W2 := Whole.new (w.alloc (.cells (nAo x) 27)) 27 (nAo y)
    rw [World.size_alloc] at W2
    exact Lib.hid ⟨b2, (Whole.new w 27 (nAo x)).alloc _, W2⟩
  have hu := Tryz.underlying27
  clear hx hy hE hc hd hcok hdok MXa MYa hLX hLY hs
  go_enter Tryz.func8, Tryz.ntmps8
  go_upto_region 1 with fail
  generalize ((w.alloc (.cells (nAo x) 27)).alloc (.cells (nAo y) 27)) = w1 at I1 ⊢
  have SA : Hid (Whole w1.drew w.heap.size 27 (nAo x) ∧ Whole w1.drew (w.heap.size + 1) 27 (nAo y) ∧ Below w.heap.size w w1.drew) := Lib.hid ⟨I1.out.2.1.keep (Below.refl _ _).drew, I1.out.2.2.keep (Below.refl _ _).drew, I1.out.1.drew⟩
  clear I1
  go_cut [7, 8] from 19 to 22 (fun s5 s6 wx => ∃ (P Q : Nat) (A1 : Option Addr) (n1 m1 : Nat) (A2 : Option Addr) (n2 m2 : Nat), s5 = .pointer (some ⟨P, 0, none⟩) ∧ s6 = .pointer (some ⟨Q, 0, none⟩) ∧ Hid (Below w.heap.size w wx ∧ OpAt wx P c A1 n1 m1 ∧ OpAt wx Q d A2 n2 m2))
  case first =>
    refine wp_region_held_drew (S := fun wx => Whole wx w.heap.size 27 (nAo x) ∧ Whole wx (w.heap.size + 1) 27 (nAo y) ∧ Below w.heap.size w wx) (by kernel_rfl) SA.out (fun hHeld => ?_)
    clear SA
    generalize w1.drew = wz at hHeld ⊢
    refine wpAnyH_take (i := 0) (v := _) rfl (by kernel_rfl) (by kernel_rfl) (by kernel_rfl) (fun _ _ _ h => h) (yieldsIf_load_mid (by rfl) _ _ rfl _ _ rfl _ _ (fun w hSw => hRX.out hSw.1) hu rfl hi1) (by assumption) ?_
    simp only [Act.put, List.getElem_toArray, List.getElem_cons_zero, List.setIfInBounds_toArray, List.set_cons_zero, List.set_cons_succ]
    refine wpAnyH_take (i := 2) (v := _) rfl (by kernel_rfl) (by kernel_rfl) (by kernel_rfl) (fun _ _ _ h => h) (yieldsIf_load_mid (by rfl) _ _ rfl _ _ rfl _ _ (fun w hSw => hRY.out hSw.2.1) hu rfl hi2) (by assumption) ?_
    simp only [Act.put, List.getElem_toArray, List.getElem_cons_succ, List.getElem_cons_zero, List.setIfInBounds_toArray, List.set_cons_zero, List.set_cons_succ]
    refine wpAnyH_ready (rs := [1, 4, 5]) (by kernel_rfl) (by simp) ?_
    refine AllReadyH.cons rfl (fun K hK => ?_) (AllReadyH.cons rfl (fun K hK => ?_) (AllReadyH.cons rfl (fun K hK => ?_) AllReadyH.nil))
    · go_simp
      refine (MX.out _).mono ?_
      rintro e v0 ⟨A1, n1, m1, rfl, hi, hb, -⟩
      try go_simp
      have H1 := Lib.hid hi
      refine hK.out _ _ ?_ (fun hHeld' => ?_)
      · exact ⟨hHeld.1.keep hb, hHeld.2.1.keep hb, hHeld.2.2.trans (hb.mono hHeld.2.2.size)⟩
      clear hK K hHeld
      have hHeld := hHeld'
      clear hHeld'
      try simp only [Act.put, List.getElem_toArray, List.getElem_cons_succ, List.getElem_cons_zero, List.setIfInBounds_toArray, List.set_cons_zero, List.set_cons_succ]
      clear hi hb
      refine wpAnyH_ready (rs := [3, 4, 5]) (by kernel_rfl) (by simp) ?_
      refine AllReadyH.cons rfl (fun K hK => ?_) (AllReadyH.cons rfl (fun K hK => ?_) (AllReadyH.cons rfl (fun K hK => ?_) AllReadyH.nil))
      · go_simp
        refine (MY.out _).mono ?_
        rintro e v1 ⟨A2, n2, m2, rfl, hi, hb, -⟩
        try go_simp
        have H1 := Lib.hid (H1.out.keep hb)
        have H3 := Lib.hid hi
        refine hK.out _ _ ?_ (fun hHeld' => ?_)
        · exact ⟨hHeld.1.keep hb, hHeld.2.1.keep hb, hHeld.2.2.trans (hb.mono hHeld.2.2.size)⟩
        clear hK K hHeld
        have hHeld := hHeld'
        clear hHeld'
        try simp only [Act.put, List.getElem_toArray, List.getElem_cons_succ, List.getElem_cons_zero, List.setIfInBounds_toArray, List.set_cons_zero, List.set_cons_succ]
        clear hi hb
        refine wpAnyH_ready (rs := [4, 5]) (by kernel_rfl) (by simp) ?_
        refine AllReadyH.cons rfl (fun K hK => ?_) (AllReadyH.cons rfl (fun K hK => ?_) AllReadyH.nil)
        · go_simp
          rw [← zero10 0 0]
          have ba := (Below.refl v1.heap.size v1).alloc (Nat.le_refl _) (.cells (oA (zeroO 0 0) none 0 0) 34)
          have H1 := Lib.hid (H1.out.keep ba)
          have H3 := Lib.hid (H3.out.keep ba)
          have N4 := Lib.hid (Whole.new v1 34 (oA (zeroO 0 0) none 0 0))
          have LP := Lib.hid (And.intro hHeld.2.2.size (And.intro (Nat.ne_of_lt hHeld.1.lt) (Nat.ne_of_lt hHeld.2.1.lt)))
          refine hK.out _ _ ?_ (fun hHeld' => ?_)
          · exact ⟨hHeld.1.keep ba, hHeld.2.1.keep ba, hHeld.2.2.alloc hHeld.2.2.size _⟩
          clear hK K hHeld
          have hHeld := hHeld'
          clear hHeld'
          try simp only [Act.put, List.getElem_toArray, List.getElem_cons_succ, List.getElem_cons_zero, List.setIfInBounds_toArray, List.set_cons_zero, List.set_cons_succ]
          clear ba
          generalize (v1.alloc (.cells (oA (zeroO 0 0) none 0 0) 34)) = v2 at hHeld H1 H3 N4 ⊢
          generalize v1.heap.size = P at LP N4 ⊢
          refine wpAnyH_ready (rs := [5]) (by kernel_rfl) (by simp) ?_
          refine AllReadyH.cons rfl (fun K hK => ?_) AllReadyH.nil
          go_simp
          rw [← zero10 0 0]
          have ba := (Below.refl v2.heap.size v2).alloc (Nat.le_refl _) (.cells (oA (zeroO 0 0) none 0 0) 34)
          have HNE := Lib.hid (Nat.ne_of_lt N4.out.lt)
          have H1 := Lib.hid (H1.out.keep ba)
          have H3 := Lib.hid (H3.out.keep ba)
          have N4 := Lib.hid (N4.out.keep ba)
          have N5 := Lib.hid (Whole.new v2 34 (oA (zeroO 0 0) none 0 0))
          have LQ := Lib.hid (And.intro hHeld.2.2.size (And.intro (Nat.ne_of_lt hHeld.1.lt) (Nat.ne_of_lt hHeld.2.1.lt)))
          refine hK.out _ _ ?_ (fun hHeld' => ?_)
          · exact ⟨hHeld.1.keep ba, hHeld.2.1.keep ba, hHeld.2.2.alloc hHeld.2.2.size _⟩
          clear hK K hHeld
          have hHeld := hHeld'
          clear hHeld'
          try simp only [Act.put, List.getElem_toArray, List.getElem_cons_succ, List.getElem_cons_zero, List.setIfInBounds_toArray, List.set_cons_zero, List.set_cons_succ]
          clear ba
          generalize (v2.alloc (.cells (oA (zeroO 0 0) none 0 0) 34)) = v3 at hHeld H1 H3 N4 N5 ⊢
          generalize v2.heap.size = Q at LQ N5 HNE ⊢
          have LF := Lib.hid (dif_leaf hHeld.2.2 N4.out N5.out HNE.out H1.out H3.out HC.out HD.out LP.out.1 LQ.out.1)
          refine wpAnyH_ready (rs := [6]) (by kernel_rfl) (by simp) ?_
          refine AllReadyH.cons rfl (fun K hK => ?_) AllReadyH.nil
          rw [if_pos (by rfl)]
          refine wp_store_row 34 (.tmp 7) (.tmp 20) (by rfl) P (oA c A1 n1 m1) (by rfl) (by rfl) 34 (oA (zeroO 0 0) none 0 0) N4.out (info10 c A1 n1 m1) (by rfl) (all10 c A1 n1 m1) ?_
          refine hK.out _ _ ?_ (fun hHeld' => ?_)
          · exact ⟨hHeld.1.grown (setRow_grown _ _ _) (fun e => LP.out.2.1 (Option.some.inj e)), hHeld.2.1.grown (setRow_grown _ _ _) (fun e => LP.out.2.2 (Option.some.inj e)), hHeld.2.2.grown (setRow_grown _ _ _) hHeld.2.2.size (fun k e => by cases e; exact LP.out.1)⟩
          clear hK K hHeld
          have hHeld := hHeld'
          clear hHeld'
          try simp only [Act.put, List.getElem_toArray, List.getElem_cons_succ, List.getElem_cons_zero]
          refine wpAnyH_ready (rs := [7]) (by kernel_rfl) (by simp) ?_
          refine AllReadyH.cons rfl (fun K hK => ?_) AllReadyH.nil
          rw [if_pos (by rfl)]
          refine wp_store_row 34 (.tmp 8) (.tmp 22) (by rfl) Q (oA d A2 n2 m2) (by rfl) (by rfl) 34 (oA (zeroO 0 0) none 0 0) LF.out.1 (info10 d A2 n2 m2) (by rfl) (all10 d A2 n2 m2) ?_
          refine hK.out _ _ ?_ (fun hHeld' => ?_)
          · exact ⟨hHeld.1.grown (setRow_grown _ _ _) (fun e => LQ.out.2.1 (Option.some.inj e)), hHeld.2.1.grown (setRow_grown _ _ _) (fun e => LQ.out.2.2 (Option.some.inj e)), hHeld.2.2.grown (setRow_grown _ _ _) hHeld.2.2.size (fun k e => by cases e; exact LQ.out.1)⟩
          clear hK K hHeld
          have hHeld := hHeld'
          clear hHeld'
          try simp only [Act.put, List.getElem_toArray, List.getElem_cons_succ, List.getElem_cons_zero]
          refine wpAnyH_done (by kernel_rfl) ?_ _
          have LG := Lib.hid LF.out.2
          clear hHeld H1 H3 N4 N5 LF LP LQ HNE
          go_wp2_with fail
          go_meet
          case rel => exact ⟨P, Q, A1, n1, m1, A2, n2, m2, rfl, rfl, LG⟩
        · go_simp
          rw [← zero10 0 0]
          have ba := (Below.refl v1.heap.size v1).alloc (Nat.le_refl _) (.cells (oA (zeroO 0 0) none 0 0) 34)
          have H1 := Lib.hid (H1.out.keep ba)
          have H3 := Lib.hid (H3.out.keep ba)
          have N5 := Lib.hid (Whole.new v1 34 (oA (zeroO 0 0) none 0 0))
          have LQ := Lib.hid (And.intro hHeld.2.2.size (And.intro (Nat.ne_of_lt hHeld.1.lt) (Nat.ne_of_lt hHeld.2.1.lt)))
          refine hK.out _ _ ?_ (fun hHeld' => ?_)
          · exact ⟨hHeld.1.keep ba, hHeld.2.1.keep ba, hHeld.2.2.alloc hHeld.2.2.size _⟩
          clear hK K hHeld
          have hHeld := hHeld'
          clear hHeld'
          try simp only [Act.put, List.getElem_toArray, List.getElem_cons_succ, List.getElem_cons_zero, List.setIfInBounds_toArray, List.set_cons_zero, List.set_cons_succ]
          clear ba
          generalize (v1.alloc (.cells (oA (zeroO 0 0) none 0 0) 34)) = v2 at hHeld H1 H3 N5 ⊢
          generalize v1.heap.size = Q at LQ N5 ⊢
          refine wpAnyH_ready (rs := [4]) (by kernel_rfl) (by simp) ?_
          refine AllReadyH.cons rfl (fun K hK => ?_) AllReadyH.nil
          go_simp
          rw [← zero10 0 0]
          have ba := (Below.refl v2.heap.size v2).alloc (Nat.le_refl _) (.cells (oA (zeroO 0 0) none 0 0) 34)
          have HNE := Lib.hid (Nat.ne_of_gt N5.out.lt)
          have H1 := Lib.hid (H1.out.keep ba)
          have H3 := Lib.hid (H3.out.keep ba)
          have N5 := Lib.hid (N5.out.keep ba)
          have N4 := Lib.hid (Whole.new v2 34 (oA (zeroO 0 0) none 0 0))
          have LP := Lib.hid (And.intro hHeld.2.2.size (And.intro (Nat.ne_of_lt hHeld.1.lt) (Nat.ne_of_lt hHeld.2.1.lt)))
          refine hK.out _ _ ?_ (fun hHeld' => ?_)
          · exact ⟨hHeld.1.keep ba, hHeld.2.1.keep ba, hHeld.2.2.alloc hHeld.2.2.size _⟩
          clear hK K hHeld
          have hHeld := hHeld'
          clear hHeld'
          try simp only [Act.put, List.getElem_toArray, List.getElem_cons_succ, List.getElem_cons_zero, List.setIfInBounds_toArray, List.set_cons_zero, List.set_cons_succ]
          clear ba
          generalize (v2.alloc (.cells (oA (zeroO 0 0) none 0 0) 34)) = v3 at hHeld H1 H3 N4 N5 ⊢
          generalize v2.heap.size = P at LP N4 HNE ⊢
          have LF := Lib.hid (dif_leaf hHeld.2.2 N4.out N5.out HNE.out H1.out H3.out HC.out HD.out LP.out.1 LQ.out.1)
          refine wpAnyH_ready (rs := [6]) (by kernel_rfl) (by simp) ?_
          refine AllReadyH.cons rfl (fun K hK => ?_) AllReadyH.nil
          rw [if_pos (by rfl)]
          refine wp_store_row 34 (.tmp 7) (.tmp 20) (by rfl) P (oA c A1 n1 m1) (by rfl) (by rfl) 34 (oA (zeroO 0 0) none 0 0) N4.out (info10 c A1 n1 m1) (by rfl) (all10 c A1 n1 m1) ?_
          refine hK.out _ _ ?_ (fun hHeld' => ?_)
          · exact ⟨hHeld.1.grown (setRow_grown _ _ _) (fun e => LP.out.2.1 (Option.some.inj e)), hHeld.2.1.grown (setRow_grown _ _ _) (fun e => LP.out.2.2 (Option.some.inj e)), hHeld.2.2.grown (setRow_grown _ _ _) hHeld.2.2.size (fun k e => by cases e; exact LP.out.1)⟩
          clear hK K hHeld
          have hHeld := hHeld'
          clear hHeld'
          try simp only [Act.put, List.getElem_toArray, List.getElem_cons_succ, List.getElem_cons_zero]
          refine wpAnyH_ready (rs := [7]) (by kernel_rfl) (by simp) ?_
          refine AllReadyH.cons rfl (fun K hK => ?_) AllReadyH.nil
          rw [if_pos (by rfl)]
          refine wp_store_row 34 (.tmp 8) (.tmp 22) (by rfl) Q (oA d A2 n2 m2) (by rfl) (by rfl) 34 (oA (zeroO 0 0) none 0 0) LF.out.1 (info10 d A2 n2 m2) (by rfl) (all10 d A2 n2 m2) ?_
          refine hK.out _ _ ?_ (fun hHeld' => ?_)
          · exact ⟨hHeld.1.grown (setRow_grown _ _ _) (fun e => LQ.out.2.1 (Option.some.inj e)), hHeld.2.1.grown (setRow_grown _ _ _) (fun e => LQ.out.2.2 (Option.some.inj e)), hHeld.2.2.grown (setRow_grown _ _ _) hHeld.2.2.size (fun k e => by cases e; exact LQ.out.1)⟩
          clear hK K hHeld
          have hHeld := hHeld'
          clear hHeld'
          try simp only [Act.put, List.getElem_toArray, List.getElem_cons_succ, List.getElem_cons_zero]
          refine wpAnyH_done (by kernel_rfl) ?_ _
          have LG := Lib.hid LF.out.2
          clear hHeld H1 H3 N4 N5 LF LP LQ HNE
          go_wp2_with fail
          go_meet
          case rel => exact ⟨P, Q, A1, n1, m1, A2, n2, m2, rfl, rfl, LG⟩
      · go_simp
        rw [← zero10 0 0]
        have ba := (Below.refl v0.heap.size v0).alloc (Nat.le_refl _) (.cells (oA (zeroO 0 0) none 0 0) 34)
        have H1 := Lib.hid (H1.out.keep ba)
        have N4 := Lib.hid (Whole.new v0 34 (oA (zeroO 0 0) none 0 0))
        have LP := Lib.hid (And.intro hHeld.2.2.size (And.intro (Nat.ne_of_lt hHeld.1.lt) (Nat.ne_of_lt hHeld.2.1.lt)))
        refine hK.out _ _ ?_ (fun hHeld' => ?_)
        · exact ⟨hHeld.1.keep ba, hHeld.2.1.keep ba, hHeld.2.2.alloc hHeld.2.2.size _⟩
        clear hK K hHeld
        have hHeld := hHeld'
        clear hHeld'
        try simp only [Act.put, List.getElem_toArray, List.getElem_cons_succ, List.getElem_cons_zero, List.setIfInBounds_toArray, List.set_cons_zero, List.set_cons_succ]
        clear ba
        generalize (v0.alloc (.cells (oA (zeroO 0 0) none 0 0) 34)) = v1 at hHeld H1 N4 ⊢
        generalize v0.heap.size = P at LP N4 ⊢
        refine wpAnyH_ready (rs := [3, 5]) (by kernel_rfl) (by simp) ?_
        refine AllReadyH.cons rfl (fun K hK => ?_) (AllReadyH.cons rfl (fun K hK => ?_) AllReadyH.nil)
        · go_simp
          refine (MY.out _).mono ?_
          rintro e v2 ⟨A2, n2, m2, rfl, hi, hb, -⟩
          try go_simp
          have H1 := Lib.hid (H1.out.keep hb)
          have N4 := Lib.hid (N4.out.keep hb)
          have H3 := Lib.hid hi
          refine hK.out _ _ ?_ (fun hHeld' => ?_)
          · exact ⟨hHeld.1.keep hb, hHeld.2.1.keep hb, hHeld.2.2.trans (hb.mono hHeld.2.2.size)⟩
          clear hK K hHeld
          have hHeld := hHeld'
          clear hHeld'
          try simp only [Act.put, List.getElem_toArray, List.getElem_cons_succ, List.getElem_cons_zero, List.setIfInBounds_toArray, List.set_cons_zero, List.set_cons_succ]
          clear hi hb
          refine wpAnyH_ready (rs := [5]) (by kernel_rfl) (by simp) ?_
          refine AllReadyH.cons rfl (fun K hK => ?_) AllReadyH.nil
          go_simp
          rw [← zero10 0 0]
          have ba := (Below.refl v2.heap.size v2).alloc (Nat.le_refl _) (.cells (oA (zeroO 0 0) none 0 0) 34)
          have HNE := Lib.hid (Nat.ne_of_lt N4.out.lt)
          have H1 := Lib.hid (H1.out.keep ba)
          have H3 := Lib.hid (H3.out.keep ba)
          have N4 := Lib.hid (N4.out.keep ba)
          have N5 := Lib.hid (Whole.new v2 34 (oA (zeroO 0 0) none 0 0))
          have LQ := Lib.hid (And.intro hHeld.2.2.size (And.intro (Nat.ne_of_lt hHeld.1.lt) (Nat.ne_of_lt hHeld.2.1.lt)))
          refine hK.out _ _ ?_ (fun hHeld' => ?_)
          · exact ⟨hHeld.1.keep ba, hHeld.2.1.keep ba, hHeld.2.2.alloc hHeld.2.2.size _⟩
          clear hK K hHeld
          have hHeld := hHeld'
          clear hHeld'
          try simp only [Act.put, List.getElem_toArray, List.getElem_cons_succ, List.getElem_cons_zero, List.setIfInBounds_toArray, List.set_cons_zero, List.set_cons_succ]
          clear ba
          generalize (v2.alloc (.cells (oA (zeroO 0 0) none 0 0) 34)) = v3 at hHeld H1 H3 N4 N5 ⊢
          generalize v2.heap.size = Q at LQ N5 HNE ⊢
          have LF := Lib.hid (dif_leaf hHeld.2.2 N4.out N5.out HNE.out H1.out H3.out HC.out HD.out LP.out.1 LQ.out.1)
          refine wpAnyH_ready (rs := [6]) (by kernel_rfl) (by simp) ?_
          refine AllReadyH.cons rfl (fun K hK => ?_) AllReadyH.nil
          rw [if_pos (by rfl)]
          refine wp_store_row 34 (.tmp 7) (.tmp 20) (by rfl) P (oA c A1 n1 m1) (by rfl) (by rfl) 34 (oA (zeroO 0 0) none 0 0) N4.out (info10 c A1 n1 m1) (by rfl) (all10 c A1 n1 m1) ?_
          refine hK.out _ _ ?_ (fun hHeld' => ?_)
          · exact ⟨hHeld.1.grown (setRow_grown _ _ _) (fun e => LP.out.2.1 (Option.some.inj e)), hHeld.2.1.grown (setRow_grown _ _ _) (fun e => LP.out.2.2 (Option.some.inj e)), hHeld.2.2.grown (setRow_grown _ _ _) hHeld.2.2.size (fun k e => by cases e; exact LP.out.1)⟩
          clear hK K hHeld
          have hHeld := hHeld'
          clear hHeld'
          try simp only [Act.put, List.getElem_toArray, List.getElem_cons_succ, List.getElem_cons_zero]
          refine wpAnyH_ready (rs := [7]) (by kernel_rfl) (by simp) ?_
          refine AllReadyH.cons rfl (fun K hK => ?_) AllReadyH.nil
          rw [if_pos (by rfl)]
          refine wp_store_row 34 (.tmp 8) (.tmp 22) (by rfl) Q (oA d A2 n2 m2) (by rfl) (by rfl) 34 (oA (zeroO 0 0) none 0 0) LF.out.1 (info10 d A2 n2 m2) (by rfl) (all10 d A2 n2 m2) ?_
          refine hK.out _ _ ?_ (fun hHeld' => ?_)
          · exact ⟨hHeld.1.grown (setRow_grown _ _ _) (fun e => LQ.out.2.1 (Option.some.inj e)), hHeld.2.1.grown (setRow_grown _ _ _) (fun e => LQ.out.2.2 (Option.some.inj e)), hHeld.2.2.grown (setRow_grown _ _ _) hHeld.2.2.size (fun k e => by cases e; exact LQ.out.1)⟩
          clear hK K hHeld
          have hHeld := hHeld'
          clear hHeld'
          try simp only [Act.put, List.getElem_toArray, List.getElem_cons_succ, List.getElem_cons_zero]
          refine wpAnyH_done (by kernel_rfl) ?_ _
          have LG := Lib.hid LF.out.2
          clear hHeld H1 H3 N4 N5 LF LP LQ HNE
          go_wp2_with fail
          go_meet
          case rel => exact ⟨P, Q, A1, n1, m1, A2, n2, m2, rfl, rfl, LG⟩
        · go_simp
          rw [← zero10 0 0]
          have ba := (Below.refl v1.heap.size v1).alloc (Nat.le_refl _) (.cells (oA (zeroO 0 0) none 0 0) 34)
          have HNE := Lib.hid (Nat.ne_of_lt N4.out.lt)
          have H1 := Lib.hid (H1.out.keep ba)
          have N4 := Lib.hid (N4.out.keep ba)
          have N5 := Lib.hid (Whole.new v1 34 (oA (zeroO 0 0) none 0 0))
          have LQ := Lib.hid (And.intro hHeld.2.2.size (And.intro (Nat.ne_of_lt hHeld.1.lt) (Nat.ne_of_lt hHeld.2.1.lt)))
          refine hK.out _ _ ?_ (fun hHeld' => ?_)
          · exact ⟨hHeld.1.keep ba, hHeld.2.1.keep ba, hHeld.2.2.alloc hHeld.2.2.size _⟩
          clear hK K hHeld
          have hHeld := hHeld'
          clear hHeld'
          try simp only [Act.put, List.getElem_toArray, List.getElem_cons_succ, List.getElem_cons_zero, List.setIfInBounds_toArray, List.set_cons_zero, List.set_cons_succ]
          clear ba
          generalize (v1.alloc (.cells (oA (zeroO 0 0) none 0 0) 34)) = v2 at hHeld H1 N4 N5 ⊢
          generalize v1.heap.size = Q at LQ N5 HNE ⊢
          refine wpAnyH_ready (rs := [3]) (by kernel_rfl) (by simp) ?_
          refine AllReadyH.cons rfl (fun K hK => ?_) AllReadyH.nil
          go_simp
          refine (MY.out _).mono ?_
          rintro e v3 ⟨A2, n2, m2, rfl, hi, hb, -⟩
          try go_simp
          have H1 := Lib.hid (H1.out.keep hb)
          have N4 := Lib.hid (N4.out.keep hb)
          have N5 := Lib.hid (N5.out.keep hb)
          have H3 := Lib.hid hi
          refine hK.out _ _ ?_ (fun hHeld' => ?_)
          · exact ⟨hHeld.1.keep hb, hHeld.2.1.keep hb, hHeld.2.2.trans (hb.mono hHeld.2.2.size)⟩
          clear hK K hHeld
          have hHeld := hHeld'
          clear hHeld'
          try simp only [Act.put, List.getElem_toArray, List.getElem_cons_succ, List.getElem_cons_zero, List.setIfInBounds_toArray, List.set_cons_zero, List.set_cons_succ]
          clear hi hb
          have LF := Lib.hid (dif_leaf hHeld.2.2 N4.out N5.out HNE.out H1.out H3.out HC.out HD.out LP.out.1 LQ.out.1)
          refine wpAnyH_ready (rs := [6]) (by kernel_rfl) (by simp) ?_
          refine AllReadyH.cons rfl (fun K hK => ?_) AllReadyH.nil
          rw [if_pos (by rfl)]
          refine wp_store_row 34 (.tmp 7) (.tmp 20) (by rfl) P (oA c A1 n1 m1) (by rfl) (by rfl) 34 (oA (zeroO 0 0) none 0 0) N4.out (info10 c A1 n1 m1) (by rfl) (all10 c A1 n1 m1) ?_
          refine hK.out _ _ ?_ (fun hHeld' => ?_)
          · exact ⟨hHeld.1.grown (setRow_grown _ _ _) (fun e => LP.out.2.1 (Option.some.inj e)), hHeld.2.1.grown (setRow_grown _ _ _) (fun e => LP.out.2.2 (Option.some.inj e)), hHeld.2.2.grown (setRow_grown _ _ _) hHeld.2.2.size (fun k e => by cases e; exact LP.out.1)⟩
          clear hK K hHeld
          have hHeld := hHeld'
          clear hHeld'
          try simp only [Act.put, List.getElem_toArray, List.getElem_cons_succ, List.getElem_cons_zero]
          refine wpAnyH_ready (rs := [7]) (by kernel_rfl) (by simp) ?_
          refine AllReadyH.cons rfl (fun K hK => ?_) AllReadyH.nil
          rw [if_pos (by rfl)]
          refine wp_store_row 34 (.tmp 8) (.tmp 22) (by rfl) Q (oA d A2 n2 m2) (by rfl) (by rfl) 34 (oA (zeroO 0 0) none 0 0) LF.out.1 (info10 d A2 n2 m2) (by rfl) (all10 d A2 n2 m2) ?_
          refine hK.out _ _ ?_ (fun hHeld' => ?_)
          · exact ⟨hHeld.1.grown (setRow_grown _ _ _) (fun e => LQ.out.2.1 (Option.some.inj e)), hHeld.2.1.grown (setRow_grown _ _ _) (fun e => LQ.out.2.2 (Option.some.inj e)), hHeld.2.2.grown (setRow_grown _ _ _) hHeld.2.2.size (fun k e => by cases e; exact LQ.out.1)⟩
          clear hK K hHeld
          have hHeld := hHeld'
          clear hHeld'
          try simp only [Act.put, List.getElem_toArray, List.getElem_cons_succ, List.getElem_cons_zero]
          refine wpAnyH_done (by kernel_rfl) ?_ _
          have LG := Lib.hid LF.out.2
          clear hHeld H1 H3 N4 N5 LF LP LQ HNE
          go_wp2_with fail
          go_meet
          case rel => exact ⟨P, Q, A1, n1, m1, A2, n2, m2, rfl, rfl, LG⟩
      · go_simp
        rw [← zero10 0 0]
        have ba := (Below.refl v0.heap.size v0).alloc (Nat.le_refl _) (.cells (oA (zeroO 0 0) none 0 0) 34)
        have H1 := Lib.hid (H1.out.keep ba)
        have N5 := Lib.hid (Whole.new v0 34 (oA (zeroO 0 0) none 0 0))
        have LQ := Lib.hid (And.intro hHeld.2.2.size (And.intro (Nat.ne_of_lt hHeld.1.lt) (Nat.ne_of_lt hHeld.2.1.lt)))
        refine hK.out _ _ ?_ (fun hHeld' => ?_)
        · exact ⟨hHeld.1.keep ba, hHeld.2.1.keep ba, hHeld.2.2.alloc hHeld.2.2.size _⟩
        clear hK K hHeld
        have hHeld := hHeld'
        clear hHeld'
        try simp only [Act.put, List.getElem_toArray, List.getElem_cons_succ, List.getElem_cons_zero, List.setIfInBounds_toArray, List.set_cons_zero, List.set_cons_succ]
        clear ba
        generalize (v0.alloc (.cells (oA (zeroO 0 0) none 0 0) 34)) = v1 at hHeld H1 N5 ⊢
        generalize v0.heap.size = Q at LQ N5 ⊢
        refine wpAnyH_ready (rs := [3, 4]) (by kernel_rfl) (by simp) ?_
        refine AllReadyH.cons rfl (fun K hK => ?_) (AllReadyH.cons rfl (fun K hK => ?_) AllReadyH.nil)
        · go_simp
          refine (MY.out _).mono ?_
          rintro e v2 ⟨A2, n2, m2, rfl, hi, hb, -⟩
          try go_simp
          have H1 := Lib.hid (H1.out.keep hb)
          have N5 := Lib.hid (N5.out.keep hb)
          have H3 := Lib.hid hi
          refine hK.out _ _ ?_ (fun hHeld' => ?_)
          · exact ⟨hHeld.1.keep hb, hHeld.2.1.keep hb, hHeld.2.2.trans (hb.mono hHeld.2.2.size)⟩
          clear hK K hHeld
          have hHeld := hHeld'
          clear hHeld'
          try simp only [Act.put, List.getElem_toArray, List.getElem_cons_succ, List.getElem_cons_zero, List.setIfInBounds_toArray, List.set_cons_zero, List.set_cons_succ]
          clear hi hb
          refine wpAnyH_ready (rs := [4]) (by kernel_rfl) (by simp) ?_
          refine AllReadyH.cons rfl (fun K hK => ?_) AllReadyH.nil
          go_simp
          rw [← zero10 0 0]
          have ba := (Below.refl v2.heap.size v2).alloc (Nat.le_refl _) (.cells (oA (zeroO 0 0) none 0 0) 34)
          have HNE := Lib.hid (Nat.ne_of_gt N5.out.lt)
          have H1 := Lib.hid (H1.out.keep ba)
          have H3 := Lib.hid (H3.out.keep ba)
          have N5 := Lib.hid (N5.out.keep ba)
          have N4 := Lib.hid (Whole.new v2 34 (oA (zeroO 0 0) none 0 0))
          have LP := Lib.hid (And.intro hHeld.2.2.size (And.intro (Nat.ne_of_lt hHeld.1.lt) (Nat.ne_of_lt hHeld.2.1.lt)))
          refine hK.out _ _ ?_ (fun hHeld' => ?_)
          · exact ⟨hHeld.1.keep ba, hHeld.2.1.keep ba, hHeld.2.2.alloc hHeld.2.2.size _⟩
          clear hK K hHeld
          have hHeld := hHeld'
          clear hHeld'
          try simp only [Act.put, List.getElem_toArray, List.getElem_cons_succ, List.getElem_cons_zero, List.setIfInBounds_toArray, List.set_cons_zero, List.set_cons_succ]
          clear ba
          generalize (v2.alloc (.cells (oA (zeroO 0 0) none 0 0) 34)) = v3 at hHeld H1 H3 N4 N5 ⊢
          generalize v2.heap.size = P at LP N4 HNE ⊢
          have LF := Lib.hid (dif_leaf hHeld.2.2 N4.out N5.out HNE.out H1.out H3.out HC.out HD.out LP.out.1 LQ.out.1)
          refine wpAnyH_ready (rs := [6]) (by kernel_rfl) (by simp) ?_
          refine AllReadyH.cons rfl (fun K hK => ?_) AllReadyH.nil
          rw [if_pos (by rfl)]
          refine wp_store_row 34 (.tmp 7) (.tmp 20) (by rfl) P (oA c A1 n1 m1) (by rfl) (by rfl) 34 (oA (zeroO 0 0) none 0 0) N4.out (info10 c A1 n1 m1) (by rfl) (all10 c A1 n1 m1) ?_
          refine hK.out _ _ ?_ (fun hHeld' => ?_)
          · exact ⟨hHeld.1.grown (setRow_grown _ _ _) (fun e => LP.out.2.1 (Option.some.inj e)), hHeld.2.1.grown (setRow_grown _ _ _) (fun e => LP.out.2.2 (Option.some.inj e)), hHeld.2.2.grown (setRow_grown _ _ _) hHeld.2.2.size (fun k e => by cases e; exact LP.out.1)⟩
          clear hK K hHeld
          have hHeld := hHeld'
          clear hHeld'
          try simp only [Act.put, List.getElem_toArray, List.getElem_cons_succ, List.getElem_cons_zero]
          refine wpAnyH_ready (rs := [7]) (by kernel_rfl) (by simp) ?_
          refine AllReadyH.cons rfl (fun K hK => ?_) AllReadyH.nil
          rw [if_pos (by rfl)]
          refine wp_store_row 34 (.tmp 8) (.tmp 22) (by rfl) Q (oA d A2 n2 m2) (by rfl) (by rfl) 34 (oA (zeroO 0 0) none 0 0) LF.out.1 (info10 d A2 n2 m2) (by rfl) (all10 d A2 n2 m2) ?_
          refine hK.out _ _ ?_ (fun hHeld' => ?_)
          · exact ⟨hHeld.1.grown (setRow_grown _ _ _) (fun e => LQ.out.2.1 (Option.some.inj e)), hHeld.2.1.grown (setRow_grown _ _ _) (fun e => LQ.out.2.2 (Option.some.inj e)), hHeld.2.2.grown (setRow_grown _ _ _) hHeld.2.2.size (fun k e => by cases e; exact LQ.out.1)⟩
          clear hK K hHeld
          have hHeld := hHeld'
          clear hHeld'
          try simp only [Act.put, List.getElem_toArray, List.getElem_cons_succ, List.getElem_cons_zero]
          refine wpAnyH_done (by kernel_rfl) ?_ _
          have LG := Lib.hid LF.out.2
          clear hHeld H1 H3 N4 N5 LF LP LQ HNE
          go_wp2_with fail
          go_meet
          case rel => exact ⟨P, Q, A1, n1, m1, A2, n2, m2, rfl, rfl, LG⟩
        · go_simp
          rw [← zero10 0 0]
          have ba := (Below.refl v1.heap.size v1).alloc (Nat.le_refl _) (.cells (oA (zeroO 0 0) none 0 0) 34)
          have HNE := Lib.hid (Nat.ne_of_gt N5.out.lt)
          have H1 := Lib.hid (H1.out.keep ba)
          have N5 := Lib.hid (N5.out.keep ba)
          have N4 := Lib.hid (Whole.new v1 34 (oA (zeroO 0 0) none 0 0))
          have LP := Lib.hid (And.intro hHeld.2.2.size (And.intro (Nat.ne_of_lt hHeld.1.lt) (Nat.ne_of_lt hHeld.2.1.lt)))
          refine hK.out _ _ ?_ (fun hHeld' => ?_)
          · exact ⟨hHeld.1.keep ba, hHeld.2.1.keep ba, hHeld.2.2.alloc hHeld.2.2.size _⟩
          clear hK K hHeld
          have hHeld := hHeld'
          clear hHeld'
          try simp only [Act.put, List.getElem_toArray, List.getElem_cons_succ, List.getElem_cons_zero, List.setIfInBounds_toArray, List.set_cons_zero, List.set_cons_succ]
          clear ba
          generalize (v1.alloc (.cells (oA (zeroO 0 0) none 0 0) 34)) = v2 at hHeld H1 N4 N5 ⊢
          generalize v1.heap.size = P at LP N4 HNE ⊢
          refine wpAnyH_ready (rs := [3]) (by kernel_rfl) (by simp) ?_
          refine AllReadyH.cons rfl (fun K hK => ?_) AllReadyH.nil
          go_simp
          refine (MY.out _).mono ?_
          rintro e v3 ⟨A2, n2, m2, rfl, hi, hb, -⟩
          try go_simp
          have H1 := Lib.hid (H1.out.keep hb)
          have N4 := Lib.hid (N4.out.keep hb)
          have N5 := Lib.hid (N5.out.keep hb)
          have H3 := Lib.hid hi
          refine hK.out _ _ ?_ (fun hHeld' => ?_)
          · exact ⟨hHeld.1.keep hb, hHeld.2.1.keep hb, hHeld.2.2.trans (hb.mono hHeld.2.2.size)⟩
          clear hK K hHeld
          have hHeld := hHeld'
          clear hHeld'
          try simp only [Act.put, List.getElem_toArray, List.getElem_cons_succ, List.getElem_cons_zero, List.setIfInBounds_toArray, List.set_cons_zero, List.set_cons_succ]
          clear hi hb
          have LF := Lib.hid (dif_leaf hHeld.2.2 N4.out N5.out HNE.out H1.out H3.out HC.out HD.out LP.out.1 LQ.out.1)
          refine wpAnyH_ready (rs := [6]) (by kernel_rfl) (by simp) ?_
          refine AllReadyH.cons rfl (fun K hK => ?_) AllReadyH.nil
          rw [if_pos (by rfl)]
          refine wp_store_row 34 (.tmp 7) (.tmp 20) (by rfl) P (oA c A1 n1 m1) (by rfl) (by rfl) 34 (oA (zeroO 0 0) none 0 0) N4.out (info10 c A1 n1 m1) (by rfl) (all10 c A1 n1 m1) ?_
          refine hK.out _ _ ?_ (fun hHeld' => ?_)
          · exact ⟨hHeld.1.grown (setRow_grown _ _ _) (fun e => LP.out.2.1 (Option.some.inj e)), hHeld.2.1.grown (setRow_grown _ _ _) (fun e => LP.out.2.2 (Option.some.inj e)), hHeld.2.2.grown (setRow_grown _ _ _) hHeld.2.2.size (fun k e => by cases e; exact LP.out.1)⟩
          clear hK K hHeld
          have hHeld := hHeld'
          clear hHeld'
          try simp only [Act.put, List.getElem_toArray, List.getElem_cons_succ, List.getElem_cons_zero]
          refine wpAnyH_ready (rs := [7]) (by kernel_rfl) (by simp) ?_
          refine AllReadyH.cons rfl (fun K hK => ?_) AllReadyH.nil
          rw [if_pos (by rfl)]
          refine wp_store_row 34 (.tmp 8) (.tmp 22) (by rfl) Q (oA d A2 n2 m2) (by rfl) (by rfl) 34 (oA (zeroO 0 0) none 0 0) LF.out.1 (info10 d A2 n2 m2) (by rfl) (all10 d A2 n2 m2) ?_
          refine hK.out _ _ ?_ (fun hHeld' => ?_)
          · exact ⟨hHeld.1.grown (setRow_grown _ _ _) (fun e => LQ.out.2.1 (Option.some.inj e)), hHeld.2.1.grown (setRow_grown _ _ _) (fun e => LQ.out.2.2 (Option.some.inj e)), hHeld.2.2.grown (setRow_grown _ _ _) hHeld.2.2.size (fun k e => by cases e; exact LQ.out.1)⟩
          clear hK K hHeld
          have hHeld := hHeld'
          clear hHeld'
          try simp only [Act.put, List.getElem_toArray, List.getElem_cons_succ, List.getElem_cons_zero]
          refine wpAnyH_done (by kernel_rfl) ?_ _
          have LG := Lib.hid LF.out.2
          clear hHeld H1 H3 N4 N5 LF LP LQ HNE
          go_wp2_with fail
          go_meet
          case rel => exact ⟨P, Q, A1, n1, m1, A2, n2, m2, rfl, rfl, LG⟩
    · go_simp
      rw [← zero10 0 0]
      have ba := (Below.refl wz.heap.size wz).alloc (Nat.le_refl _) (.cells (oA (zeroO 0 0) none 0 0) 34)
      have N4 := Lib.hid (Whole.new wz 34 (oA (zeroO 0 0) none 0 0))
      have LP := Lib.hid (And.intro hHeld.2.2.size (And.intro (Nat.ne_of_lt hHeld.1.lt) (Nat.ne_of_lt hHeld.2.1.lt)))
      refine hK.out _ _ ?_ (fun hHeld' => ?_)
      · exact ⟨hHeld.1.keep ba, hHeld.2.1.keep ba, hHeld.2.2.alloc hHeld.2.2.size _⟩
      clear hK K hHeld
      have hHeld := hHeld'
      clear hHeld'
      try simp only [Act.put, List.getElem_toArray, List.getElem_cons_succ, List.getElem_cons_zero, List.setIfInBounds_toArray, List.set_cons_zero, List.set_cons_succ]
      clear ba
      generalize (wz.alloc (.cells (oA (zeroO 0 0) none 0 0) 34)) = v0 at hHeld N4 ⊢
      generalize wz.heap.size = P at LP N4 ⊢
      refine wpAnyH_ready (rs := [1, 5]) (by kernel_rfl) (by simp) ?_
      refine AllReadyH.cons rfl (fun K hK => ?_) (AllReadyH.cons rfl (fun K hK => ?_) AllReadyH.nil)
      · go_simp
        refine (MX.out _).mono ?_
        rintro e v1 ⟨A1, n1, m1, rfl, hi, hb, -⟩
        try go_simp
        have N4 := Lib.hid (N4.out.keep hb)
        have H1 := Lib.hid hi
        refine hK.out _ _ ?_ (fun hHeld' => ?_)
        · exact ⟨hHeld.1.keep hb, hHeld.2.1.keep hb, hHeld.2.2.trans (hb.mono hHeld.2.2.size)⟩
        clear hK K hHeld
        have hHeld := hHeld'
        clear hHeld'
        try simp only [Act.put, List.getElem_toArray, List.getElem_cons_succ, List.getElem_cons_zero, List.setIfInBounds_toArray, List.set_cons_zero, List.set_cons_succ]
        clear hi hb
        refine wpAnyH_ready (rs := [3, 5]) (by kernel_rfl) (by simp) ?_
        refine AllReadyH.cons rfl (fun K hK => ?_) (AllReadyH.cons rfl (fun K hK => ?_) AllReadyH.nil)
        · go_simp
          refine (MY.out _).mono ?_
          rintro e v2 ⟨A2, n2, m2, rfl, hi, hb, -⟩
          try go_simp
          have H1 := Lib.hid (H1.out.keep hb)
          have N4 := Lib.hid (N4.out.keep hb)
          have H3 := Lib.hid hi
          refine hK.out _ _ ?_ (fun hHeld' => ?_)
          · exact ⟨hHeld.1.keep hb, hHeld.2.1.keep hb, hHeld.2.2.trans (hb.mono hHeld.2.2.size)⟩
          clear hK K hHeld
          have hHeld := hHeld'
          clear hHeld'
          try simp only [Act.put, List.getElem_toArray, List.getElem_cons_succ, List.getElem_cons_zero, List.setIfInBounds_toArray, List.set_cons_zero, List.set_cons_succ]
          clear hi hb
          refine wpAnyH_ready (rs := [5]) (by kernel_rfl) (by simp) ?_
          refine AllReadyH.cons rfl (fun K hK => ?_) AllReadyH.nil
          go_simp
          rw [← zero10 0 0]
          have ba := (Below.refl v2.heap.size v2).alloc (Nat.le_refl _) (.cells (oA (zeroO 0 0) none 0 0) 34)
          have HNE := Lib.hid (Nat.ne_of_lt N4.out.lt)
          have H1 := Lib.hid (H1.out.keep ba)
          have H3 := Lib.hid (H3.out.keep ba)
          have N4 := Lib.hid (N4.out.keep ba)
          have N5 := Lib.hid (Whole.new v2 34 (oA (zeroO 0 0) none 0 0))
          have LQ := Lib.hid (And.intro hHeld.2.2.size (And.intro (Nat.ne_of_lt hHeld.1.lt) (Nat.ne_of_lt hHeld.2.1.lt)))
          refine hK.out _ _ ?_ (fun hHeld' => ?_)
          · exact ⟨hHeld.1.keep ba, hHeld.2.1.keep ba, hHeld.2.2.alloc hHeld.2.2.size _⟩
          clear hK K hHeld
          have hHeld := hHeld'
          clear hHeld'
          try simp only [Act.put, List.getElem_toArray, List.getElem_cons_succ, List.getElem_cons_zero, List.setIfInBounds_toArray, List.set_cons_zero, List.set_cons_succ]
          clear ba
          generalize (v2.alloc (.cells (oA (zeroO 0 0) none 0 0) 34)) = v3 at hHeld H1 H3 N4 N5 ⊢
          generalize v2.heap.size = Q at LQ N5 HNE ⊢
          have LF := Lib.hid (dif_leaf hHeld.2.2 N4.out N5.out HNE.out H1.out H3.out HC.out HD.out LP.out.1 LQ.out.1)
          refine wpAnyH_ready (rs := [6]) (by kernel_rfl) (by simp) ?_
          refine AllReadyH.cons rfl (fun K hK => ?_) AllReadyH.nil
          rw [if_pos (by rfl)]
          refine wp_store_row 34 (.tmp 7) (.tmp 20) (by rfl) P (oA c A1 n1 m1) (by rfl) (by rfl) 34 (oA (zeroO 0 0) none 0 0) N4.out (info10 c A1 n1 m1) (by rfl) (all10 c A1 n1 m1) ?_
          refine hK.out _ _ ?_ (fun hHeld' => ?_)
          · exact ⟨hHeld.1.grown (setRow_grown _ _ _) (fun e => LP.out.2.1 (Option.some.inj e)), hHeld.2.1.grown (setRow_grown _ _ _) (fun e => LP.out.2.2 (Option.some.inj e)), hHeld.2.2.grown (setRow_grown _ _ _) hHeld.2.2.size (fun k e => by cases e; exact LP.out.1)⟩
          clear hK K hHeld
          have hHeld := hHeld'
          clear hHeld'
          try simp only [Act.put, List.getElem_toArray, List.getElem_cons_succ, List.getElem_cons_zero]
          refine wpAnyH_ready (rs := [7]) (by kernel_rfl) (by simp) ?_
          refine AllReadyH.cons rfl (fun K hK => ?_) AllReadyH.nil
          rw [if_pos (by rfl)]
          refine wp_store_row 34 (.tmp 8) (.tmp 22) (by rfl) Q (oA d A2 n2 m2) (by rfl) (by rfl) 34 (oA (zeroO 0 0) none 0 0) LF.out.1 (info10 d A2 n2 m2) (by rfl) (all10 d A2 n2 m2) ?_
          refine hK.out _ _ ?_ (fun hHeld' => ?_)
          · exact ⟨hHeld.1.grown (setRow_grown _ _ _) (fun e => LQ.out.2.1 (Option.some.inj e)), hHeld.2.1.grown (setRow_grown _ _ _) (fun e => LQ.out.2.2 (Option.some.inj e)), hHeld.2.2.grown (setRow_grown _ _ _) hHeld.2.2.size (fun k e => by cases e; exact LQ.out.1)⟩
          clear hK K hHeld
          have hHeld := hHeld'
          clear hHeld'
          try simp only [Act.put, List.getElem_toArray, List.getElem_cons_succ, List.getElem_cons_zero]
          refine wpAnyH_done (by kernel_rfl) ?_ _
          have LG := Lib.hid LF.out.2
          clear hHeld H1 H3 N4 N5 LF LP LQ HNE
          go_wp2_with fail
          go_meet
          case rel => exact ⟨P, Q, A1, n1, m1, A2, n2, m2, rfl, rfl, LG⟩
        · go_simp
          rw [← zero10 0 0]
          have ba := (Below.refl v1.heap.size v1).alloc (Nat.le_refl _) (.cells (oA (zeroO 0 0) none 0 0) 34)
          have HNE := Lib.hid (Nat.ne_of_lt N4.out.lt)
          have H1 := Lib.hid (H1.out.keep ba)
          have N4 := Lib.hid (N4.out.keep ba)
          have N5 := Lib.hid (Whole.new v1 34 (oA (zeroO 0 0) none 0 0))
          have LQ := Lib.hid (And.intro hHeld.2.2.size (And.intro (Nat.ne_of_lt hHeld.1.lt) (Nat.ne_of_lt hHeld.2.1.lt)))
          refine hK.out _ _ ?_ (fun hHeld' => ?_)
          · exact ⟨hHeld.1.keep ba, hHeld.2.1.keep ba, hHeld.2.2.alloc hHeld.2.2.size _⟩
          clear hK K hHeld
          have hHeld := hHeld'
          clear hHeld'
          try simp only [Act.put, List.getElem_toArray, List.getElem_cons_succ, List.getElem_cons_zero, List.setIfInBounds_toArray, List.set_cons_zero, List.set_cons_succ]
          clear ba
          generalize (v1.alloc (.cells (oA (zeroO 0 0) none 0 0) 34)) = v2 at hHeld H1 N4 N5 ⊢
          generalize v1.heap.size = Q at LQ N5 HNE ⊢
          refine wpAnyH_ready (rs := [3]) (by kernel_rfl) (by simp) ?_
          refine AllReadyH.cons rfl (fun K hK => ?_) AllReadyH.nil
          go_simp
          refine (MY.out _).mono ?_
          rintro e v3 ⟨A2, n2, m2, rfl, hi, hb, -⟩
          try go_simp
          have H1 := Lib.hid (H1.out.keep hb)
          have N4 := Lib.hid (N4.out.keep hb)
          have N5 := Lib.hid (N5.out.keep hb)
          have H3 := Lib.hid hi
          refine hK.out _ _ ?_ (fun hHeld' => ?_)
          · exact ⟨hHeld.1.keep hb, hHeld.2.1.keep hb, hHeld.2.2.trans (hb.mono hHeld.2.2.size)⟩
          clear hK K hHeld
          have hHeld := hHeld'
          clear hHeld'
          try simp only [Act.put, List.getElem_toArray, List.getElem_cons_succ, List.getElem_cons_zero, List.setIfInBounds_toArray, List.set_cons_zero, List.set_cons_succ]
          clear hi hb
          have LF := Lib.hid (dif_leaf hHeld.2.2 N4.out N5.out HNE.out H1.out H3.out HC.out HD.out LP.out.1 LQ.out.1)
          refine wpAnyH_ready (rs := [6]) (by kernel_rfl) (by simp) ?_
          refine AllReadyH.cons rfl (fun K hK => ?_) AllReadyH.nil
          rw [if_pos (by rfl)]
          refine wp_store_row 34 (.tmp 7) (.tmp 20) (by rfl) P (oA c A1 n1 m1) (by rfl) (by rfl) 34 (oA (zeroO 0 0) none 0 0) N4.out (info10 c A1 n1 m1) (by rfl) (all10 c A1 n1 m1) ?_
          refine hK.out _ _ ?_ (fun hHeld' => ?_)
          · exact ⟨hHeld.1.grown (setRow_grown _ _ _) (fun e => LP.out.2.1 (Option.some.inj e)), hHeld.2.1.grown (setRow_grown _ _ _) (fun e => LP.out.2.2 (Option.some.inj e)), hHeld.2.2.grown (setRow_grown _ _ _) hHeld.2.2.size (fun k e => by cases e; exact LP.out.1)⟩
          clear hK K hHeld
          have hHeld := hHeld'
          clear hHeld'
          try simp only [Act.put, List.getElem_toArray, List.getElem_cons_succ, List.getElem_cons_zero]
          refine wpAnyH_ready (rs := [7]) (by kernel_rfl) (by simp) ?_
          refine AllReadyH.cons rfl (fun K hK => ?_) AllReadyH.nil
          rw [if_pos (by rfl)]
          refine wp_store_row 34 (.tmp 8) (.tmp 22) (by rfl) Q (oA d A2 n2 m2) (by rfl) (by rfl) 34 (oA (zeroO 0 0) none 0 0) LF.out.1 (info10 d A2 n2 m2) (by rfl) (all10 d A2 n2 m2) ?_
          refine hK.out _ _ ?_ (fun hHeld' => ?_)
          · exact ⟨hHeld.1.grown (setRow_grown _ _ _) (fun e => LQ.out.2.1 (Option.some.inj e)), hHeld.2.1.grown (setRow_grown _ _ _) (fun e => LQ.out.2.2 (Option.some.inj e)), hHeld.2.2.grown (setRow_grown _ _ _) hHeld.2.2.size (fun k e => by cases e; exact LQ.out.1)⟩
          clear hK K hHeld
          have hHeld := hHeld'
          clear hHeld'
          try simp only [Act.put, List.getElem_toArray, List.getElem_cons_succ, List.getElem_cons_zero]
          refine wpAnyH_done (by kernel_rfl) ?_ _
          have LG := Lib.hid LF.out.2
          clear hHeld H1 H3 N4 N5 LF LP LQ HNE
          go_wp2_with fail
          go_meet
          case rel => exact ⟨P, Q, A1, n1, m1, A2, n2, m2, rfl, rfl, LG⟩
      · go_simp
        rw [← zero10 0 0]
        have ba := (Below.refl v0.heap.size v0).alloc (Nat.le_refl _) (.cells (oA (zeroO 0 0) none 0 0) 34)
        have HNE := Lib.hid (Nat.ne_of_lt N4.out.lt)
        have N4 := Lib.hid (N4.out.keep ba)
        have N5 := Lib.hid (Whole.new v0 34 (oA (zeroO 0 0) none 0 0))
        have LQ := Lib.hid (And.intro hHeld.2.2.size (And.intro (Nat.ne_of_lt hHeld.1.lt) (Nat.ne_of_lt hHeld.2.1.lt)))
        refine hK.out _ _ ?_ (fun hHeld' => ?_)
        · exact ⟨hHeld.1.keep ba, hHeld.2.1.keep ba, hHeld.2.2.alloc hHeld.2.2.size _⟩
        clear hK K hHeld
        have hHeld := hHeld'
        clear hHeld'
        try simp only [Act.put, List.getElem_toArray, List.getElem_cons_succ, List.getElem_cons_zero, List.setIfInBounds_toArray, List.set_cons_zero, List.set_cons_succ]
        clear ba
        generalize (v0.alloc (.cells (oA (zeroO 0 0) none 0 0) 34)) = v1 at hHeld N4 N5 ⊢
        generalize v0.heap.size = Q at LQ N5 HNE ⊢
        refine wpAnyH_ready (rs := [1]) (by kernel_rfl) (by simp) ?_
        refine AllReadyH.cons rfl (fun K hK => ?_) AllReadyH.nil
        go_simp
        refine (MX.out _).mono ?_
        rintro e v2 ⟨A1, n1, m1, rfl, hi, hb, -⟩
        try go_simp
        have N4 := Lib.hid (N4.out.keep hb)
        have N5 := Lib.hid (N5.out.keep hb)
        have H1 := Lib.hid hi
        refine hK.out _ _ ?_ (fun hHeld' => ?_)
        · exact ⟨hHeld.1.keep hb, hHeld.2.1.keep hb, hHeld.2.2.trans (hb.mono hHeld.2.2.size)⟩
        clear hK K hHeld
        have hHeld := hHeld'
        clear hHeld'
        try simp only [Act.put, List.getElem_toArray, List.getElem_cons_succ, List.getElem_cons_zero, List.setIfInBounds_toArray, List.set_cons_zero, List.set_cons_succ]
        clear hi hb
        refine wpAnyH_ready (rs := [3]) (by kernel_rfl) (by simp) ?_
        refine AllReadyH.cons rfl (fun K hK => ?_) AllReadyH.nil
        go_simp
        refine (MY.out _).mono ?_
        rintro e v3 ⟨A2, n2, m2, rfl, hi, hb, -⟩
        try go_simp
        have H1 := Lib.hid (H1.out.keep hb)
        have N4 := Lib.hid (N4.out.keep hb)
        have N5 := Lib.hid (N5.out.keep hb)
        have H3 := Lib.hid hi
        refine hK.out _ _ ?_ (fun hHeld' => ?_)
        · exact ⟨hHeld.1.keep hb, hHeld.2.1.keep hb, hHeld.2.2.trans (hb.mono hHeld.2.2.size)⟩
        clear hK K hHeld
        have hHeld := hHeld'
        clear hHeld'
        try simp only [Act.put, List.getElem_toArray, List.getElem_cons_succ, List.getElem_cons_zero, List.setIfInBounds_toArray, List.set_cons_zero, List.set_cons_succ]
        clear hi hb
        have LF := Lib.hid (dif_leaf hHeld.2.2 N4.out N5.out HNE.out H1.out H3.out HC.out HD.out LP.out.1 LQ.out.1)
        refine wpAnyH_ready (rs := [6]) (by kernel_rfl) (by simp) ?_
        refine AllReadyH.cons rfl (fun K hK => ?_) AllReadyH.nil
        rw [if_pos (by rfl)]
        refine wp_store_row 34 (.tmp 7) (.tmp 20) (by rfl) P (oA c A1 n1 m1) (by rfl) (by rfl) 34 (oA (zeroO 0 0) none 0 0) N4.out (info10 c A1 n1 m1) (by rfl) (all10 c A1 n1 m1) ?_
        refine hK.out _ _ ?_ (fun hHeld' => ?_)
        · exact ⟨hHeld.1.grown (setRow_grown _ _ _) (fun e => LP.out.2.1 (Option.some.inj e)), hHeld.2.1.grown (setRow_grown _ _ _) (fun e => LP.out.2.2 (Option.some.inj e)), hHeld.2.2.grown (setRow_grown _ _ _) hHeld.2.2.size (fun k e => by cases e; exact LP.out.1)⟩
        clear hK K hHeld
        have hHeld := hHeld'
        clear hHeld'
        try simp only [Act.put, List.getElem_toArray, List.getElem_cons_succ, List.getElem_cons_zero]
        refine wpAnyH_ready (rs := [7]) (by kernel_rfl) (by simp) ?_
        refine AllReadyH.cons rfl (fun K hK => ?_) AllReadyH.nil
        rw [if_pos (by rfl)]
        refine wp_store_row 34 (.tmp 8) (.tmp 22) (by rfl) Q (oA d A2 n2 m2) (by rfl) (by rfl) 34 (oA (zeroO 0 0) none 0 0) LF.out.1 (info10 d A2 n2 m2) (by rfl) (all10 d A2 n2 m2) ?_
        refine hK.out _ _ ?_ (fun hHeld' => ?_)
        · exact ⟨hHeld.1.grown (setRow_grown _ _ _) (fun e => LQ.out.2.1 (Option.some.inj e)), hHeld.2.1.grown (setRow_grown _ _ _) (fun e => LQ.out.2.2 (Option.some.inj e)), hHeld.2.2.grown (setRow_grown _ _ _) hHeld.2.2.size (fun k e => by cases e; exact LQ.out.1)⟩
        clear hK K hHeld
        have hHeld := hHeld'
        clear hHeld'
        try simp only [Act.put, List.getElem_toArray, List.getElem_cons_succ, List.getElem_cons_zero]
        refine wpAnyH_done (by kernel_rfl) ?_ _
        have LG := Lib.hid LF.out.2
        clear hHeld H1 H3 N4 N5 LF LP LQ HNE
        go_wp2_with fail
        go_meet
        case rel => exact ⟨P, Q, A1, n1, m1, A2, n2, m2, rfl, rfl, LG⟩
    · go_simp
      rw [← zero10 0 0]
      have ba := (Below.refl wz.heap.size wz).alloc (Nat.le_refl _) (.cells (oA (zeroO 0 0) none 0 0) 34)
      have N5 := Lib.hid (Whole.new wz 34 (oA (zeroO 0 0) none 0 0))
      have LQ := Lib.hid (And.intro hHeld.2.2.size (And.intro (Nat.ne_of_lt hHeld.1.lt) (Nat.ne_of_lt hHeld.2.1.lt)))
      refine hK.out _ _ ?_ (fun hHeld' => ?_)
      · exact ⟨hHeld.1.keep ba, hHeld.2.1.keep ba, hHeld.2.2.alloc hHeld.2.2.size _⟩
      clear hK K hHeld
      have hHeld := hHeld'
      clear hHeld'
      try simp only [Act.put, List.getElem_toArray, List.getElem_cons_succ, List.getElem_cons_zero, List.setIfInBounds_toArray, List.set_cons_zero, List.set_cons_succ]
      clear ba
      generalize (wz.alloc (.cells (oA (zeroO 0 0) none 0 0) 34)) = v0 at hHeld N5 ⊢
      generalize wz.heap.size = Q at LQ N5 ⊢
      refine wpAnyH_ready (rs := [1, 4]) (by kernel_rfl) (by simp) ?_
      refine AllReadyH.cons rfl (fun K hK => ?_) (AllReadyH.cons rfl (fun K hK => ?_) AllReadyH.nil)
      · go_simp
        refine (MX.out _).mono ?_
        rintro e v1 ⟨A1, n1, m1, rfl, hi, hb, -⟩
        try go_simp
        have N5 := Lib.hid (N5.out.keep hb)
        have H1 := Lib.hid hi
        refine hK.out _ _ ?_ (fun hHeld' => ?_)
        · exact ⟨hHeld.1.keep hb, hHeld.2.1.keep hb, hHeld.2.2.trans (hb.mono hHeld.2.2.size)⟩
        clear hK K hHeld
        have hHeld := hHeld'
        clear hHeld'
        try simp only [Act.put, List.getElem_toArray, List.getElem_cons_succ, List.getElem_cons_zero, List.setIfInBounds_toArray, List.set_cons_zero, List.set_cons_succ]
        clear hi hb
        refine wpAnyH_ready (rs := [3, 4]) (by kernel_rfl) (by simp) ?_
        refine AllReadyH.cons rfl (fun K hK => ?_) (AllReadyH.cons rfl (fun K hK => ?_) AllReadyH.nil)
        · go_simp
          refine (MY.out _).mono ?_
          rintro e v2 ⟨A2, n2, m2, rfl, hi, hb, -⟩
          try go_simp
          have H1 := Lib.hid (H1.out.keep hb)
          have N5 := Lib.hid (N5.out.keep hb)
          have H3 := Lib.hid hi
          refine hK.out _ _ ?_ (fun hHeld' => ?_)
          · exact ⟨hHeld.1.keep hb, hHeld.2.1.keep hb, hHeld.2.2.trans (hb.mono hHeld.2.2.size)⟩
          clear hK K hHeld
          have hHeld := hHeld'
          clear hHeld'
          try simp only [Act.put, List.getElem_toArray, List.getElem_cons_succ, List.getElem_cons_zero, List.setIfInBounds_toArray, List.set_cons_zero, List.set_cons_succ]
          clear hi hb
          refine wpAnyH_ready (rs := [4]) (by kernel_rfl) (by simp) ?_
          refine AllReadyH.cons rfl (fun K hK => ?_) AllReadyH.nil
          go_simp
          rw [← zero10 0 0]
          have ba := (Below.refl v2.heap.size v2).alloc (Nat.le_refl _) (.cells (oA (zeroO 0 0) none 0 0) 34)
          have HNE := Lib.hid (Nat.ne_of_gt N5.out.lt)
          have H1 := Lib.hid (H1.out.keep ba)
          have H3 := Lib.hid (H3.out.keep ba)
          have N5 := Lib.hid (N5.out.keep ba)
          have N4 := Lib.hid (Whole.new v2 34 (oA (zeroO 0 0) none 0 0))
          have LP := Lib.hid (And.intro hHeld.2.2.size (And.intro (Nat.ne_of_lt hHeld.1.lt) (Nat.ne_of_lt hHeld.2.1.lt)))
          refine hK.out _ _ ?_ (fun hHeld' => ?_)
          · exact ⟨hHeld.1.keep ba, hHeld.2.1.keep ba, hHeld.2.2.alloc hHeld.2.2.size _⟩
          clear hK K hHeld
          have hHeld := hHeld'
          clear hHeld'
          try simp only [Act.put, List.getElem_toArray, List.getElem_cons_succ, List.getElem_cons_zero, List.setIfInBounds_toArray, List.set_cons_zero, List.set_cons_succ]
          clear ba
          generalize (v2.alloc (.cells (oA (zeroO 0 0) none 0 0) 34)) = v3 at hHeld H1 H3 N4 N5 ⊢
          generalize v2.heap.size = P at LP N4 HNE ⊢
          have LF := Lib.hid (dif_leaf hHeld.2.2 N4.out N5.out HNE.out H1.out H3.out HC.out HD.out LP.out.1 LQ.out.1)
          refine wpAnyH_ready (rs := [6]) (by kernel_rfl) (by simp) ?_
          refine AllReadyH.cons rfl (fun K hK => ?_) AllReadyH.nil
          rw [if_pos (by rfl)]
          refine wp_store_row 34 (.tmp 7) (.tmp 20) (by rfl) P (oA c A1 n1 m1) (by rfl) (by rfl) 34 (oA (zeroO 0 0) none 0 0) N4.out (info10 c A1 n1 m1) (by rfl) (all10 c A1 n1 m1) ?_
          refine hK.out _ _ ?_ (fun hHeld' => ?_)
          · exact ⟨hHeld.1.grown (setRow_grown _ _ _) (fun e => LP.out.2.1 (Option.some.inj e)), hHeld.2.1.grown (setRow_grown _ _ _) (fun e => LP.out.2.2 (Option.some.inj e)), hHeld.2.2.grown (setRow_grown _ _ _) hHeld.2.2.size (fun k e => by cases e; exact LP.out.1)⟩
          clear hK K hHeld
          have hHeld := hHeld'
          clear hHeld'
          try simp only [Act.put, List.getElem_toArray, List.getElem_cons_succ, List.getElem_cons_zero]
          refine wpAnyH_ready (rs := [7]) (by kernel_rfl) (by simp) ?_
          refine AllReadyH.cons rfl (fun K hK => ?_) AllReadyH.nil
          rw [if_pos (by rfl)]
          refine wp_store_row 34 (.tmp 8) (.tmp 22) (by rfl) Q (oA d A2 n2 m2) (by rfl) (by rfl) 34 (oA (zeroO 0 0) none 0 0) LF.out.1 (info10 d A2 n2 m2) (by rfl) (all10 d A2 n2 m2) ?_
          refine hK.out _ _ ?_ (fun hHeld' => ?_)
          · exact ⟨hHeld.1.grown (setRow_grown _ _ _) (fun e => LQ.out.2.1 (Option.some.inj e)), hHeld.2.1.grown (setRow_grown _ _ _) (fun e => LQ.out.2.2 (Option.some.inj e)), hHeld.2.2.grown (setRow_grown _ _ _) hHeld.2.2.size (fun k e => by cases e; exact LQ.out.1)⟩
          clear hK K hHeld
          have hHeld := hHeld'
          clear hHeld'
          try simp only [Act.put, List.getElem_toArray, List.getElem_cons_succ, List.getElem_cons_zero]
          refine wpAnyH_done (by kernel_rfl) ?_ _
          have LG := Lib.hid LF.out.2
          clear hHeld H1 H3 N4 N5 LF LP LQ HNE
          go_wp2_with fail
          go_meet
          case rel => exact ⟨P, Q, A1, n1, m1, A2, n2, m2, rfl, rfl, LG⟩
        · go_simp
          rw [← zero10 0 0]
          have ba := (Below.refl v1.heap.size v1).alloc (Nat.le_refl _) (.cells (oA (zeroO 0 0) none 0 0) 34)
          have HNE := Lib.hid (Nat.ne_of_gt N5.out.lt)
          have H1 := Lib.hid (H1.out.keep ba)
          have N5 := Lib.hid (N5.out.keep ba)
          have N4 := Lib.hid (Whole.new v1 34 (oA (zeroO 0 0) none 0 0))
          have LP := Lib.hid (And.intro hHeld.2.2.size (And.intro (Nat.ne_of_lt hHeld.1.lt) (Nat.ne_of_lt hHeld.2.1.lt)))
          refine hK.out _ _ ?_ (fun hHeld' => ?_)
          · exact ⟨hHeld.1.keep ba, hHeld.2.1.keep ba, hHeld.2.2.alloc hHeld.2.2.size _⟩
          clear hK K hHeld
          have hHeld := hHeld'
          clear hHeld'
          try simp only [Act.put, List.getElem_toArray, List.getElem_cons_succ, List.getElem_cons_zero, List.setIfInBounds_toArray, List.set_cons_zero, List.set_cons_succ]
          clear ba
          generalize (v1.alloc (.cells (oA (zeroO 0 0) none 0 0) 34)) = v2 at hHeld H1 N4 N5 ⊢
          generalize v1.heap.size = P at LP N4 HNE ⊢
          refine wpAnyH_ready (rs := [3]) (by kernel_rfl) (by simp) ?_
          refine AllReadyH.cons rfl (fun K hK => ?_) AllReadyH.nil
          go_simp
          refine (MY.out _).mono ?_
          rintro e v3 ⟨A2, n2, m2, rfl, hi, hb, -⟩
          try go_simp
          have H1 := Lib.hid (H1.out.keep hb)
          have N4 := Lib.hid (N4.out.keep hb)
          have N5 := Lib.hid (N5.out.keep hb)
          have H3 := Lib.hid hi
          refine hK.out _ _ ?_ (fun hHeld' => ?_)
          · exact ⟨hHeld.1.keep hb, hHeld.2.1.keep hb, hHeld.2.2.trans (hb.mono hHeld.2.2.size)⟩
          clear hK K hHeld
          have hHeld := hHeld'
          clear hHeld'
          try simp only [Act.put, List.getElem_toArray, List.getElem_cons_succ, List.getElem_cons_zero, List.setIfInBounds_toArray, List.set_cons_zero, List.set_cons_succ]
          clear hi hb
          have LF := Lib.hid (dif_leaf hHeld.2.2 N4.out N5.out HNE.out H1.out H3.out HC.out HD.out LP.out.1 LQ.out.1)
          refine wpAnyH_ready (rs := [6]) (by kernel_rfl) (by simp) ?_
          refine AllReadyH.cons rfl (fun K hK => ?_) AllReadyH.nil
          rw [if_pos (by rfl)]
          refine wp_store_row 34 (.tmp 7) (.tmp 20) (by rfl) P (oA c A1 n1 m1) (by rfl) (by rfl) 34 (oA (zeroO 0 0) none 0 0) N4.out (info10 c A1 n1 m1) (by rfl) (all10 c A1 n1 m1) ?_
          refine hK.out _ _ ?_ (fun hHeld' => ?_)
          · exact ⟨hHeld.1.grown (setRow_grown _ _ _) (fun e => LP.out.2.1 (Option.some.inj e)), hHeld.2.1.grown (setRow_grown _ _ _) (fun e => LP.out.2.2 (Option.some.inj e)), hHeld.2.2.grown (setRow_grown _ _ _) hHeld.2.2.size (fun k e => by cases e; exact LP.out.1)⟩
          clear hK K hHeld
          have hHeld := hHeld'
          clear hHeld'
          try simp only [Act.put, List.getElem_toArray, List.getElem_cons_succ, List.getElem_cons_zero]
          refine wpAnyH_ready (rs := [7]) (by kernel_rfl) (by simp) ?_
          refine AllReadyH.cons rfl (fun K hK => ?_) AllReadyH.nil
          rw [if_pos (by rfl)]
          refine wp_store_row 34 (.tmp 8) (.tmp 22) (by rfl) Q (oA d A2 n2 m2) (by rfl) (by rfl) 34 (oA (zeroO 0 0) none 0 0) LF.out.1 (info10 d A2 n2 m2) (by rfl) (all10 d A2 n2 m2) ?_
          refine hK.out _ _ ?_ (fun hHeld' => ?_)
          · exact ⟨hHeld.1.grown (setRow_grown _ _ _) (fun e => LQ.out.2.1 (Option.some.inj e)), hHeld.2.1.grown (setRow_grown _ _ _) (fun e => LQ.out.2.2 (Option.some.inj e)), hHeld.2.2.grown (setRow_grown _ _ _) hHeld.2.2.size (fun k e => by cases e; exact LQ.out.1)⟩
          clear hK K hHeld
          have hHeld := hHeld'
          clear hHeld'
          try simp only [Act.put, List.getElem_toArray, List.getElem_cons_succ, List.getElem_cons_zero]
          refine wpAnyH_done (by kernel_rfl) ?_ _
          have LG := Lib.hid LF.out.2
          clear hHeld H1 H3 N4 N5 LF LP LQ HNE
          go_wp2_with fail
          go_meet
          case rel => exact ⟨P, Q, A1, n1, m1, A2, n2, m2, rfl, rfl, LG⟩
      · go_simp
        rw [← zero10 0 0]
        have ba := (Below.refl v0.heap.size v0).alloc (Nat.le_refl _) (.cells (oA (zeroO 0 0) none 0 0) 34)
        have HNE := Lib.hid (Nat.ne_of_gt N5.out.lt)
        have N5 := Lib.hid (N5.out.keep ba)
        have N4 := Lib.hid (Whole.new v0 34 (oA (zeroO 0 0) none 0 0))
        have LP := Lib.hid (And.intro hHeld.2.2.size (And.intro (Nat.ne_of_lt hHeld.1.lt) (Nat.ne_of_lt hHeld.2.1.lt)))
        refine hK.out _ _ ?_ (fun hHeld' => ?_)
        · exact ⟨hHeld.1.keep ba, hHeld.2.1.keep ba, hHeld.2.2.alloc hHeld.2.2.size _⟩
        clear hK K hHeld
        have hHeld := hHeld'
        clear hHeld'
        try simp only [Act.put, List.getElem_toArray, List.getElem_cons_succ, List.getElem_cons_zero, List.setIfInBounds_toArray, List.set_cons_zero, List.set_cons_succ]
        clear ba
        generalize (v0.alloc (.cells (oA (zeroO 0 0) none 0 0) 34)) = v1 at hHeld N4 N5 ⊢
        generalize v0.heap.size = P at LP N4 HNE ⊢
        refine wpAnyH_ready (rs := [1]) (by kernel_rfl) (by simp) ?_
        refine AllReadyH.cons rfl (fun K hK => ?_) AllReadyH.nil
        go_simp
        refine (MX.out _).mono ?_
        rintro e v2 ⟨A1, n1, m1, rfl, hi, hb, -⟩
        try go_simp
        have N4 := Lib.hid (N4.out.keep hb)
        have N5 := Lib.hid (N5.out.keep hb)
        have H1 := Lib.hid hi
        refine hK.out _ _ ?_ (fun hHeld' => ?_)
        · exact ⟨hHeld.1.keep hb, hHeld.2.1.keep hb, hHeld.2.2.trans (hb.mono hHeld.2.2.size)⟩
        clear hK K hHeld
        have hHeld := hHeld'
        clear hHeld'
        try simp only [Act.put, List.getElem_toArray, List.getElem_cons_succ, List.getElem_cons_zero, List.setIfInBounds_toArray, List.set_cons_zero, List.set_cons_succ]
        clear hi hb
        refine wpAnyH_ready (rs := [3]) (by kernel_rfl) (by simp) ?_
        refine AllReadyH.cons rfl (fun K hK => ?_) AllReadyH.nil
        go_simp
        refine (MY.out _).mono ?_
        rintro e v3 ⟨A2, n2, m2, rfl, hi, hb, -⟩
        try go_simp
        have H1 := Lib.hid (H1.out.keep hb)
        have N4 := Lib.hid (N4.out.keep hb)
        have N5 := Lib.hid (N5.out.keep hb)
        have H3 := Lib.hid hi
        refine hK.out _ _ ?_ (fun hHeld' => ?_)
        · exact ⟨hHeld.1.keep hb, hHeld.2.1.keep hb, hHeld.2.2.trans (hb.mono hHeld.2.2.size)⟩
        clear hK K hHeld
        have hHeld := hHeld'
        clear hHeld'
        try simp only [Act.put, List.getElem_toArray, List.getElem_cons_succ, List.getElem_cons_zero, List.setIfInBounds_toArray, List.set_cons_zero, List.set_cons_succ]
        clear hi hb
        have LF := Lib.hid (dif_leaf hHeld.2.2 N4.out N5.out HNE.out H1.out H3.out HC.out HD.out LP.out.1 LQ.out.1)
        refine wpAnyH_ready (rs := [6]) (by kernel_rfl) (by simp) ?_
        refine AllReadyH.cons rfl (fun K hK => ?_) AllReadyH.nil
        rw [if_pos (by rfl)]
        refine wp_store_row 34 (.tmp 7) (.tmp 20) (by rfl) P (oA c A1 n1 m1) (by rfl) (by rfl) 34 (oA (zeroO 0 0) none 0 0) N4.out (info10 c A1 n1 m1) (by rfl) (all10 c A1 n1 m1) ?_
        refine hK.out _ _ ?_ (fun hHeld' => ?_)
        · exact ⟨hHeld.1.grown (setRow_grown _ _ _) (fun e => LP.out.2.1 (Option.some.inj e)), hHeld.2.1.grown (setRow_grown _ _ _) (fun e => LP.out.2.2 (Option.some.inj e)), hHeld.2.2.grown (setRow_grown _ _ _) hHeld.2.2.size (fun k e => by cases e; exact LP.out.1)⟩
        clear hK K hHeld
        have hHeld := hHeld'
        clear hHeld'
        try simp only [Act.put, List.getElem_toArray, List.getElem_cons_succ, List.getElem_cons_zero]
        refine wpAnyH_ready (rs := [7]) (by kernel_rfl) (by simp) ?_
        refine AllReadyH.cons rfl (fun K hK => ?_) AllReadyH.nil
        rw [if_pos (by rfl)]
        refine wp_store_row 34 (.tmp 8) (.tmp 22) (by rfl) Q (oA d A2 n2 m2) (by rfl) (by rfl) 34 (oA (zeroO 0 0) none 0 0) LF.out.1 (info10 d A2 n2 m2) (by rfl) (all10 d A2 n2 m2) ?_
        refine hK.out _ _ ?_ (fun hHeld' => ?_)
        · exact ⟨hHeld.1.grown (setRow_grown _ _ _) (fun e => LQ.out.2.1 (Option.some.inj e)), hHeld.2.1.grown (setRow_grown _ _ _) (fun e => LQ.out.2.2 (Option.some.inj e)), hHeld.2.2.grown (setRow_grown _ _ _) hHeld.2.2.size (fun k e => by cases e; exact LQ.out.1)⟩
        clear hK K hHeld
        have hHeld := hHeld'
        clear hHeld'
        try simp only [Act.put, List.getElem_toArray, List.getElem_cons_succ, List.getElem_cons_zero]
        refine wpAnyH_done (by kernel_rfl) ?_ _
        have LG := Lib.hid LF.out.2
        clear hHeld H1 H3 N4 N5 LF LP LQ HNE
        go_wp2_with fail
        go_meet
        case rel => exact ⟨P, Q, A1, n1, m1, A2, n2, m2, rfl, rfl, LG⟩
  case rest =>
  generalize wc = w2 at hcut ⊢
  obtain ⟨P, Q, A1, n1, m1, A2, n2, m2, rfl, rfl, hI⟩ := hcut
  have I2 := hI
  clear hI SA hu hi1 hi2 hRX hRY MX MY
  obtain ⟨tc, htc⟩ : ∃ t : ByteArray, t = ⟨(textO c).toArray⟩ := ⟨_, rfl⟩
  obtain ⟨td, htd⟩ : ∃ t : ByteArray, t = ⟨(textO d).toArray⟩ := ⟨_, rfl⟩
  have HTC : Hid (tc.data.toList = textO c) := Lib.hid (by rw [htc])
  have HTD : Hid (td.data.toList = textO d) := Lib.hid (by rw [htd])
  clear htc htd
  have PR := Lib.hid (print_ok c A1 n1 m1 w2 (HE.out.keep I2.out.1) I2.out.2.1.i HC.out tc HTC.out)
  go_upto_region 3 with (first
    | (refine wpList_load_row (by rfl) 34 (.tmp 7) (by rfl) _ (by rfl) 34 (oA c A1 n1 m1) (0, 0) _ I2.out.2.1.w Tryz.underlying34 (by rfl) (info10 c A1 n1 m1) ?_)
    | (go_at_call 22; refine PR.out.mono ?_; rintro e w3 ⟨rfl, hb⟩; have I3 := Lib.hid (And.intro (I2.out.1.trans (hb.mono I2.out.1.size)) (And.intro (I2.out.2.1.keep hb) (I2.out.2.2.keep hb))); clear hb PR))
  clear I2
  have PR := Lib.hid (print_ok d A2 n2 m2 w3 (HE.out.keep I3.out.1) I3.out.2.2.i HD.out td HTD.out)
  go_upto_region 4 with (first
    | (refine wpList_load_row (by rfl) 34 (.tmp 8) (by rfl) _ (by rfl) 34 (oA d A2 n2 m2) (0, 0) _ I3.out.2.2.w Tryz.underlying34 (by rfl) (info10 d A2 n2 m2) ?_)
    | (go_at_call 22; refine PR.out.mono ?_; rintro e w4 ⟨rfl, hb⟩; have I4 := Lib.hid (And.intro (I3.out.1.trans (hb.mono I3.out.1.size)) (And.intro (I3.out.2.1.keep hb) (I3.out.2.2.keep hb))); clear hb PR))
  clear I3
  have PA := Lib.hid (parse_ok c w4 (HE.out.keep I4.out.1) HC.out tc HTC.out)
  go_upto_region 5 with (first
    | (go_at_call 28; refine PA.out.mono ?_; rintro e w5 ⟨⟨A3, n3, m3, rfl, hi⟩, hb⟩; have ba := (Below.refl w5.heap.size w5).alloc (Nat.le_refl _) (.cells (oA c A3 n3 m3) 34); have b5 := I4.out.1.trans (hb.mono I4.out.1.size); have I6 := Lib.hid (And.intro (b5.trans (ba.mono b5.size)) (And.intro ((I4.out.2.1.keep hb).keep ba) (And.intro ((I4.out.2.2.keep hb).keep ba) (OpAt.new hi)))); clear hi hb ba b5 PA)
    | (refine wpList_store_row (by rfl) 34 (.tmp 13) (.tmp 36) (by rfl) _ (oA c A3 n3 m3) (by rfl) (by rfl) 34 _ (heap_alloc_new _ _) (info10 _ _ _ _) (by rfl) (all10 _ _ _ _) ?_; rw [World.setRow_alloc_new]))
  clear I4
  generalize w5.alloc (.cells (oA c A3 n3 m3) 34) = w6 at I6 ⊢
  generalize w5.heap.size = R at I6 ⊢
  obtain ⟨q, hq⟩ : ∃ q : Bool, q = true ↔ c = d := by
    by_cases e : c = d
    · exact ⟨true, ⟨fun _ => e, fun _ => rfl⟩⟩
    · exact ⟨false, ⟨(fun h => by cases h), fun h => absurd h e⟩⟩
  have hte : (tc.toList == td.toList) = q := by
    rw [ByteArray.toList_eq, ByteArray.toList_eq, HTC.out, HTD.out]
    exact Bool.eq_iff_iff.2 (beq_iff_eq.trans ((textO_iff HC.out HD.out).trans hq.symm))
  have hqq : (q != q) = false := by cases q <;> rfl
  have CK := Lib.hid (check_ok c A1 n1 m1 w6 I6.out.2.1.i HC.out)
  have EQ1 := Lib.hid (fun (W : World) (h1 : OpIn W c A3 n3 m3) (h2 : OpIn W c A1 n1 m1) => equal_b c c A3 A1 n3 n1 m3 m1 W h1 h2 true (by simp))
  have EQ2 := Lib.hid (fun (W : World) (h1 : OpIn W c A1 n1 m1) (h2 : OpIn W d A2 n2 m2) => equal_b c d A1 A2 n1 n2 m1 m2 W h1 h2 q hq)
  have CT := Lib.hid (fun (W : World) => no_line tc W (by rw [HTC.out]; exact textO_line HC.out))
  clear hq HC HD HTC HTD
  go_upto_if 71 with (first
    | (refine wpList_load_row (by rfl) 34 (.tmp 7) (by rfl) _ (by rfl) 34 (oA c A1 n1 m1) (0, 0) _ I6.out.2.1.w Tryz.underlying34 (by rfl) (info10 c A1 n1 m1) ?_)
    | (go_at_call 24; refine CK.out.mono ?_; rintro e w7 ⟨rfl, hb⟩; have I7 := Lib.hid (And.intro (I6.out.1.trans (hb.mono I6.out.1.size)) (And.intro (I6.out.2.1.keep hb) (And.intro (I6.out.2.2.1.keep hb) (I6.out.2.2.2.keep hb)))); have E1 := Lib.hid (EQ1.out w7 I7.out.2.2.2.i I7.out.2.1.i); clear hb CK)
    | (refine wpList_load_rowG (by rfl) 34 (.tmp 13) (by rfl) _ (by rfl) 34 (oA c A3 n3 m3) (0, 0) _ I7.out.2.2.2.w Tryz.underlying34 (by rfl) (info10 c A3 n3 m3) ?_)
    | (refine wpList_load_rowG (by rfl) 34 (.tmp 7) (by rfl) _ (by rfl) 34 (oA c A1 n1 m1) (0, 0) _ I7.out.2.1.w Tryz.underlying34 (by rfl) (info10 c A1 n1 m1) ?_)
    | (go_at_call 26; refine E1.out.mono ?_; rintro e w8 ⟨rfl, hb⟩; have I8 := Lib.hid (And.intro (I7.out.1.trans (hb.mono I7.out.1.size)) (And.intro (I7.out.2.1.keep hb) (I7.out.2.2.1.keep hb))); have E2 := Lib.hid (EQ2.out w8 I8.out.2.1.i I8.out.2.2.i); clear hb E1)
    | (refine wpList_load_rowG (by rfl) 34 (.tmp 7) (by rfl) _ (by rfl) 34 (oA c A1 n1 m1) (0, 0) _ I8.out.2.1.w Tryz.underlying34 (by rfl) (info10 c A1 n1 m1) ?_)
    | (refine wpList_load_rowG (by rfl) 34 (.tmp 8) (by rfl) _ (by rfl) 34 (oA d A2 n2 m2) (0, 0) _ I8.out.2.2.w Tryz.underlying34 (by rfl) (info10 d A2 n2 m2) ?_)
    | (go_at_call 26; refine E2.out.mono ?_; rintro e w9 ⟨rfl, hb⟩; have B9 := Lib.hid (I8.out.1.trans (hb.mono I8.out.1.size)); have C9 := Lib.hid (CT.out w9); clear hb E2)
    | (go_at_call 36; refine C9.out.mono ?_; rintro e w9' ⟨rfl, rfl⟩))
  clear I6 I7 I8 EQ1 EQ2 CT C9 hte hqq
  by_cases hbig : 300 < s.size
  · have hb3 : (300 : Int) < (s.size : Int) := by omega
    have W1 := Lib.hid (WK.out w9 B9.out)
    clear hbig WK
    go_wp2_with (go_at_call 20; refine W1.out.mono ?_; rintro e w10 ⟨rfl, hb⟩; have B10 := Lib.hid (B9.out.trans (hb.mono B9.out.size)); clear hb)
    go_ret
    exact ⟨rfl, B10.out⟩
  · have hb3 : ¬ ((300 : Int) < (s.size : Int)) := by omega
    have PS := Lib.hid (oparse_any s w9 (HE.out.keep B9.out) (by omega))
    clear hbig
    unfold OParR at PS
    go_upto_region 10 with (first
      | (go_at_call 28; refine PS.out.mono ?_; rintro e w10 ⟨o, er, A4, n4, m4, rfl, hr, hi, hb, -⟩; have HR := Lib.hid hr; have ba := (Below.refl w10.heap.size w10).alloc (Nat.le_refl _) (.cells (oA o A4 n4 m4) 34); have b10 := B9.out.trans (hb.mono B9.out.size); have I11 := Lib.hid (And.intro (b10.trans (ba.mono b10.size)) (OpAt.new hi)); clear hr hi hb ba b10 PS)
      | (refine wpList_store_row (by rfl) 34 (.tmp 15) (.tmp 79) (by rfl) _ (oA o A4 n4 m4) (by rfl) (by rfl) 34 _ (heap_alloc_new _ _) (info10 _ _ _ _) (by rfl) (all10 _ _ _ _) ?_; rw [World.setRow_alloc_new]))
    generalize w10.alloc (.cells (oA o A4 n4 m4) 34) = w11 at I11 ⊢
    generalize w10.heap.size = X at I11 ⊢
    rcases HR.out with ⟨rfl, h1, h2⟩ | ⟨rfl, rfl, _⟩
    · have PR := Lib.hid (print_ok o A4 n4 m4 w11 (HE.out.keep I11.out.1) I11.out.2.i h1 s h2.symm)
      clear h1 h2 HR
      have hss : (s.toList == s.toList) = true := beq_self_eq_true _
      go_wp2_with (first
        | (refine wpList_load_row (by rfl) 34 (.tmp 15) (by rfl) _ (by rfl) 34 (oA o A4 n4 m4) (0, 0) _ I11.out.2.w Tryz.underlying34 (by rfl) (info10 o A4 n4 m4) ?_)
        | (go_at_call 22; refine PR.out.mono ?_; rintro e w12 ⟨rfl, hb⟩; have B12 := Lib.hid (I11.out.1.trans (hb.mono I11.out.1.size)); have W1 := Lib.hid (WK.out w12 B12.out); clear hb PR)
        | (go_at_call 20; refine W1.out.mono ?_; rintro e w13 ⟨rfl, hb⟩; have B13 := Lib.hid (B12.out.trans (hb.mono B12.out.size)); clear hb))
      go_ret
      exact ⟨rfl, B13.out⟩
    · have EZ := equal_b (zeroO 0 0) (zeroO 0 0) A4 none n4 0 m4 0 w11 I11.out.2.i (opin_zero w11) true (by simp)
      rw [zero10] at EZ
      have EZ := Lib.hid EZ
      clear HR
      go_wp2_with (first
        | (refine wpList_load_rowG (by rfl) 34 (.tmp 15) (by rfl) _ (by rfl) 34 (oA (zeroO 0 0) A4 n4 m4) (0, 0) _ I11.out.2.w Tryz.underlying34 (by rfl) (info10 (zeroO 0 0) A4 n4 m4) ?_)
        | (go_at_call 26; refine EZ.out.mono ?_; rintro e w12 ⟨rfl, hb⟩; have B12 := Lib.hid (I11.out.1.trans (hb.mono I11.out.1.size)); have W1 := Lib.hid (WK.out w12 B12.out); clear hb EZ)
        | (go_at_call 20; refine W1.out.mono ?_; rintro e w13 ⟨rfl, hb⟩; have B13 := Lib.hid (B12.out.trans (hb.mono B12.out.size)); clear hb))
      go_ret
      exact ⟨rfl, B13.out⟩
end Go.Proofs.YtojodekmmkemgaaGreatDoor
