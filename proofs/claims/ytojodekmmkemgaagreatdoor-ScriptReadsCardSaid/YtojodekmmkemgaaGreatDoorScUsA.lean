/- What an operation's kind uses, by the reference. Condition: sizes as a machine's integers can say. -/
import Derived.Test.YtojodekmmkemgaaGreatDoorScUsS
namespace Go.Proofs.YtojodekmmkemgaaGreatDoor
open Go.RowKit Go.Shelf

set_option maxRecDepth 100000 in
set_option maxHeartbeats 8000000 in
theorem used_1 (o : Ov) (A : Option Addr) (n m : Nat) (w : World) (h : OpIn w o A n m) (hk : o.k = 1) :
    Calls Tryz.prog 63 #[.agg (oA o A n m)] w fun e w' => AloR o w w' e := by
  have I0 := Lib.hid (al_start w o A n m)
  obtain ⟨cc, hcc⟩ : ∃ cc : Ov, cc = zeroO o.k o.n := ⟨_, rfl⟩
  have HAL : Hid (cc = aloneO o) := Lib.hid (by rw [hcc]; unfold aloneO; simp only [hk, Int.reduceEq, ↓reduceIte])
  have HCC := Lib.hid hcc
  clear hcc
  have HIN := Lib.hid h
  have HRI : Hid (OpIn w (aloneO o) none 0 0) := Lib.hid ⟨by rw [show (aloneO o).d = zeroD from by rw [← HAL.out, HCC.out]; rfl]; exact defAt_zeroO w, alone_z h.z⟩
  have HU : Hid (usedO o ↔ 0 ≤ o.n ∧ o.n ≤ 511) := Lib.hid (by unfold usedO nodeO; simp only [hk, ↓reduceIte])
  have e1 : (o.k == 1) = true := by rw [hk]; rfl
  clear hk h
  go_enter Tryz.func63, Tryz.ntmps63
  go_upto_region 1 with fail
  rw [← zero10 0 0]
  generalize ((w.alloc (.cells (oA o A n m) 34)).alloc (.cells (oA (zeroO 0 0) none 0 0) 34)) = w1 at I0 ⊢
  have x0 : w1.cell? ⟨w.heap.size, 0, none⟩ = some (.int .i64 o.k) := I0.out.2.1.cell 0
  have x1 : w1.cell? ⟨w.heap.size, 1, none⟩ = some (.int .i64 o.n) := I0.out.2.1.cell 1
  have I1 := Lib.hid (AlI.new I0.out o.k o.n)
  go_upto_region 2 with (refine wpList_store_row rfl 34 (.tmp 4) (.tmp 9) rfl _ (oA (zeroO o.k o.n) none 0 0) rfl rfl 34 _ (heap_alloc_new _ _) (info10 _ _ _ _) rfl (all10 _ _ _ _) ?_; rw [World.setRow_alloc_new])
  clear x0 x1 I0
  generalize w1.alloc (.cells (oA (zeroO o.k o.n) none 0 0) 34) = w2 at I1 ⊢
  generalize w1.heap.size = O at I1 ⊢
  have x0 : w2.cell? ⟨w.heap.size, 0, none⟩ = some (.int .i64 o.k) := I1.out.wb.cell 0
  go_upto_region 6 with fail
  clear x0
  have IC : Hid (AlI w o A n m O cc none 0 0 w2) := Lib.hid (by have := I1.out; rw [← HCC.out] at this; exact this)
  clear I1
  obtain ⟨L, hL⟩ : ∃ L, L = (oA cc none 0 0).toList := ⟨_, rfl⟩
  have HLA : Hid (L.toArray = oA cc none 0 0) := Lib.hid (by rw [hL])
  have hu := Tryz.underlying34
  have hi : (Tryz.prog.info? 34).map (·.size) = some L.length := by rw [hL]; exact info10 cc none 0 0
  have hi2 : (Tryz.prog.info? 34).map (·.size) = some L.toArray.size := by rw [HLA.out]; exact info10 cc none 0 0
  have ha2 : L.toArray.all (·.oneCell') = true := by rw [HLA.out]; exact all10 cc none 0 0
  have SY : Hid (∀ wx : World, Whole wx w.heap.size 34 (oA o A n m) → Whole wx O 34 (oA cc none 0 0) → (wx.rangeAt O 0 L ∧ wx.cell? ⟨w.heap.size, 1, none⟩ = some (.int .i64 o.n) ∧ True)) := Lib.hid (fun wx h1 h2 => ⟨fun i v hv => by rw [Nat.zero_add, h2.cell]; rw [hL, Array.getElem?_toList] at hv; exact hv, h1.cell 1, trivial⟩)
  clear hL
  have ID := Lib.hid (IC.out.keep (Below.refl _ _).drew)
  have SA := Lib.hid (SY.out _ ID.out.wb ID.out.wo)
  refine wp_region_held_drew (S := fun wx => wx.rangeAt O 0 L ∧ wx.cell? ⟨w.heap.size, 1, none⟩ = some (.int .i64 o.n) ∧ True) (by kernel_rfl) SA.out (fun hHeld => ?_)
  clear SA IC
  generalize w2.drew = wd0 at hHeld ID ⊢
  refine wpAnyH_take (i := 0) (v := _) rfl (by kernel_rfl) (by kernel_rfl) (by kernel_rfl) (fun _ _ _ h => h) (yieldsIf_load_mid (by rfl) _ _ rfl _ _ rfl _ _ (fun w hSw => hSw.1) hu rfl hi) (by assumption) ?_
  simp only [Act.put, List.getElem_toArray, List.getElem_cons_zero, List.setIfInBounds_toArray, List.set_cons_zero, List.set_cons_succ]
  by_cases h0 : 0 ≤ o.n
  · skip
    refine wpAnyH_take (i := 1) (v := ?_) rfl (by kernel_rfl) (by kernel_rfl) (by kernel_rfl) (fun _ _ _ h => h) (Or.inl ⟨by rfl, ?_⟩) (by assumption) ?_
    rotate_left
    · intro w hSw
      go_simp
      try with_reducible rfl
    simp only [Act.put, List.getElem_toArray, List.getElem_cons_succ, List.getElem_cons_zero, List.setIfInBounds_toArray, List.set_cons_zero, List.set_cons_succ]
    refine wpAnyH_take (i := 2) (v := ?_) rfl (by kernel_rfl) (by kernel_rfl) (by kernel_rfl) (fun _ _ _ h => h) (Or.inl ⟨by rfl, ?_⟩) (by assumption) ?_
    rotate_left
    · intro w hSw
      go_simp
      try with_reducible rfl
    simp only [Act.put, List.getElem_toArray, List.getElem_cons_succ, List.getElem_cons_zero, List.setIfInBounds_toArray, List.set_cons_zero, List.set_cons_succ]
    refine wpAnyH_take (i := 3) (v := ?_) rfl (by kernel_rfl) (by kernel_rfl) (by kernel_rfl) (fun _ _ _ h => h) (Or.inl ⟨by rfl, ?_⟩) (by assumption) ?_
    rotate_left
    · intro w hSw
      go_simp
      try with_reducible rfl
    simp only [Act.put, List.getElem_toArray, List.getElem_cons_succ, List.getElem_cons_zero, List.setIfInBounds_toArray, List.set_cons_zero, List.set_cons_succ]
    refine wpAnyH_take (i := 4) (v := ?_) rfl (by kernel_rfl) (by kernel_rfl) (by kernel_rfl) (fun _ _ _ h => h) (Or.inl ⟨by rfl, ?_⟩) (by assumption) ?_
    rotate_left
    · intro w hSw
      go_simp
      try with_reducible rfl
    simp only [Act.put, List.getElem_toArray, List.getElem_cons_succ, List.getElem_cons_zero, List.setIfInBounds_toArray, List.set_cons_zero, List.set_cons_succ]
    by_cases h1 : o.n < 512
    · skip
      refine wpAnyH_take (i := 5) (v := ?_) rfl (by kernel_rfl) (by kernel_rfl) (by kernel_rfl) (fun _ _ _ h => h) (Or.inl ⟨by rfl, ?_⟩) (by assumption) ?_
      rotate_left
      · intro w hSw
        go_simp
        try with_reducible rfl
      simp only [Act.put, List.getElem_toArray, List.getElem_cons_succ, List.getElem_cons_zero, List.setIfInBounds_toArray, List.set_cons_zero, List.set_cons_succ]
      refine wpAnyH_take (i := 6) (v := ?_) rfl (by kernel_rfl) (by kernel_rfl) (by kernel_rfl) (fun _ _ _ h => h) (Or.inl ⟨by rfl, ?_⟩) (by assumption) ?_
      rotate_left
      · intro w hSw
        go_simp
        try with_reducible rfl
      simp only [Act.put, List.getElem_toArray, List.getElem_cons_succ, List.getElem_cons_zero, List.setIfInBounds_toArray, List.set_cons_zero, List.set_cons_succ]
      refine wpAnyH_take (i := 7) (v := ?_) rfl (by kernel_rfl) (by kernel_rfl) (by kernel_rfl) (fun _ _ _ h => h) (Or.inl ⟨by rfl, ?_⟩) (by assumption) ?_
      rotate_left
      · intro w hSw
        go_simp
        try with_reducible rfl
      simp only [Act.put, List.getElem_toArray, List.getElem_cons_succ, List.getElem_cons_zero, List.setIfInBounds_toArray, List.set_cons_zero, List.set_cons_succ]
      refine wpAnyH_take (i := 8) (v := ?_) rfl (by kernel_rfl) (by kernel_rfl) (by kernel_rfl) (fun _ _ _ h => h) (Or.inl ⟨by rfl, ?_⟩) (by assumption) ?_
      rotate_left
      · intro w hSw
        go_simp
        try with_reducible rfl
      simp only [Act.put, List.getElem_toArray, List.getElem_cons_succ, List.getElem_cons_zero, List.setIfInBounds_toArray, List.set_cons_zero, List.set_cons_succ]
      have HQ : Hid (QU true o) := Lib.hid ⟨fun _ => HU.out.2 ⟨h0, by omega⟩, fun _ => rfl⟩
      refine wpAnyH_ready (rs := [9]) (by kernel_rfl) (by simp) ?_
      refine AllReadyH.cons rfl (fun K hK => ?_) AllReadyH.nil
      rw [if_pos (by rfl)]
      refine wp_store_row 34 (.tmp 2) (.tmp 16) (by rfl) (w.heap.size + 1) L.toArray (by rfl) (by rfl) 34 (oA (zeroO 0 0) none 0 0) ID.out.wr hi2 (by rw [HLA.out]; rfl) ha2 ?_
      refine hK.out _ _ ?_ (fun hHeld' => ?_)
      · exact SY.out _ (ID.out.wb.grown (setRow_grown _ _ _) (fun e => by have := Option.some.inj e; omega)) (ID.out.wo.grown (setRow_grown _ _ _) (fun e => by have := Option.some.inj e; have := ID.out.o; omega))
      clear hK K hHeld
      have hHeld := hHeld'
      clear hHeld'
      try simp only [Act.put, List.getElem_toArray, List.getElem_cons_succ, List.getElem_cons_zero]
      refine wpAnyH_take (i := 10) (v := ?_) rfl (by kernel_rfl) (by kernel_rfl) (by kernel_rfl) (fun _ _ _ h => h) (Or.inl ⟨by rfl, ?_⟩) (by assumption) ?_
      rotate_left
      · intro w hSw
        go_simp
        try with_reducible rfl
      simp only [Act.put, List.getElem_toArray, List.getElem_cons_succ, List.getElem_cons_zero, List.setIfInBounds_toArray, List.set_cons_zero, List.set_cons_succ]
      refine wpAnyH_done (by kernel_rfl) ?_ _
      clear hHeld
      go_wp2_with fail
      refine bodyPost_ret (results_row2 (by rfl) _ _ (w.heap.size + 1) 34 L.toArray (0, 0) _ (by rfl) (setRow_heap _ _ _ _ _ _ ID.out.wr) hu (by rfl) hi2 (.bool true) (by rfl)) (by rfl) ?_
      rw [HLA.out]
      exact alo_end HAL.out HQ.out HRI.out ⟨rfl, below_row ID.out.bl (Nat.le_succ _) _⟩
    · skip
      refine wpAnyH_take (i := 5) (v := ?_) rfl (by kernel_rfl) (by kernel_rfl) (by kernel_rfl) (fun _ _ _ h => h) (Or.inl ⟨by rfl, ?_⟩) (by assumption) ?_
      rotate_left
      · intro w hSw
        go_simp
        try with_reducible rfl
      simp only [Act.put, List.getElem_toArray, List.getElem_cons_succ, List.getElem_cons_zero, List.setIfInBounds_toArray, List.set_cons_zero, List.set_cons_succ]
      refine wpAnyH_take (i := 6) (v := ?_) rfl (by kernel_rfl) (by kernel_rfl) (by kernel_rfl) (fun _ _ _ h => h) (Or.inl ⟨by rfl, ?_⟩) (by assumption) ?_
      rotate_left
      · intro w hSw
        go_simp
        try with_reducible rfl
      simp only [Act.put, List.getElem_toArray, List.getElem_cons_succ, List.getElem_cons_zero, List.setIfInBounds_toArray, List.set_cons_zero, List.set_cons_succ]
      refine wpAnyH_take (i := 7) (v := ?_) rfl (by kernel_rfl) (by kernel_rfl) (by kernel_rfl) (fun _ _ _ h => h) (Or.inl ⟨by rfl, ?_⟩) (by assumption) ?_
      rotate_left
      · intro w hSw
        go_simp
        try with_reducible rfl
      simp only [Act.put, List.getElem_toArray, List.getElem_cons_succ, List.getElem_cons_zero, List.setIfInBounds_toArray, List.set_cons_zero, List.set_cons_succ]
      refine wpAnyH_take (i := 8) (v := ?_) rfl (by kernel_rfl) (by kernel_rfl) (by kernel_rfl) (fun _ _ _ h => h) (Or.inl ⟨by rfl, ?_⟩) (by assumption) ?_
      rotate_left
      · intro w hSw
        go_simp
        try with_reducible rfl
      simp only [Act.put, List.getElem_toArray, List.getElem_cons_succ, List.getElem_cons_zero, List.setIfInBounds_toArray, List.set_cons_zero, List.set_cons_succ]
      have HQ : Hid (QU false o) := Lib.hid ⟨fun e => (by cases e), fun e => absurd (HU.out.1 e) (fun hh => h1 (by have := hh.2; omega))⟩
      refine wpAnyH_ready (rs := [9]) (by kernel_rfl) (by simp) ?_
      refine AllReadyH.cons rfl (fun K hK => ?_) AllReadyH.nil
      rw [if_pos (by rfl)]
      refine wp_store_row 34 (.tmp 2) (.tmp 16) (by rfl) (w.heap.size + 1) L.toArray (by rfl) (by rfl) 34 (oA (zeroO 0 0) none 0 0) ID.out.wr hi2 (by rw [HLA.out]; rfl) ha2 ?_
      refine hK.out _ _ ?_ (fun hHeld' => ?_)
      · exact SY.out _ (ID.out.wb.grown (setRow_grown _ _ _) (fun e => by have := Option.some.inj e; omega)) (ID.out.wo.grown (setRow_grown _ _ _) (fun e => by have := Option.some.inj e; have := ID.out.o; omega))
      clear hK K hHeld
      have hHeld := hHeld'
      clear hHeld'
      try simp only [Act.put, List.getElem_toArray, List.getElem_cons_succ, List.getElem_cons_zero]
      refine wpAnyH_take (i := 10) (v := ?_) rfl (by kernel_rfl) (by kernel_rfl) (by kernel_rfl) (fun _ _ _ h => h) (Or.inl ⟨by rfl, ?_⟩) (by assumption) ?_
      rotate_left
      · intro w hSw
        go_simp
        try with_reducible rfl
      simp only [Act.put, List.getElem_toArray, List.getElem_cons_succ, List.getElem_cons_zero, List.setIfInBounds_toArray, List.set_cons_zero, List.set_cons_succ]
      refine wpAnyH_done (by kernel_rfl) ?_ _
      clear hHeld
      go_wp2_with fail
      refine bodyPost_ret (results_row2 (by rfl) _ _ (w.heap.size + 1) 34 L.toArray (0, 0) _ (by rfl) (setRow_heap _ _ _ _ _ _ ID.out.wr) hu (by rfl) hi2 (.bool false) (by rfl)) (by rfl) ?_
      rw [HLA.out]
      exact alo_end HAL.out HQ.out HRI.out ⟨rfl, below_row ID.out.bl (Nat.le_succ _) _⟩
  · skip
    refine wpAnyH_take (i := 1) (v := ?_) rfl (by kernel_rfl) (by kernel_rfl) (by kernel_rfl) (fun _ _ _ h => h) (Or.inl ⟨by rfl, ?_⟩) (by assumption) ?_
    rotate_left
    · intro w hSw
      go_simp
      try with_reducible rfl
    simp only [Act.put, List.getElem_toArray, List.getElem_cons_succ, List.getElem_cons_zero, List.setIfInBounds_toArray, List.set_cons_zero, List.set_cons_succ]
    refine wpAnyH_take (i := 2) (v := ?_) rfl (by kernel_rfl) (by kernel_rfl) (by kernel_rfl) (fun _ _ _ h => h) (Or.inl ⟨by rfl, ?_⟩) (by assumption) ?_
    rotate_left
    · intro w hSw
      go_simp
      try with_reducible rfl
    simp only [Act.put, List.getElem_toArray, List.getElem_cons_succ, List.getElem_cons_zero, List.setIfInBounds_toArray, List.set_cons_zero, List.set_cons_succ]
    refine wpAnyH_take (i := 3) (v := ?_) rfl (by kernel_rfl) (by kernel_rfl) (by kernel_rfl) (fun _ _ _ h => h) (Or.inl ⟨by rfl, ?_⟩) (by assumption) ?_
    rotate_left
    · intro w hSw
      go_simp
      try with_reducible rfl
    simp only [Act.put, List.getElem_toArray, List.getElem_cons_succ, List.getElem_cons_zero, List.setIfInBounds_toArray, List.set_cons_zero, List.set_cons_succ]
    refine wpAnyH_take (i := 4) (v := ?_) rfl (by kernel_rfl) (by kernel_rfl) (by kernel_rfl) (fun _ _ _ h => h) (Or.inl ⟨by rfl, ?_⟩) (by assumption) ?_
    rotate_left
    · intro w hSw
      go_simp
      try with_reducible rfl
    simp only [Act.put, List.getElem_toArray, List.getElem_cons_succ, List.getElem_cons_zero, List.setIfInBounds_toArray, List.set_cons_zero, List.set_cons_succ]
    refine wpAnyH_take (i := 5) (v := undef) rfl (by kernel_rfl) (by kernel_rfl) (by kernel_rfl) (fun _ _ _ h => h) (Or.inr ⟨by rfl, rfl⟩) (by assumption) ?_
    simp only [Act.put, List.getElem_toArray, List.getElem_cons_succ, List.getElem_cons_zero, List.setIfInBounds_toArray, List.set_cons_zero, List.set_cons_succ]
    refine wpAnyH_take (i := 6) (v := undef) rfl (by kernel_rfl) (by kernel_rfl) (by kernel_rfl) (fun _ _ _ h => h) (Or.inr ⟨by rfl, rfl⟩) (by assumption) ?_
    simp only [Act.put, List.getElem_toArray, List.getElem_cons_succ, List.getElem_cons_zero, List.setIfInBounds_toArray, List.set_cons_zero, List.set_cons_succ]
    refine wpAnyH_take (i := 7) (v := undef) rfl (by kernel_rfl) (by kernel_rfl) (by kernel_rfl) (fun _ _ _ h => h) (Or.inr ⟨by rfl, rfl⟩) (by assumption) ?_
    simp only [Act.put, List.getElem_toArray, List.getElem_cons_succ, List.getElem_cons_zero, List.setIfInBounds_toArray, List.set_cons_zero, List.set_cons_succ]
    refine wpAnyH_take (i := 8) (v := ?_) rfl (by kernel_rfl) (by kernel_rfl) (by kernel_rfl) (fun _ _ _ h => h) (Or.inl ⟨by rfl, ?_⟩) (by assumption) ?_
    rotate_left
    · intro w hSw
      go_simp
      try with_reducible rfl
    simp only [Act.put, List.getElem_toArray, List.getElem_cons_succ, List.getElem_cons_zero, List.setIfInBounds_toArray, List.set_cons_zero, List.set_cons_succ]
    have HQ : Hid (QU false o) := Lib.hid ⟨fun e => (by cases e), fun e => absurd (HU.out.1 e) (fun hh => h0 (hh.1))⟩
    refine wpAnyH_ready (rs := [9]) (by kernel_rfl) (by simp) ?_
    refine AllReadyH.cons rfl (fun K hK => ?_) AllReadyH.nil
    rw [if_pos (by rfl)]
    refine wp_store_row 34 (.tmp 2) (.tmp 16) (by rfl) (w.heap.size + 1) L.toArray (by rfl) (by rfl) 34 (oA (zeroO 0 0) none 0 0) ID.out.wr hi2 (by rw [HLA.out]; rfl) ha2 ?_
    refine hK.out _ _ ?_ (fun hHeld' => ?_)
    · exact SY.out _ (ID.out.wb.grown (setRow_grown _ _ _) (fun e => by have := Option.some.inj e; omega)) (ID.out.wo.grown (setRow_grown _ _ _) (fun e => by have := Option.some.inj e; have := ID.out.o; omega))
    clear hK K hHeld
    have hHeld := hHeld'
    clear hHeld'
    try simp only [Act.put, List.getElem_toArray, List.getElem_cons_succ, List.getElem_cons_zero]
    refine wpAnyH_take (i := 10) (v := ?_) rfl (by kernel_rfl) (by kernel_rfl) (by kernel_rfl) (fun _ _ _ h => h) (Or.inl ⟨by rfl, ?_⟩) (by assumption) ?_
    rotate_left
    · intro w hSw
      go_simp
      try with_reducible rfl
    simp only [Act.put, List.getElem_toArray, List.getElem_cons_succ, List.getElem_cons_zero, List.setIfInBounds_toArray, List.set_cons_zero, List.set_cons_succ]
    refine wpAnyH_done (by kernel_rfl) ?_ _
    clear hHeld
    go_wp2_with fail
    refine bodyPost_ret (results_row2 (by rfl) _ _ (w.heap.size + 1) 34 L.toArray (0, 0) _ (by rfl) (setRow_heap _ _ _ _ _ _ ID.out.wr) hu (by rfl) hi2 (.bool false) (by rfl)) (by rfl) ?_
    rw [HLA.out]
    exact alo_end HAL.out HQ.out HRI.out ⟨rfl, below_row ID.out.bl (Nat.le_succ _) _⟩
set_option maxRecDepth 100000 in
set_option maxHeartbeats 8000000 in
theorem used_2 (o : Ov) (A : Option Addr) (n m : Nat) (w : World) (h : OpIn w o A n m) (hk : o.k = 2) :
    Calls Tryz.prog 63 #[.agg (oA o A n m)] w fun e w' => AloR o w w' e := by
  have I0 := Lib.hid (al_start w o A n m)
  obtain ⟨cc, hcc⟩ : ∃ cc : Ov, cc = zeroO o.k o.n := ⟨_, rfl⟩
  have HAL : Hid (cc = aloneO o) := Lib.hid (by rw [hcc]; unfold aloneO; simp only [hk, Int.reduceEq, ↓reduceIte])
  have HCC := Lib.hid hcc
  clear hcc
  have HIN := Lib.hid h
  have HRI : Hid (OpIn w (aloneO o) none 0 0) := Lib.hid ⟨by rw [show (aloneO o).d = zeroD from by rw [← HAL.out, HCC.out]; rfl]; exact defAt_zeroO w, alone_z h.z⟩
  have HU : Hid (usedO o ↔ 0 ≤ o.n ∧ o.n ≤ 511) := Lib.hid (by unfold usedO nodeO; simp only [hk, Int.reduceEq, ↓reduceIte])
  have e1 : (o.k == 1) = false := by rw [hk]; rfl
  have e2 : (o.k == 2) = true := by rw [hk]; rfl
  clear hk h
  go_enter Tryz.func63, Tryz.ntmps63
  go_upto_region 1 with fail
  rw [← zero10 0 0]
  generalize ((w.alloc (.cells (oA o A n m) 34)).alloc (.cells (oA (zeroO 0 0) none 0 0) 34)) = w1 at I0 ⊢
  have x0 : w1.cell? ⟨w.heap.size, 0, none⟩ = some (.int .i64 o.k) := I0.out.2.1.cell 0
  have x1 : w1.cell? ⟨w.heap.size, 1, none⟩ = some (.int .i64 o.n) := I0.out.2.1.cell 1
  have I1 := Lib.hid (AlI.new I0.out o.k o.n)
  go_upto_region 2 with (refine wpList_store_row rfl 34 (.tmp 4) (.tmp 9) rfl _ (oA (zeroO o.k o.n) none 0 0) rfl rfl 34 _ (heap_alloc_new _ _) (info10 _ _ _ _) rfl (all10 _ _ _ _) ?_; rw [World.setRow_alloc_new])
  clear x0 x1 I0
  generalize w1.alloc (.cells (oA (zeroO o.k o.n) none 0 0) 34) = w2 at I1 ⊢
  generalize w1.heap.size = O at I1 ⊢
  have x0 : w2.cell? ⟨w.heap.size, 0, none⟩ = some (.int .i64 o.k) := I1.out.wb.cell 0
  go_upto_region 6 with fail
  clear x0
  have IC : Hid (AlI w o A n m O cc none 0 0 w2) := Lib.hid (by have := I1.out; rw [← HCC.out] at this; exact this)
  clear I1
  obtain ⟨L, hL⟩ : ∃ L, L = (oA cc none 0 0).toList := ⟨_, rfl⟩
  have HLA : Hid (L.toArray = oA cc none 0 0) := Lib.hid (by rw [hL])
  have hu := Tryz.underlying34
  have hi : (Tryz.prog.info? 34).map (·.size) = some L.length := by rw [hL]; exact info10 cc none 0 0
  have hi2 : (Tryz.prog.info? 34).map (·.size) = some L.toArray.size := by rw [HLA.out]; exact info10 cc none 0 0
  have ha2 : L.toArray.all (·.oneCell') = true := by rw [HLA.out]; exact all10 cc none 0 0
  have SY : Hid (∀ wx : World, Whole wx w.heap.size 34 (oA o A n m) → Whole wx O 34 (oA cc none 0 0) → (wx.rangeAt O 0 L ∧ wx.cell? ⟨w.heap.size, 1, none⟩ = some (.int .i64 o.n) ∧ True)) := Lib.hid (fun wx h1 h2 => ⟨fun i v hv => by rw [Nat.zero_add, h2.cell]; rw [hL, Array.getElem?_toList] at hv; exact hv, h1.cell 1, trivial⟩)
  clear hL
  have ID := Lib.hid (IC.out.keep (Below.refl _ _).drew)
  have SA := Lib.hid (SY.out _ ID.out.wb ID.out.wo)
  refine wp_region_held_drew (S := fun wx => wx.rangeAt O 0 L ∧ wx.cell? ⟨w.heap.size, 1, none⟩ = some (.int .i64 o.n) ∧ True) (by kernel_rfl) SA.out (fun hHeld => ?_)
  clear SA IC
  generalize w2.drew = wd0 at hHeld ID ⊢
  refine wpAnyH_take (i := 0) (v := _) rfl (by kernel_rfl) (by kernel_rfl) (by kernel_rfl) (fun _ _ _ h => h) (yieldsIf_load_mid (by rfl) _ _ rfl _ _ rfl _ _ (fun w hSw => hSw.1) hu rfl hi) (by assumption) ?_
  simp only [Act.put, List.getElem_toArray, List.getElem_cons_zero, List.setIfInBounds_toArray, List.set_cons_zero, List.set_cons_succ]
  by_cases h0 : 0 ≤ o.n
  · skip
    refine wpAnyH_take (i := 1) (v := ?_) rfl (by kernel_rfl) (by kernel_rfl) (by kernel_rfl) (fun _ _ _ h => h) (Or.inl ⟨by rfl, ?_⟩) (by assumption) ?_
    rotate_left
    · intro w hSw
      go_simp
      try with_reducible rfl
    simp only [Act.put, List.getElem_toArray, List.getElem_cons_succ, List.getElem_cons_zero, List.setIfInBounds_toArray, List.set_cons_zero, List.set_cons_succ]
    refine wpAnyH_take (i := 2) (v := ?_) rfl (by kernel_rfl) (by kernel_rfl) (by kernel_rfl) (fun _ _ _ h => h) (Or.inl ⟨by rfl, ?_⟩) (by assumption) ?_
    rotate_left
    · intro w hSw
      go_simp
      try with_reducible rfl
    simp only [Act.put, List.getElem_toArray, List.getElem_cons_succ, List.getElem_cons_zero, List.setIfInBounds_toArray, List.set_cons_zero, List.set_cons_succ]
    refine wpAnyH_take (i := 3) (v := ?_) rfl (by kernel_rfl) (by kernel_rfl) (by kernel_rfl) (fun _ _ _ h => h) (Or.inl ⟨by rfl, ?_⟩) (by assumption) ?_
    rotate_left
    · intro w hSw
      go_simp
      try with_reducible rfl
    simp only [Act.put, List.getElem_toArray, List.getElem_cons_succ, List.getElem_cons_zero, List.setIfInBounds_toArray, List.set_cons_zero, List.set_cons_succ]
    refine wpAnyH_take (i := 4) (v := ?_) rfl (by kernel_rfl) (by kernel_rfl) (by kernel_rfl) (fun _ _ _ h => h) (Or.inl ⟨by rfl, ?_⟩) (by assumption) ?_
    rotate_left
    · intro w hSw
      go_simp
      try with_reducible rfl
    simp only [Act.put, List.getElem_toArray, List.getElem_cons_succ, List.getElem_cons_zero, List.setIfInBounds_toArray, List.set_cons_zero, List.set_cons_succ]
    by_cases h1 : o.n < 512
    · skip
      refine wpAnyH_take (i := 5) (v := ?_) rfl (by kernel_rfl) (by kernel_rfl) (by kernel_rfl) (fun _ _ _ h => h) (Or.inl ⟨by rfl, ?_⟩) (by assumption) ?_
      rotate_left
      · intro w hSw
        go_simp
        try with_reducible rfl
      simp only [Act.put, List.getElem_toArray, List.getElem_cons_succ, List.getElem_cons_zero, List.setIfInBounds_toArray, List.set_cons_zero, List.set_cons_succ]
      refine wpAnyH_take (i := 6) (v := ?_) rfl (by kernel_rfl) (by kernel_rfl) (by kernel_rfl) (fun _ _ _ h => h) (Or.inl ⟨by rfl, ?_⟩) (by assumption) ?_
      rotate_left
      · intro w hSw
        go_simp
        try with_reducible rfl
      simp only [Act.put, List.getElem_toArray, List.getElem_cons_succ, List.getElem_cons_zero, List.setIfInBounds_toArray, List.set_cons_zero, List.set_cons_succ]
      refine wpAnyH_take (i := 7) (v := ?_) rfl (by kernel_rfl) (by kernel_rfl) (by kernel_rfl) (fun _ _ _ h => h) (Or.inl ⟨by rfl, ?_⟩) (by assumption) ?_
      rotate_left
      · intro w hSw
        go_simp
        try with_reducible rfl
      simp only [Act.put, List.getElem_toArray, List.getElem_cons_succ, List.getElem_cons_zero, List.setIfInBounds_toArray, List.set_cons_zero, List.set_cons_succ]
      refine wpAnyH_take (i := 8) (v := ?_) rfl (by kernel_rfl) (by kernel_rfl) (by kernel_rfl) (fun _ _ _ h => h) (Or.inl ⟨by rfl, ?_⟩) (by assumption) ?_
      rotate_left
      · intro w hSw
        go_simp
        try with_reducible rfl
      simp only [Act.put, List.getElem_toArray, List.getElem_cons_succ, List.getElem_cons_zero, List.setIfInBounds_toArray, List.set_cons_zero, List.set_cons_succ]
      have HQ : Hid (QU true o) := Lib.hid ⟨fun _ => HU.out.2 ⟨h0, by omega⟩, fun _ => rfl⟩
      refine wpAnyH_ready (rs := [9]) (by kernel_rfl) (by simp) ?_
      refine AllReadyH.cons rfl (fun K hK => ?_) AllReadyH.nil
      rw [if_pos (by rfl)]
      refine wp_store_row 34 (.tmp 2) (.tmp 16) (by rfl) (w.heap.size + 1) L.toArray (by rfl) (by rfl) 34 (oA (zeroO 0 0) none 0 0) ID.out.wr hi2 (by rw [HLA.out]; rfl) ha2 ?_
      refine hK.out _ _ ?_ (fun hHeld' => ?_)
      · exact SY.out _ (ID.out.wb.grown (setRow_grown _ _ _) (fun e => by have := Option.some.inj e; omega)) (ID.out.wo.grown (setRow_grown _ _ _) (fun e => by have := Option.some.inj e; have := ID.out.o; omega))
      clear hK K hHeld
      have hHeld := hHeld'
      clear hHeld'
      try simp only [Act.put, List.getElem_toArray, List.getElem_cons_succ, List.getElem_cons_zero]
      refine wpAnyH_take (i := 10) (v := ?_) rfl (by kernel_rfl) (by kernel_rfl) (by kernel_rfl) (fun _ _ _ h => h) (Or.inl ⟨by rfl, ?_⟩) (by assumption) ?_
      rotate_left
      · intro w hSw
        go_simp
        try with_reducible rfl
      simp only [Act.put, List.getElem_toArray, List.getElem_cons_succ, List.getElem_cons_zero, List.setIfInBounds_toArray, List.set_cons_zero, List.set_cons_succ]
      refine wpAnyH_done (by kernel_rfl) ?_ _
      clear hHeld
      go_wp2_with fail
      refine bodyPost_ret (results_row2 (by rfl) _ _ (w.heap.size + 1) 34 L.toArray (0, 0) _ (by rfl) (setRow_heap _ _ _ _ _ _ ID.out.wr) hu (by rfl) hi2 (.bool true) (by rfl)) (by rfl) ?_
      rw [HLA.out]
      exact alo_end HAL.out HQ.out HRI.out ⟨rfl, below_row ID.out.bl (Nat.le_succ _) _⟩
    · skip
      refine wpAnyH_take (i := 5) (v := ?_) rfl (by kernel_rfl) (by kernel_rfl) (by kernel_rfl) (fun _ _ _ h => h) (Or.inl ⟨by rfl, ?_⟩) (by assumption) ?_
      rotate_left
      · intro w hSw
        go_simp
        try with_reducible rfl
      simp only [Act.put, List.getElem_toArray, List.getElem_cons_succ, List.getElem_cons_zero, List.setIfInBounds_toArray, List.set_cons_zero, List.set_cons_succ]
      refine wpAnyH_take (i := 6) (v := ?_) rfl (by kernel_rfl) (by kernel_rfl) (by kernel_rfl) (fun _ _ _ h => h) (Or.inl ⟨by rfl, ?_⟩) (by assumption) ?_
      rotate_left
      · intro w hSw
        go_simp
        try with_reducible rfl
      simp only [Act.put, List.getElem_toArray, List.getElem_cons_succ, List.getElem_cons_zero, List.setIfInBounds_toArray, List.set_cons_zero, List.set_cons_succ]
      refine wpAnyH_take (i := 7) (v := ?_) rfl (by kernel_rfl) (by kernel_rfl) (by kernel_rfl) (fun _ _ _ h => h) (Or.inl ⟨by rfl, ?_⟩) (by assumption) ?_
      rotate_left
      · intro w hSw
        go_simp
        try with_reducible rfl
      simp only [Act.put, List.getElem_toArray, List.getElem_cons_succ, List.getElem_cons_zero, List.setIfInBounds_toArray, List.set_cons_zero, List.set_cons_succ]
      refine wpAnyH_take (i := 8) (v := ?_) rfl (by kernel_rfl) (by kernel_rfl) (by kernel_rfl) (fun _ _ _ h => h) (Or.inl ⟨by rfl, ?_⟩) (by assumption) ?_
      rotate_left
      · intro w hSw
        go_simp
        try with_reducible rfl
      simp only [Act.put, List.getElem_toArray, List.getElem_cons_succ, List.getElem_cons_zero, List.setIfInBounds_toArray, List.set_cons_zero, List.set_cons_succ]
      have HQ : Hid (QU false o) := Lib.hid ⟨fun e => (by cases e), fun e => absurd (HU.out.1 e) (fun hh => h1 (by have := hh.2; omega))⟩
      refine wpAnyH_ready (rs := [9]) (by kernel_rfl) (by simp) ?_
      refine AllReadyH.cons rfl (fun K hK => ?_) AllReadyH.nil
      rw [if_pos (by rfl)]
      refine wp_store_row 34 (.tmp 2) (.tmp 16) (by rfl) (w.heap.size + 1) L.toArray (by rfl) (by rfl) 34 (oA (zeroO 0 0) none 0 0) ID.out.wr hi2 (by rw [HLA.out]; rfl) ha2 ?_
      refine hK.out _ _ ?_ (fun hHeld' => ?_)
      · exact SY.out _ (ID.out.wb.grown (setRow_grown _ _ _) (fun e => by have := Option.some.inj e; omega)) (ID.out.wo.grown (setRow_grown _ _ _) (fun e => by have := Option.some.inj e; have := ID.out.o; omega))
      clear hK K hHeld
      have hHeld := hHeld'
      clear hHeld'
      try simp only [Act.put, List.getElem_toArray, List.getElem_cons_succ, List.getElem_cons_zero]
      refine wpAnyH_take (i := 10) (v := ?_) rfl (by kernel_rfl) (by kernel_rfl) (by kernel_rfl) (fun _ _ _ h => h) (Or.inl ⟨by rfl, ?_⟩) (by assumption) ?_
      rotate_left
      · intro w hSw
        go_simp
        try with_reducible rfl
      simp only [Act.put, List.getElem_toArray, List.getElem_cons_succ, List.getElem_cons_zero, List.setIfInBounds_toArray, List.set_cons_zero, List.set_cons_succ]
      refine wpAnyH_done (by kernel_rfl) ?_ _
      clear hHeld
      go_wp2_with fail
      refine bodyPost_ret (results_row2 (by rfl) _ _ (w.heap.size + 1) 34 L.toArray (0, 0) _ (by rfl) (setRow_heap _ _ _ _ _ _ ID.out.wr) hu (by rfl) hi2 (.bool false) (by rfl)) (by rfl) ?_
      rw [HLA.out]
      exact alo_end HAL.out HQ.out HRI.out ⟨rfl, below_row ID.out.bl (Nat.le_succ _) _⟩
  · skip
    refine wpAnyH_take (i := 1) (v := ?_) rfl (by kernel_rfl) (by kernel_rfl) (by kernel_rfl) (fun _ _ _ h => h) (Or.inl ⟨by rfl, ?_⟩) (by assumption) ?_
    rotate_left
    · intro w hSw
      go_simp
      try with_reducible rfl
    simp only [Act.put, List.getElem_toArray, List.getElem_cons_succ, List.getElem_cons_zero, List.setIfInBounds_toArray, List.set_cons_zero, List.set_cons_succ]
    refine wpAnyH_take (i := 2) (v := ?_) rfl (by kernel_rfl) (by kernel_rfl) (by kernel_rfl) (fun _ _ _ h => h) (Or.inl ⟨by rfl, ?_⟩) (by assumption) ?_
    rotate_left
    · intro w hSw
      go_simp
      try with_reducible rfl
    simp only [Act.put, List.getElem_toArray, List.getElem_cons_succ, List.getElem_cons_zero, List.setIfInBounds_toArray, List.set_cons_zero, List.set_cons_succ]
    refine wpAnyH_take (i := 3) (v := ?_) rfl (by kernel_rfl) (by kernel_rfl) (by kernel_rfl) (fun _ _ _ h => h) (Or.inl ⟨by rfl, ?_⟩) (by assumption) ?_
    rotate_left
    · intro w hSw
      go_simp
      try with_reducible rfl
    simp only [Act.put, List.getElem_toArray, List.getElem_cons_succ, List.getElem_cons_zero, List.setIfInBounds_toArray, List.set_cons_zero, List.set_cons_succ]
    refine wpAnyH_take (i := 4) (v := ?_) rfl (by kernel_rfl) (by kernel_rfl) (by kernel_rfl) (fun _ _ _ h => h) (Or.inl ⟨by rfl, ?_⟩) (by assumption) ?_
    rotate_left
    · intro w hSw
      go_simp
      try with_reducible rfl
    simp only [Act.put, List.getElem_toArray, List.getElem_cons_succ, List.getElem_cons_zero, List.setIfInBounds_toArray, List.set_cons_zero, List.set_cons_succ]
    refine wpAnyH_take (i := 5) (v := undef) rfl (by kernel_rfl) (by kernel_rfl) (by kernel_rfl) (fun _ _ _ h => h) (Or.inr ⟨by rfl, rfl⟩) (by assumption) ?_
    simp only [Act.put, List.getElem_toArray, List.getElem_cons_succ, List.getElem_cons_zero, List.setIfInBounds_toArray, List.set_cons_zero, List.set_cons_succ]
    refine wpAnyH_take (i := 6) (v := undef) rfl (by kernel_rfl) (by kernel_rfl) (by kernel_rfl) (fun _ _ _ h => h) (Or.inr ⟨by rfl, rfl⟩) (by assumption) ?_
    simp only [Act.put, List.getElem_toArray, List.getElem_cons_succ, List.getElem_cons_zero, List.setIfInBounds_toArray, List.set_cons_zero, List.set_cons_succ]
    refine wpAnyH_take (i := 7) (v := undef) rfl (by kernel_rfl) (by kernel_rfl) (by kernel_rfl) (fun _ _ _ h => h) (Or.inr ⟨by rfl, rfl⟩) (by assumption) ?_
    simp only [Act.put, List.getElem_toArray, List.getElem_cons_succ, List.getElem_cons_zero, List.setIfInBounds_toArray, List.set_cons_zero, List.set_cons_succ]
    refine wpAnyH_take (i := 8) (v := ?_) rfl (by kernel_rfl) (by kernel_rfl) (by kernel_rfl) (fun _ _ _ h => h) (Or.inl ⟨by rfl, ?_⟩) (by assumption) ?_
    rotate_left
    · intro w hSw
      go_simp
      try with_reducible rfl
    simp only [Act.put, List.getElem_toArray, List.getElem_cons_succ, List.getElem_cons_zero, List.setIfInBounds_toArray, List.set_cons_zero, List.set_cons_succ]
    have HQ : Hid (QU false o) := Lib.hid ⟨fun e => (by cases e), fun e => absurd (HU.out.1 e) (fun hh => h0 (hh.1))⟩
    refine wpAnyH_ready (rs := [9]) (by kernel_rfl) (by simp) ?_
    refine AllReadyH.cons rfl (fun K hK => ?_) AllReadyH.nil
    rw [if_pos (by rfl)]
    refine wp_store_row 34 (.tmp 2) (.tmp 16) (by rfl) (w.heap.size + 1) L.toArray (by rfl) (by rfl) 34 (oA (zeroO 0 0) none 0 0) ID.out.wr hi2 (by rw [HLA.out]; rfl) ha2 ?_
    refine hK.out _ _ ?_ (fun hHeld' => ?_)
    · exact SY.out _ (ID.out.wb.grown (setRow_grown _ _ _) (fun e => by have := Option.some.inj e; omega)) (ID.out.wo.grown (setRow_grown _ _ _) (fun e => by have := Option.some.inj e; have := ID.out.o; omega))
    clear hK K hHeld
    have hHeld := hHeld'
    clear hHeld'
    try simp only [Act.put, List.getElem_toArray, List.getElem_cons_succ, List.getElem_cons_zero]
    refine wpAnyH_take (i := 10) (v := ?_) rfl (by kernel_rfl) (by kernel_rfl) (by kernel_rfl) (fun _ _ _ h => h) (Or.inl ⟨by rfl, ?_⟩) (by assumption) ?_
    rotate_left
    · intro w hSw
      go_simp
      try with_reducible rfl
    simp only [Act.put, List.getElem_toArray, List.getElem_cons_succ, List.getElem_cons_zero, List.setIfInBounds_toArray, List.set_cons_zero, List.set_cons_succ]
    refine wpAnyH_done (by kernel_rfl) ?_ _
    clear hHeld
    go_wp2_with fail
    refine bodyPost_ret (results_row2 (by rfl) _ _ (w.heap.size + 1) 34 L.toArray (0, 0) _ (by rfl) (setRow_heap _ _ _ _ _ _ ID.out.wr) hu (by rfl) hi2 (.bool false) (by rfl)) (by rfl) ?_
    rw [HLA.out]
    exact alo_end HAL.out HQ.out HRI.out ⟨rfl, below_row ID.out.bl (Nat.le_succ _) _⟩
set_option maxRecDepth 100000 in
set_option maxHeartbeats 8000000 in
theorem used_3 (o : Ov) (A : Option Addr) (n m : Nat) (w : World) (h : OpIn w o A n m) (hk : o.k = 3) :
    Calls Tryz.prog 63 #[.agg (oA o A n m)] w fun e w' => AloR o w w' e := by
  have I0 := Lib.hid (al_start w o A n m)
  obtain ⟨cc, hcc⟩ : ∃ cc : Ov, cc = zeroO o.k o.n := ⟨_, rfl⟩
  have HAL : Hid (cc = aloneO o) := Lib.hid (by rw [hcc]; unfold aloneO; simp only [hk, Int.reduceEq, ↓reduceIte])
  have HCC := Lib.hid hcc
  clear hcc
  have HIN := Lib.hid h
  have HRI : Hid (OpIn w (aloneO o) none 0 0) := Lib.hid ⟨by rw [show (aloneO o).d = zeroD from by rw [← HAL.out, HCC.out]; rfl]; exact defAt_zeroO w, alone_z h.z⟩
  have HU : Hid (usedO o ↔ 0 ≤ o.n ∧ o.n ≤ 511) := Lib.hid (by unfold usedO nodeO; simp only [hk, Int.reduceEq, ↓reduceIte])
  have e1 : (o.k == 1) = false := by rw [hk]; rfl
  have e2 : (o.k == 2) = false := by rw [hk]; rfl
  have e3 : (o.k == 3) = true := by rw [hk]; rfl
  clear hk h
  go_enter Tryz.func63, Tryz.ntmps63
  go_upto_region 1 with fail
  rw [← zero10 0 0]
  generalize ((w.alloc (.cells (oA o A n m) 34)).alloc (.cells (oA (zeroO 0 0) none 0 0) 34)) = w1 at I0 ⊢
  have x0 : w1.cell? ⟨w.heap.size, 0, none⟩ = some (.int .i64 o.k) := I0.out.2.1.cell 0
  have x1 : w1.cell? ⟨w.heap.size, 1, none⟩ = some (.int .i64 o.n) := I0.out.2.1.cell 1
  have I1 := Lib.hid (AlI.new I0.out o.k o.n)
  go_upto_region 2 with (refine wpList_store_row rfl 34 (.tmp 4) (.tmp 9) rfl _ (oA (zeroO o.k o.n) none 0 0) rfl rfl 34 _ (heap_alloc_new _ _) (info10 _ _ _ _) rfl (all10 _ _ _ _) ?_; rw [World.setRow_alloc_new])
  clear x0 x1 I0
  generalize w1.alloc (.cells (oA (zeroO o.k o.n) none 0 0) 34) = w2 at I1 ⊢
  generalize w1.heap.size = O at I1 ⊢
  have x0 : w2.cell? ⟨w.heap.size, 0, none⟩ = some (.int .i64 o.k) := I1.out.wb.cell 0
  go_upto_region 6 with fail
  clear x0
  have IC : Hid (AlI w o A n m O cc none 0 0 w2) := Lib.hid (by have := I1.out; rw [← HCC.out] at this; exact this)
  clear I1
  obtain ⟨L, hL⟩ : ∃ L, L = (oA cc none 0 0).toList := ⟨_, rfl⟩
  have HLA : Hid (L.toArray = oA cc none 0 0) := Lib.hid (by rw [hL])
  have hu := Tryz.underlying34
  have hi : (Tryz.prog.info? 34).map (·.size) = some L.length := by rw [hL]; exact info10 cc none 0 0
  have hi2 : (Tryz.prog.info? 34).map (·.size) = some L.toArray.size := by rw [HLA.out]; exact info10 cc none 0 0
  have ha2 : L.toArray.all (·.oneCell') = true := by rw [HLA.out]; exact all10 cc none 0 0
  have SY : Hid (∀ wx : World, Whole wx w.heap.size 34 (oA o A n m) → Whole wx O 34 (oA cc none 0 0) → (wx.rangeAt O 0 L ∧ wx.cell? ⟨w.heap.size, 1, none⟩ = some (.int .i64 o.n) ∧ True)) := Lib.hid (fun wx h1 h2 => ⟨fun i v hv => by rw [Nat.zero_add, h2.cell]; rw [hL, Array.getElem?_toList] at hv; exact hv, h1.cell 1, trivial⟩)
  clear hL
  have ID := Lib.hid (IC.out.keep (Below.refl _ _).drew)
  have SA := Lib.hid (SY.out _ ID.out.wb ID.out.wo)
  refine wp_region_held_drew (S := fun wx => wx.rangeAt O 0 L ∧ wx.cell? ⟨w.heap.size, 1, none⟩ = some (.int .i64 o.n) ∧ True) (by kernel_rfl) SA.out (fun hHeld => ?_)
  clear SA IC
  generalize w2.drew = wd0 at hHeld ID ⊢
  refine wpAnyH_take (i := 0) (v := _) rfl (by kernel_rfl) (by kernel_rfl) (by kernel_rfl) (fun _ _ _ h => h) (yieldsIf_load_mid (by rfl) _ _ rfl _ _ rfl _ _ (fun w hSw => hSw.1) hu rfl hi) (by assumption) ?_
  simp only [Act.put, List.getElem_toArray, List.getElem_cons_zero, List.setIfInBounds_toArray, List.set_cons_zero, List.set_cons_succ]
  by_cases h0 : 0 ≤ o.n
  · skip
    refine wpAnyH_take (i := 1) (v := ?_) rfl (by kernel_rfl) (by kernel_rfl) (by kernel_rfl) (fun _ _ _ h => h) (Or.inl ⟨by rfl, ?_⟩) (by assumption) ?_
    rotate_left
    · intro w hSw
      go_simp
      try with_reducible rfl
    simp only [Act.put, List.getElem_toArray, List.getElem_cons_succ, List.getElem_cons_zero, List.setIfInBounds_toArray, List.set_cons_zero, List.set_cons_succ]
    refine wpAnyH_take (i := 2) (v := ?_) rfl (by kernel_rfl) (by kernel_rfl) (by kernel_rfl) (fun _ _ _ h => h) (Or.inl ⟨by rfl, ?_⟩) (by assumption) ?_
    rotate_left
    · intro w hSw
      go_simp
      try with_reducible rfl
    simp only [Act.put, List.getElem_toArray, List.getElem_cons_succ, List.getElem_cons_zero, List.setIfInBounds_toArray, List.set_cons_zero, List.set_cons_succ]
    refine wpAnyH_take (i := 3) (v := ?_) rfl (by kernel_rfl) (by kernel_rfl) (by kernel_rfl) (fun _ _ _ h => h) (Or.inl ⟨by rfl, ?_⟩) (by assumption) ?_
    rotate_left
    · intro w hSw
      go_simp
      try with_reducible rfl
    simp only [Act.put, List.getElem_toArray, List.getElem_cons_succ, List.getElem_cons_zero, List.setIfInBounds_toArray, List.set_cons_zero, List.set_cons_succ]
    refine wpAnyH_take (i := 4) (v := ?_) rfl (by kernel_rfl) (by kernel_rfl) (by kernel_rfl) (fun _ _ _ h => h) (Or.inl ⟨by rfl, ?_⟩) (by assumption) ?_
    rotate_left
    · intro w hSw
      go_simp
      try with_reducible rfl
    simp only [Act.put, List.getElem_toArray, List.getElem_cons_succ, List.getElem_cons_zero, List.setIfInBounds_toArray, List.set_cons_zero, List.set_cons_succ]
    by_cases h1 : o.n < 512
    · skip
      refine wpAnyH_take (i := 5) (v := ?_) rfl (by kernel_rfl) (by kernel_rfl) (by kernel_rfl) (fun _ _ _ h => h) (Or.inl ⟨by rfl, ?_⟩) (by assumption) ?_
      rotate_left
      · intro w hSw
        go_simp
        try with_reducible rfl
      simp only [Act.put, List.getElem_toArray, List.getElem_cons_succ, List.getElem_cons_zero, List.setIfInBounds_toArray, List.set_cons_zero, List.set_cons_succ]
      refine wpAnyH_take (i := 6) (v := ?_) rfl (by kernel_rfl) (by kernel_rfl) (by kernel_rfl) (fun _ _ _ h => h) (Or.inl ⟨by rfl, ?_⟩) (by assumption) ?_
      rotate_left
      · intro w hSw
        go_simp
        try with_reducible rfl
      simp only [Act.put, List.getElem_toArray, List.getElem_cons_succ, List.getElem_cons_zero, List.setIfInBounds_toArray, List.set_cons_zero, List.set_cons_succ]
      refine wpAnyH_take (i := 7) (v := ?_) rfl (by kernel_rfl) (by kernel_rfl) (by kernel_rfl) (fun _ _ _ h => h) (Or.inl ⟨by rfl, ?_⟩) (by assumption) ?_
      rotate_left
      · intro w hSw
        go_simp
        try with_reducible rfl
      simp only [Act.put, List.getElem_toArray, List.getElem_cons_succ, List.getElem_cons_zero, List.setIfInBounds_toArray, List.set_cons_zero, List.set_cons_succ]
      refine wpAnyH_take (i := 8) (v := ?_) rfl (by kernel_rfl) (by kernel_rfl) (by kernel_rfl) (fun _ _ _ h => h) (Or.inl ⟨by rfl, ?_⟩) (by assumption) ?_
      rotate_left
      · intro w hSw
        go_simp
        try with_reducible rfl
      simp only [Act.put, List.getElem_toArray, List.getElem_cons_succ, List.getElem_cons_zero, List.setIfInBounds_toArray, List.set_cons_zero, List.set_cons_succ]
      have HQ : Hid (QU true o) := Lib.hid ⟨fun _ => HU.out.2 ⟨h0, by omega⟩, fun _ => rfl⟩
      refine wpAnyH_ready (rs := [9]) (by kernel_rfl) (by simp) ?_
      refine AllReadyH.cons rfl (fun K hK => ?_) AllReadyH.nil
      rw [if_pos (by rfl)]
      refine wp_store_row 34 (.tmp 2) (.tmp 16) (by rfl) (w.heap.size + 1) L.toArray (by rfl) (by rfl) 34 (oA (zeroO 0 0) none 0 0) ID.out.wr hi2 (by rw [HLA.out]; rfl) ha2 ?_
      refine hK.out _ _ ?_ (fun hHeld' => ?_)
      · exact SY.out _ (ID.out.wb.grown (setRow_grown _ _ _) (fun e => by have := Option.some.inj e; omega)) (ID.out.wo.grown (setRow_grown _ _ _) (fun e => by have := Option.some.inj e; have := ID.out.o; omega))
      clear hK K hHeld
      have hHeld := hHeld'
      clear hHeld'
      try simp only [Act.put, List.getElem_toArray, List.getElem_cons_succ, List.getElem_cons_zero]
      refine wpAnyH_take (i := 10) (v := ?_) rfl (by kernel_rfl) (by kernel_rfl) (by kernel_rfl) (fun _ _ _ h => h) (Or.inl ⟨by rfl, ?_⟩) (by assumption) ?_
      rotate_left
      · intro w hSw
        go_simp
        try with_reducible rfl
      simp only [Act.put, List.getElem_toArray, List.getElem_cons_succ, List.getElem_cons_zero, List.setIfInBounds_toArray, List.set_cons_zero, List.set_cons_succ]
      refine wpAnyH_done (by kernel_rfl) ?_ _
      clear hHeld
      go_wp2_with fail
      refine bodyPost_ret (results_row2 (by rfl) _ _ (w.heap.size + 1) 34 L.toArray (0, 0) _ (by rfl) (setRow_heap _ _ _ _ _ _ ID.out.wr) hu (by rfl) hi2 (.bool true) (by rfl)) (by rfl) ?_
      rw [HLA.out]
      exact alo_end HAL.out HQ.out HRI.out ⟨rfl, below_row ID.out.bl (Nat.le_succ _) _⟩
    · skip
      refine wpAnyH_take (i := 5) (v := ?_) rfl (by kernel_rfl) (by kernel_rfl) (by kernel_rfl) (fun _ _ _ h => h) (Or.inl ⟨by rfl, ?_⟩) (by assumption) ?_
      rotate_left
      · intro w hSw
        go_simp
        try with_reducible rfl
      simp only [Act.put, List.getElem_toArray, List.getElem_cons_succ, List.getElem_cons_zero, List.setIfInBounds_toArray, List.set_cons_zero, List.set_cons_succ]
      refine wpAnyH_take (i := 6) (v := ?_) rfl (by kernel_rfl) (by kernel_rfl) (by kernel_rfl) (fun _ _ _ h => h) (Or.inl ⟨by rfl, ?_⟩) (by assumption) ?_
      rotate_left
      · intro w hSw
        go_simp
        try with_reducible rfl
      simp only [Act.put, List.getElem_toArray, List.getElem_cons_succ, List.getElem_cons_zero, List.setIfInBounds_toArray, List.set_cons_zero, List.set_cons_succ]
      refine wpAnyH_take (i := 7) (v := ?_) rfl (by kernel_rfl) (by kernel_rfl) (by kernel_rfl) (fun _ _ _ h => h) (Or.inl ⟨by rfl, ?_⟩) (by assumption) ?_
      rotate_left
      · intro w hSw
        go_simp
        try with_reducible rfl
      simp only [Act.put, List.getElem_toArray, List.getElem_cons_succ, List.getElem_cons_zero, List.setIfInBounds_toArray, List.set_cons_zero, List.set_cons_succ]
      refine wpAnyH_take (i := 8) (v := ?_) rfl (by kernel_rfl) (by kernel_rfl) (by kernel_rfl) (fun _ _ _ h => h) (Or.inl ⟨by rfl, ?_⟩) (by assumption) ?_
      rotate_left
      · intro w hSw
        go_simp
        try with_reducible rfl
      simp only [Act.put, List.getElem_toArray, List.getElem_cons_succ, List.getElem_cons_zero, List.setIfInBounds_toArray, List.set_cons_zero, List.set_cons_succ]
      have HQ : Hid (QU false o) := Lib.hid ⟨fun e => (by cases e), fun e => absurd (HU.out.1 e) (fun hh => h1 (by have := hh.2; omega))⟩
      refine wpAnyH_ready (rs := [9]) (by kernel_rfl) (by simp) ?_
      refine AllReadyH.cons rfl (fun K hK => ?_) AllReadyH.nil
      rw [if_pos (by rfl)]
      refine wp_store_row 34 (.tmp 2) (.tmp 16) (by rfl) (w.heap.size + 1) L.toArray (by rfl) (by rfl) 34 (oA (zeroO 0 0) none 0 0) ID.out.wr hi2 (by rw [HLA.out]; rfl) ha2 ?_
      refine hK.out _ _ ?_ (fun hHeld' => ?_)
      · exact SY.out _ (ID.out.wb.grown (setRow_grown _ _ _) (fun e => by have := Option.some.inj e; omega)) (ID.out.wo.grown (setRow_grown _ _ _) (fun e => by have := Option.some.inj e; have := ID.out.o; omega))
      clear hK K hHeld
      have hHeld := hHeld'
      clear hHeld'
      try simp only [Act.put, List.getElem_toArray, List.getElem_cons_succ, List.getElem_cons_zero]
      refine wpAnyH_take (i := 10) (v := ?_) rfl (by kernel_rfl) (by kernel_rfl) (by kernel_rfl) (fun _ _ _ h => h) (Or.inl ⟨by rfl, ?_⟩) (by assumption) ?_
      rotate_left
      · intro w hSw
        go_simp
        try with_reducible rfl
      simp only [Act.put, List.getElem_toArray, List.getElem_cons_succ, List.getElem_cons_zero, List.setIfInBounds_toArray, List.set_cons_zero, List.set_cons_succ]
      refine wpAnyH_done (by kernel_rfl) ?_ _
      clear hHeld
      go_wp2_with fail
      refine bodyPost_ret (results_row2 (by rfl) _ _ (w.heap.size + 1) 34 L.toArray (0, 0) _ (by rfl) (setRow_heap _ _ _ _ _ _ ID.out.wr) hu (by rfl) hi2 (.bool false) (by rfl)) (by rfl) ?_
      rw [HLA.out]
      exact alo_end HAL.out HQ.out HRI.out ⟨rfl, below_row ID.out.bl (Nat.le_succ _) _⟩
  · skip
    refine wpAnyH_take (i := 1) (v := ?_) rfl (by kernel_rfl) (by kernel_rfl) (by kernel_rfl) (fun _ _ _ h => h) (Or.inl ⟨by rfl, ?_⟩) (by assumption) ?_
    rotate_left
    · intro w hSw
      go_simp
      try with_reducible rfl
    simp only [Act.put, List.getElem_toArray, List.getElem_cons_succ, List.getElem_cons_zero, List.setIfInBounds_toArray, List.set_cons_zero, List.set_cons_succ]
    refine wpAnyH_take (i := 2) (v := ?_) rfl (by kernel_rfl) (by kernel_rfl) (by kernel_rfl) (fun _ _ _ h => h) (Or.inl ⟨by rfl, ?_⟩) (by assumption) ?_
    rotate_left
    · intro w hSw
      go_simp
      try with_reducible rfl
    simp only [Act.put, List.getElem_toArray, List.getElem_cons_succ, List.getElem_cons_zero, List.setIfInBounds_toArray, List.set_cons_zero, List.set_cons_succ]
    refine wpAnyH_take (i := 3) (v := ?_) rfl (by kernel_rfl) (by kernel_rfl) (by kernel_rfl) (fun _ _ _ h => h) (Or.inl ⟨by rfl, ?_⟩) (by assumption) ?_
    rotate_left
    · intro w hSw
      go_simp
      try with_reducible rfl
    simp only [Act.put, List.getElem_toArray, List.getElem_cons_succ, List.getElem_cons_zero, List.setIfInBounds_toArray, List.set_cons_zero, List.set_cons_succ]
    refine wpAnyH_take (i := 4) (v := ?_) rfl (by kernel_rfl) (by kernel_rfl) (by kernel_rfl) (fun _ _ _ h => h) (Or.inl ⟨by rfl, ?_⟩) (by assumption) ?_
    rotate_left
    · intro w hSw
      go_simp
      try with_reducible rfl
    simp only [Act.put, List.getElem_toArray, List.getElem_cons_succ, List.getElem_cons_zero, List.setIfInBounds_toArray, List.set_cons_zero, List.set_cons_succ]
    refine wpAnyH_take (i := 5) (v := undef) rfl (by kernel_rfl) (by kernel_rfl) (by kernel_rfl) (fun _ _ _ h => h) (Or.inr ⟨by rfl, rfl⟩) (by assumption) ?_
    simp only [Act.put, List.getElem_toArray, List.getElem_cons_succ, List.getElem_cons_zero, List.setIfInBounds_toArray, List.set_cons_zero, List.set_cons_succ]
    refine wpAnyH_take (i := 6) (v := undef) rfl (by kernel_rfl) (by kernel_rfl) (by kernel_rfl) (fun _ _ _ h => h) (Or.inr ⟨by rfl, rfl⟩) (by assumption) ?_
    simp only [Act.put, List.getElem_toArray, List.getElem_cons_succ, List.getElem_cons_zero, List.setIfInBounds_toArray, List.set_cons_zero, List.set_cons_succ]
    refine wpAnyH_take (i := 7) (v := undef) rfl (by kernel_rfl) (by kernel_rfl) (by kernel_rfl) (fun _ _ _ h => h) (Or.inr ⟨by rfl, rfl⟩) (by assumption) ?_
    simp only [Act.put, List.getElem_toArray, List.getElem_cons_succ, List.getElem_cons_zero, List.setIfInBounds_toArray, List.set_cons_zero, List.set_cons_succ]
    refine wpAnyH_take (i := 8) (v := ?_) rfl (by kernel_rfl) (by kernel_rfl) (by kernel_rfl) (fun _ _ _ h => h) (Or.inl ⟨by rfl, ?_⟩) (by assumption) ?_
    rotate_left
    · intro w hSw
      go_simp
      try with_reducible rfl
    simp only [Act.put, List.getElem_toArray, List.getElem_cons_succ, List.getElem_cons_zero, List.setIfInBounds_toArray, List.set_cons_zero, List.set_cons_succ]
    have HQ : Hid (QU false o) := Lib.hid ⟨fun e => (by cases e), fun e => absurd (HU.out.1 e) (fun hh => h0 (hh.1))⟩
    refine wpAnyH_ready (rs := [9]) (by kernel_rfl) (by simp) ?_
    refine AllReadyH.cons rfl (fun K hK => ?_) AllReadyH.nil
    rw [if_pos (by rfl)]
    refine wp_store_row 34 (.tmp 2) (.tmp 16) (by rfl) (w.heap.size + 1) L.toArray (by rfl) (by rfl) 34 (oA (zeroO 0 0) none 0 0) ID.out.wr hi2 (by rw [HLA.out]; rfl) ha2 ?_
    refine hK.out _ _ ?_ (fun hHeld' => ?_)
    · exact SY.out _ (ID.out.wb.grown (setRow_grown _ _ _) (fun e => by have := Option.some.inj e; omega)) (ID.out.wo.grown (setRow_grown _ _ _) (fun e => by have := Option.some.inj e; have := ID.out.o; omega))
    clear hK K hHeld
    have hHeld := hHeld'
    clear hHeld'
    try simp only [Act.put, List.getElem_toArray, List.getElem_cons_succ, List.getElem_cons_zero]
    refine wpAnyH_take (i := 10) (v := ?_) rfl (by kernel_rfl) (by kernel_rfl) (by kernel_rfl) (fun _ _ _ h => h) (Or.inl ⟨by rfl, ?_⟩) (by assumption) ?_
    rotate_left
    · intro w hSw
      go_simp
      try with_reducible rfl
    simp only [Act.put, List.getElem_toArray, List.getElem_cons_succ, List.getElem_cons_zero, List.setIfInBounds_toArray, List.set_cons_zero, List.set_cons_succ]
    refine wpAnyH_done (by kernel_rfl) ?_ _
    clear hHeld
    go_wp2_with fail
    refine bodyPost_ret (results_row2 (by rfl) _ _ (w.heap.size + 1) 34 L.toArray (0, 0) _ (by rfl) (setRow_heap _ _ _ _ _ _ ID.out.wr) hu (by rfl) hi2 (.bool false) (by rfl)) (by rfl) ?_
    rw [HLA.out]
    exact alo_end HAL.out HQ.out HRI.out ⟨rfl, below_row ID.out.bl (Nat.le_succ _) _⟩
set_option maxRecDepth 100000 in
set_option maxHeartbeats 8000000 in
theorem used_4 (o : Ov) (A : Option Addr) (n m : Nat) (w : World) (h : OpIn w o A n m) (hk : o.k = 4) :
    Calls Tryz.prog 63 #[.agg (oA o A n m)] w fun e w' => AloR o w w' e := by
  have I0 := Lib.hid (al_start w o A n m)
  obtain ⟨cc, hcc⟩ : ∃ cc : Ov, cc = zeroO o.k o.n := ⟨_, rfl⟩
  have HAL : Hid (cc = aloneO o) := Lib.hid (by rw [hcc]; unfold aloneO; simp only [hk, Int.reduceEq, ↓reduceIte])
  have HCC := Lib.hid hcc
  clear hcc
  have HIN := Lib.hid h
  have HRI : Hid (OpIn w (aloneO o) none 0 0) := Lib.hid ⟨by rw [show (aloneO o).d = zeroD from by rw [← HAL.out, HCC.out]; rfl]; exact defAt_zeroO w, alone_z h.z⟩
  have HU : Hid (usedO o ↔ 0 ≤ o.n ∧ o.n ≤ 55) := Lib.hid (by unfold usedO nodeO; simp only [hk, Int.reduceEq, ↓reduceIte])
  have e1 : (o.k == 1) = false := by rw [hk]; rfl
  have e2 : (o.k == 2) = false := by rw [hk]; rfl
  have e3 : (o.k == 3) = false := by rw [hk]; rfl
  have e4 : (o.k == 4) = true := by rw [hk]; rfl
  clear hk h
  go_enter Tryz.func63, Tryz.ntmps63
  go_upto_region 1 with fail
  rw [← zero10 0 0]
  generalize ((w.alloc (.cells (oA o A n m) 34)).alloc (.cells (oA (zeroO 0 0) none 0 0) 34)) = w1 at I0 ⊢
  have x0 : w1.cell? ⟨w.heap.size, 0, none⟩ = some (.int .i64 o.k) := I0.out.2.1.cell 0
  have x1 : w1.cell? ⟨w.heap.size, 1, none⟩ = some (.int .i64 o.n) := I0.out.2.1.cell 1
  have I1 := Lib.hid (AlI.new I0.out o.k o.n)
  go_upto_region 2 with (refine wpList_store_row rfl 34 (.tmp 4) (.tmp 9) rfl _ (oA (zeroO o.k o.n) none 0 0) rfl rfl 34 _ (heap_alloc_new _ _) (info10 _ _ _ _) rfl (all10 _ _ _ _) ?_; rw [World.setRow_alloc_new])
  clear x0 x1 I0
  generalize w1.alloc (.cells (oA (zeroO o.k o.n) none 0 0) 34) = w2 at I1 ⊢
  generalize w1.heap.size = O at I1 ⊢
  have x0 : w2.cell? ⟨w.heap.size, 0, none⟩ = some (.int .i64 o.k) := I1.out.wb.cell 0
  go_upto_region 10 with fail
  clear x0
  have IC : Hid (AlI w o A n m O cc none 0 0 w2) := Lib.hid (by have := I1.out; rw [← HCC.out] at this; exact this)
  clear I1
  obtain ⟨L, hL⟩ : ∃ L, L = (oA cc none 0 0).toList := ⟨_, rfl⟩
  have HLA : Hid (L.toArray = oA cc none 0 0) := Lib.hid (by rw [hL])
  have hu := Tryz.underlying34
  have hi : (Tryz.prog.info? 34).map (·.size) = some L.length := by rw [hL]; exact info10 cc none 0 0
  have hi2 : (Tryz.prog.info? 34).map (·.size) = some L.toArray.size := by rw [HLA.out]; exact info10 cc none 0 0
  have ha2 : L.toArray.all (·.oneCell') = true := by rw [HLA.out]; exact all10 cc none 0 0
  have SY : Hid (∀ wx : World, Whole wx w.heap.size 34 (oA o A n m) → Whole wx O 34 (oA cc none 0 0) → (wx.rangeAt O 0 L ∧ wx.cell? ⟨w.heap.size, 1, none⟩ = some (.int .i64 o.n) ∧ True)) := Lib.hid (fun wx h1 h2 => ⟨fun i v hv => by rw [Nat.zero_add, h2.cell]; rw [hL, Array.getElem?_toList] at hv; exact hv, h1.cell 1, trivial⟩)
  clear hL
  have ID := Lib.hid (IC.out.keep (Below.refl _ _).drew)
  have SA := Lib.hid (SY.out _ ID.out.wb ID.out.wo)
  refine wp_region_held_drew (S := fun wx => wx.rangeAt O 0 L ∧ wx.cell? ⟨w.heap.size, 1, none⟩ = some (.int .i64 o.n) ∧ True) (by kernel_rfl) SA.out (fun hHeld => ?_)
  clear SA IC
  generalize w2.drew = wd0 at hHeld ID ⊢
  refine wpAnyH_take (i := 0) (v := _) rfl (by kernel_rfl) (by kernel_rfl) (by kernel_rfl) (fun _ _ _ h => h) (yieldsIf_load_mid (by rfl) _ _ rfl _ _ rfl _ _ (fun w hSw => hSw.1) hu rfl hi) (by assumption) ?_
  simp only [Act.put, List.getElem_toArray, List.getElem_cons_zero, List.setIfInBounds_toArray, List.set_cons_zero, List.set_cons_succ]
  by_cases h0 : 0 ≤ o.n ∧ o.n ≤ 55
  · skip
    have K0 := Lib.hid (fun V => by have := node_b o.n V; rw [decide_eq_true h0] at this; exact this : ∀ V : World, Calls Tryz.prog 95 #[.int .i64 o.n] V fun e w' => e = .returned (.bool true) ∧ Below V.heap.size V w')
    refine wpAnyH_take (i := 1) (v := ?_) rfl (by kernel_rfl) (by kernel_rfl) (by kernel_rfl) (fun _ _ _ h => h) (Or.inl ⟨by rfl, ?_⟩) (by assumption) ?_
    rotate_left
    · intro w hSw
      go_simp
      try with_reducible rfl
    simp only [Act.put, List.getElem_toArray, List.getElem_cons_succ, List.getElem_cons_zero, List.setIfInBounds_toArray, List.set_cons_zero, List.set_cons_succ]
    refine wpAnyH_take (i := 2) (v := ?_) rfl (by kernel_rfl) (by kernel_rfl) (by kernel_rfl) (fun _ _ _ h => h) (Or.inl ⟨by rfl, ?_⟩) (by assumption) ?_
    rotate_left
    · intro w hSw
      go_simp
      try with_reducible rfl
    simp only [Act.put, List.getElem_toArray, List.getElem_cons_succ, List.getElem_cons_zero, List.setIfInBounds_toArray, List.set_cons_zero, List.set_cons_succ]
    refine wpAnyH_ready (rs := [3]) (by kernel_rfl) (by simp) ?_
    refine AllReadyH.cons rfl (fun K hK => ?_) AllReadyH.nil
    go_simp
    refine (K0.out _).mono ?_
    rintro e wd1 ⟨rfl, hb⟩
    try go_simp
    have J1 := Lib.hid (ID.out.keep hb)
    refine hK.out _ _ ?_ (fun hHeld' => ?_)
    · exact SY.out _ J1.out.wb J1.out.wo
    clear hK K hHeld
    have hHeld := hHeld'
    clear hHeld'
    try simp only [Act.put, List.getElem_toArray, List.getElem_cons_succ, List.getElem_cons_zero, List.setIfInBounds_toArray, List.set_cons_zero, List.set_cons_succ]
    clear hb K0
    have HQ : Hid (QU true o) := Lib.hid ⟨fun _ => HU.out.2 h0, fun _ => rfl⟩
    refine wpAnyH_ready (rs := [4]) (by kernel_rfl) (by simp) ?_
    refine AllReadyH.cons rfl (fun K hK => ?_) AllReadyH.nil
    rw [if_pos (by rfl)]
    refine wp_store_row 34 (.tmp 2) (.tmp 29) (by rfl) (w.heap.size + 1) L.toArray (by rfl) (by rfl) 34 (oA (zeroO 0 0) none 0 0) J1.out.wr hi2 (by rw [HLA.out]; rfl) ha2 ?_
    refine hK.out _ _ ?_ (fun hHeld' => ?_)
    · exact SY.out _ (J1.out.wb.grown (setRow_grown _ _ _) (fun e => by have := Option.some.inj e; omega)) (J1.out.wo.grown (setRow_grown _ _ _) (fun e => by have := Option.some.inj e; have := J1.out.o; omega))
    clear hK K hHeld
    have hHeld := hHeld'
    clear hHeld'
    try simp only [Act.put, List.getElem_toArray, List.getElem_cons_succ, List.getElem_cons_zero]
    refine wpAnyH_take (i := 5) (v := ?_) rfl (by kernel_rfl) (by kernel_rfl) (by kernel_rfl) (fun _ _ _ h => h) (Or.inl ⟨by rfl, ?_⟩) (by assumption) ?_
    rotate_left
    · intro w hSw
      go_simp
      try with_reducible rfl
    simp only [Act.put, List.getElem_toArray, List.getElem_cons_succ, List.getElem_cons_zero, List.setIfInBounds_toArray, List.set_cons_zero, List.set_cons_succ]
    refine wpAnyH_done (by kernel_rfl) ?_ _
    clear hHeld
    go_wp2_with fail
    refine bodyPost_ret (results_row2 (by rfl) _ _ (w.heap.size + 1) 34 L.toArray (0, 0) _ (by rfl) (setRow_heap _ _ _ _ _ _ J1.out.wr) hu (by rfl) hi2 (.bool true) (by rfl)) (by rfl) ?_
    rw [HLA.out]
    exact alo_end HAL.out HQ.out HRI.out ⟨rfl, below_row J1.out.bl (Nat.le_succ _) _⟩
  · skip
    have K0 := Lib.hid (fun V => by have := node_b o.n V; rw [decide_eq_false h0] at this; exact this : ∀ V : World, Calls Tryz.prog 95 #[.int .i64 o.n] V fun e w' => e = .returned (.bool false) ∧ Below V.heap.size V w')
    refine wpAnyH_take (i := 1) (v := ?_) rfl (by kernel_rfl) (by kernel_rfl) (by kernel_rfl) (fun _ _ _ h => h) (Or.inl ⟨by rfl, ?_⟩) (by assumption) ?_
    rotate_left
    · intro w hSw
      go_simp
      try with_reducible rfl
    simp only [Act.put, List.getElem_toArray, List.getElem_cons_succ, List.getElem_cons_zero, List.setIfInBounds_toArray, List.set_cons_zero, List.set_cons_succ]
    refine wpAnyH_take (i := 2) (v := ?_) rfl (by kernel_rfl) (by kernel_rfl) (by kernel_rfl) (fun _ _ _ h => h) (Or.inl ⟨by rfl, ?_⟩) (by assumption) ?_
    rotate_left
    · intro w hSw
      go_simp
      try with_reducible rfl
    simp only [Act.put, List.getElem_toArray, List.getElem_cons_succ, List.getElem_cons_zero, List.setIfInBounds_toArray, List.set_cons_zero, List.set_cons_succ]
    refine wpAnyH_ready (rs := [3]) (by kernel_rfl) (by simp) ?_
    refine AllReadyH.cons rfl (fun K hK => ?_) AllReadyH.nil
    go_simp
    refine (K0.out _).mono ?_
    rintro e wd1 ⟨rfl, hb⟩
    try go_simp
    have J1 := Lib.hid (ID.out.keep hb)
    refine hK.out _ _ ?_ (fun hHeld' => ?_)
    · exact SY.out _ J1.out.wb J1.out.wo
    clear hK K hHeld
    have hHeld := hHeld'
    clear hHeld'
    try simp only [Act.put, List.getElem_toArray, List.getElem_cons_succ, List.getElem_cons_zero, List.setIfInBounds_toArray, List.set_cons_zero, List.set_cons_succ]
    clear hb K0
    have HQ : Hid (QU false o) := Lib.hid ⟨fun e => (by cases e), fun e => absurd (HU.out.1 e) (fun hh => h0 (hh))⟩
    refine wpAnyH_ready (rs := [4]) (by kernel_rfl) (by simp) ?_
    refine AllReadyH.cons rfl (fun K hK => ?_) AllReadyH.nil
    rw [if_pos (by rfl)]
    refine wp_store_row 34 (.tmp 2) (.tmp 29) (by rfl) (w.heap.size + 1) L.toArray (by rfl) (by rfl) 34 (oA (zeroO 0 0) none 0 0) J1.out.wr hi2 (by rw [HLA.out]; rfl) ha2 ?_
    refine hK.out _ _ ?_ (fun hHeld' => ?_)
    · exact SY.out _ (J1.out.wb.grown (setRow_grown _ _ _) (fun e => by have := Option.some.inj e; omega)) (J1.out.wo.grown (setRow_grown _ _ _) (fun e => by have := Option.some.inj e; have := J1.out.o; omega))
    clear hK K hHeld
    have hHeld := hHeld'
    clear hHeld'
    try simp only [Act.put, List.getElem_toArray, List.getElem_cons_succ, List.getElem_cons_zero]
    refine wpAnyH_take (i := 5) (v := ?_) rfl (by kernel_rfl) (by kernel_rfl) (by kernel_rfl) (fun _ _ _ h => h) (Or.inl ⟨by rfl, ?_⟩) (by assumption) ?_
    rotate_left
    · intro w hSw
      go_simp
      try with_reducible rfl
    simp only [Act.put, List.getElem_toArray, List.getElem_cons_succ, List.getElem_cons_zero, List.setIfInBounds_toArray, List.set_cons_zero, List.set_cons_succ]
    refine wpAnyH_done (by kernel_rfl) ?_ _
    clear hHeld
    go_wp2_with fail
    refine bodyPost_ret (results_row2 (by rfl) _ _ (w.heap.size + 1) 34 L.toArray (0, 0) _ (by rfl) (setRow_heap _ _ _ _ _ _ J1.out.wr) hu (by rfl) hi2 (.bool false) (by rfl)) (by rfl) ?_
    rw [HLA.out]
    exact alo_end HAL.out HQ.out HRI.out ⟨rfl, below_row J1.out.bl (Nat.le_succ _) _⟩
set_option maxRecDepth 100000 in
set_option maxHeartbeats 8000000 in
theorem used_5 (o : Ov) (A : Option Addr) (n m : Nat) (w : World) (h : OpIn w o A n m) (hk : o.k = 5) :
    Calls Tryz.prog 63 #[.agg (oA o A n m)] w fun e w' => AloR o w w' e := by
  have I0 := Lib.hid (al_start w o A n m)
  obtain ⟨cc, hcc⟩ : ∃ cc : Ov, cc = zeroO o.k o.n := ⟨_, rfl⟩
  have HAL : Hid (cc = aloneO o) := Lib.hid (by rw [hcc]; unfold aloneO; simp only [hk, Int.reduceEq, ↓reduceIte])
  have HCC := Lib.hid hcc
  clear hcc
  have HIN := Lib.hid h
  have HRI : Hid (OpIn w (aloneO o) none 0 0) := Lib.hid ⟨by rw [show (aloneO o).d = zeroD from by rw [← HAL.out, HCC.out]; rfl]; exact defAt_zeroO w, alone_z h.z⟩
  have HU : Hid (usedO o ↔ 0 ≤ o.n ∧ o.n ≤ 55) := Lib.hid (by unfold usedO nodeO; simp only [hk, Int.reduceEq, ↓reduceIte])
  have e1 : (o.k == 1) = false := by rw [hk]; rfl
  have e2 : (o.k == 2) = false := by rw [hk]; rfl
  have e3 : (o.k == 3) = false := by rw [hk]; rfl
  have e4 : (o.k == 4) = false := by rw [hk]; rfl
  have e5 : (o.k == 5) = true := by rw [hk]; rfl
  clear hk h
  go_enter Tryz.func63, Tryz.ntmps63
  go_upto_region 1 with fail
  rw [← zero10 0 0]
  generalize ((w.alloc (.cells (oA o A n m) 34)).alloc (.cells (oA (zeroO 0 0) none 0 0) 34)) = w1 at I0 ⊢
  have x0 : w1.cell? ⟨w.heap.size, 0, none⟩ = some (.int .i64 o.k) := I0.out.2.1.cell 0
  have x1 : w1.cell? ⟨w.heap.size, 1, none⟩ = some (.int .i64 o.n) := I0.out.2.1.cell 1
  have I1 := Lib.hid (AlI.new I0.out o.k o.n)
  go_upto_region 2 with (refine wpList_store_row rfl 34 (.tmp 4) (.tmp 9) rfl _ (oA (zeroO o.k o.n) none 0 0) rfl rfl 34 _ (heap_alloc_new _ _) (info10 _ _ _ _) rfl (all10 _ _ _ _) ?_; rw [World.setRow_alloc_new])
  clear x0 x1 I0
  generalize w1.alloc (.cells (oA (zeroO o.k o.n) none 0 0) 34) = w2 at I1 ⊢
  generalize w1.heap.size = O at I1 ⊢
  have x0 : w2.cell? ⟨w.heap.size, 0, none⟩ = some (.int .i64 o.k) := I1.out.wb.cell 0
  go_upto_region 10 with fail
  clear x0
  have IC : Hid (AlI w o A n m O cc none 0 0 w2) := Lib.hid (by have := I1.out; rw [← HCC.out] at this; exact this)
  clear I1
  obtain ⟨L, hL⟩ : ∃ L, L = (oA cc none 0 0).toList := ⟨_, rfl⟩
  have HLA : Hid (L.toArray = oA cc none 0 0) := Lib.hid (by rw [hL])
  have hu := Tryz.underlying34
  have hi : (Tryz.prog.info? 34).map (·.size) = some L.length := by rw [hL]; exact info10 cc none 0 0
  have hi2 : (Tryz.prog.info? 34).map (·.size) = some L.toArray.size := by rw [HLA.out]; exact info10 cc none 0 0
  have ha2 : L.toArray.all (·.oneCell') = true := by rw [HLA.out]; exact all10 cc none 0 0
  have SY : Hid (∀ wx : World, Whole wx w.heap.size 34 (oA o A n m) → Whole wx O 34 (oA cc none 0 0) → (wx.rangeAt O 0 L ∧ wx.cell? ⟨w.heap.size, 1, none⟩ = some (.int .i64 o.n) ∧ True)) := Lib.hid (fun wx h1 h2 => ⟨fun i v hv => by rw [Nat.zero_add, h2.cell]; rw [hL, Array.getElem?_toList] at hv; exact hv, h1.cell 1, trivial⟩)
  clear hL
  have ID := Lib.hid (IC.out.keep (Below.refl _ _).drew)
  have SA := Lib.hid (SY.out _ ID.out.wb ID.out.wo)
  refine wp_region_held_drew (S := fun wx => wx.rangeAt O 0 L ∧ wx.cell? ⟨w.heap.size, 1, none⟩ = some (.int .i64 o.n) ∧ True) (by kernel_rfl) SA.out (fun hHeld => ?_)
  clear SA IC
  generalize w2.drew = wd0 at hHeld ID ⊢
  refine wpAnyH_take (i := 0) (v := _) rfl (by kernel_rfl) (by kernel_rfl) (by kernel_rfl) (fun _ _ _ h => h) (yieldsIf_load_mid (by rfl) _ _ rfl _ _ rfl _ _ (fun w hSw => hSw.1) hu rfl hi) (by assumption) ?_
  simp only [Act.put, List.getElem_toArray, List.getElem_cons_zero, List.setIfInBounds_toArray, List.set_cons_zero, List.set_cons_succ]
  by_cases h0 : 0 ≤ o.n ∧ o.n ≤ 55
  · skip
    have K0 := Lib.hid (fun V => by have := node_b o.n V; rw [decide_eq_true h0] at this; exact this : ∀ V : World, Calls Tryz.prog 95 #[.int .i64 o.n] V fun e w' => e = .returned (.bool true) ∧ Below V.heap.size V w')
    refine wpAnyH_take (i := 1) (v := ?_) rfl (by kernel_rfl) (by kernel_rfl) (by kernel_rfl) (fun _ _ _ h => h) (Or.inl ⟨by rfl, ?_⟩) (by assumption) ?_
    rotate_left
    · intro w hSw
      go_simp
      try with_reducible rfl
    simp only [Act.put, List.getElem_toArray, List.getElem_cons_succ, List.getElem_cons_zero, List.setIfInBounds_toArray, List.set_cons_zero, List.set_cons_succ]
    refine wpAnyH_take (i := 2) (v := ?_) rfl (by kernel_rfl) (by kernel_rfl) (by kernel_rfl) (fun _ _ _ h => h) (Or.inl ⟨by rfl, ?_⟩) (by assumption) ?_
    rotate_left
    · intro w hSw
      go_simp
      try with_reducible rfl
    simp only [Act.put, List.getElem_toArray, List.getElem_cons_succ, List.getElem_cons_zero, List.setIfInBounds_toArray, List.set_cons_zero, List.set_cons_succ]
    refine wpAnyH_ready (rs := [3]) (by kernel_rfl) (by simp) ?_
    refine AllReadyH.cons rfl (fun K hK => ?_) AllReadyH.nil
    go_simp
    refine (K0.out _).mono ?_
    rintro e wd1 ⟨rfl, hb⟩
    try go_simp
    have J1 := Lib.hid (ID.out.keep hb)
    refine hK.out _ _ ?_ (fun hHeld' => ?_)
    · exact SY.out _ J1.out.wb J1.out.wo
    clear hK K hHeld
    have hHeld := hHeld'
    clear hHeld'
    try simp only [Act.put, List.getElem_toArray, List.getElem_cons_succ, List.getElem_cons_zero, List.setIfInBounds_toArray, List.set_cons_zero, List.set_cons_succ]
    clear hb K0
    have HQ : Hid (QU true o) := Lib.hid ⟨fun _ => HU.out.2 h0, fun _ => rfl⟩
    refine wpAnyH_ready (rs := [4]) (by kernel_rfl) (by simp) ?_
    refine AllReadyH.cons rfl (fun K hK => ?_) AllReadyH.nil
    rw [if_pos (by rfl)]
    refine wp_store_row 34 (.tmp 2) (.tmp 29) (by rfl) (w.heap.size + 1) L.toArray (by rfl) (by rfl) 34 (oA (zeroO 0 0) none 0 0) J1.out.wr hi2 (by rw [HLA.out]; rfl) ha2 ?_
    refine hK.out _ _ ?_ (fun hHeld' => ?_)
    · exact SY.out _ (J1.out.wb.grown (setRow_grown _ _ _) (fun e => by have := Option.some.inj e; omega)) (J1.out.wo.grown (setRow_grown _ _ _) (fun e => by have := Option.some.inj e; have := J1.out.o; omega))
    clear hK K hHeld
    have hHeld := hHeld'
    clear hHeld'
    try simp only [Act.put, List.getElem_toArray, List.getElem_cons_succ, List.getElem_cons_zero]
    refine wpAnyH_take (i := 5) (v := ?_) rfl (by kernel_rfl) (by kernel_rfl) (by kernel_rfl) (fun _ _ _ h => h) (Or.inl ⟨by rfl, ?_⟩) (by assumption) ?_
    rotate_left
    · intro w hSw
      go_simp
      try with_reducible rfl
    simp only [Act.put, List.getElem_toArray, List.getElem_cons_succ, List.getElem_cons_zero, List.setIfInBounds_toArray, List.set_cons_zero, List.set_cons_succ]
    refine wpAnyH_done (by kernel_rfl) ?_ _
    clear hHeld
    go_wp2_with fail
    refine bodyPost_ret (results_row2 (by rfl) _ _ (w.heap.size + 1) 34 L.toArray (0, 0) _ (by rfl) (setRow_heap _ _ _ _ _ _ J1.out.wr) hu (by rfl) hi2 (.bool true) (by rfl)) (by rfl) ?_
    rw [HLA.out]
    exact alo_end HAL.out HQ.out HRI.out ⟨rfl, below_row J1.out.bl (Nat.le_succ _) _⟩
  · skip
    have K0 := Lib.hid (fun V => by have := node_b o.n V; rw [decide_eq_false h0] at this; exact this : ∀ V : World, Calls Tryz.prog 95 #[.int .i64 o.n] V fun e w' => e = .returned (.bool false) ∧ Below V.heap.size V w')
    refine wpAnyH_take (i := 1) (v := ?_) rfl (by kernel_rfl) (by kernel_rfl) (by kernel_rfl) (fun _ _ _ h => h) (Or.inl ⟨by rfl, ?_⟩) (by assumption) ?_
    rotate_left
    · intro w hSw
      go_simp
      try with_reducible rfl
    simp only [Act.put, List.getElem_toArray, List.getElem_cons_succ, List.getElem_cons_zero, List.setIfInBounds_toArray, List.set_cons_zero, List.set_cons_succ]
    refine wpAnyH_take (i := 2) (v := ?_) rfl (by kernel_rfl) (by kernel_rfl) (by kernel_rfl) (fun _ _ _ h => h) (Or.inl ⟨by rfl, ?_⟩) (by assumption) ?_
    rotate_left
    · intro w hSw
      go_simp
      try with_reducible rfl
    simp only [Act.put, List.getElem_toArray, List.getElem_cons_succ, List.getElem_cons_zero, List.setIfInBounds_toArray, List.set_cons_zero, List.set_cons_succ]
    refine wpAnyH_ready (rs := [3]) (by kernel_rfl) (by simp) ?_
    refine AllReadyH.cons rfl (fun K hK => ?_) AllReadyH.nil
    go_simp
    refine (K0.out _).mono ?_
    rintro e wd1 ⟨rfl, hb⟩
    try go_simp
    have J1 := Lib.hid (ID.out.keep hb)
    refine hK.out _ _ ?_ (fun hHeld' => ?_)
    · exact SY.out _ J1.out.wb J1.out.wo
    clear hK K hHeld
    have hHeld := hHeld'
    clear hHeld'
    try simp only [Act.put, List.getElem_toArray, List.getElem_cons_succ, List.getElem_cons_zero, List.setIfInBounds_toArray, List.set_cons_zero, List.set_cons_succ]
    clear hb K0
    have HQ : Hid (QU false o) := Lib.hid ⟨fun e => (by cases e), fun e => absurd (HU.out.1 e) (fun hh => h0 (hh))⟩
    refine wpAnyH_ready (rs := [4]) (by kernel_rfl) (by simp) ?_
    refine AllReadyH.cons rfl (fun K hK => ?_) AllReadyH.nil
    rw [if_pos (by rfl)]
    refine wp_store_row 34 (.tmp 2) (.tmp 29) (by rfl) (w.heap.size + 1) L.toArray (by rfl) (by rfl) 34 (oA (zeroO 0 0) none 0 0) J1.out.wr hi2 (by rw [HLA.out]; rfl) ha2 ?_
    refine hK.out _ _ ?_ (fun hHeld' => ?_)
    · exact SY.out _ (J1.out.wb.grown (setRow_grown _ _ _) (fun e => by have := Option.some.inj e; omega)) (J1.out.wo.grown (setRow_grown _ _ _) (fun e => by have := Option.some.inj e; have := J1.out.o; omega))
    clear hK K hHeld
    have hHeld := hHeld'
    clear hHeld'
    try simp only [Act.put, List.getElem_toArray, List.getElem_cons_succ, List.getElem_cons_zero]
    refine wpAnyH_take (i := 5) (v := ?_) rfl (by kernel_rfl) (by kernel_rfl) (by kernel_rfl) (fun _ _ _ h => h) (Or.inl ⟨by rfl, ?_⟩) (by assumption) ?_
    rotate_left
    · intro w hSw
      go_simp
      try with_reducible rfl
    simp only [Act.put, List.getElem_toArray, List.getElem_cons_succ, List.getElem_cons_zero, List.setIfInBounds_toArray, List.set_cons_zero, List.set_cons_succ]
    refine wpAnyH_done (by kernel_rfl) ?_ _
    clear hHeld
    go_wp2_with fail
    refine bodyPost_ret (results_row2 (by rfl) _ _ (w.heap.size + 1) 34 L.toArray (0, 0) _ (by rfl) (setRow_heap _ _ _ _ _ _ J1.out.wr) hu (by rfl) hi2 (.bool false) (by rfl)) (by rfl) ?_
    rw [HLA.out]
    exact alo_end HAL.out HQ.out HRI.out ⟨rfl, below_row J1.out.bl (Nat.le_succ _) _⟩
set_option maxRecDepth 100000 in
set_option maxHeartbeats 8000000 in
theorem used_7 (o : Ov) (A : Option Addr) (n m : Nat) (w : World) (h : OpIn w o A n m) (hk : o.k = 7) :
    Calls Tryz.prog 63 #[.agg (oA o A n m)] w fun e w' => AloR o w w' e := by
  have I0 := Lib.hid (al_start w o A n m)
  obtain ⟨cc, hcc⟩ : ∃ cc : Ov, cc = zeroO o.k o.n := ⟨_, rfl⟩
  have HAL : Hid (cc = aloneO o) := Lib.hid (by rw [hcc]; unfold aloneO; simp only [hk, Int.reduceEq, ↓reduceIte])
  have HCC := Lib.hid hcc
  clear hcc
  have HIN := Lib.hid h
  have HRI : Hid (OpIn w (aloneO o) none 0 0) := Lib.hid ⟨by rw [show (aloneO o).d = zeroD from by rw [← HAL.out, HCC.out]; rfl]; exact defAt_zeroO w, alone_z h.z⟩
  have HU : Hid (usedO o ↔ 0 ≤ o.n ∧ o.n ≤ 55) := Lib.hid (by unfold usedO nodeO; simp only [hk, Int.reduceEq, ↓reduceIte])
  have e1 : (o.k == 1) = false := by rw [hk]; rfl
  have e2 : (o.k == 2) = false := by rw [hk]; rfl
  have e3 : (o.k == 3) = false := by rw [hk]; rfl
  have e4 : (o.k == 4) = false := by rw [hk]; rfl
  have e5 : (o.k == 5) = false := by rw [hk]; rfl
  have e7 : (o.k == 7) = true := by rw [hk]; rfl
  clear hk h
  go_enter Tryz.func63, Tryz.ntmps63
  go_upto_region 1 with fail
  rw [← zero10 0 0]
  generalize ((w.alloc (.cells (oA o A n m) 34)).alloc (.cells (oA (zeroO 0 0) none 0 0) 34)) = w1 at I0 ⊢
  have x0 : w1.cell? ⟨w.heap.size, 0, none⟩ = some (.int .i64 o.k) := I0.out.2.1.cell 0
  have x1 : w1.cell? ⟨w.heap.size, 1, none⟩ = some (.int .i64 o.n) := I0.out.2.1.cell 1
  have I1 := Lib.hid (AlI.new I0.out o.k o.n)
  go_upto_region 2 with (refine wpList_store_row rfl 34 (.tmp 4) (.tmp 9) rfl _ (oA (zeroO o.k o.n) none 0 0) rfl rfl 34 _ (heap_alloc_new _ _) (info10 _ _ _ _) rfl (all10 _ _ _ _) ?_; rw [World.setRow_alloc_new])
  clear x0 x1 I0
  generalize w1.alloc (.cells (oA (zeroO o.k o.n) none 0 0) 34) = w2 at I1 ⊢
  generalize w1.heap.size = O at I1 ⊢
  have x0 : w2.cell? ⟨w.heap.size, 0, none⟩ = some (.int .i64 o.k) := I1.out.wb.cell 0
  go_upto_region 10 with fail
  clear x0
  have IC : Hid (AlI w o A n m O cc none 0 0 w2) := Lib.hid (by have := I1.out; rw [← HCC.out] at this; exact this)
  clear I1
  obtain ⟨L, hL⟩ : ∃ L, L = (oA cc none 0 0).toList := ⟨_, rfl⟩
  have HLA : Hid (L.toArray = oA cc none 0 0) := Lib.hid (by rw [hL])
  have hu := Tryz.underlying34
  have hi : (Tryz.prog.info? 34).map (·.size) = some L.length := by rw [hL]; exact info10 cc none 0 0
  have hi2 : (Tryz.prog.info? 34).map (·.size) = some L.toArray.size := by rw [HLA.out]; exact info10 cc none 0 0
  have ha2 : L.toArray.all (·.oneCell') = true := by rw [HLA.out]; exact all10 cc none 0 0
  have SY : Hid (∀ wx : World, Whole wx w.heap.size 34 (oA o A n m) → Whole wx O 34 (oA cc none 0 0) → (wx.rangeAt O 0 L ∧ wx.cell? ⟨w.heap.size, 1, none⟩ = some (.int .i64 o.n) ∧ True)) := Lib.hid (fun wx h1 h2 => ⟨fun i v hv => by rw [Nat.zero_add, h2.cell]; rw [hL, Array.getElem?_toList] at hv; exact hv, h1.cell 1, trivial⟩)
  clear hL
  have ID := Lib.hid (IC.out.keep (Below.refl _ _).drew)
  have SA := Lib.hid (SY.out _ ID.out.wb ID.out.wo)
  refine wp_region_held_drew (S := fun wx => wx.rangeAt O 0 L ∧ wx.cell? ⟨w.heap.size, 1, none⟩ = some (.int .i64 o.n) ∧ True) (by kernel_rfl) SA.out (fun hHeld => ?_)
  clear SA IC
  generalize w2.drew = wd0 at hHeld ID ⊢
  refine wpAnyH_take (i := 0) (v := _) rfl (by kernel_rfl) (by kernel_rfl) (by kernel_rfl) (fun _ _ _ h => h) (yieldsIf_load_mid (by rfl) _ _ rfl _ _ rfl _ _ (fun w hSw => hSw.1) hu rfl hi) (by assumption) ?_
  simp only [Act.put, List.getElem_toArray, List.getElem_cons_zero, List.setIfInBounds_toArray, List.set_cons_zero, List.set_cons_succ]
  by_cases h0 : 0 ≤ o.n ∧ o.n ≤ 55
  · skip
    have K0 := Lib.hid (fun V => by have := node_b o.n V; rw [decide_eq_true h0] at this; exact this : ∀ V : World, Calls Tryz.prog 95 #[.int .i64 o.n] V fun e w' => e = .returned (.bool true) ∧ Below V.heap.size V w')
    refine wpAnyH_take (i := 1) (v := ?_) rfl (by kernel_rfl) (by kernel_rfl) (by kernel_rfl) (fun _ _ _ h => h) (Or.inl ⟨by rfl, ?_⟩) (by assumption) ?_
    rotate_left
    · intro w hSw
      go_simp
      try with_reducible rfl
    simp only [Act.put, List.getElem_toArray, List.getElem_cons_succ, List.getElem_cons_zero, List.setIfInBounds_toArray, List.set_cons_zero, List.set_cons_succ]
    refine wpAnyH_take (i := 2) (v := ?_) rfl (by kernel_rfl) (by kernel_rfl) (by kernel_rfl) (fun _ _ _ h => h) (Or.inl ⟨by rfl, ?_⟩) (by assumption) ?_
    rotate_left
    · intro w hSw
      go_simp
      try with_reducible rfl
    simp only [Act.put, List.getElem_toArray, List.getElem_cons_succ, List.getElem_cons_zero, List.setIfInBounds_toArray, List.set_cons_zero, List.set_cons_succ]
    refine wpAnyH_ready (rs := [3]) (by kernel_rfl) (by simp) ?_
    refine AllReadyH.cons rfl (fun K hK => ?_) AllReadyH.nil
    go_simp
    refine (K0.out _).mono ?_
    rintro e wd1 ⟨rfl, hb⟩
    try go_simp
    have J1 := Lib.hid (ID.out.keep hb)
    refine hK.out _ _ ?_ (fun hHeld' => ?_)
    · exact SY.out _ J1.out.wb J1.out.wo
    clear hK K hHeld
    have hHeld := hHeld'
    clear hHeld'
    try simp only [Act.put, List.getElem_toArray, List.getElem_cons_succ, List.getElem_cons_zero, List.setIfInBounds_toArray, List.set_cons_zero, List.set_cons_succ]
    clear hb K0
    have HQ : Hid (QU true o) := Lib.hid ⟨fun _ => HU.out.2 h0, fun _ => rfl⟩
    refine wpAnyH_ready (rs := [4]) (by kernel_rfl) (by simp) ?_
    refine AllReadyH.cons rfl (fun K hK => ?_) AllReadyH.nil
    rw [if_pos (by rfl)]
    refine wp_store_row 34 (.tmp 2) (.tmp 29) (by rfl) (w.heap.size + 1) L.toArray (by rfl) (by rfl) 34 (oA (zeroO 0 0) none 0 0) J1.out.wr hi2 (by rw [HLA.out]; rfl) ha2 ?_
    refine hK.out _ _ ?_ (fun hHeld' => ?_)
    · exact SY.out _ (J1.out.wb.grown (setRow_grown _ _ _) (fun e => by have := Option.some.inj e; omega)) (J1.out.wo.grown (setRow_grown _ _ _) (fun e => by have := Option.some.inj e; have := J1.out.o; omega))
    clear hK K hHeld
    have hHeld := hHeld'
    clear hHeld'
    try simp only [Act.put, List.getElem_toArray, List.getElem_cons_succ, List.getElem_cons_zero]
    refine wpAnyH_take (i := 5) (v := ?_) rfl (by kernel_rfl) (by kernel_rfl) (by kernel_rfl) (fun _ _ _ h => h) (Or.inl ⟨by rfl, ?_⟩) (by assumption) ?_
    rotate_left
    · intro w hSw
      go_simp
      try with_reducible rfl
    simp only [Act.put, List.getElem_toArray, List.getElem_cons_succ, List.getElem_cons_zero, List.setIfInBounds_toArray, List.set_cons_zero, List.set_cons_succ]
    refine wpAnyH_done (by kernel_rfl) ?_ _
    clear hHeld
    go_wp2_with fail
    refine bodyPost_ret (results_row2 (by rfl) _ _ (w.heap.size + 1) 34 L.toArray (0, 0) _ (by rfl) (setRow_heap _ _ _ _ _ _ J1.out.wr) hu (by rfl) hi2 (.bool true) (by rfl)) (by rfl) ?_
    rw [HLA.out]
    exact alo_end HAL.out HQ.out HRI.out ⟨rfl, below_row J1.out.bl (Nat.le_succ _) _⟩
  · skip
    have K0 := Lib.hid (fun V => by have := node_b o.n V; rw [decide_eq_false h0] at this; exact this : ∀ V : World, Calls Tryz.prog 95 #[.int .i64 o.n] V fun e w' => e = .returned (.bool false) ∧ Below V.heap.size V w')
    refine wpAnyH_take (i := 1) (v := ?_) rfl (by kernel_rfl) (by kernel_rfl) (by kernel_rfl) (fun _ _ _ h => h) (Or.inl ⟨by rfl, ?_⟩) (by assumption) ?_
    rotate_left
    · intro w hSw
      go_simp
      try with_reducible rfl
    simp only [Act.put, List.getElem_toArray, List.getElem_cons_succ, List.getElem_cons_zero, List.setIfInBounds_toArray, List.set_cons_zero, List.set_cons_succ]
    refine wpAnyH_take (i := 2) (v := ?_) rfl (by kernel_rfl) (by kernel_rfl) (by kernel_rfl) (fun _ _ _ h => h) (Or.inl ⟨by rfl, ?_⟩) (by assumption) ?_
    rotate_left
    · intro w hSw
      go_simp
      try with_reducible rfl
    simp only [Act.put, List.getElem_toArray, List.getElem_cons_succ, List.getElem_cons_zero, List.setIfInBounds_toArray, List.set_cons_zero, List.set_cons_succ]
    refine wpAnyH_ready (rs := [3]) (by kernel_rfl) (by simp) ?_
    refine AllReadyH.cons rfl (fun K hK => ?_) AllReadyH.nil
    go_simp
    refine (K0.out _).mono ?_
    rintro e wd1 ⟨rfl, hb⟩
    try go_simp
    have J1 := Lib.hid (ID.out.keep hb)
    refine hK.out _ _ ?_ (fun hHeld' => ?_)
    · exact SY.out _ J1.out.wb J1.out.wo
    clear hK K hHeld
    have hHeld := hHeld'
    clear hHeld'
    try simp only [Act.put, List.getElem_toArray, List.getElem_cons_succ, List.getElem_cons_zero, List.setIfInBounds_toArray, List.set_cons_zero, List.set_cons_succ]
    clear hb K0
    have HQ : Hid (QU false o) := Lib.hid ⟨fun e => (by cases e), fun e => absurd (HU.out.1 e) (fun hh => h0 (hh))⟩
    refine wpAnyH_ready (rs := [4]) (by kernel_rfl) (by simp) ?_
    refine AllReadyH.cons rfl (fun K hK => ?_) AllReadyH.nil
    rw [if_pos (by rfl)]
    refine wp_store_row 34 (.tmp 2) (.tmp 29) (by rfl) (w.heap.size + 1) L.toArray (by rfl) (by rfl) 34 (oA (zeroO 0 0) none 0 0) J1.out.wr hi2 (by rw [HLA.out]; rfl) ha2 ?_
    refine hK.out _ _ ?_ (fun hHeld' => ?_)
    · exact SY.out _ (J1.out.wb.grown (setRow_grown _ _ _) (fun e => by have := Option.some.inj e; omega)) (J1.out.wo.grown (setRow_grown _ _ _) (fun e => by have := Option.some.inj e; have := J1.out.o; omega))
    clear hK K hHeld
    have hHeld := hHeld'
    clear hHeld'
    try simp only [Act.put, List.getElem_toArray, List.getElem_cons_succ, List.getElem_cons_zero]
    refine wpAnyH_take (i := 5) (v := ?_) rfl (by kernel_rfl) (by kernel_rfl) (by kernel_rfl) (fun _ _ _ h => h) (Or.inl ⟨by rfl, ?_⟩) (by assumption) ?_
    rotate_left
    · intro w hSw
      go_simp
      try with_reducible rfl
    simp only [Act.put, List.getElem_toArray, List.getElem_cons_succ, List.getElem_cons_zero, List.setIfInBounds_toArray, List.set_cons_zero, List.set_cons_succ]
    refine wpAnyH_done (by kernel_rfl) ?_ _
    clear hHeld
    go_wp2_with fail
    refine bodyPost_ret (results_row2 (by rfl) _ _ (w.heap.size + 1) 34 L.toArray (0, 0) _ (by rfl) (setRow_heap _ _ _ _ _ _ J1.out.wr) hu (by rfl) hi2 (.bool false) (by rfl)) (by rfl) ?_
    rw [HLA.out]
    exact alo_end HAL.out HQ.out HRI.out ⟨rfl, below_row J1.out.bl (Nat.le_succ _) _⟩
set_option maxRecDepth 100000 in
set_option maxHeartbeats 8000000 in
theorem used_0 (o : Ov) (A : Option Addr) (n m : Nat) (w : World) (h : OpIn w o A n m) (hk : ¬ (1 ≤ o.k ∧ o.k ≤ 12)) :
    Calls Tryz.prog 63 #[.agg (oA o A n m)] w fun e w' => AloR o w w' e := by
  have I0 := Lib.hid (al_start w o A n m)
  obtain ⟨cc, hcc⟩ : ∃ cc : Ov, cc = zeroO o.k o.n := ⟨_, rfl⟩
  have HAL : Hid (cc = aloneO o) := Lib.hid (by rw [hcc]; unfold aloneO; rw [if_neg (by omega), if_neg (by omega), if_neg (by omega), if_neg (by omega), if_neg (by omega), if_neg (by omega)])
  have HCC := Lib.hid hcc
  clear hcc
  have HIN := Lib.hid h
  have HRI : Hid (OpIn w (aloneO o) none 0 0) := Lib.hid ⟨by rw [show (aloneO o).d = zeroD from by rw [← HAL.out, HCC.out]; rfl]; exact defAt_zeroO w, alone_z h.z⟩
  have HU : Hid (¬ usedO o) := Lib.hid (by unfold usedO; rw [if_neg (by omega), if_neg (by omega), if_neg (by omega), if_neg (by omega), if_neg (by omega), if_neg (by omega), if_neg (by omega), if_neg (by omega), if_neg (by omega), if_neg (by omega), if_neg (by omega), if_neg (by omega)]; exact id)
  have e1 : (o.k == 1) = false := by rw [beq_eq_false_iff_ne]; omega
  have e2 : (o.k == 2) = false := by rw [beq_eq_false_iff_ne]; omega
  have e3 : (o.k == 3) = false := by rw [beq_eq_false_iff_ne]; omega
  have e4 : (o.k == 4) = false := by rw [beq_eq_false_iff_ne]; omega
  have e5 : (o.k == 5) = false := by rw [beq_eq_false_iff_ne]; omega
  have e7 : (o.k == 7) = false := by rw [beq_eq_false_iff_ne]; omega
  have e6 : (o.k == 6) = false := by rw [beq_eq_false_iff_ne]; omega
  have e8 : (o.k == 8) = false := by rw [beq_eq_false_iff_ne]; omega
  have e9 : (o.k == 9) = false := by rw [beq_eq_false_iff_ne]; omega
  have e10 : (o.k == 10) = false := by rw [beq_eq_false_iff_ne]; omega
  have e11 : (o.k == 11) = false := by rw [beq_eq_false_iff_ne]; omega
  have e12 : (o.k == 12) = false := by rw [beq_eq_false_iff_ne]; omega
  clear hk h
  go_enter Tryz.func63, Tryz.ntmps63
  go_upto_region 1 with fail
  rw [← zero10 0 0]
  generalize ((w.alloc (.cells (oA o A n m) 34)).alloc (.cells (oA (zeroO 0 0) none 0 0) 34)) = w1 at I0 ⊢
  have x0 : w1.cell? ⟨w.heap.size, 0, none⟩ = some (.int .i64 o.k) := I0.out.2.1.cell 0
  have x1 : w1.cell? ⟨w.heap.size, 1, none⟩ = some (.int .i64 o.n) := I0.out.2.1.cell 1
  have I1 := Lib.hid (AlI.new I0.out o.k o.n)
  go_upto_region 2 with (refine wpList_store_row rfl 34 (.tmp 4) (.tmp 9) rfl _ (oA (zeroO o.k o.n) none 0 0) rfl rfl 34 _ (heap_alloc_new _ _) (info10 _ _ _ _) rfl (all10 _ _ _ _) ?_; rw [World.setRow_alloc_new])
  clear x0 x1 I0
  generalize w1.alloc (.cells (oA (zeroO o.k o.n) none 0 0) 34) = w2 at I1 ⊢
  generalize w1.heap.size = O at I1 ⊢
  have x0 : w2.cell? ⟨w.heap.size, 0, none⟩ = some (.int .i64 o.k) := I1.out.wb.cell 0
  go_upto_region 29 with fail
  clear x0
  have IC : Hid (AlI w o A n m O cc none 0 0 w2) := Lib.hid (by have := I1.out; rw [← HCC.out] at this; exact this)
  clear I1
  have HQ : Hid (QU false o) := Lib.hid ⟨fun e => (by cases e), fun e => absurd e HU.out⟩
  go_wp2_with (first
    | (refine wpList_load_row rfl 34 (.tmp 4) rfl O rfl 34 (oA cc none 0 0) (0, 0) _ IC.out.wo Tryz.underlying34 rfl (info10 _ _ _ _) ?_)
    | (refine wpList_store_row rfl 34 (.tmp 2) (.tmp 132) rfl (w.heap.size + 1) (oA cc none 0 0) rfl rfl 34 (oA (zeroO 0 0) none 0 0) IC.out.wr (info10 _ _ _ _) rfl (all10 _ _ _ _) ?_))
  refine bodyPost_ret (results_row2 rfl _ _ (w.heap.size + 1) 34 (oA cc none 0 0) (0, 0) _ rfl (setRow_heap _ _ _ _ _ _ IC.out.wr) Tryz.underlying34 rfl (info10 _ _ _ _) (.bool false) rfl) rfl ?_
  exact alo_end HAL.out HQ.out HRI.out ⟨rfl, below_row IC.out.bl (Nat.le_succ _) _⟩
end Go.Proofs.YtojodekmmkemgaaGreatDoor
