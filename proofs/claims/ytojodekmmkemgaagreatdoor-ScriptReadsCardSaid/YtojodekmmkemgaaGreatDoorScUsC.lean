/- What an operation's kind uses, by the reference. Condition: sizes as a machine's integers can say. -/
import Derived.Test.YtojodekmmkemgaaGreatDoorScUsS
namespace Go.Proofs.YtojodekmmkemgaaGreatDoor
open Go.RowKit Go.Shelf

set_option maxRecDepth 100000 in
set_option maxHeartbeats 8000000 in
theorem used_8 (o : Ov) (A : Option Addr) (n m : Nat) (w : World) (h : OpIn w o A n m) (hk : o.k = 8) :
    Calls Tryz.prog 63 #[.agg (oA o A n m)] w fun e w' => AloR o w w' e := by
  have I0 := Lib.hid (al_start w o A n m)
  obtain ⟨cc, hcc⟩ : ∃ cc : Ov, cc = { zeroO o.k o.n with m := o.m, d := o.d } := ⟨_, rfl⟩
  have HAL : Hid (cc = aloneO o) := Lib.hid (by rw [hcc]; unfold aloneO; simp only [hk, Int.reduceEq, ↓reduceIte])
  have HCC := Lib.hid hcc
  clear hcc
  have HIN := Lib.hid h
  have HRI : Hid (OpIn w (aloneO o) A n m) := Lib.hid ⟨by rw [show (aloneO o).d = o.d from by rw [← HAL.out, HCC.out]]; exact h.d, alone_z h.z⟩
  have HU : Hid (usedO o ↔ (0 ≤ o.n ∧ o.n ≤ 55) ∧ (1 ≤ o.m ∧ o.m ≤ 9999) ∧ defOk o.d) := Lib.hid (by unfold usedO nodeO; simp only [hk, Int.reduceEq, ↓reduceIte])
  have e1 : (o.k == 1) = false := by rw [hk]; rfl
  have e2 : (o.k == 2) = false := by rw [hk]; rfl
  have e3 : (o.k == 3) = false := by rw [hk]; rfl
  have e4 : (o.k == 4) = false := by rw [hk]; rfl
  have e5 : (o.k == 5) = false := by rw [hk]; rfl
  have e7 : (o.k == 7) = false := by rw [hk]; rfl
  have e6 : (o.k == 6) = false := by rw [hk]; rfl
  have e8 : (o.k == 8) = true := by rw [hk]; rfl
  clear hk h
  go_enter Tryz.func63, Tryz.ntmps63
  go_upto_region 1 with fail
  rw [← zero10 0 0]
  generalize ((w.alloc (.cells (oA o A n m) 34)).alloc (.cells (oA (zeroO 0 0) none 0 0) 34)) = w1 at I0 ⊢
  have x0 : w1.cell? ⟨w.heap.size, 0, none⟩ = some (.int .i64 o.k) := I0.out.2.1.cell 0
  have x1 : w1.cell? ⟨w.heap.size, 1, none⟩ = some (.int .i64 o.n) := I0.out.2.1.cell 1
  have I1 := Lib.hid (AlI.new I0.out o.k o.n)
  go_upto_region 2 with (refine wpList_store_row rfl 34 (.tmp 4) (.tmp 9) rfl _ (oA (zeroO o.k o.n) none 0 0) rfl rfl 34 _ (heap_alloc_new _ _) (info10 _ _ _ _) rfl (all10 _ _ _ _) ?_; rw [World.setRow_alloc_new])
  clear x0 x1 I0
  generalize w1.alloc (.cells (oA (zeroO o.k o.n) none 0 0) 34) = w2 at I1 ⊢
  generalize w1.heap.size = O at I1 ⊢
  have x0 : w2.cell? ⟨w.heap.size, 0, none⟩ = some (.int .i64 o.k) := I1.out.wb.cell 0
  have x2 : w2.cell? ⟨w.heap.size, 2, none⟩ = some (.int .i64 o.m) := I1.out.wb.cell 2
  have y2 : w2.cell? ⟨O, 2, none⟩ = some (.int .i64 0) := I1.out.wo.cell 2
  have f2 : w2.frozen? ⟨O, 2, none⟩ = false := I1.out.wo.fr 2
  have I2 := Lib.hid I1.out.put_m
  go_upto_region 15 with fail
  clear x0
  go_upto_region 16 with fail
  clear x2 y2 f2 I1
  generalize (w2.setCell ⟨O, 2, none⟩ (.int .i64 o.m)) = w3 at I2 ⊢
  have x6 : w3.cell? ⟨w.heap.size, 6, none⟩ = some (.string o.d.n) := I2.out.wb.cell 6
  have y6 : w3.cell? ⟨O, 6, none⟩ = some (.string ⟨#[]⟩) := I2.out.wo.cell 6
  have f6 : w3.frozen? ⟨O, 6, none⟩ = false := I2.out.wo.fr 6
  have x7 : w3.cell? ⟨w.heap.size, 7, none⟩ = some (.int .i64 o.d.r) := I2.out.wb.cell 7
  have y7 : w3.cell? ⟨O, 7, none⟩ = some (.int .i64 0) := I2.out.wo.cell 7
  have f7 : w3.frozen? ⟨O, 7, none⟩ = false := I2.out.wo.fr 7
  have x8 : w3.cell? ⟨w.heap.size, 8, none⟩ = some (.int .i64 o.d.dl) := I2.out.wb.cell 8
  have y8 : w3.cell? ⟨O, 8, none⟩ = some (.int .i64 0) := I2.out.wo.cell 8
  have f8 : w3.frozen? ⟨O, 8, none⟩ = false := I2.out.wo.fr 8
  have x9 : w3.cell? ⟨w.heap.size, 9, none⟩ = some (.slice A n m) := I2.out.wb.cell 9
  have y9 : w3.cell? ⟨O, 9, none⟩ = some (.slice none 0 0) := I2.out.wo.cell 9
  have f9 : w3.frozen? ⟨O, 9, none⟩ = false := I2.out.wo.fr 9
  have I3 := Lib.hid I2.out.put_def
  go_upto_region 17 with fail
  clear x6 y6 f6 x7 y7 f7 x8 y8 f8 x9 y9 f9 I2
  generalize ((((w3.setCell ⟨O, 6, none⟩ (.string o.d.n)).setCell ⟨O, 7, none⟩ (.int .i64 o.d.r)).setCell ⟨O, 8, none⟩ (.int .i64 o.d.dl)).setCell ⟨O, 9, none⟩ (.slice A n m)) = w4 at I3 ⊢
  have IC : Hid (AlI w o A n m O cc A n m w4) := Lib.hid (by have := I3.out; rw [← HCC.out] at this; exact this)
  clear I3
  obtain ⟨L, hL⟩ : ∃ L, L = (oA cc A n m).toList := ⟨_, rfl⟩
  have HLA : Hid (L.toArray = oA cc A n m) := Lib.hid (by rw [hL])
  have hu := Tryz.underlying34
  have hi : (Tryz.prog.info? 34).map (·.size) = some L.length := by rw [hL]; exact info10 cc A n m
  have hi2 : (Tryz.prog.info? 34).map (·.size) = some L.toArray.size := by rw [HLA.out]; exact info10 cc A n m
  have ha2 : L.toArray.all (·.oneCell') = true := by rw [HLA.out]; exact all10 cc A n m
  have SY : Hid (∀ wx : World, Whole wx w.heap.size 34 (oA o A n m) → Whole wx O 34 (oA cc A n m) → (wx.rangeAt O 0 L ∧ wx.cell? ⟨w.heap.size, 1, none⟩ = some (.int .i64 o.n) ∧ wx.cell? ⟨w.heap.size, 2, none⟩ = some (.int .i64 o.m) ∧ wx.cell? ⟨w.heap.size, 6, none⟩ = some (.string o.d.n) ∧ wx.cell? ⟨w.heap.size, 7, none⟩ = some (.int .i64 o.d.r) ∧ wx.cell? ⟨w.heap.size, 8, none⟩ = some (.int .i64 o.d.dl) ∧ wx.cell? ⟨w.heap.size, 9, none⟩ = some (.slice A n m) ∧ True)) := Lib.hid (fun wx h1 h2 => ⟨fun i v hv => by rw [Nat.zero_add, h2.cell]; rw [hL, Array.getElem?_toList] at hv; exact hv, h1.cell 1, h1.cell 2, h1.cell 6, h1.cell 7, h1.cell 8, h1.cell 9, trivial⟩)
  clear hL
  have ID := Lib.hid (IC.out.keep (Below.refl _ _).drew)
  have SA := Lib.hid (SY.out _ ID.out.wb ID.out.wo)
  refine wp_region_held_drew (S := fun wx => wx.rangeAt O 0 L ∧ wx.cell? ⟨w.heap.size, 1, none⟩ = some (.int .i64 o.n) ∧ wx.cell? ⟨w.heap.size, 2, none⟩ = some (.int .i64 o.m) ∧ wx.cell? ⟨w.heap.size, 6, none⟩ = some (.string o.d.n) ∧ wx.cell? ⟨w.heap.size, 7, none⟩ = some (.int .i64 o.d.r) ∧ wx.cell? ⟨w.heap.size, 8, none⟩ = some (.int .i64 o.d.dl) ∧ wx.cell? ⟨w.heap.size, 9, none⟩ = some (.slice A n m) ∧ True) (by kernel_rfl) SA.out (fun hHeld => ?_)
  clear SA IC
  generalize w4.drew = wd0 at hHeld ID ⊢
  refine wpAnyH_take (i := 0) (v := _) rfl (by kernel_rfl) (by kernel_rfl) (by kernel_rfl) (fun _ _ _ h => h) (yieldsIf_load_mid (by rfl) _ _ rfl _ _ rfl _ _ (fun w hSw => hSw.1) hu rfl hi) (by assumption) ?_
  simp only [Act.put, List.getElem_toArray, List.getElem_cons_zero, List.setIfInBounds_toArray, List.set_cons_zero, List.set_cons_succ]
  by_cases h0 : 0 ≤ o.n ∧ o.n ≤ 55
  · skip
    have K0 := Lib.hid (fun V => by have := node_b o.n V; rw [decide_eq_true h0] at this; exact this : ∀ V : World, Calls Tryz.prog 95 #[.int .i64 o.n] V fun e w' => e = .returned (.bool true) ∧ Below V.heap.size V w')
    refine wpAnyH_take (i := 1) (v := ?_) rfl (by kernel_rfl) (by kernel_rfl) (by kernel_rfl) (fun _ _ _ h => h) (Or.inl ⟨by rfl, ?_⟩) (by assumption) ?_
    rotate_left
    · intro w hSw
      go_simp
      try with_reducible rfl
    simp only [Act.put, List.getElem_toArray, List.getElem_cons_succ, List.getElem_cons_zero, List.setIfInBounds_toArray, List.set_cons_zero, List.set_cons_succ]
    refine wpAnyH_take (i := 2) (v := ?_) rfl (by kernel_rfl) (by kernel_rfl) (by kernel_rfl) (fun _ _ _ h => h) (Or.inl ⟨by rfl, ?_⟩) (by assumption) ?_
    rotate_left
    · intro w hSw
      go_simp
      try with_reducible rfl
    simp only [Act.put, List.getElem_toArray, List.getElem_cons_succ, List.getElem_cons_zero, List.setIfInBounds_toArray, List.set_cons_zero, List.set_cons_succ]
    refine wpAnyH_ready (rs := [3]) (by kernel_rfl) (by simp) ?_
    refine AllReadyH.cons rfl (fun K hK => ?_) AllReadyH.nil
    go_simp
    refine (K0.out _).mono ?_
    rintro e wd1 ⟨rfl, hb⟩
    try go_simp
    have J1 := Lib.hid (ID.out.keep hb)
    refine hK.out _ _ ?_ (fun hHeld' => ?_)
    · exact SY.out _ J1.out.wb J1.out.wo
    clear hK K hHeld
    have hHeld := hHeld'
    clear hHeld'
    try simp only [Act.put, List.getElem_toArray, List.getElem_cons_succ, List.getElem_cons_zero, List.setIfInBounds_toArray, List.set_cons_zero, List.set_cons_succ]
    clear hb K0
    refine wpAnyH_take (i := 4) (v := ?_) rfl (by kernel_rfl) (by kernel_rfl) (by kernel_rfl) (fun _ _ _ h => h) (Or.inl ⟨by rfl, ?_⟩) (by assumption) ?_
    rotate_left
    · intro w hSw
      go_simp
      try with_reducible rfl
    simp only [Act.put, List.getElem_toArray, List.getElem_cons_succ, List.getElem_cons_zero, List.setIfInBounds_toArray, List.set_cons_zero, List.set_cons_succ]
    by_cases h1 : 1 ≤ o.m ∧ o.m ≤ 9999
    · skip
      have K1 := Lib.hid (fun V => by have := saga_b o.m V; rw [decide_eq_true h1] at this; exact this : ∀ V : World, Calls Tryz.prog 96 #[.int .i64 o.m] V fun e w' => e = .returned (.bool true) ∧ Below V.heap.size V w')
      refine wpAnyH_take (i := 5) (v := ?_) rfl (by kernel_rfl) (by kernel_rfl) (by kernel_rfl) (fun _ _ _ h => h) (Or.inl ⟨by rfl, ?_⟩) (by assumption) ?_
      rotate_left
      · intro w hSw
        go_simp
        try with_reducible rfl
      simp only [Act.put, List.getElem_toArray, List.getElem_cons_succ, List.getElem_cons_zero, List.setIfInBounds_toArray, List.set_cons_zero, List.set_cons_succ]
      refine wpAnyH_take (i := 6) (v := ?_) rfl (by kernel_rfl) (by kernel_rfl) (by kernel_rfl) (fun _ _ _ h => h) (Or.inl ⟨by rfl, ?_⟩) (by assumption) ?_
      rotate_left
      · intro w hSw
        go_simp
        try with_reducible rfl
      simp only [Act.put, List.getElem_toArray, List.getElem_cons_succ, List.getElem_cons_zero, List.setIfInBounds_toArray, List.set_cons_zero, List.set_cons_succ]
      refine wpAnyH_ready (rs := [7]) (by kernel_rfl) (by simp) ?_
      refine AllReadyH.cons rfl (fun K hK => ?_) AllReadyH.nil
      go_simp
      refine (K1.out _).mono ?_
      rintro e wd2 ⟨rfl, hb⟩
      try go_simp
      have J2 := Lib.hid (J1.out.keep hb)
      refine hK.out _ _ ?_ (fun hHeld' => ?_)
      · exact SY.out _ J2.out.wb J2.out.wo
      clear hK K hHeld
      have hHeld := hHeld'
      clear hHeld'
      try simp only [Act.put, List.getElem_toArray, List.getElem_cons_succ, List.getElem_cons_zero, List.setIfInBounds_toArray, List.set_cons_zero, List.set_cons_succ]
      clear hb K1
      refine wpAnyH_take (i := 8) (v := ?_) rfl (by kernel_rfl) (by kernel_rfl) (by kernel_rfl) (fun _ _ _ h => h) (Or.inl ⟨by rfl, ?_⟩) (by assumption) ?_
      rotate_left
      · intro w hSw
        go_simp
        try with_reducible rfl
      simp only [Act.put, List.getElem_toArray, List.getElem_cons_succ, List.getElem_cons_zero, List.setIfInBounds_toArray, List.set_cons_zero, List.set_cons_succ]
      refine wpAnyH_take (i := 9) (v := ?_) rfl (by kernel_rfl) (by kernel_rfl) (by kernel_rfl) (fun _ _ _ h => h) (Or.inl ⟨by rfl, ?_⟩) (by assumption) ?_
      rotate_left
      · intro w hSw
        go_simp
        try with_reducible rfl
      simp only [Act.put, List.getElem_toArray, List.getElem_cons_succ, List.getElem_cons_zero, List.setIfInBounds_toArray, List.set_cons_zero, List.set_cons_succ]
      by_cases h2 : defOk o.d
      · skip
        have K2 := Lib.hid (fun V hV => by have := refDefCheck_any o.d A n m V (HIN.out.keep hV).d; unfold dV at this; rw [ckD_yes h2] at this; exact this : ∀ V : World, Below w.heap.size w V → Calls Tryz.prog 90 #[.agg #[.string o.d.n, .int .i64 o.d.r, .int .i64 o.d.dl, .slice A n m]] V fun e w' => e = .returned (.int .i64 0) ∧ Below V.heap.size V w')
        refine wpAnyH_take (i := 10) (v := ?_) rfl (by kernel_rfl) (by kernel_rfl) (by kernel_rfl) (fun _ _ _ h => h) (Or.inl ⟨by rfl, ?_⟩) (by assumption) ?_
        rotate_left
        · intro w hSw
          go_simp
          try with_reducible rfl
        simp only [Act.put, List.getElem_toArray, List.getElem_cons_succ, List.getElem_cons_zero, List.setIfInBounds_toArray, List.set_cons_zero, List.set_cons_succ]
        refine wpAnyH_take (i := 11) (v := ?_) rfl (by kernel_rfl) (by kernel_rfl) (by kernel_rfl) (fun _ _ _ h => h) (Or.inl ⟨by rfl, ?_⟩) (by assumption) ?_
        rotate_left
        · intro w hSw
          go_simp
          try with_reducible rfl
        simp only [Act.put, List.getElem_toArray, List.getElem_cons_succ, List.getElem_cons_zero, List.setIfInBounds_toArray, List.set_cons_zero, List.set_cons_succ]
        refine wpAnyH_ready (rs := [12]) (by kernel_rfl) (by simp) ?_
        refine AllReadyH.cons rfl (fun K hK => ?_) AllReadyH.nil
        go_simp
        refine (K2.out _ J2.out.bl).mono ?_
        rintro e wd3 ⟨rfl, hb⟩
        try go_simp
        have J3 := Lib.hid (J2.out.keep hb)
        refine hK.out _ _ ?_ (fun hHeld' => ?_)
        · exact SY.out _ J3.out.wb J3.out.wo
        clear hK K hHeld
        have hHeld := hHeld'
        clear hHeld'
        try simp only [Act.put, List.getElem_toArray, List.getElem_cons_succ, List.getElem_cons_zero, List.setIfInBounds_toArray, List.set_cons_zero, List.set_cons_succ]
        clear hb K2
        refine wpAnyH_take (i := 13) (v := ?_) rfl (by kernel_rfl) (by kernel_rfl) (by kernel_rfl) (fun _ _ _ h => h) (Or.inl ⟨by rfl, ?_⟩) (by assumption) ?_
        rotate_left
        · intro w hSw
          go_simp
          try with_reducible rfl
        simp only [Act.put, List.getElem_toArray, List.getElem_cons_succ, List.getElem_cons_zero, List.setIfInBounds_toArray, List.set_cons_zero, List.set_cons_succ]
        refine wpAnyH_take (i := 14) (v := ?_) rfl (by kernel_rfl) (by kernel_rfl) (by kernel_rfl) (fun _ _ _ h => h) (Or.inl ⟨by rfl, ?_⟩) (by assumption) ?_
        rotate_left
        · intro w hSw
          go_simp
          try with_reducible rfl
        simp only [Act.put, List.getElem_toArray, List.getElem_cons_succ, List.getElem_cons_zero, List.setIfInBounds_toArray, List.set_cons_zero, List.set_cons_succ]
        have HQ : Hid (QU true o) := Lib.hid ⟨fun _ => HU.out.2 ⟨h0, h1, h2⟩, fun _ => rfl⟩
        refine wpAnyH_ready (rs := [15]) (by kernel_rfl) (by simp) ?_
        refine AllReadyH.cons rfl (fun K hK => ?_) AllReadyH.nil
        rw [if_pos (by rfl)]
        refine wp_store_row 34 (.tmp 2) (.tmp 60) (by rfl) (w.heap.size + 1) L.toArray (by rfl) (by rfl) 34 (oA (zeroO 0 0) none 0 0) J3.out.wr hi2 (by rw [HLA.out]; rfl) ha2 ?_
        refine hK.out _ _ ?_ (fun hHeld' => ?_)
        · exact SY.out _ (J3.out.wb.grown (setRow_grown _ _ _) (fun e => by have := Option.some.inj e; omega)) (J3.out.wo.grown (setRow_grown _ _ _) (fun e => by have := Option.some.inj e; have := J3.out.o; omega))
        clear hK K hHeld
        have hHeld := hHeld'
        clear hHeld'
        try simp only [Act.put, List.getElem_toArray, List.getElem_cons_succ, List.getElem_cons_zero]
        refine wpAnyH_take (i := 16) (v := ?_) rfl (by kernel_rfl) (by kernel_rfl) (by kernel_rfl) (fun _ _ _ h => h) (Or.inl ⟨by rfl, ?_⟩) (by assumption) ?_
        rotate_left
        · intro w hSw
          go_simp
          try with_reducible rfl
        simp only [Act.put, List.getElem_toArray, List.getElem_cons_succ, List.getElem_cons_zero, List.setIfInBounds_toArray, List.set_cons_zero, List.set_cons_succ]
        refine wpAnyH_done (by kernel_rfl) ?_ _
        clear hHeld
        go_wp2_with fail
        refine bodyPost_ret (results_row2 (by rfl) _ _ (w.heap.size + 1) 34 L.toArray (0, 0) _ (by rfl) (setRow_heap _ _ _ _ _ _ J3.out.wr) hu (by rfl) hi2 (.bool true) (by rfl)) (by rfl) ?_
        rw [HLA.out]
        exact alo_end HAL.out HQ.out HRI.out ⟨rfl, below_row J3.out.bl (Nat.le_succ _) _⟩
      · skip
        have K2 := Lib.hid (fun V hV => by have := refDefCheck_any o.d A n m V (HIN.out.keep hV).d; unfold dV at this; rw [ckD_no h2] at this; exact this : ∀ V : World, Below w.heap.size w V → Calls Tryz.prog 90 #[.agg #[.string o.d.n, .int .i64 o.d.r, .int .i64 o.d.dl, .slice A n m]] V fun e w' => e = .returned (.int .i64 15) ∧ Below V.heap.size V w')
        refine wpAnyH_take (i := 10) (v := ?_) rfl (by kernel_rfl) (by kernel_rfl) (by kernel_rfl) (fun _ _ _ h => h) (Or.inl ⟨by rfl, ?_⟩) (by assumption) ?_
        rotate_left
        · intro w hSw
          go_simp
          try with_reducible rfl
        simp only [Act.put, List.getElem_toArray, List.getElem_cons_succ, List.getElem_cons_zero, List.setIfInBounds_toArray, List.set_cons_zero, List.set_cons_succ]
        refine wpAnyH_take (i := 11) (v := ?_) rfl (by kernel_rfl) (by kernel_rfl) (by kernel_rfl) (fun _ _ _ h => h) (Or.inl ⟨by rfl, ?_⟩) (by assumption) ?_
        rotate_left
        · intro w hSw
          go_simp
          try with_reducible rfl
        simp only [Act.put, List.getElem_toArray, List.getElem_cons_succ, List.getElem_cons_zero, List.setIfInBounds_toArray, List.set_cons_zero, List.set_cons_succ]
        refine wpAnyH_ready (rs := [12]) (by kernel_rfl) (by simp) ?_
        refine AllReadyH.cons rfl (fun K hK => ?_) AllReadyH.nil
        go_simp
        refine (K2.out _ J2.out.bl).mono ?_
        rintro e wd3 ⟨rfl, hb⟩
        try go_simp
        have J3 := Lib.hid (J2.out.keep hb)
        refine hK.out _ _ ?_ (fun hHeld' => ?_)
        · exact SY.out _ J3.out.wb J3.out.wo
        clear hK K hHeld
        have hHeld := hHeld'
        clear hHeld'
        try simp only [Act.put, List.getElem_toArray, List.getElem_cons_succ, List.getElem_cons_zero, List.setIfInBounds_toArray, List.set_cons_zero, List.set_cons_succ]
        clear hb K2
        refine wpAnyH_take (i := 13) (v := ?_) rfl (by kernel_rfl) (by kernel_rfl) (by kernel_rfl) (fun _ _ _ h => h) (Or.inl ⟨by rfl, ?_⟩) (by assumption) ?_
        rotate_left
        · intro w hSw
          go_simp
          try with_reducible rfl
        simp only [Act.put, List.getElem_toArray, List.getElem_cons_succ, List.getElem_cons_zero, List.setIfInBounds_toArray, List.set_cons_zero, List.set_cons_succ]
        refine wpAnyH_take (i := 14) (v := ?_) rfl (by kernel_rfl) (by kernel_rfl) (by kernel_rfl) (fun _ _ _ h => h) (Or.inl ⟨by rfl, ?_⟩) (by assumption) ?_
        rotate_left
        · intro w hSw
          go_simp
          try with_reducible rfl
        simp only [Act.put, List.getElem_toArray, List.getElem_cons_succ, List.getElem_cons_zero, List.setIfInBounds_toArray, List.set_cons_zero, List.set_cons_succ]
        have HQ : Hid (QU false o) := Lib.hid ⟨fun e => (by cases e), fun e => absurd (HU.out.1 e) (fun hh => h2 (hh.2.2))⟩
        refine wpAnyH_ready (rs := [15]) (by kernel_rfl) (by simp) ?_
        refine AllReadyH.cons rfl (fun K hK => ?_) AllReadyH.nil
        rw [if_pos (by rfl)]
        refine wp_store_row 34 (.tmp 2) (.tmp 60) (by rfl) (w.heap.size + 1) L.toArray (by rfl) (by rfl) 34 (oA (zeroO 0 0) none 0 0) J3.out.wr hi2 (by rw [HLA.out]; rfl) ha2 ?_
        refine hK.out _ _ ?_ (fun hHeld' => ?_)
        · exact SY.out _ (J3.out.wb.grown (setRow_grown _ _ _) (fun e => by have := Option.some.inj e; omega)) (J3.out.wo.grown (setRow_grown _ _ _) (fun e => by have := Option.some.inj e; have := J3.out.o; omega))
        clear hK K hHeld
        have hHeld := hHeld'
        clear hHeld'
        try simp only [Act.put, List.getElem_toArray, List.getElem_cons_succ, List.getElem_cons_zero]
        refine wpAnyH_take (i := 16) (v := ?_) rfl (by kernel_rfl) (by kernel_rfl) (by kernel_rfl) (fun _ _ _ h => h) (Or.inl ⟨by rfl, ?_⟩) (by assumption) ?_
        rotate_left
        · intro w hSw
          go_simp
          try with_reducible rfl
        simp only [Act.put, List.getElem_toArray, List.getElem_cons_succ, List.getElem_cons_zero, List.setIfInBounds_toArray, List.set_cons_zero, List.set_cons_succ]
        refine wpAnyH_done (by kernel_rfl) ?_ _
        clear hHeld
        go_wp2_with fail
        refine bodyPost_ret (results_row2 (by rfl) _ _ (w.heap.size + 1) 34 L.toArray (0, 0) _ (by rfl) (setRow_heap _ _ _ _ _ _ J3.out.wr) hu (by rfl) hi2 (.bool false) (by rfl)) (by rfl) ?_
        rw [HLA.out]
        exact alo_end HAL.out HQ.out HRI.out ⟨rfl, below_row J3.out.bl (Nat.le_succ _) _⟩
    · skip
      have K1 := Lib.hid (fun V => by have := saga_b o.m V; rw [decide_eq_false h1] at this; exact this : ∀ V : World, Calls Tryz.prog 96 #[.int .i64 o.m] V fun e w' => e = .returned (.bool false) ∧ Below V.heap.size V w')
      refine wpAnyH_take (i := 5) (v := ?_) rfl (by kernel_rfl) (by kernel_rfl) (by kernel_rfl) (fun _ _ _ h => h) (Or.inl ⟨by rfl, ?_⟩) (by assumption) ?_
      rotate_left
      · intro w hSw
        go_simp
        try with_reducible rfl
      simp only [Act.put, List.getElem_toArray, List.getElem_cons_succ, List.getElem_cons_zero, List.setIfInBounds_toArray, List.set_cons_zero, List.set_cons_succ]
      refine wpAnyH_take (i := 6) (v := ?_) rfl (by kernel_rfl) (by kernel_rfl) (by kernel_rfl) (fun _ _ _ h => h) (Or.inl ⟨by rfl, ?_⟩) (by assumption) ?_
      rotate_left
      · intro w hSw
        go_simp
        try with_reducible rfl
      simp only [Act.put, List.getElem_toArray, List.getElem_cons_succ, List.getElem_cons_zero, List.setIfInBounds_toArray, List.set_cons_zero, List.set_cons_succ]
      refine wpAnyH_ready (rs := [7]) (by kernel_rfl) (by simp) ?_
      refine AllReadyH.cons rfl (fun K hK => ?_) AllReadyH.nil
      go_simp
      refine (K1.out _).mono ?_
      rintro e wd2 ⟨rfl, hb⟩
      try go_simp
      have J2 := Lib.hid (J1.out.keep hb)
      refine hK.out _ _ ?_ (fun hHeld' => ?_)
      · exact SY.out _ J2.out.wb J2.out.wo
      clear hK K hHeld
      have hHeld := hHeld'
      clear hHeld'
      try simp only [Act.put, List.getElem_toArray, List.getElem_cons_succ, List.getElem_cons_zero, List.setIfInBounds_toArray, List.set_cons_zero, List.set_cons_succ]
      clear hb K1
      refine wpAnyH_take (i := 8) (v := ?_) rfl (by kernel_rfl) (by kernel_rfl) (by kernel_rfl) (fun _ _ _ h => h) (Or.inl ⟨by rfl, ?_⟩) (by assumption) ?_
      rotate_left
      · intro w hSw
        go_simp
        try with_reducible rfl
      simp only [Act.put, List.getElem_toArray, List.getElem_cons_succ, List.getElem_cons_zero, List.setIfInBounds_toArray, List.set_cons_zero, List.set_cons_succ]
      refine wpAnyH_take (i := 9) (v := ?_) rfl (by kernel_rfl) (by kernel_rfl) (by kernel_rfl) (fun _ _ _ h => h) (Or.inl ⟨by rfl, ?_⟩) (by assumption) ?_
      rotate_left
      · intro w hSw
        go_simp
        try with_reducible rfl
      simp only [Act.put, List.getElem_toArray, List.getElem_cons_succ, List.getElem_cons_zero, List.setIfInBounds_toArray, List.set_cons_zero, List.set_cons_succ]
      refine wpAnyH_take (i := 10) (v := undef) rfl (by kernel_rfl) (by kernel_rfl) (by kernel_rfl) (fun _ _ _ h => h) (Or.inr ⟨by rfl, rfl⟩) (by assumption) ?_
      simp only [Act.put, List.getElem_toArray, List.getElem_cons_succ, List.getElem_cons_zero, List.setIfInBounds_toArray, List.set_cons_zero, List.set_cons_succ]
      refine wpAnyH_take (i := 11) (v := undef) rfl (by kernel_rfl) (by kernel_rfl) (by kernel_rfl) (fun _ _ _ h => h) (Or.inr ⟨by rfl, rfl⟩) (by assumption) ?_
      simp only [Act.put, List.getElem_toArray, List.getElem_cons_succ, List.getElem_cons_zero, List.setIfInBounds_toArray, List.set_cons_zero, List.set_cons_succ]
      refine wpAnyH_take (i := 12) (v := undef) rfl (by kernel_rfl) (by kernel_rfl) (by kernel_rfl) (fun _ _ _ h => h) (Or.inr ⟨by rfl, rfl⟩) (by assumption) ?_
      simp only [Act.put, List.getElem_toArray, List.getElem_cons_succ, List.getElem_cons_zero, List.setIfInBounds_toArray, List.set_cons_zero, List.set_cons_succ]
      refine wpAnyH_take (i := 13) (v := undef) rfl (by kernel_rfl) (by kernel_rfl) (by kernel_rfl) (fun _ _ _ h => h) (Or.inr ⟨by rfl, rfl⟩) (by assumption) ?_
      simp only [Act.put, List.getElem_toArray, List.getElem_cons_succ, List.getElem_cons_zero, List.setIfInBounds_toArray, List.set_cons_zero, List.set_cons_succ]
      refine wpAnyH_take (i := 14) (v := ?_) rfl (by kernel_rfl) (by kernel_rfl) (by kernel_rfl) (fun _ _ _ h => h) (Or.inl ⟨by rfl, ?_⟩) (by assumption) ?_
      rotate_left
      · intro w hSw
        go_simp
        try with_reducible rfl
      simp only [Act.put, List.getElem_toArray, List.getElem_cons_succ, List.getElem_cons_zero, List.setIfInBounds_toArray, List.set_cons_zero, List.set_cons_succ]
      have HQ : Hid (QU false o) := Lib.hid ⟨fun e => (by cases e), fun e => absurd (HU.out.1 e) (fun hh => h1 (hh.2.1))⟩
      refine wpAnyH_ready (rs := [15]) (by kernel_rfl) (by simp) ?_
      refine AllReadyH.cons rfl (fun K hK => ?_) AllReadyH.nil
      rw [if_pos (by rfl)]
      refine wp_store_row 34 (.tmp 2) (.tmp 60) (by rfl) (w.heap.size + 1) L.toArray (by rfl) (by rfl) 34 (oA (zeroO 0 0) none 0 0) J2.out.wr hi2 (by rw [HLA.out]; rfl) ha2 ?_
      refine hK.out _ _ ?_ (fun hHeld' => ?_)
      · exact SY.out _ (J2.out.wb.grown (setRow_grown _ _ _) (fun e => by have := Option.some.inj e; omega)) (J2.out.wo.grown (setRow_grown _ _ _) (fun e => by have := Option.some.inj e; have := J2.out.o; omega))
      clear hK K hHeld
      have hHeld := hHeld'
      clear hHeld'
      try simp only [Act.put, List.getElem_toArray, List.getElem_cons_succ, List.getElem_cons_zero]
      refine wpAnyH_take (i := 16) (v := ?_) rfl (by kernel_rfl) (by kernel_rfl) (by kernel_rfl) (fun _ _ _ h => h) (Or.inl ⟨by rfl, ?_⟩) (by assumption) ?_
      rotate_left
      · intro w hSw
        go_simp
        try with_reducible rfl
      simp only [Act.put, List.getElem_toArray, List.getElem_cons_succ, List.getElem_cons_zero, List.setIfInBounds_toArray, List.set_cons_zero, List.set_cons_succ]
      refine wpAnyH_done (by kernel_rfl) ?_ _
      clear hHeld
      go_wp2_with fail
      refine bodyPost_ret (results_row2 (by rfl) _ _ (w.heap.size + 1) 34 L.toArray (0, 0) _ (by rfl) (setRow_heap _ _ _ _ _ _ J2.out.wr) hu (by rfl) hi2 (.bool false) (by rfl)) (by rfl) ?_
      rw [HLA.out]
      exact alo_end HAL.out HQ.out HRI.out ⟨rfl, below_row J2.out.bl (Nat.le_succ _) _⟩
  · skip
    have K0 := Lib.hid (fun V => by have := node_b o.n V; rw [decide_eq_false h0] at this; exact this : ∀ V : World, Calls Tryz.prog 95 #[.int .i64 o.n] V fun e w' => e = .returned (.bool false) ∧ Below V.heap.size V w')
    refine wpAnyH_take (i := 1) (v := ?_) rfl (by kernel_rfl) (by kernel_rfl) (by kernel_rfl) (fun _ _ _ h => h) (Or.inl ⟨by rfl, ?_⟩) (by assumption) ?_
    rotate_left
    · intro w hSw
      go_simp
      try with_reducible rfl
    simp only [Act.put, List.getElem_toArray, List.getElem_cons_succ, List.getElem_cons_zero, List.setIfInBounds_toArray, List.set_cons_zero, List.set_cons_succ]
    refine wpAnyH_take (i := 2) (v := ?_) rfl (by kernel_rfl) (by kernel_rfl) (by kernel_rfl) (fun _ _ _ h => h) (Or.inl ⟨by rfl, ?_⟩) (by assumption) ?_
    rotate_left
    · intro w hSw
      go_simp
      try with_reducible rfl
    simp only [Act.put, List.getElem_toArray, List.getElem_cons_succ, List.getElem_cons_zero, List.setIfInBounds_toArray, List.set_cons_zero, List.set_cons_succ]
    refine wpAnyH_ready (rs := [3]) (by kernel_rfl) (by simp) ?_
    refine AllReadyH.cons rfl (fun K hK => ?_) AllReadyH.nil
    go_simp
    refine (K0.out _).mono ?_
    rintro e wd1 ⟨rfl, hb⟩
    try go_simp
    have J1 := Lib.hid (ID.out.keep hb)
    refine hK.out _ _ ?_ (fun hHeld' => ?_)
    · exact SY.out _ J1.out.wb J1.out.wo
    clear hK K hHeld
    have hHeld := hHeld'
    clear hHeld'
    try simp only [Act.put, List.getElem_toArray, List.getElem_cons_succ, List.getElem_cons_zero, List.setIfInBounds_toArray, List.set_cons_zero, List.set_cons_succ]
    clear hb K0
    refine wpAnyH_take (i := 4) (v := ?_) rfl (by kernel_rfl) (by kernel_rfl) (by kernel_rfl) (fun _ _ _ h => h) (Or.inl ⟨by rfl, ?_⟩) (by assumption) ?_
    rotate_left
    · intro w hSw
      go_simp
      try with_reducible rfl
    simp only [Act.put, List.getElem_toArray, List.getElem_cons_succ, List.getElem_cons_zero, List.setIfInBounds_toArray, List.set_cons_zero, List.set_cons_succ]
    refine wpAnyH_take (i := 5) (v := undef) rfl (by kernel_rfl) (by kernel_rfl) (by kernel_rfl) (fun _ _ _ h => h) (Or.inr ⟨by rfl, rfl⟩) (by assumption) ?_
    simp only [Act.put, List.getElem_toArray, List.getElem_cons_succ, List.getElem_cons_zero, List.setIfInBounds_toArray, List.set_cons_zero, List.set_cons_succ]
    refine wpAnyH_take (i := 6) (v := undef) rfl (by kernel_rfl) (by kernel_rfl) (by kernel_rfl) (fun _ _ _ h => h) (Or.inr ⟨by rfl, rfl⟩) (by assumption) ?_
    simp only [Act.put, List.getElem_toArray, List.getElem_cons_succ, List.getElem_cons_zero, List.setIfInBounds_toArray, List.set_cons_zero, List.set_cons_succ]
    refine wpAnyH_take (i := 7) (v := undef) rfl (by kernel_rfl) (by kernel_rfl) (by kernel_rfl) (fun _ _ _ h => h) (Or.inr ⟨by rfl, rfl⟩) (by assumption) ?_
    simp only [Act.put, List.getElem_toArray, List.getElem_cons_succ, List.getElem_cons_zero, List.setIfInBounds_toArray, List.set_cons_zero, List.set_cons_succ]
    refine wpAnyH_take (i := 8) (v := ?_) rfl (by kernel_rfl) (by kernel_rfl) (by kernel_rfl) (fun _ _ _ h => h) (Or.inl ⟨by rfl, ?_⟩) (by assumption) ?_
    rotate_left
    · intro w hSw
      go_simp
      try with_reducible rfl
    simp only [Act.put, List.getElem_toArray, List.getElem_cons_succ, List.getElem_cons_zero, List.setIfInBounds_toArray, List.set_cons_zero, List.set_cons_succ]
    refine wpAnyH_take (i := 9) (v := ?_) rfl (by kernel_rfl) (by kernel_rfl) (by kernel_rfl) (fun _ _ _ h => h) (Or.inl ⟨by rfl, ?_⟩) (by assumption) ?_
    rotate_left
    · intro w hSw
      go_simp
      try with_reducible rfl
    simp only [Act.put, List.getElem_toArray, List.getElem_cons_succ, List.getElem_cons_zero, List.setIfInBounds_toArray, List.set_cons_zero, List.set_cons_succ]
    refine wpAnyH_take (i := 10) (v := undef) rfl (by kernel_rfl) (by kernel_rfl) (by kernel_rfl) (fun _ _ _ h => h) (Or.inr ⟨by rfl, rfl⟩) (by assumption) ?_
    simp only [Act.put, List.getElem_toArray, List.getElem_cons_succ, List.getElem_cons_zero, List.setIfInBounds_toArray, List.set_cons_zero, List.set_cons_succ]
    refine wpAnyH_take (i := 11) (v := undef) rfl (by kernel_rfl) (by kernel_rfl) (by kernel_rfl) (fun _ _ _ h => h) (Or.inr ⟨by rfl, rfl⟩) (by assumption) ?_
    simp only [Act.put, List.getElem_toArray, List.getElem_cons_succ, List.getElem_cons_zero, List.setIfInBounds_toArray, List.set_cons_zero, List.set_cons_succ]
    refine wpAnyH_take (i := 12) (v := undef) rfl (by kernel_rfl) (by kernel_rfl) (by kernel_rfl) (fun _ _ _ h => h) (Or.inr ⟨by rfl, rfl⟩) (by assumption) ?_
    simp only [Act.put, List.getElem_toArray, List.getElem_cons_succ, List.getElem_cons_zero, List.setIfInBounds_toArray, List.set_cons_zero, List.set_cons_succ]
    refine wpAnyH_take (i := 13) (v := undef) rfl (by kernel_rfl) (by kernel_rfl) (by kernel_rfl) (fun _ _ _ h => h) (Or.inr ⟨by rfl, rfl⟩) (by assumption) ?_
    simp only [Act.put, List.getElem_toArray, List.getElem_cons_succ, List.getElem_cons_zero, List.setIfInBounds_toArray, List.set_cons_zero, List.set_cons_succ]
    refine wpAnyH_take (i := 14) (v := ?_) rfl (by kernel_rfl) (by kernel_rfl) (by kernel_rfl) (fun _ _ _ h => h) (Or.inl ⟨by rfl, ?_⟩) (by assumption) ?_
    rotate_left
    · intro w hSw
      go_simp
      try with_reducible rfl
    simp only [Act.put, List.getElem_toArray, List.getElem_cons_succ, List.getElem_cons_zero, List.setIfInBounds_toArray, List.set_cons_zero, List.set_cons_succ]
    have HQ : Hid (QU false o) := Lib.hid ⟨fun e => (by cases e), fun e => absurd (HU.out.1 e) (fun hh => h0 (hh.1))⟩
    refine wpAnyH_ready (rs := [15]) (by kernel_rfl) (by simp) ?_
    refine AllReadyH.cons rfl (fun K hK => ?_) AllReadyH.nil
    rw [if_pos (by rfl)]
    refine wp_store_row 34 (.tmp 2) (.tmp 60) (by rfl) (w.heap.size + 1) L.toArray (by rfl) (by rfl) 34 (oA (zeroO 0 0) none 0 0) J1.out.wr hi2 (by rw [HLA.out]; rfl) ha2 ?_
    refine hK.out _ _ ?_ (fun hHeld' => ?_)
    · exact SY.out _ (J1.out.wb.grown (setRow_grown _ _ _) (fun e => by have := Option.some.inj e; omega)) (J1.out.wo.grown (setRow_grown _ _ _) (fun e => by have := Option.some.inj e; have := J1.out.o; omega))
    clear hK K hHeld
    have hHeld := hHeld'
    clear hHeld'
    try simp only [Act.put, List.getElem_toArray, List.getElem_cons_succ, List.getElem_cons_zero]
    refine wpAnyH_take (i := 16) (v := ?_) rfl (by kernel_rfl) (by kernel_rfl) (by kernel_rfl) (fun _ _ _ h => h) (Or.inl ⟨by rfl, ?_⟩) (by assumption) ?_
    rotate_left
    · intro w hSw
      go_simp
      try with_reducible rfl
    simp only [Act.put, List.getElem_toArray, List.getElem_cons_succ, List.getElem_cons_zero, List.setIfInBounds_toArray, List.set_cons_zero, List.set_cons_succ]
    refine wpAnyH_done (by kernel_rfl) ?_ _
    clear hHeld
    go_wp2_with fail
    refine bodyPost_ret (results_row2 (by rfl) _ _ (w.heap.size + 1) 34 L.toArray (0, 0) _ (by rfl) (setRow_heap _ _ _ _ _ _ J1.out.wr) hu (by rfl) hi2 (.bool false) (by rfl)) (by rfl) ?_
    rw [HLA.out]
    exact alo_end HAL.out HQ.out HRI.out ⟨rfl, below_row J1.out.bl (Nat.le_succ _) _⟩
set_option maxRecDepth 100000 in
set_option maxHeartbeats 8000000 in
theorem used_11 (o : Ov) (A : Option Addr) (n m : Nat) (w : World) (h : OpIn w o A n m) (hk : o.k = 11) :
    Calls Tryz.prog 63 #[.agg (oA o A n m)] w fun e w' => AloR o w w' e := by
  have I0 := Lib.hid (al_start w o A n m)
  obtain ⟨cc, hcc⟩ : ∃ cc : Ov, cc = { zeroO o.k o.n with key := o.key } := ⟨_, rfl⟩
  have HAL : Hid (cc = aloneO o) := Lib.hid (by rw [hcc]; unfold aloneO; simp only [hk, Int.reduceEq, ↓reduceIte])
  have HCC := Lib.hid hcc
  clear hcc
  have HIN := Lib.hid h
  have HRI : Hid (OpIn w (aloneO o) none 0 0) := Lib.hid ⟨by rw [show (aloneO o).d = zeroD from by rw [← HAL.out, HCC.out]; rfl]; exact defAt_zeroO w, alone_z h.z⟩
  have HU : Hid (usedO o ↔ (0 ≤ o.n ∧ o.n ≤ 55) ∧ isName o.key.data.toList = true) := Lib.hid (by unfold usedO nodeO; simp only [hk, Int.reduceEq, ↓reduceIte])
  have e1 : (o.k == 1) = false := by rw [hk]; rfl
  have e2 : (o.k == 2) = false := by rw [hk]; rfl
  have e3 : (o.k == 3) = false := by rw [hk]; rfl
  have e4 : (o.k == 4) = false := by rw [hk]; rfl
  have e5 : (o.k == 5) = false := by rw [hk]; rfl
  have e7 : (o.k == 7) = false := by rw [hk]; rfl
  have e6 : (o.k == 6) = false := by rw [hk]; rfl
  have e8 : (o.k == 8) = false := by rw [hk]; rfl
  have e9 : (o.k == 9) = false := by rw [hk]; rfl
  have e10 : (o.k == 10) = false := by rw [hk]; rfl
  have e11 : (o.k == 11) = true := by rw [hk]; rfl
  clear hk h
  go_enter Tryz.func63, Tryz.ntmps63
  go_upto_region 1 with fail
  rw [← zero10 0 0]
  generalize ((w.alloc (.cells (oA o A n m) 34)).alloc (.cells (oA (zeroO 0 0) none 0 0) 34)) = w1 at I0 ⊢
  have x0 : w1.cell? ⟨w.heap.size, 0, none⟩ = some (.int .i64 o.k) := I0.out.2.1.cell 0
  have x1 : w1.cell? ⟨w.heap.size, 1, none⟩ = some (.int .i64 o.n) := I0.out.2.1.cell 1
  have I1 := Lib.hid (AlI.new I0.out o.k o.n)
  go_upto_region 2 with (refine wpList_store_row rfl 34 (.tmp 4) (.tmp 9) rfl _ (oA (zeroO o.k o.n) none 0 0) rfl rfl 34 _ (heap_alloc_new _ _) (info10 _ _ _ _) rfl (all10 _ _ _ _) ?_; rw [World.setRow_alloc_new])
  clear x0 x1 I0
  generalize w1.alloc (.cells (oA (zeroO o.k o.n) none 0 0) 34) = w2 at I1 ⊢
  generalize w1.heap.size = O at I1 ⊢
  have x0 : w2.cell? ⟨w.heap.size, 0, none⟩ = some (.int .i64 o.k) := I1.out.wb.cell 0
  have x3 : w2.cell? ⟨w.heap.size, 3, none⟩ = some (.string o.key) := I1.out.wb.cell 3
  have y3 : w2.cell? ⟨O, 3, none⟩ = some (.string ⟨#[]⟩) := I1.out.wo.cell 3
  have f3 : w2.frozen? ⟨O, 3, none⟩ = false := I1.out.wo.fr 3
  have I2 := Lib.hid I1.out.put_key
  go_upto_region 23 with fail
  clear x0
  go_upto_region 24 with fail
  clear x3 y3 f3 I1
  generalize (w2.setCell ⟨O, 3, none⟩ (.string o.key)) = w3 at I2 ⊢
  have IC : Hid (AlI w o A n m O cc none 0 0 w3) := Lib.hid (by have := I2.out; rw [← HCC.out] at this; exact this)
  clear I2
  obtain ⟨L, hL⟩ : ∃ L, L = (oA cc none 0 0).toList := ⟨_, rfl⟩
  have HLA : Hid (L.toArray = oA cc none 0 0) := Lib.hid (by rw [hL])
  have hu := Tryz.underlying34
  have hi : (Tryz.prog.info? 34).map (·.size) = some L.length := by rw [hL]; exact info10 cc none 0 0
  have hi2 : (Tryz.prog.info? 34).map (·.size) = some L.toArray.size := by rw [HLA.out]; exact info10 cc none 0 0
  have ha2 : L.toArray.all (·.oneCell') = true := by rw [HLA.out]; exact all10 cc none 0 0
  have SY : Hid (∀ wx : World, Whole wx w.heap.size 34 (oA o A n m) → Whole wx O 34 (oA cc none 0 0) → (wx.rangeAt O 0 L ∧ wx.cell? ⟨w.heap.size, 1, none⟩ = some (.int .i64 o.n) ∧ wx.cell? ⟨w.heap.size, 3, none⟩ = some (.string o.key) ∧ True)) := Lib.hid (fun wx h1 h2 => ⟨fun i v hv => by rw [Nat.zero_add, h2.cell]; rw [hL, Array.getElem?_toList] at hv; exact hv, h1.cell 1, h1.cell 3, trivial⟩)
  clear hL
  have ID := Lib.hid (IC.out.keep (Below.refl _ _).drew)
  have SA := Lib.hid (SY.out _ ID.out.wb ID.out.wo)
  refine wp_region_held_drew (S := fun wx => wx.rangeAt O 0 L ∧ wx.cell? ⟨w.heap.size, 1, none⟩ = some (.int .i64 o.n) ∧ wx.cell? ⟨w.heap.size, 3, none⟩ = some (.string o.key) ∧ True) (by kernel_rfl) SA.out (fun hHeld => ?_)
  clear SA IC
  generalize w3.drew = wd0 at hHeld ID ⊢
  refine wpAnyH_take (i := 0) (v := _) rfl (by kernel_rfl) (by kernel_rfl) (by kernel_rfl) (fun _ _ _ h => h) (yieldsIf_load_mid (by rfl) _ _ rfl _ _ rfl _ _ (fun w hSw => hSw.1) hu rfl hi) (by assumption) ?_
  simp only [Act.put, List.getElem_toArray, List.getElem_cons_zero, List.setIfInBounds_toArray, List.set_cons_zero, List.set_cons_succ]
  by_cases h0 : 0 ≤ o.n ∧ o.n ≤ 55
  · skip
    have K0 := Lib.hid (fun V => by have := node_b o.n V; rw [decide_eq_true h0] at this; exact this : ∀ V : World, Calls Tryz.prog 95 #[.int .i64 o.n] V fun e w' => e = .returned (.bool true) ∧ Below V.heap.size V w')
    refine wpAnyH_take (i := 1) (v := ?_) rfl (by kernel_rfl) (by kernel_rfl) (by kernel_rfl) (fun _ _ _ h => h) (Or.inl ⟨by rfl, ?_⟩) (by assumption) ?_
    rotate_left
    · intro w hSw
      go_simp
      try with_reducible rfl
    simp only [Act.put, List.getElem_toArray, List.getElem_cons_succ, List.getElem_cons_zero, List.setIfInBounds_toArray, List.set_cons_zero, List.set_cons_succ]
    refine wpAnyH_take (i := 2) (v := ?_) rfl (by kernel_rfl) (by kernel_rfl) (by kernel_rfl) (fun _ _ _ h => h) (Or.inl ⟨by rfl, ?_⟩) (by assumption) ?_
    rotate_left
    · intro w hSw
      go_simp
      try with_reducible rfl
    simp only [Act.put, List.getElem_toArray, List.getElem_cons_succ, List.getElem_cons_zero, List.setIfInBounds_toArray, List.set_cons_zero, List.set_cons_succ]
    refine wpAnyH_ready (rs := [3]) (by kernel_rfl) (by simp) ?_
    refine AllReadyH.cons rfl (fun K hK => ?_) AllReadyH.nil
    go_simp
    refine (K0.out _).mono ?_
    rintro e wd1 ⟨rfl, hb⟩
    try go_simp
    have J1 := Lib.hid (ID.out.keep hb)
    refine hK.out _ _ ?_ (fun hHeld' => ?_)
    · exact SY.out _ J1.out.wb J1.out.wo
    clear hK K hHeld
    have hHeld := hHeld'
    clear hHeld'
    try simp only [Act.put, List.getElem_toArray, List.getElem_cons_succ, List.getElem_cons_zero, List.setIfInBounds_toArray, List.set_cons_zero, List.set_cons_succ]
    clear hb K0
    refine wpAnyH_take (i := 4) (v := ?_) rfl (by kernel_rfl) (by kernel_rfl) (by kernel_rfl) (fun _ _ _ h => h) (Or.inl ⟨by rfl, ?_⟩) (by assumption) ?_
    rotate_left
    · intro w hSw
      go_simp
      try with_reducible rfl
    simp only [Act.put, List.getElem_toArray, List.getElem_cons_succ, List.getElem_cons_zero, List.setIfInBounds_toArray, List.set_cons_zero, List.set_cons_succ]
    by_cases h1 : isName o.key.data.toList = true
    · skip
      have K1 := Lib.hid (fun V => by have := (refName_any o.key V HIN.out.z.key).mono (R' := fun e w' => e = .returned (.bool true) ∧ Below V.heap.size V w') (fun e w' ⟨he, hw⟩ => ⟨by rw [he]; exact congrArg _ (congrArg Value.bool (h1)), by rw [← hw]; exact Below.refl _ _⟩); exact this : ∀ V : World, Calls Tryz.prog 97 #[.string o.key] V fun e w' => e = .returned (.bool true) ∧ Below V.heap.size V w')
      refine wpAnyH_take (i := 5) (v := ?_) rfl (by kernel_rfl) (by kernel_rfl) (by kernel_rfl) (fun _ _ _ h => h) (Or.inl ⟨by rfl, ?_⟩) (by assumption) ?_
      rotate_left
      · intro w hSw
        go_simp
        try with_reducible rfl
      simp only [Act.put, List.getElem_toArray, List.getElem_cons_succ, List.getElem_cons_zero, List.setIfInBounds_toArray, List.set_cons_zero, List.set_cons_succ]
      refine wpAnyH_take (i := 6) (v := ?_) rfl (by kernel_rfl) (by kernel_rfl) (by kernel_rfl) (fun _ _ _ h => h) (Or.inl ⟨by rfl, ?_⟩) (by assumption) ?_
      rotate_left
      · intro w hSw
        go_simp
        try with_reducible rfl
      simp only [Act.put, List.getElem_toArray, List.getElem_cons_succ, List.getElem_cons_zero, List.setIfInBounds_toArray, List.set_cons_zero, List.set_cons_succ]
      refine wpAnyH_ready (rs := [7]) (by kernel_rfl) (by simp) ?_
      refine AllReadyH.cons rfl (fun K hK => ?_) AllReadyH.nil
      go_simp
      refine (K1.out _).mono ?_
      rintro e wd2 ⟨rfl, hb⟩
      try go_simp
      have J2 := Lib.hid (J1.out.keep hb)
      refine hK.out _ _ ?_ (fun hHeld' => ?_)
      · exact SY.out _ J2.out.wb J2.out.wo
      clear hK K hHeld
      have hHeld := hHeld'
      clear hHeld'
      try simp only [Act.put, List.getElem_toArray, List.getElem_cons_succ, List.getElem_cons_zero, List.setIfInBounds_toArray, List.set_cons_zero, List.set_cons_succ]
      clear hb K1
      refine wpAnyH_take (i := 8) (v := ?_) rfl (by kernel_rfl) (by kernel_rfl) (by kernel_rfl) (fun _ _ _ h => h) (Or.inl ⟨by rfl, ?_⟩) (by assumption) ?_
      rotate_left
      · intro w hSw
        go_simp
        try with_reducible rfl
      simp only [Act.put, List.getElem_toArray, List.getElem_cons_succ, List.getElem_cons_zero, List.setIfInBounds_toArray, List.set_cons_zero, List.set_cons_succ]
      have HQ : Hid (QU true o) := Lib.hid ⟨fun _ => HU.out.2 ⟨h0, h1⟩, fun _ => rfl⟩
      refine wpAnyH_ready (rs := [9]) (by kernel_rfl) (by simp) ?_
      refine AllReadyH.cons rfl (fun K hK => ?_) AllReadyH.nil
      rw [if_pos (by rfl)]
      refine wp_store_row 34 (.tmp 2) (.tmp 95) (by rfl) (w.heap.size + 1) L.toArray (by rfl) (by rfl) 34 (oA (zeroO 0 0) none 0 0) J2.out.wr hi2 (by rw [HLA.out]; rfl) ha2 ?_
      refine hK.out _ _ ?_ (fun hHeld' => ?_)
      · exact SY.out _ (J2.out.wb.grown (setRow_grown _ _ _) (fun e => by have := Option.some.inj e; omega)) (J2.out.wo.grown (setRow_grown _ _ _) (fun e => by have := Option.some.inj e; have := J2.out.o; omega))
      clear hK K hHeld
      have hHeld := hHeld'
      clear hHeld'
      try simp only [Act.put, List.getElem_toArray, List.getElem_cons_succ, List.getElem_cons_zero]
      refine wpAnyH_take (i := 10) (v := ?_) rfl (by kernel_rfl) (by kernel_rfl) (by kernel_rfl) (fun _ _ _ h => h) (Or.inl ⟨by rfl, ?_⟩) (by assumption) ?_
      rotate_left
      · intro w hSw
        go_simp
        try with_reducible rfl
      simp only [Act.put, List.getElem_toArray, List.getElem_cons_succ, List.getElem_cons_zero, List.setIfInBounds_toArray, List.set_cons_zero, List.set_cons_succ]
      refine wpAnyH_done (by kernel_rfl) ?_ _
      clear hHeld
      go_wp2_with fail
      refine bodyPost_ret (results_row2 (by rfl) _ _ (w.heap.size + 1) 34 L.toArray (0, 0) _ (by rfl) (setRow_heap _ _ _ _ _ _ J2.out.wr) hu (by rfl) hi2 (.bool true) (by rfl)) (by rfl) ?_
      rw [HLA.out]
      exact alo_end HAL.out HQ.out HRI.out ⟨rfl, below_row J2.out.bl (Nat.le_succ _) _⟩
    · skip
      have K1 := Lib.hid (fun V => by have := (refName_any o.key V HIN.out.z.key).mono (R' := fun e w' => e = .returned (.bool false) ∧ Below V.heap.size V w') (fun e w' ⟨he, hw⟩ => ⟨by rw [he]; exact congrArg _ (congrArg Value.bool (Bool.eq_false_iff.2 h1)), by rw [← hw]; exact Below.refl _ _⟩); exact this : ∀ V : World, Calls Tryz.prog 97 #[.string o.key] V fun e w' => e = .returned (.bool false) ∧ Below V.heap.size V w')
      refine wpAnyH_take (i := 5) (v := ?_) rfl (by kernel_rfl) (by kernel_rfl) (by kernel_rfl) (fun _ _ _ h => h) (Or.inl ⟨by rfl, ?_⟩) (by assumption) ?_
      rotate_left
      · intro w hSw
        go_simp
        try with_reducible rfl
      simp only [Act.put, List.getElem_toArray, List.getElem_cons_succ, List.getElem_cons_zero, List.setIfInBounds_toArray, List.set_cons_zero, List.set_cons_succ]
      refine wpAnyH_take (i := 6) (v := ?_) rfl (by kernel_rfl) (by kernel_rfl) (by kernel_rfl) (fun _ _ _ h => h) (Or.inl ⟨by rfl, ?_⟩) (by assumption) ?_
      rotate_left
      · intro w hSw
        go_simp
        try with_reducible rfl
      simp only [Act.put, List.getElem_toArray, List.getElem_cons_succ, List.getElem_cons_zero, List.setIfInBounds_toArray, List.set_cons_zero, List.set_cons_succ]
      refine wpAnyH_ready (rs := [7]) (by kernel_rfl) (by simp) ?_
      refine AllReadyH.cons rfl (fun K hK => ?_) AllReadyH.nil
      go_simp
      refine (K1.out _).mono ?_
      rintro e wd2 ⟨rfl, hb⟩
      try go_simp
      have J2 := Lib.hid (J1.out.keep hb)
      refine hK.out _ _ ?_ (fun hHeld' => ?_)
      · exact SY.out _ J2.out.wb J2.out.wo
      clear hK K hHeld
      have hHeld := hHeld'
      clear hHeld'
      try simp only [Act.put, List.getElem_toArray, List.getElem_cons_succ, List.getElem_cons_zero, List.setIfInBounds_toArray, List.set_cons_zero, List.set_cons_succ]
      clear hb K1
      refine wpAnyH_take (i := 8) (v := ?_) rfl (by kernel_rfl) (by kernel_rfl) (by kernel_rfl) (fun _ _ _ h => h) (Or.inl ⟨by rfl, ?_⟩) (by assumption) ?_
      rotate_left
      · intro w hSw
        go_simp
        try with_reducible rfl
      simp only [Act.put, List.getElem_toArray, List.getElem_cons_succ, List.getElem_cons_zero, List.setIfInBounds_toArray, List.set_cons_zero, List.set_cons_succ]
      have HQ : Hid (QU false o) := Lib.hid ⟨fun e => (by cases e), fun e => absurd (HU.out.1 e) (fun hh => h1 (hh.2))⟩
      refine wpAnyH_ready (rs := [9]) (by kernel_rfl) (by simp) ?_
      refine AllReadyH.cons rfl (fun K hK => ?_) AllReadyH.nil
      rw [if_pos (by rfl)]
      refine wp_store_row 34 (.tmp 2) (.tmp 95) (by rfl) (w.heap.size + 1) L.toArray (by rfl) (by rfl) 34 (oA (zeroO 0 0) none 0 0) J2.out.wr hi2 (by rw [HLA.out]; rfl) ha2 ?_
      refine hK.out _ _ ?_ (fun hHeld' => ?_)
      · exact SY.out _ (J2.out.wb.grown (setRow_grown _ _ _) (fun e => by have := Option.some.inj e; omega)) (J2.out.wo.grown (setRow_grown _ _ _) (fun e => by have := Option.some.inj e; have := J2.out.o; omega))
      clear hK K hHeld
      have hHeld := hHeld'
      clear hHeld'
      try simp only [Act.put, List.getElem_toArray, List.getElem_cons_succ, List.getElem_cons_zero]
      refine wpAnyH_take (i := 10) (v := ?_) rfl (by kernel_rfl) (by kernel_rfl) (by kernel_rfl) (fun _ _ _ h => h) (Or.inl ⟨by rfl, ?_⟩) (by assumption) ?_
      rotate_left
      · intro w hSw
        go_simp
        try with_reducible rfl
      simp only [Act.put, List.getElem_toArray, List.getElem_cons_succ, List.getElem_cons_zero, List.setIfInBounds_toArray, List.set_cons_zero, List.set_cons_succ]
      refine wpAnyH_done (by kernel_rfl) ?_ _
      clear hHeld
      go_wp2_with fail
      refine bodyPost_ret (results_row2 (by rfl) _ _ (w.heap.size + 1) 34 L.toArray (0, 0) _ (by rfl) (setRow_heap _ _ _ _ _ _ J2.out.wr) hu (by rfl) hi2 (.bool false) (by rfl)) (by rfl) ?_
      rw [HLA.out]
      exact alo_end HAL.out HQ.out HRI.out ⟨rfl, below_row J2.out.bl (Nat.le_succ _) _⟩
  · skip
    have K0 := Lib.hid (fun V => by have := node_b o.n V; rw [decide_eq_false h0] at this; exact this : ∀ V : World, Calls Tryz.prog 95 #[.int .i64 o.n] V fun e w' => e = .returned (.bool false) ∧ Below V.heap.size V w')
    refine wpAnyH_take (i := 1) (v := ?_) rfl (by kernel_rfl) (by kernel_rfl) (by kernel_rfl) (fun _ _ _ h => h) (Or.inl ⟨by rfl, ?_⟩) (by assumption) ?_
    rotate_left
    · intro w hSw
      go_simp
      try with_reducible rfl
    simp only [Act.put, List.getElem_toArray, List.getElem_cons_succ, List.getElem_cons_zero, List.setIfInBounds_toArray, List.set_cons_zero, List.set_cons_succ]
    refine wpAnyH_take (i := 2) (v := ?_) rfl (by kernel_rfl) (by kernel_rfl) (by kernel_rfl) (fun _ _ _ h => h) (Or.inl ⟨by rfl, ?_⟩) (by assumption) ?_
    rotate_left
    · intro w hSw
      go_simp
      try with_reducible rfl
    simp only [Act.put, List.getElem_toArray, List.getElem_cons_succ, List.getElem_cons_zero, List.setIfInBounds_toArray, List.set_cons_zero, List.set_cons_succ]
    refine wpAnyH_ready (rs := [3]) (by kernel_rfl) (by simp) ?_
    refine AllReadyH.cons rfl (fun K hK => ?_) AllReadyH.nil
    go_simp
    refine (K0.out _).mono ?_
    rintro e wd1 ⟨rfl, hb⟩
    try go_simp
    have J1 := Lib.hid (ID.out.keep hb)
    refine hK.out _ _ ?_ (fun hHeld' => ?_)
    · exact SY.out _ J1.out.wb J1.out.wo
    clear hK K hHeld
    have hHeld := hHeld'
    clear hHeld'
    try simp only [Act.put, List.getElem_toArray, List.getElem_cons_succ, List.getElem_cons_zero, List.setIfInBounds_toArray, List.set_cons_zero, List.set_cons_succ]
    clear hb K0
    refine wpAnyH_take (i := 4) (v := ?_) rfl (by kernel_rfl) (by kernel_rfl) (by kernel_rfl) (fun _ _ _ h => h) (Or.inl ⟨by rfl, ?_⟩) (by assumption) ?_
    rotate_left
    · intro w hSw
      go_simp
      try with_reducible rfl
    simp only [Act.put, List.getElem_toArray, List.getElem_cons_succ, List.getElem_cons_zero, List.setIfInBounds_toArray, List.set_cons_zero, List.set_cons_succ]
    refine wpAnyH_take (i := 5) (v := undef) rfl (by kernel_rfl) (by kernel_rfl) (by kernel_rfl) (fun _ _ _ h => h) (Or.inr ⟨by rfl, rfl⟩) (by assumption) ?_
    simp only [Act.put, List.getElem_toArray, List.getElem_cons_succ, List.getElem_cons_zero, List.setIfInBounds_toArray, List.set_cons_zero, List.set_cons_succ]
    refine wpAnyH_take (i := 6) (v := undef) rfl (by kernel_rfl) (by kernel_rfl) (by kernel_rfl) (fun _ _ _ h => h) (Or.inr ⟨by rfl, rfl⟩) (by assumption) ?_
    simp only [Act.put, List.getElem_toArray, List.getElem_cons_succ, List.getElem_cons_zero, List.setIfInBounds_toArray, List.set_cons_zero, List.set_cons_succ]
    refine wpAnyH_take (i := 7) (v := undef) rfl (by kernel_rfl) (by kernel_rfl) (by kernel_rfl) (fun _ _ _ h => h) (Or.inr ⟨by rfl, rfl⟩) (by assumption) ?_
    simp only [Act.put, List.getElem_toArray, List.getElem_cons_succ, List.getElem_cons_zero, List.setIfInBounds_toArray, List.set_cons_zero, List.set_cons_succ]
    refine wpAnyH_take (i := 8) (v := ?_) rfl (by kernel_rfl) (by kernel_rfl) (by kernel_rfl) (fun _ _ _ h => h) (Or.inl ⟨by rfl, ?_⟩) (by assumption) ?_
    rotate_left
    · intro w hSw
      go_simp
      try with_reducible rfl
    simp only [Act.put, List.getElem_toArray, List.getElem_cons_succ, List.getElem_cons_zero, List.setIfInBounds_toArray, List.set_cons_zero, List.set_cons_succ]
    have HQ : Hid (QU false o) := Lib.hid ⟨fun e => (by cases e), fun e => absurd (HU.out.1 e) (fun hh => h0 (hh.1))⟩
    refine wpAnyH_ready (rs := [9]) (by kernel_rfl) (by simp) ?_
    refine AllReadyH.cons rfl (fun K hK => ?_) AllReadyH.nil
    rw [if_pos (by rfl)]
    refine wp_store_row 34 (.tmp 2) (.tmp 95) (by rfl) (w.heap.size + 1) L.toArray (by rfl) (by rfl) 34 (oA (zeroO 0 0) none 0 0) J1.out.wr hi2 (by rw [HLA.out]; rfl) ha2 ?_
    refine hK.out _ _ ?_ (fun hHeld' => ?_)
    · exact SY.out _ (J1.out.wb.grown (setRow_grown _ _ _) (fun e => by have := Option.some.inj e; omega)) (J1.out.wo.grown (setRow_grown _ _ _) (fun e => by have := Option.some.inj e; have := J1.out.o; omega))
    clear hK K hHeld
    have hHeld := hHeld'
    clear hHeld'
    try simp only [Act.put, List.getElem_toArray, List.getElem_cons_succ, List.getElem_cons_zero]
    refine wpAnyH_take (i := 10) (v := ?_) rfl (by kernel_rfl) (by kernel_rfl) (by kernel_rfl) (fun _ _ _ h => h) (Or.inl ⟨by rfl, ?_⟩) (by assumption) ?_
    rotate_left
    · intro w hSw
      go_simp
      try with_reducible rfl
    simp only [Act.put, List.getElem_toArray, List.getElem_cons_succ, List.getElem_cons_zero, List.setIfInBounds_toArray, List.set_cons_zero, List.set_cons_succ]
    refine wpAnyH_done (by kernel_rfl) ?_ _
    clear hHeld
    go_wp2_with fail
    refine bodyPost_ret (results_row2 (by rfl) _ _ (w.heap.size + 1) 34 L.toArray (0, 0) _ (by rfl) (setRow_heap _ _ _ _ _ _ J1.out.wr) hu (by rfl) hi2 (.bool false) (by rfl)) (by rfl) ?_
    rw [HLA.out]
    exact alo_end HAL.out HQ.out HRI.out ⟨rfl, below_row J1.out.bl (Nat.le_succ _) _⟩
end Go.Proofs.YtojodekmmkemgaaGreatDoor
