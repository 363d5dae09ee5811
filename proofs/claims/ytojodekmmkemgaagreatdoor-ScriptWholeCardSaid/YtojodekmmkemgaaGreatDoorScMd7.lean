/- Made: kind 8. Condition: the numbers lie as their types say. -/
import Derived.Test.YtojodekmmkemgaaGreatDoorScMdS
namespace Go.Proofs.YtojodekmmkemgaaGreatDoor
open Go.RowKit Go.Shelf

set_option maxRecDepth 100000 in
set_option maxHeartbeats 8000000 in
theorem made_8 (x : No) (w : World) (hz : NoZ x) (hk : kO x = 8) :
    Calls Tryz.prog 11 #[.agg (nAo x)] w fun e w' => MdO x w e w' := by
  have W1 := Lib.hid (Whole.new w 27 (nAo x))
  have b1 := Lib.hid ((Below.refl w.heap.size w).alloc (Nat.le_refl _) (.cells (nAo x) 27))
  obtain ⟨k, hkk⟩ : ∃ k : Nat, k = kO x := ⟨_, rfl⟩
  obtain ⟨n, hnn⟩ : ∃ n : Nat, n = x.n % 56 := ⟨_, rfl⟩
  have HZ := Lib.hid hz
  have hkq : k = 8 := by rw [hkk]; exact hk
  have hn56 : n ≤ 55 := by omega
  have hkm : (x.kind : Int).tmod 12 = (k : Int) - 1 := by rw [Int.tmod_eq_emod_of_nonneg (by omega), hkk]; unfold kO; omega
  have hnm : (x.n : Int).tmod 56 = (n : Int) := by rw [Int.tmod_eq_emod_of_nonneg (by omega), hnn]; omega
  have h1 := hz.kind
  have h2 := hz.n
  have hw1 : IntKind.i64.wrap (x.kind : Int) = (x.kind : Int) := IntWalk.i64_in _ (by omega)
  have hw2 : IntKind.i64.wrap (x.n : Int) = (x.n : Int) := IntWalk.i64_in _ (by omega)
  have hw3 : wrap64 (1 + ((k : Int) - 1)) = (k : Int) := by unfold wrap64; omega
  have hw4 : IntKind.i64.wrap (1 + ((k : Int) - 1)) = (k : Int) := by rw [IntWalk.i64_in _ (by omega)]; omega
  obtain ⟨mm, hmm⟩ : ∃ mm : Nat, mm = 1 + x.m % 9999 := ⟨_, rfl⟩
  obtain ⟨m5, hm5⟩ : ∃ m5 : Nat, m5 = x.m % 100001 := ⟨_, rfl⟩
  obtain ⟨r21, hr21⟩ : ∃ r : Nat, r = x.to % 21 := ⟨_, rfl⟩
  have HM : Hid (madeO x = { zeroO k n with m := (mm : Int), d := ⟨nmBA x.key, (r21 : Int), (m5 : Int), stepsN (nvO x)⟩ }) := Lib.hid (by
    unfold madeO
    rw [← hkk, if_neg (by omega), if_neg (by omega), if_pos (by omega), hnn, hmm, hm5, hr21]
    rfl)
  have h5 := hz.m
  have h3 := hz.tto
  have hmt : (x.m : Int).tmod 9999 = (mm : Int) - 1 := by rw [Int.tmod_eq_emod_of_nonneg (by omega), hmm]; omega
  have hmt5 : (x.m : Int).tmod 100001 = (m5 : Int) := by rw [Int.tmod_eq_emod_of_nonneg (by omega), hm5]; omega
  have ht3 : (x.to : Int).tmod 21 = (r21 : Int) := by rw [Int.tmod_eq_emod_of_nonneg (by omega), hr21]; omega
  have hb5 : mm ≤ 9999 ∧ m5 ≤ 100000 ∧ r21 ≤ 20 := by omega
  have hwm : IntKind.i64.wrap ((mm : Int) - 1) = (mm : Int) - 1 := IntWalk.i64_in _ (by omega)
  have hwm2 : wrap64 (1 + ((mm : Int) - 1)) = (mm : Int) := by unfold wrap64; omega
  have hwm3 : IntKind.i64.wrap (1 + ((mm : Int) - 1)) = (mm : Int) := by rw [IntWalk.i64_in _ (by omega)]; omega
  have hw53 : IntKind.i64.wrap (x.to : Int) = (x.to : Int) := IntWalk.i64_in _ (by omega)
  have hw55 : IntKind.i64.wrap (m5 : Int) = (m5 : Int) := IntWalk.i64_in _ (by omega)
  have HB5 := Lib.hid hb5
  clear h5 h3 hmm hm5 hr21 hb5
  clear hkk hnn hz h1 h2
  have e1 : ((k : Int) == 1) = false := by rw [hkq]; rfl
  have e2 : ((k : Int) == 2) = false := by rw [hkq]; rfl
  have e3 : ((k : Int) == 3) = false := by rw [hkq]; rfl
  have e6 : ((k : Int) == 6) = false := by rw [hkq]; rfl
  have e8 : ((k : Int) == 8) = true := by rw [hkq]; rfl
  have e9 : ((k : Int) == 9) = false := by rw [hkq]; rfl
  have e10 : ((k : Int) == 10) = false := by rw [hkq]; rfl
  have e11 : ((k : Int) == 11) = false := by rw [hkq]; rfl
  have e12 : ((k : Int) == 12) = false := by rw [hkq]; rfl
  have HKQ := Lib.hid (And.intro hkq hn56)
  clear hkq hn56
  go_enter Tryz.func11, Tryz.ntmps11
  go_upto_region 1 with fail
  rw [← zero10 0 0]
  have sz1 : (w.alloc (.cells (nAo x) 27)).heap.size = w.heap.size + 1 := World.size_alloc ..
  generalize w.alloc (.cells (nAo x) 27) = w1 at W1 b1 sz1 ⊢
  have V2 : Hid (Whole (w1.alloc (.cells (oA (zeroO 0 0) none 0 0) 34)) (w.heap.size + 1) 34 (oA (zeroO 0 0) none 0 0)) := Lib.hid (by rw [← sz1]; exact Whole.new w1 _ _)
  have W2 := Lib.hid (W1.out.alloc (.cells (oA (zeroO 0 0) none 0 0) 34))
  have b2 := Lib.hid (b1.out.alloc b1.out.size (.cells (oA (zeroO 0 0) none 0 0) 34))
  generalize w1.alloc (.cells (oA (zeroO 0 0) none 0 0) 34) = w2 at W2 b2 V2 ⊢
  have x0 : w2.cell? ⟨w.heap.size, 0, none⟩ = some (.int .u8 (x.kind : Int)) := W2.out.cell 0
  have x1 : w2.cell? ⟨w.heap.size, 1, none⟩ = some (.int .u8 (x.n : Int)) := W2.out.cell 1
  go_upto_region 2 with (refine wpList_store_row rfl 34 (.tmp 3) (.tmp 16) rfl _ (oA (zeroO k n) none 0 0) rfl rfl 34 _ (heap_alloc_new _ _) (info10 _ _ _ _) rfl (all10 _ _ _ _) ?_; rw [World.setRow_alloc_new])
  have I3 : Hid (MoI w x w2.heap.size (zeroO k n) (w2.alloc (.cells (oA (zeroO k n) none 0 0) 34))) := Lib.hid ⟨b2.out.alloc b2.out.size _, W2.out.alloc _, V2.out.alloc _, Whole.new w2 _ _, by have := V2.out.lt; omega⟩
  clear x0 x1 W1 W2 b1 b2 V2 sz1 hw1 hw2 hw3 hw4 hkm hnm
  generalize w2.alloc (.cells (oA (zeroO k n) none 0 0) 34) = w3 at I3 ⊢
  generalize w2.heap.size = O at I3 ⊢
  have y0 : w3.cell? ⟨O, 0, none⟩ = some (.int .i64 (k : Int)) := I3.out.co.cell 0
  have y2 : w3.cell? ⟨O, 2, none⟩ = some (.int .i64 0) := I3.out.co.cell 2
  have g2 : w3.frozen? ⟨O, 2, none⟩ = false := I3.out.co.fr 2
  have x5 : w3.cell? ⟨w.heap.size, 5, none⟩ = some (.int .u32 (x.m : Int)) := I3.out.nm.cell 5
  go_upto_region 22 with fail
  have I4 := Lib.hid (I3.out.put (cc' := { zeroO k n with m := (mm : Int) }) 2 (.int .i64 (mm : Int)) rfl)
  clear y0 y2 g2 x5 I3 hwm hwm2 hwm3 hmt
  generalize w3.setCell ⟨O, 2, none⟩ (.int .i64 (mm : Int)) = w4 at I4 ⊢
  obtain ⟨c1, hc1⟩ : ∃ c1 : Ov, c1 = { zeroO k n with m := (mm : Int) } := ⟨_, rfl⟩
  have hck : c1.k = k := by rw [hc1]; rfl
  rw [← hc1] at I4
  have y0 : w4.cell? ⟨O, 0, none⟩ = some (.int .i64 (k : Int)) := by rw [← hck]; exact I4.out.co.cell 0
  have HC1 := Lib.hid hc1
  clear hck hc1
  have x6 : w4.cell? ⟨w.heap.size, 6, none⟩ = some (.int .i64 x.delta) := I4.out.nm.cell 6
  obtain ⟨v, hv⟩ : ∃ v, x.delta.tmod 1152921504606846977 = v := ⟨_, rfl⟩
  obtain ⟨dl, hdl⟩ : ∃ dl, dl = dlN (nvO x) := ⟨_, rfl⟩
  have HDL := Lib.hid hdl
  have hdlv : dl = if v = 0 then 1 else v := by rw [hdl, ← hv]; rfl
  go_upto_if 93 with fail
  go_cut [5] from 93 to 93 (fun s5 wx => s5 = .int .i64 dl ∧ w4 = wx)
  case first =>
    by_cases hv0 : v = 0
    · have hd : dl = 1 := by rw [hdlv, if_pos hv0]
      have e0 : (v == 0) = true := by rw [hv0]; rfl
      have HD := Lib.hid hd
      clear hv hd hdl hdlv hv0
      go_wp2_with fail
      go_meet
      case rel => exact ⟨by rw [HD.out], rfl⟩
    · have hd : dl = v := by rw [hdlv, if_neg hv0]
      have e0 : (v == 0) = false := beq_eq_false_iff_ne.2 hv0
      have HD := Lib.hid hd
      clear hv hd hdl hdlv hv0
      go_wp2_with fail
      go_meet
      case rel => exact ⟨by rw [HD.out], rfl⟩
  case rest =>
  obtain ⟨rfl, rfl⟩ := hcut
  clear x6 hv hdlv hdl y0
  obtain ⟨kk, hkk⟩ : ∃ kk, kk = nmBA x.key := ⟨_, rfl⟩
  have NC : Hid (∀ W : World, Calls Tryz.prog 38 #[.int .u8 (x.key : Int)] W fun e w' => e = .returned (.string kk) ∧ Below W.heap.size W w') := Lib.hid (fun W => by rw [hkk]; exact made_name x.key HZ.out.key W)
  have HKN := Lib.hid hkk
  rw [← hkk] at HM
  clear hkk
  have HNC : Hid (w.heap.size ≠ O) := Lib.hid (by have := I4.out.o1; omega)
  have SA : Hid (w4.drew.cell? ⟨w.heap.size, 2, none⟩ = some (.int .u8 (x.key : Int)) ∧ w4.drew.cell? ⟨w.heap.size, 3, none⟩ = some (.int .u8 (x.to : Int)) ∧ w4.drew.cell? ⟨w.heap.size, 5, none⟩ = some (.int .u32 (x.m : Int)) ∧ True) := Lib.hid ⟨I4.out.nm.cell 2, I4.out.nm.cell 3, I4.out.nm.cell 5, trivial⟩
  have Id : Hid (MoI w x O c1 w4.drew) := Lib.hid (I4.out.keep (Below.refl _ _).drew)
  obtain ⟨B0, hB0⟩ : ∃ B0, B0 = w4.heap.size := ⟨_, rfl⟩
  have HCB : Hid (O < B0) := Lib.hid (by rw [hB0]; exact I4.out.co.lt)
  have HB0 : Hid (B0 ≤ w4.drew.heap.size) := Lib.hid (by rw [hB0]; exact (Below.refl w4.heap.size w4).drew.size)
  clear hB0
  obtain ⟨d0, hd0⟩ : ∃ d0 : Dv, d0 = ⟨kk, (r21 : Int), (m5 : Int), []⟩ := ⟨_, rfl⟩
  have HD0 := Lib.hid hd0
  clear hd0
  go_upto_region 26 with fail
  clear I4
  go_cut [] from 94 to 109 (fun wx => Hid (∃ X, MoJ w x O B0 c1 d0 0 (some ⟨X, 0, none⟩) 1 1 wx))
  case first =>
    refine wp_region_held_drew (S := fun wx => wx.cell? ⟨w.heap.size, 2, none⟩ = some (.int .u8 (x.key : Int)) ∧ wx.cell? ⟨w.heap.size, 3, none⟩ = some (.int .u8 (x.to : Int)) ∧ wx.cell? ⟨w.heap.size, 5, none⟩ = some (.int .u32 (x.m : Int)) ∧ True) (by kernel_rfl) SA.out (fun hHeld => ?_)
    clear SA
    generalize w4.drew = wz at hHeld Id HB0 ⊢
    refine wpAnyH_take (i := 0) (v := ?_) rfl (by kernel_rfl) (by kernel_rfl) (by kernel_rfl) (fun _ _ _ h => h) (Or.inl ⟨by rfl, ?_⟩) (by assumption) ?_
    rotate_left
    · intro w hSw
      go_simp
      try with_reducible rfl
    simp only [Act.put, List.getElem_toArray, List.getElem_cons_zero, List.setIfInBounds_toArray, List.set_cons_zero, List.set_cons_succ]
    refine wpAnyH_take (i := 1) (v := ?_) rfl (by kernel_rfl) (by kernel_rfl) (by kernel_rfl) (fun _ _ _ h => h) (Or.inl ⟨by rfl, ?_⟩) (by assumption) ?_
    rotate_left
    · intro w hSw
      go_simp
      try with_reducible rfl
    simp only [Act.put, List.getElem_toArray, List.getElem_cons_succ, List.getElem_cons_zero, List.setIfInBounds_toArray, List.set_cons_zero, List.set_cons_succ]
    refine wpAnyH_take (i := 3) (v := ?_) rfl (by kernel_rfl) (by kernel_rfl) (by kernel_rfl) (fun _ _ _ h => h) (Or.inl ⟨by rfl, ?_⟩) (by assumption) ?_
    rotate_left
    · intro w hSw
      go_simp
      try with_reducible rfl
    simp only [Act.put, List.getElem_toArray, List.getElem_cons_succ, List.getElem_cons_zero, List.setIfInBounds_toArray, List.set_cons_zero, List.set_cons_succ]
    refine wpAnyH_take (i := 4) (v := ?_) rfl (by kernel_rfl) (by kernel_rfl) (by kernel_rfl) (fun _ _ _ h => h) (Or.inl ⟨by rfl, ?_⟩) (by assumption) ?_
    rotate_left
    · intro w hSw
      go_simp
      try with_reducible rfl
    simp only [Act.put, List.getElem_toArray, List.getElem_cons_succ, List.getElem_cons_zero, List.setIfInBounds_toArray, List.set_cons_zero, List.set_cons_succ]
    refine wpAnyH_take (i := 5) (v := ?_) rfl (by kernel_rfl) (by kernel_rfl) (by kernel_rfl) (fun _ _ _ h => h) (Or.inl ⟨by rfl, ?_⟩) (by assumption) ?_
    rotate_left
    · intro w hSw
      go_simp
      try with_reducible rfl
    simp only [Act.put, List.getElem_toArray, List.getElem_cons_succ, List.getElem_cons_zero, List.setIfInBounds_toArray, List.set_cons_zero, List.set_cons_succ]
    refine wpAnyH_take (i := 6) (v := ?_) rfl (by kernel_rfl) (by kernel_rfl) (by kernel_rfl) (fun _ _ _ h => h) (Or.inl ⟨by rfl, ?_⟩) (by assumption) ?_
    rotate_left
    · intro w hSw
      go_simp
      try with_reducible rfl
    simp only [Act.put, List.getElem_toArray, List.getElem_cons_succ, List.getElem_cons_zero, List.setIfInBounds_toArray, List.set_cons_zero, List.set_cons_succ]
    refine wpAnyH_take (i := 7) (v := ?_) rfl (by kernel_rfl) (by kernel_rfl) (by kernel_rfl) (fun _ _ _ h => h) (Or.inl ⟨by rfl, ?_⟩) (by assumption) ?_
    rotate_left
    · intro w hSw
      go_simp
      try with_reducible rfl
    simp only [Act.put, List.getElem_toArray, List.getElem_cons_succ, List.getElem_cons_zero, List.setIfInBounds_toArray, List.set_cons_zero, List.set_cons_succ]
    refine wpAnyH_take (i := 8) (v := ?_) rfl (by kernel_rfl) (by kernel_rfl) (by kernel_rfl) (fun _ _ _ h => h) (Or.inl ⟨by rfl, ?_⟩) (by assumption) ?_
    rotate_left
    · intro w hSw
      go_simp
      try with_reducible rfl
    simp only [Act.put, List.getElem_toArray, List.getElem_cons_succ, List.getElem_cons_zero, List.setIfInBounds_toArray, List.set_cons_zero, List.set_cons_succ]
    refine wpAnyH_take (i := 9) (v := ?_) rfl (by kernel_rfl) (by kernel_rfl) (by kernel_rfl) (fun _ _ _ h => h) (Or.inl ⟨by rfl, ?_⟩) (by assumption) ?_
    rotate_left
    · intro w hSw
      go_simp
      try with_reducible rfl
    simp only [Act.put, List.getElem_toArray, List.getElem_cons_succ, List.getElem_cons_zero, List.setIfInBounds_toArray, List.set_cons_zero, List.set_cons_succ]
    refine wpAnyH_take (i := 10) (v := ?_) rfl (by kernel_rfl) (by kernel_rfl) (by kernel_rfl) (fun _ _ _ h => h) (Or.inl ⟨by rfl, ?_⟩) (by assumption) ?_
    rotate_left
    · intro w hSw
      go_simp
      try with_reducible rfl
    simp only [Act.put, List.getElem_toArray, List.getElem_cons_succ, List.getElem_cons_zero, List.setIfInBounds_toArray, List.set_cons_zero, List.set_cons_succ]
    refine wpAnyH_take (i := 11) (v := ?_) rfl (by kernel_rfl) (by kernel_rfl) (by kernel_rfl) (fun _ _ _ h => h) (Or.inl ⟨by rfl, ?_⟩) (by assumption) ?_
    rotate_left
    · intro w hSw
      go_simp
      try with_reducible rfl
    simp only [Act.put, List.getElem_toArray, List.getElem_cons_succ, List.getElem_cons_zero, List.setIfInBounds_toArray, List.set_cons_zero, List.set_cons_succ]
    refine wpAnyH_take (i := 12) (v := ?_) rfl (by kernel_rfl) (by kernel_rfl) (by kernel_rfl) (fun _ _ _ h => h) (Or.inl ⟨by rfl, ?_⟩) (by assumption) ?_
    rotate_left
    · intro w hSw
      go_simp
      try with_reducible rfl
    simp only [Act.put, List.getElem_toArray, List.getElem_cons_succ, List.getElem_cons_zero, List.setIfInBounds_toArray, List.set_cons_zero, List.set_cons_succ]
    refine wpAnyH_ready (rs := [2, 13]) (by kernel_rfl) (by simp) ?_
    refine AllReadyH.cons rfl (fun K hK => ?_) (AllReadyH.cons rfl (fun K hK => ?_) AllReadyH.nil)
    · go_simp
      refine (NC.out _).mono ?_
      rintro e wa ⟨rfl, hb⟩
      try go_simp
      have Ia := Lib.hid (Id.out.keep hb)
      have HBa := Lib.hid (Nat.le_trans HB0.out hb.size)
      refine hK.out _ _ ?_ (fun hHeld' => ?_)
      · exact ⟨bcell hHeld.1 hb, bcell hHeld.2.1 hb, bcell hHeld.2.2.1 hb, trivial⟩
      clear hK K hHeld
      have hHeld := hHeld'
      clear hHeld'
      try simp only [Act.put, List.getElem_toArray, List.getElem_cons_succ, List.getElem_cons_zero, List.setIfInBounds_toArray, List.set_cons_zero, List.set_cons_succ]
      clear hb Id HB0 NC
      refine wpAnyH_ready (rs := [13]) (by kernel_rfl) (by simp) ?_
      refine AllReadyH.cons rfl (fun K hK => ?_) AllReadyH.nil
      go_simp
      have ba := (Below.refl wa.heap.size wa).alloc (Nat.le_refl _) (.cells #[.string ⟨#[107, 48]⟩, .int .i64 dl] 71)
      have JI := Lib.hid (Ia.out.keep ba)
      have JX : Hid (Whole (wa.alloc (.cells #[.string ⟨#[107, 48]⟩, .int .i64 dl] 71)) wa.heap.size 71 #[.string ⟨#[107, 48]⟩, .int .i64 (dlN (nvO x))]) := Lib.hid (by rw [← HDL.out]; exact Whole.new wa _ _)
      have JB := HBa
      refine hK.out _ _ ?_ (fun hHeld' => ?_)
      · exact ⟨bcell hHeld.1 ba, bcell hHeld.2.1 ba, bcell hHeld.2.2.1 ba, trivial⟩
      clear hK K hHeld
      have hHeld := hHeld'
      clear hHeld'
      try simp only [Act.put, List.getElem_toArray, List.getElem_cons_succ, List.getElem_cons_zero, List.setIfInBounds_toArray, List.set_cons_zero, List.set_cons_succ]
      clear ba Ia HBa
      generalize wa.alloc (.cells #[.string ⟨#[107, 48]⟩, .int .i64 dl] 71) = wb at hHeld JI JX ⊢
      generalize wa.heap.size = X at JX JB ⊢
      refine wpAnyH_take (i := 14) (v := ?_) rfl (by kernel_rfl) (by kernel_rfl) (by kernel_rfl) (fun _ _ _ h => h) (Or.inl ⟨by rfl, ?_⟩) (by assumption) ?_
      rotate_left
      · intro w hSw
        go_simp
        try with_reducible rfl
      simp only [Act.put, List.getElem_toArray, List.getElem_cons_succ, List.getElem_cons_zero, List.setIfInBounds_toArray, List.set_cons_zero, List.set_cons_succ]
      refine wpAnyH_take (i := 15) (v := ?_) rfl (by kernel_rfl) (by kernel_rfl) (by kernel_rfl) (fun _ _ _ h => h) (Or.inl ⟨by rfl, ?_⟩) (by assumption) ?_
      rotate_left
      · intro w hSw
        go_simp
        try with_reducible rfl
      simp only [Act.put, List.getElem_toArray, List.getElem_cons_succ, List.getElem_cons_zero, List.setIfInBounds_toArray, List.set_cons_zero, List.set_cons_succ]
      have y6 := JI.out.co.cell 6
      have f6 := JI.out.co.fr 6
      have y7 := JI.out.co.cell 7
      have f7 := JI.out.co.fr 7
      have y8 := JI.out.co.cell 8
      have f8 := JI.out.co.fr 8
      have y9 := JI.out.co.cell 9
      have f9 := JI.out.co.fr 9
      obtain ⟨o6, ho6⟩ : ∃ o, (oA c1 none 0 0)[6]? = some o := ⟨_, rfl⟩
      obtain ⟨o7, ho7⟩ : ∃ o, (oA c1 none 0 0)[7]? = some o := ⟨_, rfl⟩
      obtain ⟨o8, ho8⟩ : ∃ o, (oA c1 none 0 0)[8]? = some o := ⟨_, rfl⟩
      obtain ⟨o9, ho9⟩ : ∃ o, (oA c1 none 0 0)[9]? = some o := ⟨_, rfl⟩
      rw [ho6] at y6
      rw [ho7] at y7
      rw [ho8] at y8
      rw [ho9] at y9
      clear ho6 ho7 ho8 ho9
      refine wpAnyH_ready (rs := [16]) (by kernel_rfl) (by simp) ?_
      refine AllReadyH.cons rfl (fun K hK => ?_) AllReadyH.nil
      go_simp
      have JN := MoJ.new d0 JI.out JX.out HCB.out JB.out
      rw [HD0.out] at JN
      refine hK.out _ _ ?_ (fun hHeld' => ?_)
      · exact ⟨gcell hHeld.1 JN.2 (fun e => HNC.out (Option.some.inj e)), gcell hHeld.2.1 JN.2 (fun e => HNC.out (Option.some.inj e)), gcell hHeld.2.2.1 JN.2 (fun e => HNC.out (Option.some.inj e)), trivial⟩
      clear hK K hHeld
      have hHeld := hHeld'
      clear hHeld'
      try simp only [Act.put, List.getElem_toArray, List.getElem_cons_succ, List.getElem_cons_zero]
      refine wpAnyH_done (by kernel_rfl) ?_ _
      have JF := Lib.hid JN.1
      clear JN hHeld JI JX JB y6 y7 y8 y9 f6 f7 f8 f9
      go_wp2_with fail
      go_meet
      case rel => exact Lib.hid ⟨_, by rw [HD0.out]; exact JF.out⟩
    · go_simp
      have ba := (Below.refl wz.heap.size wz).alloc (Nat.le_refl _) (.cells #[.string ⟨#[107, 48]⟩, .int .i64 dl] 71)
      have Ia := Lib.hid (Id.out.keep ba)
      have Xa : Hid (Whole (wz.alloc (.cells #[.string ⟨#[107, 48]⟩, .int .i64 dl] 71)) wz.heap.size 71 #[.string ⟨#[107, 48]⟩, .int .i64 (dlN (nvO x))]) := Lib.hid (by rw [← HDL.out]; exact Whole.new wz _ _)
      have JB := HB0
      refine hK.out _ _ ?_ (fun hHeld' => ?_)
      · exact ⟨bcell hHeld.1 ba, bcell hHeld.2.1 ba, bcell hHeld.2.2.1 ba, trivial⟩
      clear hK K hHeld
      have hHeld := hHeld'
      clear hHeld'
      try simp only [Act.put, List.getElem_toArray, List.getElem_cons_succ, List.getElem_cons_zero, List.setIfInBounds_toArray, List.set_cons_zero, List.set_cons_succ]
      clear ba Id HB0
      generalize wz.alloc (.cells #[.string ⟨#[107, 48]⟩, .int .i64 dl] 71) = wb at hHeld Ia Xa ⊢
      generalize wz.heap.size = X at Xa JB ⊢
      refine wpAnyH_ready (rs := [2]) (by kernel_rfl) (by simp) ?_
      refine AllReadyH.cons rfl (fun K hK => ?_) AllReadyH.nil
      go_simp
      refine (NC.out _).mono ?_
      rintro e wa ⟨rfl, hb⟩
      try go_simp
      have JI := Lib.hid (Ia.out.keep hb)
      have JX := Lib.hid (Xa.out.keep hb)
      refine hK.out _ _ ?_ (fun hHeld' => ?_)
      · exact ⟨bcell hHeld.1 hb, bcell hHeld.2.1 hb, bcell hHeld.2.2.1 hb, trivial⟩
      clear hK K hHeld
      have hHeld := hHeld'
      clear hHeld'
      try simp only [Act.put, List.getElem_toArray, List.getElem_cons_succ, List.getElem_cons_zero, List.setIfInBounds_toArray, List.set_cons_zero, List.set_cons_succ]
      clear hb Ia Xa NC
      refine wpAnyH_take (i := 14) (v := ?_) rfl (by kernel_rfl) (by kernel_rfl) (by kernel_rfl) (fun _ _ _ h => h) (Or.inl ⟨by rfl, ?_⟩) (by assumption) ?_
      rotate_left
      · intro w hSw
        go_simp
        try with_reducible rfl
      simp only [Act.put, List.getElem_toArray, List.getElem_cons_succ, List.getElem_cons_zero, List.setIfInBounds_toArray, List.set_cons_zero, List.set_cons_succ]
      refine wpAnyH_take (i := 15) (v := ?_) rfl (by kernel_rfl) (by kernel_rfl) (by kernel_rfl) (fun _ _ _ h => h) (Or.inl ⟨by rfl, ?_⟩) (by assumption) ?_
      rotate_left
      · intro w hSw
        go_simp
        try with_reducible rfl
      simp only [Act.put, List.getElem_toArray, List.getElem_cons_succ, List.getElem_cons_zero, List.setIfInBounds_toArray, List.set_cons_zero, List.set_cons_succ]
      have y6 := JI.out.co.cell 6
      have f6 := JI.out.co.fr 6
      have y7 := JI.out.co.cell 7
      have f7 := JI.out.co.fr 7
      have y8 := JI.out.co.cell 8
      have f8 := JI.out.co.fr 8
      have y9 := JI.out.co.cell 9
      have f9 := JI.out.co.fr 9
      obtain ⟨o6, ho6⟩ : ∃ o, (oA c1 none 0 0)[6]? = some o := ⟨_, rfl⟩
      obtain ⟨o7, ho7⟩ : ∃ o, (oA c1 none 0 0)[7]? = some o := ⟨_, rfl⟩
      obtain ⟨o8, ho8⟩ : ∃ o, (oA c1 none 0 0)[8]? = some o := ⟨_, rfl⟩
      obtain ⟨o9, ho9⟩ : ∃ o, (oA c1 none 0 0)[9]? = some o := ⟨_, rfl⟩
      rw [ho6] at y6
      rw [ho7] at y7
      rw [ho8] at y8
      rw [ho9] at y9
      clear ho6 ho7 ho8 ho9
      refine wpAnyH_ready (rs := [16]) (by kernel_rfl) (by simp) ?_
      refine AllReadyH.cons rfl (fun K hK => ?_) AllReadyH.nil
      go_simp
      have JN := MoJ.new d0 JI.out JX.out HCB.out JB.out
      rw [HD0.out] at JN
      refine hK.out _ _ ?_ (fun hHeld' => ?_)
      · exact ⟨gcell hHeld.1 JN.2 (fun e => HNC.out (Option.some.inj e)), gcell hHeld.2.1 JN.2 (fun e => HNC.out (Option.some.inj e)), gcell hHeld.2.2.1 JN.2 (fun e => HNC.out (Option.some.inj e)), trivial⟩
      clear hK K hHeld
      have hHeld := hHeld'
      clear hHeld'
      try simp only [Act.put, List.getElem_toArray, List.getElem_cons_succ, List.getElem_cons_zero]
      refine wpAnyH_done (by kernel_rfl) ?_ _
      have JF := Lib.hid JN.1
      clear JN hHeld JI JX JB y6 y7 y8 y9 f6 f7 f8 f9
      go_wp2_with fail
      go_meet
      case rel => exact Lib.hid ⟨_, by rw [HD0.out]; exact JF.out⟩
  case rest =>
  generalize wc = w20 at hcut ⊢
  obtain ⟨X, hJ⟩ := hcut.out
  have J0 := Lib.hid hJ
  clear hJ hcut SA Id NC HB0
  have hz1 := HZ.out.step
  obtain ⟨M, hM⟩ : ∃ M : Nat, x.step % 8 = M := ⟨_, rfl⟩
  have hw1 : IntKind.i64.wrap (x.step : Int) = (x.step : Int) := IntWalk.i64_in _ (by omega)
  have ht1 : (x.step : Int).tmod 8 = (M : Int) := by rw [Int.tmod_eq_emod_of_nonneg (by omega)]; omega
  have hM8 : M < 8 := by omega
  have HMM := Lib.hid hM
  have x4 : w20.cell? ⟨w.heap.size, 4, none⟩ = some (.int .u8 (x.step : Int)) := J0.out.nm.cell 4
  clear hz1 hM hmt5 ht3 hw53 hw55
  go_wp2_with fail
  clear x4
  go_loopw [114] (fun i wr => ∃ (j : Nat), j ≤ M ∧ i = .int .i64 j ∧ Hid (∃ A n m, MoJ w x O B0 c1 d0 j A n m wr)) (fun i _ => M - (intOf i).toNat)
  case atStart => exact ⟨0, by omega, rfl, Lib.hid ⟨_, _, _, J0.out⟩⟩
  case round =>
    clear J0
    obtain ⟨j, hj, rfl, HI⟩ := hrel
    by_cases hjM : j < M
    · obtain ⟨A, n1, m1, hJ⟩ := HI.out
      have J1 := Lib.hid hJ
      clear HI hJ
      have hj0 : (j : Int) < (M : Int) := by omega
      have hwj : IntKind.i64.wrap ((j : Int) + 1) = (j : Int) + 1 := IntWalk.i64_in _ (by omega)
      have hw9 : IntKind.i64.wrap ((j : Int) - 9) = (j : Int) - 9 := IntWalk.i64_in _ (by omega)
      have hwu : IntKind.u8.wrap (j : Int) = (j : Int) := by rw [IntKind.wrap_u8]; omega
      have hwv : IntKind.u8.wrap (49 + (j : Int)) = 49 + (j : Int) := by rw [IntKind.wrap_u8]; omega
      obtain ⟨ky, hky⟩ : ∃ ky : ByteArray, ky = ⟨#[107, (49 + j).toUInt8]⟩ := ⟨_, rfl⟩
      have hc := conv_bytes (slB_lit wr [(49 + j).toUInt8] 1 rfl #[.int .u8 (49 + (j : Int))] (by show _ = #[Value.int .u8 (((49 + j).toUInt8).toNat : Int)]; rw [u8_lt (by omega)]; rfl)) 1
      obtain ⟨t2, e2, _, hadd⟩ := add_ba ⟨#[107]⟩ ⟨[(49 + j).toUInt8].toArray⟩ (by show 1 + 1 ≤ _; decide)
      have e3 : t2 = ky := by rw [hky, ← ba_eta t2, e2.out]; rfl
      rw [e3] at hadd
      clear e2 e3
      obtain ⟨z9, A', m', w8, HR, q9, g9, HJ⟩ := J1.out.round (by omega) ky hky (.cells #[.int .u8 (49 + (j : Int))] 5)
      have y9 : (wr.alloc (.cells #[.int .u8 (49 + (j : Int))] 5)).cell? ⟨O, 9, none⟩ = some (.slice A n1 m1) := acell _ z9
      clear hky J1
      generalize (⟨[(49 + j).toUInt8].toArray⟩ : ByteArray) = s1c at hc hadd
      go_wp2_with (at_builtin; refine wpList_append_run rfl (.tmp 119) (.tmp 129) 30 30 rfl rfl rfl HR.out ?_)
      go_roundw
      case rel => exact ⟨j + 1, by omega, by go_num, Lib.hid ⟨_, _, _, HJ.out⟩⟩
      case measure => simp [intOf]; omega
    · obtain rfl : j = M := by omega
      obtain ⟨A, n1, m1, hJ⟩ := HI.out
      have J1 := Lib.hid (show MoJ w x O B0 c1 d0 (x.step % 8) A n1 m1 wr from by rw [HMM.out]; exact hJ)
      clear HI hJ
      have hnj : ¬ ((j : Int) < (j : Int)) := by omega
      have HMC : Hid (madeO x = { c1 with d := { d0 with s := stepsN (nvO x) } }) := Lib.hid (by rw [HM.out, HC1.out, HD0.out])
      have HCI := Lib.hid (J1.out.done (by rw [HC1.out]; exact (let z := opok_z (k := k) (n := n) (by have := HKQ.out.1; omega) (by have := HKQ.out.2; omega); ⟨z.k, z.n, nat64 (by have := HB5.out.1; omega), z.key, z.f, z.t⟩)) (by rw [HD0.out, HKN.out]; exact nm_z _) (by rw [HD0.out]; exact nat64 (by have := HB5.out.2.2; omega)) (by rw [HD0.out]; exact nat64 (by have := HB5.out.2.1; omega)))
      have HCA : Hid (oA { c1 with d := d0 } A n1 m1 = oA (madeO x) A n1 m1) := Lib.hid (by rw [HMC.out]; rfl)
      have HCW := Lib.hid J1.out.cw
      rw [HCA.out] at HCW
      have HRS := Lib.hid J1.out.rs
      have HBL := Lib.hid J1.out.bl
      rw [HCA.out, ← HMC.out] at HCI
      obtain ⟨cc, hcc⟩ : ∃ cc, cc = madeO x := ⟨_, rfl⟩
      rw [← hcc] at HCI HCW
      have HEC := Lib.hid hcc
      clear hcc
      clear J1 HCA HMC HC1 HD0 HKN HZ HMM HCB HDL HNC HM HB5 HKQ
      go_wp2_with (first
        | (refine wpList_load_row (by rfl) 34 (.tmp 3) (by rfl) O (by rfl) 34 (oA cc A n1 m1) (0, 0) _ HCW.out Tryz.underlying34 (by rfl) (info10 cc A n1 m1) ?_)
        | (refine wpList_store_row (by rfl) 34 (.tmp 2) (.tmp 134) (by rfl) (w.heap.size + 1) (oA cc A n1 m1) (by rfl) (by rfl) 34 (oA (zeroO 0 0) none 0 0) HRS.out (info10 cc A n1 m1) (by rfl) (all10 cc A n1 m1) ?_))
      refine bodyPost_ret (results_row1 (by rfl) _ _ (w.heap.size + 1) 34 (oA cc A n1 m1) (0, 0) _ (by rfl) (setRow_heap _ _ _ _ _ _ HRS.out) Tryz.underlying34 (by rfl) (info10 cc A n1 m1)) (by rfl) ?_
      rw [HEC.out]
      exact ⟨A, n1, m1, rfl, by have := HCI.out.1; rw [HEC.out] at this; exact this, below_row HBL.out (Nat.le_succ _) _, HCI.out.2⟩
end Go.Proofs.YtojodekmmkemgaaGreatDoor
