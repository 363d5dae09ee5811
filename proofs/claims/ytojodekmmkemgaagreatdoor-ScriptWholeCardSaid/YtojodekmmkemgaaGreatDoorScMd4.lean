/- Made: kinds 1 to 3. Condition: the numbers lie as their types say. -/
import Derived.Test.YtojodekmmkemgaaGreatDoorScMdS
namespace Go.Proofs.YtojodekmmkemgaaGreatDoor
open Go.RowKit Go.Shelf

set_option maxRecDepth 100000 in
set_option maxHeartbeats 2000000 in
theorem made_1 (x : No) (w : World) (hz : NoZ x) (hk : kO x = 1) :
    Calls Tryz.prog 11 #[.agg (nAo x)] w fun e w' => MdO x w e w' := by
  have W1 := Lib.hid (Whole.new w 27 (nAo x))
  have b1 := Lib.hid ((Below.refl w.heap.size w).alloc (Nat.le_refl _) (.cells (nAo x) 27))
  obtain ⟨k, hkk⟩ : ∃ k : Nat, k = kO x := ⟨_, rfl⟩
  obtain ⟨n, hnn⟩ : ∃ n : Nat, n = x.n % 56 := ⟨_, rfl⟩
  have HZ := Lib.hid hz
  have hkq : k = 1 := by rw [hkk]; exact hk
  have hn56 : n ≤ 55 := by omega
  have hkm : (x.kind : Int).tmod 12 = (k : Int) - 1 := by rw [Int.tmod_eq_emod_of_nonneg (by omega), hkk]; unfold kO; omega
  have hnm : (x.n : Int).tmod 56 = (n : Int) := by rw [Int.tmod_eq_emod_of_nonneg (by omega), hnn]; omega
  have h1 := hz.kind
  have h2 := hz.n
  have hw1 : IntKind.i64.wrap (x.kind : Int) = (x.kind : Int) := IntWalk.i64_in _ (by omega)
  have hw2 : IntKind.i64.wrap (x.n : Int) = (x.n : Int) := IntWalk.i64_in _ (by omega)
  have hw3 : wrap64 (1 + ((k : Int) - 1)) = (k : Int) := by unfold wrap64; omega
  have hw4 : IntKind.i64.wrap (1 + ((k : Int) - 1)) = (k : Int) := by rw [IntWalk.i64_in _ (by omega)]; omega
  obtain ⟨q, hq⟩ : ∃ q : Nat, q = x.key % 2 := ⟨_, rfl⟩
  obtain ⟨mm, hmm⟩ : ∃ mm : Nat, mm = x.n * 2 + q := ⟨_, rfl⟩
  have HM : Hid (madeO x = zeroO k mm) := Lib.hid (by
    unfold madeO
    rw [← hkk, if_pos (by omega), hmm, hq]
    rfl)
  have h5 := hz.key
  have hmt : (x.key : Int).tmod 2 = (q : Int) := by rw [Int.tmod_eq_emod_of_nonneg (by omega)]; omega
  have hm5 : mm ≤ 511 := by omega
  obtain ⟨n2, hn2⟩ : ∃ n2 : Int, n2 = (x.n : Int) * 2 := ⟨_, rfl⟩
  have hwm : IntKind.i64.wrap (x.key : Int) = (x.key : Int) := IntWalk.i64_in _ (by omega)
  have hwn : IntKind.i64.wrap (x.n : Int) = (x.n : Int) := IntWalk.i64_in _ (by omega)
  have hwc : IntKind.i64.wrap ((x.n : Int) * 2) = n2 := by rw [IntWalk.i64_in _ (by omega), hn2]
  have hwd : IntKind.i64.wrap (n2 + (q : Int)) = (mm : Int) := by rw [IntWalk.i64_in _ (by omega)]; omega
  have HM5 := Lib.hid hm5
  clear h5 hq hmm hm5 hn2
  clear hkk hnn hz h1 h2
  have e1 : ((k : Int) == 1) = true := by rw [hkq]; rfl
  have e2 : ((k : Int) == 2) = false := by rw [hkq]; rfl
  have e3 : ((k : Int) == 3) = false := by rw [hkq]; rfl
  have e6 : ((k : Int) == 6) = false := by rw [hkq]; rfl
  have e8 : ((k : Int) == 8) = false := by rw [hkq]; rfl
  have e9 : ((k : Int) == 9) = false := by rw [hkq]; rfl
  have e10 : ((k : Int) == 10) = false := by rw [hkq]; rfl
  have e11 : ((k : Int) == 11) = false := by rw [hkq]; rfl
  have e12 : ((k : Int) == 12) = false := by rw [hkq]; rfl
  have HKQ := Lib.hid (And.intro hkq hn56)
  clear hkq hn56
  go_enter Tryz.func11, Tryz.ntmps11
  go_upto_region 1 with fail
  rw [← zero10 0 0]
  have sz1 : (w.alloc (.cells (nAo x) 27)).heap.size = w.heap.size + 1 := World.size_alloc ..
  generalize w.alloc (.cells (nAo x) 27) = w1 at W1 b1 sz1 ⊢
  have V2 : Hid (Whole (w1.alloc (.cells (oA (zeroO 0 0) none 0 0) 34)) (w.heap.size + 1) 34 (oA (zeroO 0 0) none 0 0)) := Lib.hid (by rw [← sz1]; exact Whole.new w1 _ _)
  have W2 := Lib.hid (W1.out.alloc (.cells (oA (zeroO 0 0) none 0 0) 34))
  have b2 := Lib.hid (b1.out.alloc b1.out.size (.cells (oA (zeroO 0 0) none 0 0) 34))
  generalize w1.alloc (.cells (oA (zeroO 0 0) none 0 0) 34) = w2 at W2 b2 V2 ⊢
  have x0 : w2.cell? ⟨w.heap.size, 0, none⟩ = some (.int .u8 (x.kind : Int)) := W2.out.cell 0
  have x1 : w2.cell? ⟨w.heap.size, 1, none⟩ = some (.int .u8 (x.n : Int)) := W2.out.cell 1
  go_upto_region 2 with (refine wpList_store_row rfl 34 (.tmp 3) (.tmp 16) rfl _ (oA (zeroO k n) none 0 0) rfl rfl 34 _ (heap_alloc_new _ _) (info10 _ _ _ _) rfl (all10 _ _ _ _) ?_; rw [World.setRow_alloc_new])
  have I3 : Hid (MoI w x w2.heap.size (zeroO k n) (w2.alloc (.cells (oA (zeroO k n) none 0 0) 34))) := Lib.hid ⟨b2.out.alloc b2.out.size _, W2.out.alloc _, V2.out.alloc _, Whole.new w2 _ _, by have := V2.out.lt; omega⟩
  clear x0 x1 W1 W2 b1 b2 V2 sz1 hw1 hw2 hw3 hw4 hkm hnm
  generalize w2.alloc (.cells (oA (zeroO k n) none 0 0) 34) = w3 at I3 ⊢
  generalize w2.heap.size = O at I3 ⊢
  have y0 : w3.cell? ⟨O, 0, none⟩ = some (.int .i64 (k : Int)) := I3.out.co.cell 0
  have y2 : w3.cell? ⟨O, 1, none⟩ = some (.int .i64 (n : Int)) := I3.out.co.cell 1
  have g2 : w3.frozen? ⟨O, 1, none⟩ = false := I3.out.co.fr 1
  have x5 : w3.cell? ⟨w.heap.size, 1, none⟩ = some (.int .u8 (x.n : Int)) := I3.out.nm.cell 1
  have x6 : w3.cell? ⟨w.heap.size, 2, none⟩ = some (.int .u8 (x.key : Int)) := I3.out.nm.cell 2
  go_upto_region 6 with fail
  go_upto_region 22 with fail
  have I4 := Lib.hid (I3.out.put (cc' := zeroO k mm) 1 (.int .i64 (mm : Int)) rfl)
  clear y0 y2 g2 x5 x6 I3
  generalize w3.setCell ⟨O, 1, none⟩ (.int .i64 (mm : Int)) = w4 at I4 ⊢
  obtain ⟨cc, hcc⟩ : ∃ cc : Ov, cc = zeroO k mm := ⟨_, rfl⟩
  have hck : cc.k = k := by rw [hcc]; rfl
  have IF : Hid (MoI w x O cc w4) := Lib.hid (by rw [hcc]; exact I4.out)
  have HM : Hid (madeO x = cc) := Lib.hid (HM.out.trans hcc.symm)
  have HZC : Hid (OpZ cc) := Lib.hid (by rw [hcc]; exact opok_z (k := k) (n := mm) (by have := HKQ.out.1; omega) (by have := HM5.out; omega))
  have HCD : Hid (cc.d = zeroD) := Lib.hid (by rw [hcc]; rfl)
  have y0 : w4.cell? ⟨O, 0, none⟩ = some (.int .i64 (k : Int)) := by rw [← hck]; exact IF.out.co.cell 0
  clear hcc hck I4
  go_wp2_with (first
    | (refine wpList_load_row rfl 34 (.tmp 3) rfl O rfl 34 (oA cc none 0 0) (0, 0) _ IF.out.co Tryz.underlying34 rfl (info10 _ _ _ _) ?_)
    | (refine wpList_store_row rfl 34 (.tmp 2) (.tmp 134) rfl (w.heap.size + 1) (oA cc none 0 0) rfl rfl 34 (oA (zeroO 0 0) none 0 0) IF.out.rs (info10 _ _ _ _) rfl (all10 _ _ _ _) ?_))
  refine bodyPost_ret (results_row1 rfl _ _ (w.heap.size + 1) 34 (oA cc none 0 0) (0, 0) _ rfl (setRow_heap _ _ _ _ _ _ IF.out.rs) Tryz.underlying34 rfl (info10 _ _ _ _)) rfl ?_
  exact IF.out.done HCD.out HZC.out HM.out _ rfl
set_option maxRecDepth 100000 in
set_option maxHeartbeats 2000000 in
theorem made_2 (x : No) (w : World) (hz : NoZ x) (hk : kO x = 2) :
    Calls Tryz.prog 11 #[.agg (nAo x)] w fun e w' => MdO x w e w' := by
  have W1 := Lib.hid (Whole.new w 27 (nAo x))
  have b1 := Lib.hid ((Below.refl w.heap.size w).alloc (Nat.le_refl _) (.cells (nAo x) 27))
  obtain ⟨k, hkk⟩ : ∃ k : Nat, k = kO x := ⟨_, rfl⟩
  obtain ⟨n, hnn⟩ : ∃ n : Nat, n = x.n % 56 := ⟨_, rfl⟩
  have HZ := Lib.hid hz
  have hkq : k = 2 := by rw [hkk]; exact hk
  have hn56 : n ≤ 55 := by omega
  have hkm : (x.kind : Int).tmod 12 = (k : Int) - 1 := by rw [Int.tmod_eq_emod_of_nonneg (by omega), hkk]; unfold kO; omega
  have hnm : (x.n : Int).tmod 56 = (n : Int) := by rw [Int.tmod_eq_emod_of_nonneg (by omega), hnn]; omega
  have h1 := hz.kind
  have h2 := hz.n
  have hw1 : IntKind.i64.wrap (x.kind : Int) = (x.kind : Int) := IntWalk.i64_in _ (by omega)
  have hw2 : IntKind.i64.wrap (x.n : Int) = (x.n : Int) := IntWalk.i64_in _ (by omega)
  have hw3 : wrap64 (1 + ((k : Int) - 1)) = (k : Int) := by unfold wrap64; omega
  have hw4 : IntKind.i64.wrap (1 + ((k : Int) - 1)) = (k : Int) := by rw [IntWalk.i64_in _ (by omega)]; omega
  obtain ⟨q, hq⟩ : ∃ q : Nat, q = x.key % 2 := ⟨_, rfl⟩
  obtain ⟨mm, hmm⟩ : ∃ mm : Nat, mm = x.n * 2 + q := ⟨_, rfl⟩
  have HM : Hid (madeO x = zeroO k mm) := Lib.hid (by
    unfold madeO
    rw [← hkk, if_pos (by omega), hmm, hq]
    rfl)
  have h5 := hz.key
  have hmt : (x.key : Int).tmod 2 = (q : Int) := by rw [Int.tmod_eq_emod_of_nonneg (by omega)]; omega
  have hm5 : mm ≤ 511 := by omega
  obtain ⟨n2, hn2⟩ : ∃ n2 : Int, n2 = (x.n : Int) * 2 := ⟨_, rfl⟩
  have hwm : IntKind.i64.wrap (x.key : Int) = (x.key : Int) := IntWalk.i64_in _ (by omega)
  have hwn : IntKind.i64.wrap (x.n : Int) = (x.n : Int) := IntWalk.i64_in _ (by omega)
  have hwc : IntKind.i64.wrap ((x.n : Int) * 2) = n2 := by rw [IntWalk.i64_in _ (by omega), hn2]
  have hwd : IntKind.i64.wrap (n2 + (q : Int)) = (mm : Int) := by rw [IntWalk.i64_in _ (by omega)]; omega
  have HM5 := Lib.hid hm5
  clear h5 hq hmm hm5 hn2
  clear hkk hnn hz h1 h2
  have e1 : ((k : Int) == 1) = false := by rw [hkq]; rfl
  have e2 : ((k : Int) == 2) = true := by rw [hkq]; rfl
  have e3 : ((k : Int) == 3) = false := by rw [hkq]; rfl
  have e6 : ((k : Int) == 6) = false := by rw [hkq]; rfl
  have e8 : ((k : Int) == 8) = false := by rw [hkq]; rfl
  have e9 : ((k : Int) == 9) = false := by rw [hkq]; rfl
  have e10 : ((k : Int) == 10) = false := by rw [hkq]; rfl
  have e11 : ((k : Int) == 11) = false := by rw [hkq]; rfl
  have e12 : ((k : Int) == 12) = false := by rw [hkq]; rfl
  have HKQ := Lib.hid (And.intro hkq hn56)
  clear hkq hn56
  go_enter Tryz.func11, Tryz.ntmps11
  go_upto_region 1 with fail
  rw [← zero10 0 0]
  have sz1 : (w.alloc (.cells (nAo x) 27)).heap.size = w.heap.size + 1 := World.size_alloc ..
  generalize w.alloc (.cells (nAo x) 27) = w1 at W1 b1 sz1 ⊢
  have V2 : Hid (Whole (w1.alloc (.cells (oA (zeroO 0 0) none 0 0) 34)) (w.heap.size + 1) 34 (oA (zeroO 0 0) none 0 0)) := Lib.hid (by rw [← sz1]; exact Whole.new w1 _ _)
  have W2 := Lib.hid (W1.out.alloc (.cells (oA (zeroO 0 0) none 0 0) 34))
  have b2 := Lib.hid (b1.out.alloc b1.out.size (.cells (oA (zeroO 0 0) none 0 0) 34))
  generalize w1.alloc (.cells (oA (zeroO 0 0) none 0 0) 34) = w2 at W2 b2 V2 ⊢
  have x0 : w2.cell? ⟨w.heap.size, 0, none⟩ = some (.int .u8 (x.kind : Int)) := W2.out.cell 0
  have x1 : w2.cell? ⟨w.heap.size, 1, none⟩ = some (.int .u8 (x.n : Int)) := W2.out.cell 1
  go_upto_region 2 with (refine wpList_store_row rfl 34 (.tmp 3) (.tmp 16) rfl _ (oA (zeroO k n) none 0 0) rfl rfl 34 _ (heap_alloc_new _ _) (info10 _ _ _ _) rfl (all10 _ _ _ _) ?_; rw [World.setRow_alloc_new])
  have I3 : Hid (MoI w x w2.heap.size (zeroO k n) (w2.alloc (.cells (oA (zeroO k n) none 0 0) 34))) := Lib.hid ⟨b2.out.alloc b2.out.size _, W2.out.alloc _, V2.out.alloc _, Whole.new w2 _ _, by have := V2.out.lt; omega⟩
  clear x0 x1 W1 W2 b1 b2 V2 sz1 hw1 hw2 hw3 hw4 hkm hnm
  generalize w2.alloc (.cells (oA (zeroO k n) none 0 0) 34) = w3 at I3 ⊢
  generalize w2.heap.size = O at I3 ⊢
  have y0 : w3.cell? ⟨O, 0, none⟩ = some (.int .i64 (k : Int)) := I3.out.co.cell 0
  have y2 : w3.cell? ⟨O, 1, none⟩ = some (.int .i64 (n : Int)) := I3.out.co.cell 1
  have g2 : w3.frozen? ⟨O, 1, none⟩ = false := I3.out.co.fr 1
  have x5 : w3.cell? ⟨w.heap.size, 1, none⟩ = some (.int .u8 (x.n : Int)) := I3.out.nm.cell 1
  have x6 : w3.cell? ⟨w.heap.size, 2, none⟩ = some (.int .u8 (x.key : Int)) := I3.out.nm.cell 2
  go_upto_region 6 with fail
  go_upto_region 22 with fail
  have I4 := Lib.hid (I3.out.put (cc' := zeroO k mm) 1 (.int .i64 (mm : Int)) rfl)
  clear y0 y2 g2 x5 x6 I3
  generalize w3.setCell ⟨O, 1, none⟩ (.int .i64 (mm : Int)) = w4 at I4 ⊢
  obtain ⟨cc, hcc⟩ : ∃ cc : Ov, cc = zeroO k mm := ⟨_, rfl⟩
  have hck : cc.k = k := by rw [hcc]; rfl
  have IF : Hid (MoI w x O cc w4) := Lib.hid (by rw [hcc]; exact I4.out)
  have HM : Hid (madeO x = cc) := Lib.hid (HM.out.trans hcc.symm)
  have HZC : Hid (OpZ cc) := Lib.hid (by rw [hcc]; exact opok_z (k := k) (n := mm) (by have := HKQ.out.1; omega) (by have := HM5.out; omega))
  have HCD : Hid (cc.d = zeroD) := Lib.hid (by rw [hcc]; rfl)
  have y0 : w4.cell? ⟨O, 0, none⟩ = some (.int .i64 (k : Int)) := by rw [← hck]; exact IF.out.co.cell 0
  clear hcc hck I4
  go_wp2_with (first
    | (refine wpList_load_row rfl 34 (.tmp 3) rfl O rfl 34 (oA cc none 0 0) (0, 0) _ IF.out.co Tryz.underlying34 rfl (info10 _ _ _ _) ?_)
    | (refine wpList_store_row rfl 34 (.tmp 2) (.tmp 134) rfl (w.heap.size + 1) (oA cc none 0 0) rfl rfl 34 (oA (zeroO 0 0) none 0 0) IF.out.rs (info10 _ _ _ _) rfl (all10 _ _ _ _) ?_))
  refine bodyPost_ret (results_row1 rfl _ _ (w.heap.size + 1) 34 (oA cc none 0 0) (0, 0) _ rfl (setRow_heap _ _ _ _ _ _ IF.out.rs) Tryz.underlying34 rfl (info10 _ _ _ _)) rfl ?_
  exact IF.out.done HCD.out HZC.out HM.out _ rfl
set_option maxRecDepth 100000 in
set_option maxHeartbeats 2000000 in
theorem made_3 (x : No) (w : World) (hz : NoZ x) (hk : kO x = 3) :
    Calls Tryz.prog 11 #[.agg (nAo x)] w fun e w' => MdO x w e w' := by
  have W1 := Lib.hid (Whole.new w 27 (nAo x))
  have b1 := Lib.hid ((Below.refl w.heap.size w).alloc (Nat.le_refl _) (.cells (nAo x) 27))
  obtain ⟨k, hkk⟩ : ∃ k : Nat, k = kO x := ⟨_, rfl⟩
  obtain ⟨n, hnn⟩ : ∃ n : Nat, n = x.n % 56 := ⟨_, rfl⟩
  have HZ := Lib.hid hz
  have hkq : k = 3 := by rw [hkk]; exact hk
  have hn56 : n ≤ 55 := by omega
  have hkm : (x.kind : Int).tmod 12 = (k : Int) - 1 := by rw [Int.tmod_eq_emod_of_nonneg (by omega), hkk]; unfold kO; omega
  have hnm : (x.n : Int).tmod 56 = (n : Int) := by rw [Int.tmod_eq_emod_of_nonneg (by omega), hnn]; omega
  have h1 := hz.kind
  have h2 := hz.n
  have hw1 : IntKind.i64.wrap (x.kind : Int) = (x.kind : Int) := IntWalk.i64_in _ (by omega)
  have hw2 : IntKind.i64.wrap (x.n : Int) = (x.n : Int) := IntWalk.i64_in _ (by omega)
  have hw3 : wrap64 (1 + ((k : Int) - 1)) = (k : Int) := by unfold wrap64; omega
  have hw4 : IntKind.i64.wrap (1 + ((k : Int) - 1)) = (k : Int) := by rw [IntWalk.i64_in _ (by omega)]; omega
  obtain ⟨q, hq⟩ : ∃ q : Nat, q = x.key % 2 := ⟨_, rfl⟩
  obtain ⟨mm, hmm⟩ : ∃ mm : Nat, mm = x.n * 2 + q := ⟨_, rfl⟩
  have HM : Hid (madeO x = zeroO k mm) := Lib.hid (by
    unfold madeO
    rw [← hkk, if_pos (by omega), hmm, hq]
    rfl)
  have h5 := hz.key
  have hmt : (x.key : Int).tmod 2 = (q : Int) := by rw [Int.tmod_eq_emod_of_nonneg (by omega)]; omega
  have hm5 : mm ≤ 511 := by omega
  obtain ⟨n2, hn2⟩ : ∃ n2 : Int, n2 = (x.n : Int) * 2 := ⟨_, rfl⟩
  have hwm : IntKind.i64.wrap (x.key : Int) = (x.key : Int) := IntWalk.i64_in _ (by omega)
  have hwn : IntKind.i64.wrap (x.n : Int) = (x.n : Int) := IntWalk.i64_in _ (by omega)
  have hwc : IntKind.i64.wrap ((x.n : Int) * 2) = n2 := by rw [IntWalk.i64_in _ (by omega), hn2]
  have hwd : IntKind.i64.wrap (n2 + (q : Int)) = (mm : Int) := by rw [IntWalk.i64_in _ (by omega)]; omega
  have HM5 := Lib.hid hm5
  clear h5 hq hmm hm5 hn2
  clear hkk hnn hz h1 h2
  have e1 : ((k : Int) == 1) = false := by rw [hkq]; rfl
  have e2 : ((k : Int) == 2) = false := by rw [hkq]; rfl
  have e3 : ((k : Int) == 3) = true := by rw [hkq]; rfl
  have e6 : ((k : Int) == 6) = false := by rw [hkq]; rfl
  have e8 : ((k : Int) == 8) = false := by rw [hkq]; rfl
  have e9 : ((k : Int) == 9) = false := by rw [hkq]; rfl
  have e10 : ((k : Int) == 10) = false := by rw [hkq]; rfl
  have e11 : ((k : Int) == 11) = false := by rw [hkq]; rfl
  have e12 : ((k : Int) == 12) = false := by rw [hkq]; rfl
  have HKQ := Lib.hid (And.intro hkq hn56)
  clear hkq hn56
  go_enter Tryz.func11, Tryz.ntmps11
  go_upto_region 1 with fail
  rw [← zero10 0 0]
  have sz1 : (w.alloc (.cells (nAo x) 27)).heap.size = w.heap.size + 1 := World.size_alloc ..
  generalize w.alloc (.cells (nAo x) 27) = w1 at W1 b1 sz1 ⊢
  have V2 : Hid (Whole (w1.alloc (.cells (oA (zeroO 0 0) none 0 0) 34)) (w.heap.size + 1) 34 (oA (zeroO 0 0) none 0 0)) := Lib.hid (by rw [← sz1]; exact Whole.new w1 _ _)
  have W2 := Lib.hid (W1.out.alloc (.cells (oA (zeroO 0 0) none 0 0) 34))
  have b2 := Lib.hid (b1.out.alloc b1.out.size (.cells (oA (zeroO 0 0) none 0 0) 34))
  generalize w1.alloc (.cells (oA (zeroO 0 0) none 0 0) 34) = w2 at W2 b2 V2 ⊢
  have x0 : w2.cell? ⟨w.heap.size, 0, none⟩ = some (.int .u8 (x.kind : Int)) := W2.out.cell 0
  have x1 : w2.cell? ⟨w.heap.size, 1, none⟩ = some (.int .u8 (x.n : Int)) := W2.out.cell 1
  go_upto_region 2 with (refine wpList_store_row rfl 34 (.tmp 3) (.tmp 16) rfl _ (oA (zeroO k n) none 0 0) rfl rfl 34 _ (heap_alloc_new _ _) (info10 _ _ _ _) rfl (all10 _ _ _ _) ?_; rw [World.setRow_alloc_new])
  have I3 : Hid (MoI w x w2.heap.size (zeroO k n) (w2.alloc (.cells (oA (zeroO k n) none 0 0) 34))) := Lib.hid ⟨b2.out.alloc b2.out.size _, W2.out.alloc _, V2.out.alloc _, Whole.new w2 _ _, by have := V2.out.lt; omega⟩
  clear x0 x1 W1 W2 b1 b2 V2 sz1 hw1 hw2 hw3 hw4 hkm hnm
  generalize w2.alloc (.cells (oA (zeroO k n) none 0 0) 34) = w3 at I3 ⊢
  generalize w2.heap.size = O at I3 ⊢
  have y0 : w3.cell? ⟨O, 0, none⟩ = some (.int .i64 (k : Int)) := I3.out.co.cell 0
  have y2 : w3.cell? ⟨O, 1, none⟩ = some (.int .i64 (n : Int)) := I3.out.co.cell 1
  have g2 : w3.frozen? ⟨O, 1, none⟩ = false := I3.out.co.fr 1
  have x5 : w3.cell? ⟨w.heap.size, 1, none⟩ = some (.int .u8 (x.n : Int)) := I3.out.nm.cell 1
  have x6 : w3.cell? ⟨w.heap.size, 2, none⟩ = some (.int .u8 (x.key : Int)) := I3.out.nm.cell 2
  go_upto_region 6 with fail
  go_upto_region 22 with fail
  have I4 := Lib.hid (I3.out.put (cc' := zeroO k mm) 1 (.int .i64 (mm : Int)) rfl)
  clear y0 y2 g2 x5 x6 I3
  generalize w3.setCell ⟨O, 1, none⟩ (.int .i64 (mm : Int)) = w4 at I4 ⊢
  obtain ⟨cc, hcc⟩ : ∃ cc : Ov, cc = zeroO k mm := ⟨_, rfl⟩
  have hck : cc.k = k := by rw [hcc]; rfl
  have IF : Hid (MoI w x O cc w4) := Lib.hid (by rw [hcc]; exact I4.out)
  have HM : Hid (madeO x = cc) := Lib.hid (HM.out.trans hcc.symm)
  have HZC : Hid (OpZ cc) := Lib.hid (by rw [hcc]; exact opok_z (k := k) (n := mm) (by have := HKQ.out.1; omega) (by have := HM5.out; omega))
  have HCD : Hid (cc.d = zeroD) := Lib.hid (by rw [hcc]; rfl)
  have y0 : w4.cell? ⟨O, 0, none⟩ = some (.int .i64 (k : Int)) := by rw [← hck]; exact IF.out.co.cell 0
  clear hcc hck I4
  go_wp2_with (first
    | (refine wpList_load_row rfl 34 (.tmp 3) rfl O rfl 34 (oA cc none 0 0) (0, 0) _ IF.out.co Tryz.underlying34 rfl (info10 _ _ _ _) ?_)
    | (refine wpList_store_row rfl 34 (.tmp 2) (.tmp 134) rfl (w.heap.size + 1) (oA cc none 0 0) rfl rfl 34 (oA (zeroO 0 0) none 0 0) IF.out.rs (info10 _ _ _ _) rfl (all10 _ _ _ _) ?_))
  refine bodyPost_ret (results_row1 rfl _ _ (w.heap.size + 1) 34 (oA cc none 0 0) (0, 0) _ rfl (setRow_heap _ _ _ _ _ _ IF.out.rs) Tryz.underlying34 rfl (info10 _ _ _ _)) rfl ?_
  exact IF.out.done HCD.out HZC.out HM.out _ rfl
end Go.Proofs.YtojodekmmkemgaaGreatDoor
