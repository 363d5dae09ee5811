/- Made: kind 6. Condition: the numbers lie as their types say. -/
import Derived.Test.YtojodekmmkemgaaGreatDoorScMd
namespace Go.Proofs.YtojodekmmkemgaaGreatDoor
open Go.RowKit Go.Shelf

set_option maxRecDepth 100000 in
set_option maxHeartbeats 2000000 in
theorem made_6 (x : No) (w : World) (hz : NoZ x) (hk : kO x = 6) :
    Calls Tryz.prog 11 #[.agg (nAo x)] w fun e w' => MdO x w e w' := by
  have W1 := Lib.hid (Whole.new w 27 (nAo x))
  have b1 := Lib.hid ((Below.refl w.heap.size w).alloc (Nat.le_refl _) (.cells (nAo x) 27))
  obtain ⟨k, hkk⟩ : ∃ k : Nat, k = kO x := ⟨_, rfl⟩
  obtain ⟨n, hnn⟩ : ∃ n : Nat, n = x.n % 56 := ⟨_, rfl⟩
  obtain ⟨mm, hmm⟩ : ∃ mm : Nat, mm = x.m % 1000001 := ⟨_, rfl⟩
  have HM : Hid (madeO x = { zeroO k n with m := (mm : Int) }) := Lib.hid (by
    unfold madeO
    rw [← hkk, if_neg (by omega), if_pos (by omega), hnn, hmm]
    rfl)
  have HZ := Lib.hid hz
  have hkq : k = 6 := by rw [hkk]; exact hk
  have h5 := hz.m
  have hmt : (x.m : Int).tmod 1000001 = (mm : Int) := by rw [Int.tmod_eq_emod_of_nonneg (by omega), hmm]; omega
  have hm5 : mm ≤ 1000000 := by omega
  have hwm : IntKind.i64.wrap (mm : Int) = (mm : Int) := IntWalk.i64_in _ (by omega)
  have hn56 : n ≤ 55 := by omega
  have hkm : (x.kind : Int).tmod 12 = (k : Int) - 1 := by rw [Int.tmod_eq_emod_of_nonneg (by omega), hkk]; unfold kO; omega
  have hnm : (x.n : Int).tmod 56 = (n : Int) := by rw [Int.tmod_eq_emod_of_nonneg (by omega), hnn]; omega
  have h1 := hz.kind
  have h2 := hz.n
  have hw1 : IntKind.i64.wrap (x.kind : Int) = (x.kind : Int) := IntWalk.i64_in _ (by omega)
  have hw2 : IntKind.i64.wrap (x.n : Int) = (x.n : Int) := IntWalk.i64_in _ (by omega)
  have hw3 : wrap64 (1 + ((k : Int) - 1)) = (k : Int) := by unfold wrap64; omega
  have hw4 : IntKind.i64.wrap (1 + ((k : Int) - 1)) = (k : Int) := by rw [IntWalk.i64_in _ (by omega)]; omega
  clear hkk hnn hmm hz h1 h2 h5
  have e1 : ((k : Int) == 1) = false := by rw [beq_eq_false_iff_ne]; have := hkq; omega
  have e2 : ((k : Int) == 2) = false := by rw [beq_eq_false_iff_ne]; have := hkq; omega
  have e3 : ((k : Int) == 3) = false := by rw [beq_eq_false_iff_ne]; have := hkq; omega
  have e6 : ((k : Int) == 6) = true := by rw [hkq]; rfl
  have e8 : ((k : Int) == 8) = false := by rw [beq_eq_false_iff_ne]; have := hkq; omega
  have e9 : ((k : Int) == 9) = false := by rw [beq_eq_false_iff_ne]; have := hkq; omega
  have e10 : ((k : Int) == 10) = false := by rw [beq_eq_false_iff_ne]; have := hkq; omega
  have e11 : ((k : Int) == 11) = false := by rw [beq_eq_false_iff_ne]; have := hkq; omega
  have e12 : ((k : Int) == 12) = false := by rw [beq_eq_false_iff_ne]; have := hkq; omega
  have HKQ := Lib.hid (And.intro hkq (And.intro hn56 hm5))
  clear hkq hn56 hm5
  go_enter Tryz.func11, Tryz.ntmps11
  go_upto_region 1 with fail
  rw [← zero10 0 0]
  have sz1 : (w.alloc (.cells (nAo x) 27)).heap.size = w.heap.size + 1 := World.size_alloc ..
  generalize w.alloc (.cells (nAo x) 27) = w1 at W1 b1 sz1 ⊢
  have V2 : Hid (Whole (w1.alloc (.cells (oA (zeroO 0 0) none 0 0) 34)) (w.heap.size + 1) 34 (oA (zeroO 0 0) none 0 0)) := Lib.hid (by rw [← sz1]; exact Whole.new w1 _ _)
  have W2 := Lib.hid (W1.out.alloc (.cells (oA (zeroO 0 0) none 0 0) 34))
  have b2 := Lib.hid (b1.out.alloc b1.out.size (.cells (oA (zeroO 0 0) none 0 0) 34))
  generalize w1.alloc (.cells (oA (zeroO 0 0) none 0 0) 34) = w2 at W2 b2 V2 ⊢
  have x0 : w2.cell? ⟨w.heap.size, 0, none⟩ = some (.int .u8 (x.kind : Int)) := W2.out.cell 0
  have x1 : w2.cell? ⟨w.heap.size, 1, none⟩ = some (.int .u8 (x.n : Int)) := W2.out.cell 1
  go_upto_region 2 with (refine wpList_store_row rfl 34 (.tmp 3) (.tmp 16) rfl _ (oA (zeroO k n) none 0 0) rfl rfl 34 _ (heap_alloc_new _ _) (info10 _ _ _ _) rfl (all10 _ _ _ _) ?_; rw [World.setRow_alloc_new])
  have N3 := Lib.hid (W2.out.alloc (.cells (oA (zeroO k n) none 0 0) 34))
  have V3 := Lib.hid (V2.out.alloc (.cells (oA (zeroO k n) none 0 0) 34))
  have O3 := Lib.hid (Whole.new w2 34 (oA (zeroO k n) none 0 0))
  have b3 := Lib.hid (b2.out.alloc b2.out.size (.cells (oA (zeroO k n) none 0 0) 34))
  generalize w2.alloc (.cells (oA (zeroO k n) none 0 0) 34) = w3 at V3 O3 b3 N3 ⊢
  have HO : Hid (w.heap.size + 2 ≤ w2.heap.size) := Lib.hid (by have := V2.out.lt; omega)
  generalize w2.heap.size = O at O3 HO ⊢
  have y0 : w3.cell? ⟨O, 0, none⟩ = some (.int .i64 (k : Int)) := O3.out.cell 0
  have y2 : w3.cell? ⟨O, 2, none⟩ = some (.int .i64 0) := O3.out.cell 2
  have g2 : w3.frozen? ⟨O, 2, none⟩ = false := O3.out.fr 2
  have x5 : w3.cell? ⟨w.heap.size, 5, none⟩ = some (.int .u32 (x.m : Int)) := N3.out.cell 5
  go_upto_region 22 with fail
  have O4 : Hid (Whole (w3.setCell ⟨O, 2, none⟩ (.int .i64 (mm : Int))) O 34 (oA { zeroO k n with m := (mm : Int) } none 0 0)) := Lib.hid (O3.out.put 2 (.int .i64 (mm : Int)))
  have V4 := Lib.hid (V3.out.far (p := ⟨O, 2, none⟩) (by have := HO.out; show w.heap.size + 1 ≠ O; omega) (.int .i64 (mm : Int)))
  have b4 := Lib.hid (b3.out.setCell (p := ⟨O, 2, none⟩) (by have := HO.out; show w.heap.size ≤ O; omega) (.int .i64 (mm : Int)))
  clear y0 y2 g2 x5 N3
  generalize w3.setCell ⟨O, 2, none⟩ (.int .i64 (mm : Int)) = w4 at O4 V4 b4 ⊢
  obtain ⟨cc, hcc⟩ : ∃ cc : Ov, cc = { zeroO k n with m := (mm : Int) } := ⟨_, rfl⟩
  have hck : cc.k = k := by rw [hcc]; rfl
  have O4 : Hid (Whole w4 O 34 (oA cc none 0 0)) := Lib.hid (by rw [hcc]; exact O4.out)
  have HM : Hid (madeO x = cc) := Lib.hid (HM.out.trans hcc.symm)
  have HZC : Hid (OpZ cc) := Lib.hid (by rw [hcc]; exact (let z := opok_z (k := k) (n := n) (by have := HKQ.out.1; omega) (by have := HKQ.out.2.1; omega); ⟨z.k, z.n, nat64 (by have := HKQ.out.2.2; omega), z.key, z.f, z.t⟩))
  have HCD : Hid (cc.d = zeroD) := Lib.hid (by rw [hcc]; rfl)
  have y0 : w4.cell? ⟨O, 0, none⟩ = some (.int .i64 (k : Int)) := by rw [← hck]; exact O4.out.cell 0
  clear hcc hck
  go_wp2_with (first
    | (refine wpList_load_row rfl 34 (.tmp 3) rfl O rfl 34 (oA cc none 0 0) (0, 0) _ O4.out Tryz.underlying34 rfl (info10 _ _ _ _) ?_)
    | (refine wpList_store_row rfl 34 (.tmp 2) (.tmp 134) rfl (w.heap.size + 1) (oA cc none 0 0) rfl rfl 34 (oA (zeroO 0 0) none 0 0) V4.out (info10 _ _ _ _) rfl (all10 _ _ _ _) ?_))
  refine bodyPost_ret (results_row1 rfl _ _ (w.heap.size + 1) 34 (oA cc none 0 0) (0, 0) _ rfl (setRow_heap _ _ _ _ _ _ V4.out) Tryz.underlying34 rfl (info10 _ _ _ _)) rfl ?_
  refine ⟨none, 0, 0, by rw [HM.out], ?_, below_row b4.out (Nat.le_succ _) _, fun a ha => by cases ha⟩
  rw [HM.out]
  exact ⟨by rw [HCD.out]; exact defAt_zeroO _, HZC.out⟩
end Go.Proofs.YtojodekmmkemgaaGreatDoor
