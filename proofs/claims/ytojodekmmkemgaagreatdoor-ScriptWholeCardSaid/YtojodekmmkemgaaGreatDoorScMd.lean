/- Made: the operation of some numbers: the kinds that hold no names. Condition: the numbers lie as their types say. -/
import Derived.Test.YtojodekmmkemgaaGreatDoorScNam
namespace Go.Proofs.YtojodekmmkemgaaGreatDoor
open Go.RowKit Go.Shelf

def nAo (x : No) : Array Value := #[.int .u8 (x.kind : Int), .int .u8 (x.n : Int), .int .u8 (x.key : Int), .int .u8 (x.to : Int), .int .u8 (x.step : Int), .int .u32 (x.m : Int), .int .i64 x.delta]
structure NoZ (x : No) : Prop where
  kind : x.kind ≤ 255
  n : x.n ≤ 255
  key : x.key ≤ 255
  tto : x.to ≤ 255
  step : x.step ≤ 255
  m : x.m ≤ 4294967295
  delta : In64 x.delta
def MdO (x : No) (w : World) (e : Ending) (w' : World) : Prop := ∃ A n m, e = .returned (.agg (oA (madeO x) A n m)) ∧ OpIn w' (madeO x) A n m ∧ Below w.heap.size w w' ∧ ∀ a : Addr, A = some a → w.heap.size ≤ a.block
set_option maxRecDepth 100000 in
set_option maxHeartbeats 2000000 in
theorem made_0 (x : No) (w : World) (hz : NoZ x) (hk : kO x = 4 ∨ kO x = 5 ∨ kO x = 7) :
    Calls Tryz.prog 11 #[.agg (nAo x)] w fun e w' => MdO x w e w' := by
  have W1 := Lib.hid (Whole.new w 27 (nAo x))
  have b1 := Lib.hid ((Below.refl w.heap.size w).alloc (Nat.le_refl _) (.cells (nAo x) 27))
  obtain ⟨k, hkk⟩ : ∃ k : Nat, k = kO x := ⟨_, rfl⟩
  obtain ⟨n, hnn⟩ : ∃ n : Nat, n = x.n % 56 := ⟨_, rfl⟩
  have HM : Hid (madeO x = zeroO k n) := Lib.hid (by
    unfold madeO
    rw [← hkk, if_neg (by omega), if_neg (by omega), if_neg (by omega), if_neg (by omega), if_neg (by omega), if_neg (by omega), hnn]
    rfl)
  have HZ := Lib.hid hz
  have hkq : k = 4 ∨ k = 5 ∨ k = 7 := by rw [hkk]; exact hk
  have hn56 : n ≤ 55 := by omega
  have hkm : (x.kind : Int).tmod 12 = (k : Int) - 1 := by rw [Int.tmod_eq_emod_of_nonneg (by omega), hkk]; unfold kO; omega
  have hnm : (x.n : Int).tmod 56 = (n : Int) := by rw [Int.tmod_eq_emod_of_nonneg (by omega), hnn]; omega
  have h1 := hz.kind
  have h2 := hz.n
  have hw1 : IntKind.i64.wrap (x.kind : Int) = (x.kind : Int) := IntWalk.i64_in _ (by omega)
  have hw2 : IntKind.i64.wrap (x.n : Int) = (x.n : Int) := IntWalk.i64_in _ (by omega)
  have hw3 : wrap64 (1 + ((k : Int) - 1)) = (k : Int) := by unfold wrap64; omega
  have hw4 : IntKind.i64.wrap (1 + ((k : Int) - 1)) = (k : Int) := by rw [IntWalk.i64_in _ (by omega)]; omega
  clear hkk hnn hz h1 h2
  have e1 : ((k : Int) == 1) = false := by rw [beq_eq_false_iff_ne]; have := hkq; omega
  have e2 : ((k : Int) == 2) = false := by rw [beq_eq_false_iff_ne]; have := hkq; omega
  have e3 : ((k : Int) == 3) = false := by rw [beq_eq_false_iff_ne]; have := hkq; omega
  have e6 : ((k : Int) == 6) = false := by rw [beq_eq_false_iff_ne]; have := hkq; omega
  have e8 : ((k : Int) == 8) = false := by rw [beq_eq_false_iff_ne]; have := hkq; omega
  have e9 : ((k : Int) == 9) = false := by rw [beq_eq_false_iff_ne]; have := hkq; omega
  have e10 : ((k : Int) == 10) = false := by rw [beq_eq_false_iff_ne]; have := hkq; omega
  have e11 : ((k : Int) == 11) = false := by rw [beq_eq_false_iff_ne]; have := hkq; omega
  have e12 : ((k : Int) == 12) = false := by rw [beq_eq_false_iff_ne]; have := hkq; omega
  have HKQ := Lib.hid (And.intro hkq hn56)
  clear hkq hn56
  go_enter Tryz.func11, Tryz.ntmps11
  go_upto_region 1 with fail
  rw [← zero10 0 0]
  have sz1 : (w.alloc (.cells (nAo x) 27)).heap.size = w.heap.size + 1 := World.size_alloc ..
  generalize w.alloc (.cells (nAo x) 27) = w1 at W1 b1 sz1 ⊢
  have V2 : Hid (Whole (w1.alloc (.cells (oA (zeroO 0 0) none 0 0) 34)) (w.heap.size + 1) 34 (oA (zeroO 0 0) none 0 0)) := Lib.hid (by rw [← sz1]; exact Whole.new w1 _ _)
  have W2 := Lib.hid (W1.out.alloc (.cells (oA (zeroO 0 0) none 0 0) 34))
  have b2 := Lib.hid (b1.out.alloc b1.out.size (.cells (oA (zeroO 0 0) none 0 0) 34))
  generalize w1.alloc (.cells (oA (zeroO 0 0) none 0 0) 34) = w2 at W2 b2 V2 ⊢
  have x0 : w2.cell? ⟨w.heap.size, 0, none⟩ = some (.int .u8 (x.kind : Int)) := W2.out.cell 0
  have x1 : w2.cell? ⟨w.heap.size, 1, none⟩ = some (.int .u8 (x.n : Int)) := W2.out.cell 1
  go_upto_region 2 with (refine wpList_store_row rfl 34 (.tmp 3) (.tmp 16) rfl _ (oA (zeroO k n) none 0 0) rfl rfl 34 _ (heap_alloc_new _ _) (info10 _ _ _ _) rfl (all10 _ _ _ _) ?_; rw [World.setRow_alloc_new])
  have V3 := Lib.hid (V2.out.alloc (.cells (oA (zeroO k n) none 0 0) 34))
  have O3 := Lib.hid (Whole.new w2 34 (oA (zeroO k n) none 0 0))
  have b3 := Lib.hid (b2.out.alloc b2.out.size (.cells (oA (zeroO k n) none 0 0) 34))
  generalize w2.alloc (.cells (oA (zeroO k n) none 0 0) 34) = w3 at V3 O3 b3 ⊢
  generalize w2.heap.size = O at O3 ⊢
  have y0 : w3.cell? ⟨O, 0, none⟩ = some (.int .i64 (k : Int)) := O3.out.cell 0
  go_wp2_with (first
    | (refine wpList_load_row rfl 34 (.tmp 3) rfl O rfl 34 (oA (zeroO k n) none 0 0) (0, 0) _ O3.out Tryz.underlying34 rfl (info10 _ _ _ _) ?_)
    | (refine wpList_store_row rfl 34 (.tmp 2) (.tmp 134) rfl (w.heap.size + 1) (oA (zeroO k n) none 0 0) rfl rfl 34 (oA (zeroO 0 0) none 0 0) V3.out (info10 _ _ _ _) rfl (all10 _ _ _ _) ?_))
  refine bodyPost_ret (results_row1 rfl _ _ (w.heap.size + 1) 34 (oA (zeroO k n) none 0 0) (0, 0) _ rfl (setRow_heap _ _ _ _ _ _ V3.out) Tryz.underlying34 rfl (info10 _ _ _ _)) rfl ?_
  refine ⟨none, 0, 0, by rw [HM.out], ?_, below_row b3.out (Nat.le_succ _) _, fun a ha => by cases ha⟩
  rw [HM.out]
  exact ⟨defAt_zeroO _, opok_z (by have := HKQ.out.1; omega) (by have := HKQ.out.2; omega)⟩
end Go.Proofs.YtojodekmmkemgaaGreatDoor
