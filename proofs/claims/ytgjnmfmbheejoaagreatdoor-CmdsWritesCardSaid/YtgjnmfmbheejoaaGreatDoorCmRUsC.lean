/- What a command's kind uses, by the reference. Condition: sizes as a machine's integers can say. -/
import Derived.Test.YtgjnmfmbheejoaaGreatDoorCmRUsS
namespace Go.Proofs.YtgjnmfmbheejoaaGreatDoor
open Go.RowKit Go.Shelf

set_option maxRecDepth 100000 in
set_option maxHeartbeats 4000000 in
theorem used_11_0 (c : Cv) (A : Option Addr) (n m : Nat) (w : World) (hk : c.k = 11) (h0 : ¬ (0 ≤ c.call ∧ c.call ≤ 2147483648)) :
    Calls Tryz.prog 84 #[.agg (cA c A n m)] w fun e w' => e = .returned (.tuple #[.agg (cA (setF .defn c (setF .saga c (setF .call c (zeroC c.k)))) A n m), .bool false]) ∧ Below w.heap.size w w' := by
  have I0 := Lib.hid (us_start w c A n m)
  obtain ⟨cc, hcc⟩ : ∃ cc, cc = (setF .defn c (setF .saga c (setF .call c (zeroC c.k)))) := ⟨_, rfl⟩
  rw [← hcc]
  have HCC := Lib.hid hcc
  clear hcc
  have e0 : (c.k == 0) = false := by rw [hk]; rfl
  have e1 : (c.k == 1) = false := by rw [hk]; rfl
  have e2 : (c.k == 2) = false := by rw [hk]; rfl
  have e3 : (c.k == 3) = false := by rw [hk]; rfl
  have e4 : (c.k == 4) = false := by rw [hk]; rfl
  have e11 : (c.k == 11) = true := by rw [hk]; rfl
  have K0 := Lib.hid (fun V => ucall_no c.call V h0)
  clear hk h0
  go_enter Tryz.func84, Tryz.ntmps84
  go_upto_region 1 with fail
  rw [← zero24 0]
  generalize ((w.alloc (.cells (cA c A n m) 36)).alloc (.cells (cA (zeroC 0) none 0 0) 36)) = w1 at I0 ⊢
  have x0 : w1.cell? ⟨w.heap.size, 0, none⟩ = some (.int .i64 c.k) := I0.out.2.1.cell 0
  have I1 := Lib.hid (UsI.new I0.out c.k)
  go_upto_region 2 with (refine wpList_store_row rfl 36 (.tmp 4) (.tmp 8) rfl _ (cA (zeroC c.k) none 0 0) rfl rfl 36 _ (heap_alloc_new _ _) (info24 _ _ _ _) rfl (all24 _ _ _ _) ?_; rw [World.setRow_alloc_new])
  clear x0 I0
  generalize w1.alloc (.cells (cA (zeroC c.k) none 0 0) 36) = w2 at I1 ⊢
  generalize w1.heap.size = O at I1 ⊢
  have x0 : w2.cell? ⟨w.heap.size, 0, none⟩ = some (.int .i64 c.k) := I1.out.wb.cell 0
  have x1 : w2.cell? ⟨w.heap.size, 1, none⟩ = some (.int .i64 c.call) := I1.out.wb.cell 1
  have y1 : w2.cell? ⟨O, 1, none⟩ = some (.int .i64 0) := I1.out.wo.cell 1
  have f1 : w2.frozen? ⟨O, 1, none⟩ = false := I1.out.wo.fr 1
  have I2 := Lib.hid I1.out.put_call
  go_upto_region 26 with fail
  clear x0 x1 y1 f1 I1
  generalize (w2.setCell ⟨O, 1, none⟩ (.int .i64 c.call)) = w3 at I2 ⊢
  have x2 : w3.cell? ⟨w.heap.size, 2, none⟩ = some (.int .i64 c.saga) := I2.out.wb.cell 2
  have y2 : w3.cell? ⟨O, 2, none⟩ = some (.int .i64 0) := I2.out.wo.cell 2
  have f2 : w3.frozen? ⟨O, 2, none⟩ = false := I2.out.wo.fr 2
  have I3 := Lib.hid I2.out.put_saga
  go_upto_region 27 with fail
  clear x2 y2 f2 I2
  generalize (w3.setCell ⟨O, 2, none⟩ (.int .i64 c.saga)) = w4 at I3 ⊢
  have x12 : w4.cell? ⟨w.heap.size, 12, none⟩ = some (.string c.d.n) := I3.out.wb.cell 12
  have y12 : w4.cell? ⟨O, 12, none⟩ = some (.string ⟨#[]⟩) := I3.out.wo.cell 12
  have f12 : w4.frozen? ⟨O, 12, none⟩ = false := I3.out.wo.fr 12
  have x13 : w4.cell? ⟨w.heap.size, 13, none⟩ = some (.int .i64 c.d.r) := I3.out.wb.cell 13
  have y13 : w4.cell? ⟨O, 13, none⟩ = some (.int .i64 0) := I3.out.wo.cell 13
  have f13 : w4.frozen? ⟨O, 13, none⟩ = false := I3.out.wo.fr 13
  have x14 : w4.cell? ⟨w.heap.size, 14, none⟩ = some (.int .i64 c.d.dl) := I3.out.wb.cell 14
  have y14 : w4.cell? ⟨O, 14, none⟩ = some (.int .i64 0) := I3.out.wo.cell 14
  have f14 : w4.frozen? ⟨O, 14, none⟩ = false := I3.out.wo.fr 14
  have x15 : w4.cell? ⟨w.heap.size, 15, none⟩ = some (.slice A n m) := I3.out.wb.cell 15
  have y15 : w4.cell? ⟨O, 15, none⟩ = some (.slice none 0 0) := I3.out.wo.cell 15
  have f15 : w4.frozen? ⟨O, 15, none⟩ = false := I3.out.wo.fr 15
  have I4 := Lib.hid I3.out.put_defn
  go_upto_region 28 with fail
  clear x12 y12 f12 x13 y13 f13 x14 y14 f14 x15 y15 f15 I3
  generalize ((((w4.setCell ⟨O, 12, none⟩ (.string c.d.n)).setCell ⟨O, 13, none⟩ (.int .i64 c.d.r)).setCell ⟨O, 14, none⟩ (.int .i64 c.d.dl)).setCell ⟨O, 15, none⟩ (.slice A n m)) = w5 at I4 ⊢
  have IC : Hid (UsI w c A n m O cc A n m w5) := Lib.hid (by have := I4.out; rw [← HCC.out] at this; exact this)
  clear I4
  have x1 : w5.cell? ⟨w.heap.size, 1, none⟩ = some (.int .i64 c.call) := IC.out.wb.cell 1
  go_upto_region 44 with (go_at_call 138; refine (K0.out _).mono ?_; rintro e v ⟨rfl, rfl⟩; clear K0)
  go_wp2_with (first
    | (refine wpList_load_row rfl 36 (.tmp 4) rfl O rfl 36 (cA cc A n m) (0, 0) _ IC.out.wo Tryz.underlying36 rfl (info24 _ _ _ _) ?_)
    | (refine wpList_store_row rfl 36 (.tmp 2) (.tmp 208) rfl (w.heap.size + 1) (cA cc A n m) rfl rfl 36 (cA (zeroC 0) none 0 0) IC.out.wr (info24 _ _ _ _) rfl (all24 _ _ _ _) ?_))
  refine bodyPost_ret (results_row2 rfl _ _ (w.heap.size + 1) 36 (cA cc A n m) (0, 0) _ rfl (setRow_heap _ _ _ _ _ _ IC.out.wr) Tryz.underlying36 rfl (info24 _ _ _ _) (.bool false) rfl) rfl ?_
  exact ⟨rfl, below_row IC.out.bl (Nat.le_succ _) _⟩
set_option maxRecDepth 100000 in
set_option maxHeartbeats 4000000 in
theorem used_11_1 (c : Cv) (A : Option Addr) (n m : Nat) (w : World) (hk : c.k = 11) (h0 : 0 ≤ c.call ∧ c.call ≤ 2147483648) (h1 : ¬ (1 ≤ c.saga ∧ c.saga ≤ 9999)) :
    Calls Tryz.prog 84 #[.agg (cA c A n m)] w fun e w' => e = .returned (.tuple #[.agg (cA (setF .defn c (setF .saga c (setF .call c (zeroC c.k)))) A n m), .bool false]) ∧ Below w.heap.size w w' := by
  have I0 := Lib.hid (us_start w c A n m)
  obtain ⟨cc, hcc⟩ : ∃ cc, cc = (setF .defn c (setF .saga c (setF .call c (zeroC c.k)))) := ⟨_, rfl⟩
  rw [← hcc]
  have HCC := Lib.hid hcc
  clear hcc
  have e0 : (c.k == 0) = false := by rw [hk]; rfl
  have e1 : (c.k == 1) = false := by rw [hk]; rfl
  have e2 : (c.k == 2) = false := by rw [hk]; rfl
  have e3 : (c.k == 3) = false := by rw [hk]; rfl
  have e4 : (c.k == 4) = false := by rw [hk]; rfl
  have e11 : (c.k == 11) = true := by rw [hk]; rfl
  have K0 := Lib.hid (fun V => ucall_yes c.call V h0)
  have K1 := Lib.hid (fun V => usaga_no c.saga V h1)
  clear hk h0 h1
  go_enter Tryz.func84, Tryz.ntmps84
  go_upto_region 1 with fail
  rw [← zero24 0]
  generalize ((w.alloc (.cells (cA c A n m) 36)).alloc (.cells (cA (zeroC 0) none 0 0) 36)) = w1 at I0 ⊢
  have x0 : w1.cell? ⟨w.heap.size, 0, none⟩ = some (.int .i64 c.k) := I0.out.2.1.cell 0
  have I1 := Lib.hid (UsI.new I0.out c.k)
  go_upto_region 2 with (refine wpList_store_row rfl 36 (.tmp 4) (.tmp 8) rfl _ (cA (zeroC c.k) none 0 0) rfl rfl 36 _ (heap_alloc_new _ _) (info24 _ _ _ _) rfl (all24 _ _ _ _) ?_; rw [World.setRow_alloc_new])
  clear x0 I0
  generalize w1.alloc (.cells (cA (zeroC c.k) none 0 0) 36) = w2 at I1 ⊢
  generalize w1.heap.size = O at I1 ⊢
  have x0 : w2.cell? ⟨w.heap.size, 0, none⟩ = some (.int .i64 c.k) := I1.out.wb.cell 0
  have x1 : w2.cell? ⟨w.heap.size, 1, none⟩ = some (.int .i64 c.call) := I1.out.wb.cell 1
  have y1 : w2.cell? ⟨O, 1, none⟩ = some (.int .i64 0) := I1.out.wo.cell 1
  have f1 : w2.frozen? ⟨O, 1, none⟩ = false := I1.out.wo.fr 1
  have I2 := Lib.hid I1.out.put_call
  go_upto_region 26 with fail
  clear x0 x1 y1 f1 I1
  generalize (w2.setCell ⟨O, 1, none⟩ (.int .i64 c.call)) = w3 at I2 ⊢
  have x2 : w3.cell? ⟨w.heap.size, 2, none⟩ = some (.int .i64 c.saga) := I2.out.wb.cell 2
  have y2 : w3.cell? ⟨O, 2, none⟩ = some (.int .i64 0) := I2.out.wo.cell 2
  have f2 : w3.frozen? ⟨O, 2, none⟩ = false := I2.out.wo.fr 2
  have I3 := Lib.hid I2.out.put_saga
  go_upto_region 27 with fail
  clear x2 y2 f2 I2
  generalize (w3.setCell ⟨O, 2, none⟩ (.int .i64 c.saga)) = w4 at I3 ⊢
  have x12 : w4.cell? ⟨w.heap.size, 12, none⟩ = some (.string c.d.n) := I3.out.wb.cell 12
  have y12 : w4.cell? ⟨O, 12, none⟩ = some (.string ⟨#[]⟩) := I3.out.wo.cell 12
  have f12 : w4.frozen? ⟨O, 12, none⟩ = false := I3.out.wo.fr 12
  have x13 : w4.cell? ⟨w.heap.size, 13, none⟩ = some (.int .i64 c.d.r) := I3.out.wb.cell 13
  have y13 : w4.cell? ⟨O, 13, none⟩ = some (.int .i64 0) := I3.out.wo.cell 13
  have f13 : w4.frozen? ⟨O, 13, none⟩ = false := I3.out.wo.fr 13
  have x14 : w4.cell? ⟨w.heap.size, 14, none⟩ = some (.int .i64 c.d.dl) := I3.out.wb.cell 14
  have y14 : w4.cell? ⟨O, 14, none⟩ = some (.int .i64 0) := I3.out.wo.cell 14
  have f14 : w4.frozen? ⟨O, 14, none⟩ = false := I3.out.wo.fr 14
  have x15 : w4.cell? ⟨w.heap.size, 15, none⟩ = some (.slice A n m) := I3.out.wb.cell 15
  have y15 : w4.cell? ⟨O, 15, none⟩ = some (.slice none 0 0) := I3.out.wo.cell 15
  have f15 : w4.frozen? ⟨O, 15, none⟩ = false := I3.out.wo.fr 15
  have I4 := Lib.hid I3.out.put_defn
  go_upto_region 28 with fail
  clear x12 y12 f12 x13 y13 f13 x14 y14 f14 x15 y15 f15 I3
  generalize ((((w4.setCell ⟨O, 12, none⟩ (.string c.d.n)).setCell ⟨O, 13, none⟩ (.int .i64 c.d.r)).setCell ⟨O, 14, none⟩ (.int .i64 c.d.dl)).setCell ⟨O, 15, none⟩ (.slice A n m)) = w5 at I4 ⊢
  have IC : Hid (UsI w c A n m O cc A n m w5) := Lib.hid (by have := I4.out; rw [← HCC.out] at this; exact this)
  clear I4
  have x1 : w5.cell? ⟨w.heap.size, 1, none⟩ = some (.int .i64 c.call) := IC.out.wb.cell 1
  have x2 : w5.cell? ⟨w.heap.size, 2, none⟩ = some (.int .i64 c.saga) := IC.out.wb.cell 2
  go_upto_region 44 with (first
    | (go_at_call 138; refine (K0.out _).mono ?_; rintro e v ⟨rfl, rfl⟩; clear K0)
    | (go_at_call 141; refine (K1.out _).mono ?_; rintro e v ⟨rfl, rfl⟩; clear K1))
  go_wp2_with (first
    | (refine wpList_load_row rfl 36 (.tmp 4) rfl O rfl 36 (cA cc A n m) (0, 0) _ IC.out.wo Tryz.underlying36 rfl (info24 _ _ _ _) ?_)
    | (refine wpList_store_row rfl 36 (.tmp 2) (.tmp 208) rfl (w.heap.size + 1) (cA cc A n m) rfl rfl 36 (cA (zeroC 0) none 0 0) IC.out.wr (info24 _ _ _ _) rfl (all24 _ _ _ _) ?_))
  refine bodyPost_ret (results_row2 rfl _ _ (w.heap.size + 1) 36 (cA cc A n m) (0, 0) _ rfl (setRow_heap _ _ _ _ _ _ IC.out.wr) Tryz.underlying36 rfl (info24 _ _ _ _) (.bool false) rfl) rfl ?_
  exact ⟨rfl, below_row IC.out.bl (Nat.le_succ _) _⟩
set_option maxRecDepth 100000 in
set_option maxHeartbeats 4000000 in
theorem used_11_2 (c : Cv) (A : Option Addr) (n m : Nat) (w : World) (h : CmdIn w c A n m) (hk : c.k = 11) (h0 : 0 ≤ c.call ∧ c.call ≤ 2147483648) (h1 : 1 ≤ c.saga ∧ c.saga ≤ 9999) (h2 : ¬ (defOk c.d)) :
    Calls Tryz.prog 84 #[.agg (cA c A n m)] w fun e w' => e = .returned (.tuple #[.agg (cA (setF .defn c (setF .saga c (setF .call c (zeroC c.k)))) A n m), .bool false]) ∧ Below w.heap.size w w' := by
  have I0 := Lib.hid (us_start w c A n m)
  obtain ⟨cc, hcc⟩ : ∃ cc, cc = (setF .defn c (setF .saga c (setF .call c (zeroC c.k)))) := ⟨_, rfl⟩
  rw [← hcc]
  have HCC := Lib.hid hcc
  clear hcc
  have HZ := Lib.hid h.z
  have HIN := Lib.hid h
  have e0 : (c.k == 0) = false := by rw [hk]; rfl
  have e1 : (c.k == 1) = false := by rw [hk]; rfl
  have e2 : (c.k == 2) = false := by rw [hk]; rfl
  have e3 : (c.k == 3) = false := by rw [hk]; rfl
  have e4 : (c.k == 4) = false := by rw [hk]; rfl
  have e11 : (c.k == 11) = true := by rw [hk]; rfl
  have K0 := Lib.hid (fun V => ucall_yes c.call V h0)
  have K1 := Lib.hid (fun V => usaga_yes c.saga V h1)
  have K2 := Lib.hid (fun V hV => by have := refDefCheck_any c.d A n m V (HIN.out.keep hV).d; rw [ckD_no h2] at this; exact this : ∀ V, Below w.heap.size w V → Calls Tryz.prog 132 #[.agg #[.string c.d.n, .int .i64 c.d.r, .int .i64 c.d.dl, .slice A n m]] V fun e w' => e = .returned (.int .i64 15) ∧ Below V.heap.size V w')
  clear h HZ hk h0 h1 h2
  go_enter Tryz.func84, Tryz.ntmps84
  go_upto_region 1 with fail
  rw [← zero24 0]
  generalize ((w.alloc (.cells (cA c A n m) 36)).alloc (.cells (cA (zeroC 0) none 0 0) 36)) = w1 at I0 ⊢
  have x0 : w1.cell? ⟨w.heap.size, 0, none⟩ = some (.int .i64 c.k) := I0.out.2.1.cell 0
  have I1 := Lib.hid (UsI.new I0.out c.k)
  go_upto_region 2 with (refine wpList_store_row rfl 36 (.tmp 4) (.tmp 8) rfl _ (cA (zeroC c.k) none 0 0) rfl rfl 36 _ (heap_alloc_new _ _) (info24 _ _ _ _) rfl (all24 _ _ _ _) ?_; rw [World.setRow_alloc_new])
  clear x0 I0
  generalize w1.alloc (.cells (cA (zeroC c.k) none 0 0) 36) = w2 at I1 ⊢
  generalize w1.heap.size = O at I1 ⊢
  have x0 : w2.cell? ⟨w.heap.size, 0, none⟩ = some (.int .i64 c.k) := I1.out.wb.cell 0
  have x1 : w2.cell? ⟨w.heap.size, 1, none⟩ = some (.int .i64 c.call) := I1.out.wb.cell 1
  have y1 : w2.cell? ⟨O, 1, none⟩ = some (.int .i64 0) := I1.out.wo.cell 1
  have f1 : w2.frozen? ⟨O, 1, none⟩ = false := I1.out.wo.fr 1
  have I2 := Lib.hid I1.out.put_call
  go_upto_region 26 with fail
  clear x0 x1 y1 f1 I1
  generalize (w2.setCell ⟨O, 1, none⟩ (.int .i64 c.call)) = w3 at I2 ⊢
  have x2 : w3.cell? ⟨w.heap.size, 2, none⟩ = some (.int .i64 c.saga) := I2.out.wb.cell 2
  have y2 : w3.cell? ⟨O, 2, none⟩ = some (.int .i64 0) := I2.out.wo.cell 2
  have f2 : w3.frozen? ⟨O, 2, none⟩ = false := I2.out.wo.fr 2
  have I3 := Lib.hid I2.out.put_saga
  go_upto_region 27 with fail
  clear x2 y2 f2 I2
  generalize (w3.setCell ⟨O, 2, none⟩ (.int .i64 c.saga)) = w4 at I3 ⊢
  have x12 : w4.cell? ⟨w.heap.size, 12, none⟩ = some (.string c.d.n) := I3.out.wb.cell 12
  have y12 : w4.cell? ⟨O, 12, none⟩ = some (.string ⟨#[]⟩) := I3.out.wo.cell 12
  have f12 : w4.frozen? ⟨O, 12, none⟩ = false := I3.out.wo.fr 12
  have x13 : w4.cell? ⟨w.heap.size, 13, none⟩ = some (.int .i64 c.d.r) := I3.out.wb.cell 13
  have y13 : w4.cell? ⟨O, 13, none⟩ = some (.int .i64 0) := I3.out.wo.cell 13
  have f13 : w4.frozen? ⟨O, 13, none⟩ = false := I3.out.wo.fr 13
  have x14 : w4.cell? ⟨w.heap.size, 14, none⟩ = some (.int .i64 c.d.dl) := I3.out.wb.cell 14
  have y14 : w4.cell? ⟨O, 14, none⟩ = some (.int .i64 0) := I3.out.wo.cell 14
  have f14 : w4.frozen? ⟨O, 14, none⟩ = false := I3.out.wo.fr 14
  have x15 : w4.cell? ⟨w.heap.size, 15, none⟩ = some (.slice A n m) := I3.out.wb.cell 15
  have y15 : w4.cell? ⟨O, 15, none⟩ = some (.slice none 0 0) := I3.out.wo.cell 15
  have f15 : w4.frozen? ⟨O, 15, none⟩ = false := I3.out.wo.fr 15
  have I4 := Lib.hid I3.out.put_defn
  go_upto_region 28 with fail
  clear x12 y12 f12 x13 y13 f13 x14 y14 f14 x15 y15 f15 I3
  generalize ((((w4.setCell ⟨O, 12, none⟩ (.string c.d.n)).setCell ⟨O, 13, none⟩ (.int .i64 c.d.r)).setCell ⟨O, 14, none⟩ (.int .i64 c.d.dl)).setCell ⟨O, 15, none⟩ (.slice A n m)) = w5 at I4 ⊢
  have IC : Hid (UsI w c A n m O cc A n m w5) := Lib.hid (by have := I4.out; rw [← HCC.out] at this; exact this)
  clear I4
  have x1 : w5.cell? ⟨w.heap.size, 1, none⟩ = some (.int .i64 c.call) := IC.out.wb.cell 1
  have x2 : w5.cell? ⟨w.heap.size, 2, none⟩ = some (.int .i64 c.saga) := IC.out.wb.cell 2
  have x12 : w5.cell? ⟨w.heap.size, 12, none⟩ = some (.string c.d.n) := IC.out.wb.cell 12
  have x13 : w5.cell? ⟨w.heap.size, 13, none⟩ = some (.int .i64 c.d.r) := IC.out.wb.cell 13
  have x14 : w5.cell? ⟨w.heap.size, 14, none⟩ = some (.int .i64 c.d.dl) := IC.out.wb.cell 14
  have x15 : w5.cell? ⟨w.heap.size, 15, none⟩ = some (.slice A n m) := IC.out.wb.cell 15
  go_upto_region 44 with (first
    | (go_at_call 138; refine (K0.out _).mono ?_; rintro e v ⟨rfl, rfl⟩; clear K0)
    | (go_at_call 141; refine (K1.out _).mono ?_; rintro e v ⟨rfl, rfl⟩; clear K1)
    | (go_at_call 132; refine (K2.out _ IC.out.bl).mono ?_; rintro e wj ⟨rfl, hb⟩; have IJ := Lib.hid (IC.out.keep hb); clear hb K2; have z1 : wj.cell? ⟨w.heap.size, 1, none⟩ = some (.int .i64 c.call) := IJ.out.wb.cell 1; have z2 : wj.cell? ⟨w.heap.size, 2, none⟩ = some (.int .i64 c.saga) := IJ.out.wb.cell 2; have z12 : wj.cell? ⟨w.heap.size, 12, none⟩ = some (.string c.d.n) := IJ.out.wb.cell 12; have z13 : wj.cell? ⟨w.heap.size, 13, none⟩ = some (.int .i64 c.d.r) := IJ.out.wb.cell 13; have z14 : wj.cell? ⟨w.heap.size, 14, none⟩ = some (.int .i64 c.d.dl) := IJ.out.wb.cell 14; have z15 : wj.cell? ⟨w.heap.size, 15, none⟩ = some (.slice A n m) := IJ.out.wb.cell 15))
  go_wp2_with (first
    | (refine wpList_load_row rfl 36 (.tmp 4) rfl O rfl 36 (cA cc A n m) (0, 0) _ IJ.out.wo Tryz.underlying36 rfl (info24 _ _ _ _) ?_)
    | (refine wpList_store_row rfl 36 (.tmp 2) (.tmp 208) rfl (w.heap.size + 1) (cA cc A n m) rfl rfl 36 (cA (zeroC 0) none 0 0) IJ.out.wr (info24 _ _ _ _) rfl (all24 _ _ _ _) ?_))
  refine bodyPost_ret (results_row2 rfl _ _ (w.heap.size + 1) 36 (cA cc A n m) (0, 0) _ rfl (setRow_heap _ _ _ _ _ _ IJ.out.wr) Tryz.underlying36 rfl (info24 _ _ _ _) (.bool false) rfl) rfl ?_
  exact ⟨rfl, below_row IJ.out.bl (Nat.le_succ _) _⟩
set_option maxRecDepth 100000 in
set_option maxHeartbeats 4000000 in
theorem used_11_3 (c : Cv) (A : Option Addr) (n m : Nat) (w : World) (h : CmdIn w c A n m) (hk : c.k = 11) (h0 : 0 ≤ c.call ∧ c.call ≤ 2147483648) (h1 : 1 ≤ c.saga ∧ c.saga ≤ 9999) (h2 : defOk c.d) :
    Calls Tryz.prog 84 #[.agg (cA c A n m)] w fun e w' => e = .returned (.tuple #[.agg (cA (setF .defn c (setF .saga c (setF .call c (zeroC c.k)))) A n m), .bool true]) ∧ Below w.heap.size w w' := by
  have I0 := Lib.hid (us_start w c A n m)
  obtain ⟨cc, hcc⟩ : ∃ cc, cc = (setF .defn c (setF .saga c (setF .call c (zeroC c.k)))) := ⟨_, rfl⟩
  rw [← hcc]
  have HCC := Lib.hid hcc
  clear hcc
  have HZ := Lib.hid h.z
  have HIN := Lib.hid h
  have e0 : (c.k == 0) = false := by rw [hk]; rfl
  have e1 : (c.k == 1) = false := by rw [hk]; rfl
  have e2 : (c.k == 2) = false := by rw [hk]; rfl
  have e3 : (c.k == 3) = false := by rw [hk]; rfl
  have e4 : (c.k == 4) = false := by rw [hk]; rfl
  have e11 : (c.k == 11) = true := by rw [hk]; rfl
  have K0 := Lib.hid (fun V => ucall_yes c.call V h0)
  have K1 := Lib.hid (fun V => usaga_yes c.saga V h1)
  have K2 := Lib.hid (fun V hV => by have := refDefCheck_any c.d A n m V (HIN.out.keep hV).d; rw [ckD_yes h2] at this; exact this : ∀ V, Below w.heap.size w V → Calls Tryz.prog 132 #[.agg #[.string c.d.n, .int .i64 c.d.r, .int .i64 c.d.dl, .slice A n m]] V fun e w' => e = .returned (.int .i64 0) ∧ Below V.heap.size V w')
  clear h HZ hk h0 h1 h2
  go_enter Tryz.func84, Tryz.ntmps84
  go_upto_region 1 with fail
  rw [← zero24 0]
  generalize ((w.alloc (.cells (cA c A n m) 36)).alloc (.cells (cA (zeroC 0) none 0 0) 36)) = w1 at I0 ⊢
  have x0 : w1.cell? ⟨w.heap.size, 0, none⟩ = some (.int .i64 c.k) := I0.out.2.1.cell 0
  have I1 := Lib.hid (UsI.new I0.out c.k)
  go_upto_region 2 with (refine wpList_store_row rfl 36 (.tmp 4) (.tmp 8) rfl _ (cA (zeroC c.k) none 0 0) rfl rfl 36 _ (heap_alloc_new _ _) (info24 _ _ _ _) rfl (all24 _ _ _ _) ?_; rw [World.setRow_alloc_new])
  clear x0 I0
  generalize w1.alloc (.cells (cA (zeroC c.k) none 0 0) 36) = w2 at I1 ⊢
  generalize w1.heap.size = O at I1 ⊢
  have x0 : w2.cell? ⟨w.heap.size, 0, none⟩ = some (.int .i64 c.k) := I1.out.wb.cell 0
  have x1 : w2.cell? ⟨w.heap.size, 1, none⟩ = some (.int .i64 c.call) := I1.out.wb.cell 1
  have y1 : w2.cell? ⟨O, 1, none⟩ = some (.int .i64 0) := I1.out.wo.cell 1
  have f1 : w2.frozen? ⟨O, 1, none⟩ = false := I1.out.wo.fr 1
  have I2 := Lib.hid I1.out.put_call
  go_upto_region 26 with fail
  clear x0 x1 y1 f1 I1
  generalize (w2.setCell ⟨O, 1, none⟩ (.int .i64 c.call)) = w3 at I2 ⊢
  have x2 : w3.cell? ⟨w.heap.size, 2, none⟩ = some (.int .i64 c.saga) := I2.out.wb.cell 2
  have y2 : w3.cell? ⟨O, 2, none⟩ = some (.int .i64 0) := I2.out.wo.cell 2
  have f2 : w3.frozen? ⟨O, 2, none⟩ = false := I2.out.wo.fr 2
  have I3 := Lib.hid I2.out.put_saga
  go_upto_region 27 with fail
  clear x2 y2 f2 I2
  generalize (w3.setCell ⟨O, 2, none⟩ (.int .i64 c.saga)) = w4 at I3 ⊢
  have x12 : w4.cell? ⟨w.heap.size, 12, none⟩ = some (.string c.d.n) := I3.out.wb.cell 12
  have y12 : w4.cell? ⟨O, 12, none⟩ = some (.string ⟨#[]⟩) := I3.out.wo.cell 12
  have f12 : w4.frozen? ⟨O, 12, none⟩ = false := I3.out.wo.fr 12
  have x13 : w4.cell? ⟨w.heap.size, 13, none⟩ = some (.int .i64 c.d.r) := I3.out.wb.cell 13
  have y13 : w4.cell? ⟨O, 13, none⟩ = some (.int .i64 0) := I3.out.wo.cell 13
  have f13 : w4.frozen? ⟨O, 13, none⟩ = false := I3.out.wo.fr 13
  have x14 : w4.cell? ⟨w.heap.size, 14, none⟩ = some (.int .i64 c.d.dl) := I3.out.wb.cell 14
  have y14 : w4.cell? ⟨O, 14, none⟩ = some (.int .i64 0) := I3.out.wo.cell 14
  have f14 : w4.frozen? ⟨O, 14, none⟩ = false := I3.out.wo.fr 14
  have x15 : w4.cell? ⟨w.heap.size, 15, none⟩ = some (.slice A n m) := I3.out.wb.cell 15
  have y15 : w4.cell? ⟨O, 15, none⟩ = some (.slice none 0 0) := I3.out.wo.cell 15
  have f15 : w4.frozen? ⟨O, 15, none⟩ = false := I3.out.wo.fr 15
  have I4 := Lib.hid I3.out.put_defn
  go_upto_region 28 with fail
  clear x12 y12 f12 x13 y13 f13 x14 y14 f14 x15 y15 f15 I3
  generalize ((((w4.setCell ⟨O, 12, none⟩ (.string c.d.n)).setCell ⟨O, 13, none⟩ (.int .i64 c.d.r)).setCell ⟨O, 14, none⟩ (.int .i64 c.d.dl)).setCell ⟨O, 15, none⟩ (.slice A n m)) = w5 at I4 ⊢
  have IC : Hid (UsI w c A n m O cc A n m w5) := Lib.hid (by have := I4.out; rw [← HCC.out] at this; exact this)
  clear I4
  have x1 : w5.cell? ⟨w.heap.size, 1, none⟩ = some (.int .i64 c.call) := IC.out.wb.cell 1
  have x2 : w5.cell? ⟨w.heap.size, 2, none⟩ = some (.int .i64 c.saga) := IC.out.wb.cell 2
  have x12 : w5.cell? ⟨w.heap.size, 12, none⟩ = some (.string c.d.n) := IC.out.wb.cell 12
  have x13 : w5.cell? ⟨w.heap.size, 13, none⟩ = some (.int .i64 c.d.r) := IC.out.wb.cell 13
  have x14 : w5.cell? ⟨w.heap.size, 14, none⟩ = some (.int .i64 c.d.dl) := IC.out.wb.cell 14
  have x15 : w5.cell? ⟨w.heap.size, 15, none⟩ = some (.slice A n m) := IC.out.wb.cell 15
  go_upto_region 44 with (first
    | (go_at_call 138; refine (K0.out _).mono ?_; rintro e v ⟨rfl, rfl⟩; clear K0)
    | (go_at_call 141; refine (K1.out _).mono ?_; rintro e v ⟨rfl, rfl⟩; clear K1)
    | (go_at_call 132; refine (K2.out _ IC.out.bl).mono ?_; rintro e wj ⟨rfl, hb⟩; have IJ := Lib.hid (IC.out.keep hb); clear hb K2; have z1 : wj.cell? ⟨w.heap.size, 1, none⟩ = some (.int .i64 c.call) := IJ.out.wb.cell 1; have z2 : wj.cell? ⟨w.heap.size, 2, none⟩ = some (.int .i64 c.saga) := IJ.out.wb.cell 2; have z12 : wj.cell? ⟨w.heap.size, 12, none⟩ = some (.string c.d.n) := IJ.out.wb.cell 12; have z13 : wj.cell? ⟨w.heap.size, 13, none⟩ = some (.int .i64 c.d.r) := IJ.out.wb.cell 13; have z14 : wj.cell? ⟨w.heap.size, 14, none⟩ = some (.int .i64 c.d.dl) := IJ.out.wb.cell 14; have z15 : wj.cell? ⟨w.heap.size, 15, none⟩ = some (.slice A n m) := IJ.out.wb.cell 15))
  go_wp2_with (first
    | (refine wpList_load_row rfl 36 (.tmp 4) rfl O rfl 36 (cA cc A n m) (0, 0) _ IJ.out.wo Tryz.underlying36 rfl (info24 _ _ _ _) ?_)
    | (refine wpList_store_row rfl 36 (.tmp 2) (.tmp 208) rfl (w.heap.size + 1) (cA cc A n m) rfl rfl 36 (cA (zeroC 0) none 0 0) IJ.out.wr (info24 _ _ _ _) rfl (all24 _ _ _ _) ?_))
  refine bodyPost_ret (results_row2 rfl _ _ (w.heap.size + 1) 36 (cA cc A n m) (0, 0) _ rfl (setRow_heap _ _ _ _ _ _ IJ.out.wr) Tryz.underlying36 rfl (info24 _ _ _ _) (.bool true) rfl) rfl ?_
  exact ⟨rfl, below_row IJ.out.bl (Nat.le_succ _) _⟩
set_option maxRecDepth 100000 in
set_option maxHeartbeats 4000000 in
theorem used_13_0 (c : Cv) (A : Option Addr) (n m : Nat) (w : World) (hk : c.k = 13) (h0 : ¬ (0 ≤ c.call ∧ c.call ≤ 2147483648)) :
    Calls Tryz.prog 84 #[.agg (cA c A n m)] w fun e w' => e = .returned (.tuple #[.agg (cA (setF .saga c (setF .call c (zeroC c.k))) none 0 0), .bool false]) ∧ Below w.heap.size w w' := by
  have I0 := Lib.hid (us_start w c A n m)
  obtain ⟨cc, hcc⟩ : ∃ cc, cc = (setF .saga c (setF .call c (zeroC c.k))) := ⟨_, rfl⟩
  rw [← hcc]
  have HCC := Lib.hid hcc
  clear hcc
  have e0 : (c.k == 0) = false := by rw [hk]; rfl
  have e1 : (c.k == 1) = false := by rw [hk]; rfl
  have e2 : (c.k == 2) = false := by rw [hk]; rfl
  have e3 : (c.k == 3) = false := by rw [hk]; rfl
  have e4 : (c.k == 4) = false := by rw [hk]; rfl
  have e11 : (c.k == 11) = false := by rw [hk]; rfl
  have e12 : (c.k == 12) = false := by rw [hk]; rfl
  have e13 : (c.k == 13) = true := by rw [hk]; rfl
  have K0 := Lib.hid (fun V => ucall_no c.call V h0)
  clear hk h0
  go_enter Tryz.func84, Tryz.ntmps84
  go_upto_region 1 with fail
  rw [← zero24 0]
  generalize ((w.alloc (.cells (cA c A n m) 36)).alloc (.cells (cA (zeroC 0) none 0 0) 36)) = w1 at I0 ⊢
  have x0 : w1.cell? ⟨w.heap.size, 0, none⟩ = some (.int .i64 c.k) := I0.out.2.1.cell 0
  have I1 := Lib.hid (UsI.new I0.out c.k)
  go_upto_region 2 with (refine wpList_store_row rfl 36 (.tmp 4) (.tmp 8) rfl _ (cA (zeroC c.k) none 0 0) rfl rfl 36 _ (heap_alloc_new _ _) (info24 _ _ _ _) rfl (all24 _ _ _ _) ?_; rw [World.setRow_alloc_new])
  clear x0 I0
  generalize w1.alloc (.cells (cA (zeroC c.k) none 0 0) 36) = w2 at I1 ⊢
  generalize w1.heap.size = O at I1 ⊢
  have x0 : w2.cell? ⟨w.heap.size, 0, none⟩ = some (.int .i64 c.k) := I1.out.wb.cell 0
  have x1 : w2.cell? ⟨w.heap.size, 1, none⟩ = some (.int .i64 c.call) := I1.out.wb.cell 1
  have y1 : w2.cell? ⟨O, 1, none⟩ = some (.int .i64 0) := I1.out.wo.cell 1
  have f1 : w2.frozen? ⟨O, 1, none⟩ = false := I1.out.wo.fr 1
  have I2 := Lib.hid I1.out.put_call
  go_upto_region 32 with fail
  clear x0 x1 y1 f1 I1
  generalize (w2.setCell ⟨O, 1, none⟩ (.int .i64 c.call)) = w3 at I2 ⊢
  have x2 : w3.cell? ⟨w.heap.size, 2, none⟩ = some (.int .i64 c.saga) := I2.out.wb.cell 2
  have y2 : w3.cell? ⟨O, 2, none⟩ = some (.int .i64 0) := I2.out.wo.cell 2
  have f2 : w3.frozen? ⟨O, 2, none⟩ = false := I2.out.wo.fr 2
  have I3 := Lib.hid I2.out.put_saga
  go_upto_region 33 with fail
  clear x2 y2 f2 I2
  generalize (w3.setCell ⟨O, 2, none⟩ (.int .i64 c.saga)) = w4 at I3 ⊢
  have IC : Hid (UsI w c A n m O cc none 0 0 w4) := Lib.hid (by have := I3.out; rw [← HCC.out] at this; exact this)
  clear I3
  have x1 : w4.cell? ⟨w.heap.size, 1, none⟩ = some (.int .i64 c.call) := IC.out.wb.cell 1
  go_upto_region 44 with (go_at_call 138; refine (K0.out _).mono ?_; rintro e v ⟨rfl, rfl⟩; clear K0)
  go_wp2_with (first
    | (refine wpList_load_row rfl 36 (.tmp 4) rfl O rfl 36 (cA cc none 0 0) (0, 0) _ IC.out.wo Tryz.underlying36 rfl (info24 _ _ _ _) ?_)
    | (refine wpList_store_row rfl 36 (.tmp 2) (.tmp 208) rfl (w.heap.size + 1) (cA cc none 0 0) rfl rfl 36 (cA (zeroC 0) none 0 0) IC.out.wr (info24 _ _ _ _) rfl (all24 _ _ _ _) ?_))
  refine bodyPost_ret (results_row2 rfl _ _ (w.heap.size + 1) 36 (cA cc none 0 0) (0, 0) _ rfl (setRow_heap _ _ _ _ _ _ IC.out.wr) Tryz.underlying36 rfl (info24 _ _ _ _) (.bool false) rfl) rfl ?_
  exact ⟨rfl, below_row IC.out.bl (Nat.le_succ _) _⟩
set_option maxRecDepth 100000 in
set_option maxHeartbeats 4000000 in
theorem used_13_1 (c : Cv) (A : Option Addr) (n m : Nat) (w : World) (hk : c.k = 13) (h0 : 0 ≤ c.call ∧ c.call ≤ 2147483648) (h1 : ¬ (1 ≤ c.saga ∧ c.saga ≤ 9999)) :
    Calls Tryz.prog 84 #[.agg (cA c A n m)] w fun e w' => e = .returned (.tuple #[.agg (cA (setF .saga c (setF .call c (zeroC c.k))) none 0 0), .bool false]) ∧ Below w.heap.size w w' := by
  have I0 := Lib.hid (us_start w c A n m)
  obtain ⟨cc, hcc⟩ : ∃ cc, cc = (setF .saga c (setF .call c (zeroC c.k))) := ⟨_, rfl⟩
  rw [← hcc]
  have HCC := Lib.hid hcc
  clear hcc
  have e0 : (c.k == 0) = false := by rw [hk]; rfl
  have e1 : (c.k == 1) = false := by rw [hk]; rfl
  have e2 : (c.k == 2) = false := by rw [hk]; rfl
  have e3 : (c.k == 3) = false := by rw [hk]; rfl
  have e4 : (c.k == 4) = false := by rw [hk]; rfl
  have e11 : (c.k == 11) = false := by rw [hk]; rfl
  have e12 : (c.k == 12) = false := by rw [hk]; rfl
  have e13 : (c.k == 13) = true := by rw [hk]; rfl
  have K0 := Lib.hid (fun V => ucall_yes c.call V h0)
  have K1 := Lib.hid (fun V => usaga_no c.saga V h1)
  clear hk h0 h1
  go_enter Tryz.func84, Tryz.ntmps84
  go_upto_region 1 with fail
  rw [← zero24 0]
  generalize ((w.alloc (.cells (cA c A n m) 36)).alloc (.cells (cA (zeroC 0) none 0 0) 36)) = w1 at I0 ⊢
  have x0 : w1.cell? ⟨w.heap.size, 0, none⟩ = some (.int .i64 c.k) := I0.out.2.1.cell 0
  have I1 := Lib.hid (UsI.new I0.out c.k)
  go_upto_region 2 with (refine wpList_store_row rfl 36 (.tmp 4) (.tmp 8) rfl _ (cA (zeroC c.k) none 0 0) rfl rfl 36 _ (heap_alloc_new _ _) (info24 _ _ _ _) rfl (all24 _ _ _ _) ?_; rw [World.setRow_alloc_new])
  clear x0 I0
  generalize w1.alloc (.cells (cA (zeroC c.k) none 0 0) 36) = w2 at I1 ⊢
  generalize w1.heap.size = O at I1 ⊢
  have x0 : w2.cell? ⟨w.heap.size, 0, none⟩ = some (.int .i64 c.k) := I1.out.wb.cell 0
  have x1 : w2.cell? ⟨w.heap.size, 1, none⟩ = some (.int .i64 c.call) := I1.out.wb.cell 1
  have y1 : w2.cell? ⟨O, 1, none⟩ = some (.int .i64 0) := I1.out.wo.cell 1
  have f1 : w2.frozen? ⟨O, 1, none⟩ = false := I1.out.wo.fr 1
  have I2 := Lib.hid I1.out.put_call
  go_upto_region 32 with fail
  clear x0 x1 y1 f1 I1
  generalize (w2.setCell ⟨O, 1, none⟩ (.int .i64 c.call)) = w3 at I2 ⊢
  have x2 : w3.cell? ⟨w.heap.size, 2, none⟩ = some (.int .i64 c.saga) := I2.out.wb.cell 2
  have y2 : w3.cell? ⟨O, 2, none⟩ = some (.int .i64 0) := I2.out.wo.cell 2
  have f2 : w3.frozen? ⟨O, 2, none⟩ = false := I2.out.wo.fr 2
  have I3 := Lib.hid I2.out.put_saga
  go_upto_region 33 with fail
  clear x2 y2 f2 I2
  generalize (w3.setCell ⟨O, 2, none⟩ (.int .i64 c.saga)) = w4 at I3 ⊢
  have IC : Hid (UsI w c A n m O cc none 0 0 w4) := Lib.hid (by have := I3.out; rw [← HCC.out] at this; exact this)
  clear I3
  have x1 : w4.cell? ⟨w.heap.size, 1, none⟩ = some (.int .i64 c.call) := IC.out.wb.cell 1
  have x2 : w4.cell? ⟨w.heap.size, 2, none⟩ = some (.int .i64 c.saga) := IC.out.wb.cell 2
  go_upto_region 44 with (first
    | (go_at_call 138; refine (K0.out _).mono ?_; rintro e v ⟨rfl, rfl⟩; clear K0)
    | (go_at_call 141; refine (K1.out _).mono ?_; rintro e v ⟨rfl, rfl⟩; clear K1))
  go_wp2_with (first
    | (refine wpList_load_row rfl 36 (.tmp 4) rfl O rfl 36 (cA cc none 0 0) (0, 0) _ IC.out.wo Tryz.underlying36 rfl (info24 _ _ _ _) ?_)
    | (refine wpList_store_row rfl 36 (.tmp 2) (.tmp 208) rfl (w.heap.size + 1) (cA cc none 0 0) rfl rfl 36 (cA (zeroC 0) none 0 0) IC.out.wr (info24 _ _ _ _) rfl (all24 _ _ _ _) ?_))
  refine bodyPost_ret (results_row2 rfl _ _ (w.heap.size + 1) 36 (cA cc none 0 0) (0, 0) _ rfl (setRow_heap _ _ _ _ _ _ IC.out.wr) Tryz.underlying36 rfl (info24 _ _ _ _) (.bool false) rfl) rfl ?_
  exact ⟨rfl, below_row IC.out.bl (Nat.le_succ _) _⟩
set_option maxRecDepth 100000 in
set_option maxHeartbeats 4000000 in
theorem used_13_2 (c : Cv) (A : Option Addr) (n m : Nat) (w : World) (hk : c.k = 13) (h0 : 0 ≤ c.call ∧ c.call ≤ 2147483648) (h1 : 1 ≤ c.saga ∧ c.saga ≤ 9999) :
    Calls Tryz.prog 84 #[.agg (cA c A n m)] w fun e w' => e = .returned (.tuple #[.agg (cA (setF .saga c (setF .call c (zeroC c.k))) none 0 0), .bool true]) ∧ Below w.heap.size w w' := by
  have I0 := Lib.hid (us_start w c A n m)
  obtain ⟨cc, hcc⟩ : ∃ cc, cc = (setF .saga c (setF .call c (zeroC c.k))) := ⟨_, rfl⟩
  rw [← hcc]
  have HCC := Lib.hid hcc
  clear hcc
  have e0 : (c.k == 0) = false := by rw [hk]; rfl
  have e1 : (c.k == 1) = false := by rw [hk]; rfl
  have e2 : (c.k == 2) = false := by rw [hk]; rfl
  have e3 : (c.k == 3) = false := by rw [hk]; rfl
  have e4 : (c.k == 4) = false := by rw [hk]; rfl
  have e11 : (c.k == 11) = false := by rw [hk]; rfl
  have e12 : (c.k == 12) = false := by rw [hk]; rfl
  have e13 : (c.k == 13) = true := by rw [hk]; rfl
  have K0 := Lib.hid (fun V => ucall_yes c.call V h0)
  have K1 := Lib.hid (fun V => usaga_yes c.saga V h1)
  clear hk h0 h1
  go_enter Tryz.func84, Tryz.ntmps84
  go_upto_region 1 with fail
  rw [← zero24 0]
  generalize ((w.alloc (.cells (cA c A n m) 36)).alloc (.cells (cA (zeroC 0) none 0 0) 36)) = w1 at I0 ⊢
  have x0 : w1.cell? ⟨w.heap.size, 0, none⟩ = some (.int .i64 c.k) := I0.out.2.1.cell 0
  have I1 := Lib.hid (UsI.new I0.out c.k)
  go_upto_region 2 with (refine wpList_store_row rfl 36 (.tmp 4) (.tmp 8) rfl _ (cA (zeroC c.k) none 0 0) rfl rfl 36 _ (heap_alloc_new _ _) (info24 _ _ _ _) rfl (all24 _ _ _ _) ?_; rw [World.setRow_alloc_new])
  clear x0 I0
  generalize w1.alloc (.cells (cA (zeroC c.k) none 0 0) 36) = w2 at I1 ⊢
  generalize w1.heap.size = O at I1 ⊢
  have x0 : w2.cell? ⟨w.heap.size, 0, none⟩ = some (.int .i64 c.k) := I1.out.wb.cell 0
  have x1 : w2.cell? ⟨w.heap.size, 1, none⟩ = some (.int .i64 c.call) := I1.out.wb.cell 1
  have y1 : w2.cell? ⟨O, 1, none⟩ = some (.int .i64 0) := I1.out.wo.cell 1
  have f1 : w2.frozen? ⟨O, 1, none⟩ = false := I1.out.wo.fr 1
  have I2 := Lib.hid I1.out.put_call
  go_upto_region 32 with fail
  clear x0 x1 y1 f1 I1
  generalize (w2.setCell ⟨O, 1, none⟩ (.int .i64 c.call)) = w3 at I2 ⊢
  have x2 : w3.cell? ⟨w.heap.size, 2, none⟩ = some (.int .i64 c.saga) := I2.out.wb.cell 2
  have y2 : w3.cell? ⟨O, 2, none⟩ = some (.int .i64 0) := I2.out.wo.cell 2
  have f2 : w3.frozen? ⟨O, 2, none⟩ = false := I2.out.wo.fr 2
  have I3 := Lib.hid I2.out.put_saga
  go_upto_region 33 with fail
  clear x2 y2 f2 I2
  generalize (w3.setCell ⟨O, 2, none⟩ (.int .i64 c.saga)) = w4 at I3 ⊢
  have IC : Hid (UsI w c A n m O cc none 0 0 w4) := Lib.hid (by have := I3.out; rw [← HCC.out] at this; exact this)
  clear I3
  have x1 : w4.cell? ⟨w.heap.size, 1, none⟩ = some (.int .i64 c.call) := IC.out.wb.cell 1
  have x2 : w4.cell? ⟨w.heap.size, 2, none⟩ = some (.int .i64 c.saga) := IC.out.wb.cell 2
  go_upto_region 44 with (first
    | (go_at_call 138; refine (K0.out _).mono ?_; rintro e v ⟨rfl, rfl⟩; clear K0)
    | (go_at_call 141; refine (K1.out _).mono ?_; rintro e v ⟨rfl, rfl⟩; clear K1))
  go_wp2_with (first
    | (refine wpList_load_row rfl 36 (.tmp 4) rfl O rfl 36 (cA cc none 0 0) (0, 0) _ IC.out.wo Tryz.underlying36 rfl (info24 _ _ _ _) ?_)
    | (refine wpList_store_row rfl 36 (.tmp 2) (.tmp 208) rfl (w.heap.size + 1) (cA cc none 0 0) rfl rfl 36 (cA (zeroC 0) none 0 0) IC.out.wr (info24 _ _ _ _) rfl (all24 _ _ _ _) ?_))
  refine bodyPost_ret (results_row2 rfl _ _ (w.heap.size + 1) 36 (cA cc none 0 0) (0, 0) _ rfl (setRow_heap _ _ _ _ _ _ IC.out.wr) Tryz.underlying36 rfl (info24 _ _ _ _) (.bool true) rfl) rfl ?_
  exact ⟨rfl, below_row IC.out.bl (Nat.le_succ _) _⟩
set_option maxRecDepth 100000 in
set_option maxHeartbeats 4000000 in
theorem used_15_0 (c : Cv) (A : Option Addr) (n m : Nat) (w : World) (hk : c.k = 15) (h0 : ¬ (itemOk c.it.a c.it.b c.it.c c.it.m c.it.i c.it.g)) :
    Calls Tryz.prog 84 #[.agg (cA c A n m)] w fun e w' => e = .returned (.tuple #[.agg (cA (setF .data c (setF .res c (setF .item c (zeroC c.k)))) none 0 0), .bool false]) ∧ Below w.heap.size w w' := by
  have I0 := Lib.hid (us_start w c A n m)
  obtain ⟨cc, hcc⟩ : ∃ cc, cc = (setF .data c (setF .res c (setF .item c (zeroC c.k)))) := ⟨_, rfl⟩
  rw [← hcc]
  have HCC := Lib.hid hcc
  clear hcc
  have e0 : (c.k == 0) = false := by rw [hk]; rfl
  have e1 : (c.k == 1) = false := by rw [hk]; rfl
  have e2 : (c.k == 2) = false := by rw [hk]; rfl
  have e3 : (c.k == 3) = false := by rw [hk]; rfl
  have e4 : (c.k == 4) = false := by rw [hk]; rfl
  have e11 : (c.k == 11) = false := by rw [hk]; rfl
  have e12 : (c.k == 12) = false := by rw [hk]; rfl
  have e13 : (c.k == 13) = false := by rw [hk]; rfl
  have e14 : (c.k == 14) = false := by rw [hk]; rfl
  have e15 : (c.k == 15) = true := by rw [hk]; rfl
  have K0 := Lib.hid (fun V => by have := Id.refCheckItem_any c.it.a c.it.b c.it.c c.it.m c.it.i c.it.g V; rw [ckItem_no h0] at this; exact this : ∀ V, Calls Tryz.prog 133 #[.agg #[.int .i64 c.it.a, .int .i64 c.it.b, .int .i64 c.it.c, .int .i64 c.it.m, .bool c.it.i, .int .i64 c.it.g]] V fun e w' => e = .returned (.int .i64 2) ∧ Below V.heap.size V w')
  clear hk h0
  go_enter Tryz.func84, Tryz.ntmps84
  go_upto_region 1 with fail
  rw [← zero24 0]
  generalize ((w.alloc (.cells (cA c A n m) 36)).alloc (.cells (cA (zeroC 0) none 0 0) 36)) = w1 at I0 ⊢
  have x0 : w1.cell? ⟨w.heap.size, 0, none⟩ = some (.int .i64 c.k) := I0.out.2.1.cell 0
  have I1 := Lib.hid (UsI.new I0.out c.k)
  go_upto_region 2 with (refine wpList_store_row rfl 36 (.tmp 4) (.tmp 8) rfl _ (cA (zeroC c.k) none 0 0) rfl rfl 36 _ (heap_alloc_new _ _) (info24 _ _ _ _) rfl (all24 _ _ _ _) ?_; rw [World.setRow_alloc_new])
  clear x0 I0
  generalize w1.alloc (.cells (cA (zeroC c.k) none 0 0) 36) = w2 at I1 ⊢
  generalize w1.heap.size = O at I1 ⊢
  have x0 : w2.cell? ⟨w.heap.size, 0, none⟩ = some (.int .i64 c.k) := I1.out.wb.cell 0
  have x16 : w2.cell? ⟨w.heap.size, 16, none⟩ = some (.int .i64 c.it.a) := I1.out.wb.cell 16
  have y16 : w2.cell? ⟨O, 16, none⟩ = some (.int .i64 0) := I1.out.wo.cell 16
  have f16 : w2.frozen? ⟨O, 16, none⟩ = false := I1.out.wo.fr 16
  have x17 : w2.cell? ⟨w.heap.size, 17, none⟩ = some (.int .i64 c.it.b) := I1.out.wb.cell 17
  have y17 : w2.cell? ⟨O, 17, none⟩ = some (.int .i64 0) := I1.out.wo.cell 17
  have f17 : w2.frozen? ⟨O, 17, none⟩ = false := I1.out.wo.fr 17
  have x18 : w2.cell? ⟨w.heap.size, 18, none⟩ = some (.int .i64 c.it.c) := I1.out.wb.cell 18
  have y18 : w2.cell? ⟨O, 18, none⟩ = some (.int .i64 0) := I1.out.wo.cell 18
  have f18 : w2.frozen? ⟨O, 18, none⟩ = false := I1.out.wo.fr 18
  have x19 : w2.cell? ⟨w.heap.size, 19, none⟩ = some (.int .i64 c.it.m) := I1.out.wb.cell 19
  have y19 : w2.cell? ⟨O, 19, none⟩ = some (.int .i64 0) := I1.out.wo.cell 19
  have f19 : w2.frozen? ⟨O, 19, none⟩ = false := I1.out.wo.fr 19
  have x20 : w2.cell? ⟨w.heap.size, 20, none⟩ = some (.bool c.it.i) := I1.out.wb.cell 20
  have y20 : w2.cell? ⟨O, 20, none⟩ = some (.bool false) := I1.out.wo.cell 20
  have f20 : w2.frozen? ⟨O, 20, none⟩ = false := I1.out.wo.fr 20
  have x21 : w2.cell? ⟨w.heap.size, 21, none⟩ = some (.int .i64 c.it.g) := I1.out.wb.cell 21
  have y21 : w2.cell? ⟨O, 21, none⟩ = some (.int .i64 0) := I1.out.wo.cell 21
  have f21 : w2.frozen? ⟨O, 21, none⟩ = false := I1.out.wo.fr 21
  have I2 := Lib.hid I1.out.put_item
  go_upto_region 41 with fail
  clear x0 x16 y16 f16 x17 y17 f17 x18 y18 f18 x19 y19 f19 x20 y20 f20 x21 y21 f21 I1
  generalize ((((((w2.setCell ⟨O, 16, none⟩ (.int .i64 c.it.a)).setCell ⟨O, 17, none⟩ (.int .i64 c.it.b)).setCell ⟨O, 18, none⟩ (.int .i64 c.it.c)).setCell ⟨O, 19, none⟩ (.int .i64 c.it.m)).setCell ⟨O, 20, none⟩ (.bool c.it.i)).setCell ⟨O, 21, none⟩ (.int .i64 c.it.g)) = w3 at I2 ⊢
  have x22 : w3.cell? ⟨w.heap.size, 22, none⟩ = some (.int .i64 c.res) := I2.out.wb.cell 22
  have y22 : w3.cell? ⟨O, 22, none⟩ = some (.int .i64 0) := I2.out.wo.cell 22
  have f22 : w3.frozen? ⟨O, 22, none⟩ = false := I2.out.wo.fr 22
  have I3 := Lib.hid I2.out.put_res
  go_upto_region 42 with fail
  clear x22 y22 f22 I2
  generalize (w3.setCell ⟨O, 22, none⟩ (.int .i64 c.res)) = w4 at I3 ⊢
  have x23 : w4.cell? ⟨w.heap.size, 23, none⟩ = some (.string c.data) := I3.out.wb.cell 23
  have y23 : w4.cell? ⟨O, 23, none⟩ = some (.string ⟨#[]⟩) := I3.out.wo.cell 23
  have f23 : w4.frozen? ⟨O, 23, none⟩ = false := I3.out.wo.fr 23
  have I4 := Lib.hid I3.out.put_data
  go_upto_region 43 with fail
  clear x23 y23 f23 I3
  generalize (w4.setCell ⟨O, 23, none⟩ (.string c.data)) = w5 at I4 ⊢
  have IC : Hid (UsI w c A n m O cc none 0 0 w5) := Lib.hid (by have := I4.out; rw [← HCC.out] at this; exact this)
  clear I4
  have x16 : w5.cell? ⟨w.heap.size, 16, none⟩ = some (.int .i64 c.it.a) := IC.out.wb.cell 16
  have x17 : w5.cell? ⟨w.heap.size, 17, none⟩ = some (.int .i64 c.it.b) := IC.out.wb.cell 17
  have x18 : w5.cell? ⟨w.heap.size, 18, none⟩ = some (.int .i64 c.it.c) := IC.out.wb.cell 18
  have x19 : w5.cell? ⟨w.heap.size, 19, none⟩ = some (.int .i64 c.it.m) := IC.out.wb.cell 19
  have x20 : w5.cell? ⟨w.heap.size, 20, none⟩ = some (.bool c.it.i) := IC.out.wb.cell 20
  have x21 : w5.cell? ⟨w.heap.size, 21, none⟩ = some (.int .i64 c.it.g) := IC.out.wb.cell 21
  go_upto_region 44 with (go_at_call 133; refine (K0.out _).mono ?_; rintro e wj ⟨rfl, hb⟩; have IJ := Lib.hid (IC.out.keep hb); clear hb K0; have z16 : wj.cell? ⟨w.heap.size, 16, none⟩ = some (.int .i64 c.it.a) := IJ.out.wb.cell 16; have z17 : wj.cell? ⟨w.heap.size, 17, none⟩ = some (.int .i64 c.it.b) := IJ.out.wb.cell 17; have z18 : wj.cell? ⟨w.heap.size, 18, none⟩ = some (.int .i64 c.it.c) := IJ.out.wb.cell 18; have z19 : wj.cell? ⟨w.heap.size, 19, none⟩ = some (.int .i64 c.it.m) := IJ.out.wb.cell 19; have z20 : wj.cell? ⟨w.heap.size, 20, none⟩ = some (.bool c.it.i) := IJ.out.wb.cell 20; have z21 : wj.cell? ⟨w.heap.size, 21, none⟩ = some (.int .i64 c.it.g) := IJ.out.wb.cell 21)
  go_wp2_with (first
    | (refine wpList_load_row rfl 36 (.tmp 4) rfl O rfl 36 (cA cc none 0 0) (0, 0) _ IJ.out.wo Tryz.underlying36 rfl (info24 _ _ _ _) ?_)
    | (refine wpList_store_row rfl 36 (.tmp 2) (.tmp 208) rfl (w.heap.size + 1) (cA cc none 0 0) rfl rfl 36 (cA (zeroC 0) none 0 0) IJ.out.wr (info24 _ _ _ _) rfl (all24 _ _ _ _) ?_))
  refine bodyPost_ret (results_row2 rfl _ _ (w.heap.size + 1) 36 (cA cc none 0 0) (0, 0) _ rfl (setRow_heap _ _ _ _ _ _ IJ.out.wr) Tryz.underlying36 rfl (info24 _ _ _ _) (.bool false) rfl) rfl ?_
  exact ⟨rfl, below_row IJ.out.bl (Nat.le_succ _) _⟩
set_option maxRecDepth 100000 in
set_option maxHeartbeats 4000000 in
theorem used_15_1 (c : Cv) (A : Option Addr) (n m : Nat) (w : World) (hk : c.k = 15) (h0 : itemOk c.it.a c.it.b c.it.c c.it.m c.it.i c.it.g) (h1 : ¬ (0 ≤ c.res)) :
    Calls Tryz.prog 84 #[.agg (cA c A n m)] w fun e w' => e = .returned (.tuple #[.agg (cA (setF .data c (setF .res c (setF .item c (zeroC c.k)))) none 0 0), .bool false]) ∧ Below w.heap.size w w' := by
  have I0 := Lib.hid (us_start w c A n m)
  obtain ⟨cc, hcc⟩ : ∃ cc, cc = (setF .data c (setF .res c (setF .item c (zeroC c.k)))) := ⟨_, rfl⟩
  rw [← hcc]
  have HCC := Lib.hid hcc
  clear hcc
  have e0 : (c.k == 0) = false := by rw [hk]; rfl
  have e1 : (c.k == 1) = false := by rw [hk]; rfl
  have e2 : (c.k == 2) = false := by rw [hk]; rfl
  have e3 : (c.k == 3) = false := by rw [hk]; rfl
  have e4 : (c.k == 4) = false := by rw [hk]; rfl
  have e11 : (c.k == 11) = false := by rw [hk]; rfl
  have e12 : (c.k == 12) = false := by rw [hk]; rfl
  have e13 : (c.k == 13) = false := by rw [hk]; rfl
  have e14 : (c.k == 14) = false := by rw [hk]; rfl
  have e15 : (c.k == 15) = true := by rw [hk]; rfl
  have K0 := Lib.hid (fun V => by have := Id.refCheckItem_any c.it.a c.it.b c.it.c c.it.m c.it.i c.it.g V; rw [ckItem_yes h0] at this; exact this : ∀ V, Calls Tryz.prog 133 #[.agg #[.int .i64 c.it.a, .int .i64 c.it.b, .int .i64 c.it.c, .int .i64 c.it.m, .bool c.it.i, .int .i64 c.it.g]] V fun e w' => e = .returned (.int .i64 0) ∧ Below V.heap.size V w')
  clear hk h0
  go_enter Tryz.func84, Tryz.ntmps84
  go_upto_region 1 with fail
  rw [← zero24 0]
  generalize ((w.alloc (.cells (cA c A n m) 36)).alloc (.cells (cA (zeroC 0) none 0 0) 36)) = w1 at I0 ⊢
  have x0 : w1.cell? ⟨w.heap.size, 0, none⟩ = some (.int .i64 c.k) := I0.out.2.1.cell 0
  have I1 := Lib.hid (UsI.new I0.out c.k)
  go_upto_region 2 with (refine wpList_store_row rfl 36 (.tmp 4) (.tmp 8) rfl _ (cA (zeroC c.k) none 0 0) rfl rfl 36 _ (heap_alloc_new _ _) (info24 _ _ _ _) rfl (all24 _ _ _ _) ?_; rw [World.setRow_alloc_new])
  clear x0 I0
  generalize w1.alloc (.cells (cA (zeroC c.k) none 0 0) 36) = w2 at I1 ⊢
  generalize w1.heap.size = O at I1 ⊢
  have x0 : w2.cell? ⟨w.heap.size, 0, none⟩ = some (.int .i64 c.k) := I1.out.wb.cell 0
  have x16 : w2.cell? ⟨w.heap.size, 16, none⟩ = some (.int .i64 c.it.a) := I1.out.wb.cell 16
  have y16 : w2.cell? ⟨O, 16, none⟩ = some (.int .i64 0) := I1.out.wo.cell 16
  have f16 : w2.frozen? ⟨O, 16, none⟩ = false := I1.out.wo.fr 16
  have x17 : w2.cell? ⟨w.heap.size, 17, none⟩ = some (.int .i64 c.it.b) := I1.out.wb.cell 17
  have y17 : w2.cell? ⟨O, 17, none⟩ = some (.int .i64 0) := I1.out.wo.cell 17
  have f17 : w2.frozen? ⟨O, 17, none⟩ = false := I1.out.wo.fr 17
  have x18 : w2.cell? ⟨w.heap.size, 18, none⟩ = some (.int .i64 c.it.c) := I1.out.wb.cell 18
  have y18 : w2.cell? ⟨O, 18, none⟩ = some (.int .i64 0) := I1.out.wo.cell 18
  have f18 : w2.frozen? ⟨O, 18, none⟩ = false := I1.out.wo.fr 18
  have x19 : w2.cell? ⟨w.heap.size, 19, none⟩ = some (.int .i64 c.it.m) := I1.out.wb.cell 19
  have y19 : w2.cell? ⟨O, 19, none⟩ = some (.int .i64 0) := I1.out.wo.cell 19
  have f19 : w2.frozen? ⟨O, 19, none⟩ = false := I1.out.wo.fr 19
  have x20 : w2.cell? ⟨w.heap.size, 20, none⟩ = some (.bool c.it.i) := I1.out.wb.cell 20
  have y20 : w2.cell? ⟨O, 20, none⟩ = some (.bool false) := I1.out.wo.cell 20
  have f20 : w2.frozen? ⟨O, 20, none⟩ = false := I1.out.wo.fr 20
  have x21 : w2.cell? ⟨w.heap.size, 21, none⟩ = some (.int .i64 c.it.g) := I1.out.wb.cell 21
  have y21 : w2.cell? ⟨O, 21, none⟩ = some (.int .i64 0) := I1.out.wo.cell 21
  have f21 : w2.frozen? ⟨O, 21, none⟩ = false := I1.out.wo.fr 21
  have I2 := Lib.hid I1.out.put_item
  go_upto_region 41 with fail
  clear x0 x16 y16 f16 x17 y17 f17 x18 y18 f18 x19 y19 f19 x20 y20 f20 x21 y21 f21 I1
  generalize ((((((w2.setCell ⟨O, 16, none⟩ (.int .i64 c.it.a)).setCell ⟨O, 17, none⟩ (.int .i64 c.it.b)).setCell ⟨O, 18, none⟩ (.int .i64 c.it.c)).setCell ⟨O, 19, none⟩ (.int .i64 c.it.m)).setCell ⟨O, 20, none⟩ (.bool c.it.i)).setCell ⟨O, 21, none⟩ (.int .i64 c.it.g)) = w3 at I2 ⊢
  have x22 : w3.cell? ⟨w.heap.size, 22, none⟩ = some (.int .i64 c.res) := I2.out.wb.cell 22
  have y22 : w3.cell? ⟨O, 22, none⟩ = some (.int .i64 0) := I2.out.wo.cell 22
  have f22 : w3.frozen? ⟨O, 22, none⟩ = false := I2.out.wo.fr 22
  have I3 := Lib.hid I2.out.put_res
  go_upto_region 42 with fail
  clear x22 y22 f22 I2
  generalize (w3.setCell ⟨O, 22, none⟩ (.int .i64 c.res)) = w4 at I3 ⊢
  have x23 : w4.cell? ⟨w.heap.size, 23, none⟩ = some (.string c.data) := I3.out.wb.cell 23
  have y23 : w4.cell? ⟨O, 23, none⟩ = some (.string ⟨#[]⟩) := I3.out.wo.cell 23
  have f23 : w4.frozen? ⟨O, 23, none⟩ = false := I3.out.wo.fr 23
  have I4 := Lib.hid I3.out.put_data
  go_upto_region 43 with fail
  clear x23 y23 f23 I3
  generalize (w4.setCell ⟨O, 23, none⟩ (.string c.data)) = w5 at I4 ⊢
  have IC : Hid (UsI w c A n m O cc none 0 0 w5) := Lib.hid (by have := I4.out; rw [← HCC.out] at this; exact this)
  clear I4
  have x16 : w5.cell? ⟨w.heap.size, 16, none⟩ = some (.int .i64 c.it.a) := IC.out.wb.cell 16
  have x17 : w5.cell? ⟨w.heap.size, 17, none⟩ = some (.int .i64 c.it.b) := IC.out.wb.cell 17
  have x18 : w5.cell? ⟨w.heap.size, 18, none⟩ = some (.int .i64 c.it.c) := IC.out.wb.cell 18
  have x19 : w5.cell? ⟨w.heap.size, 19, none⟩ = some (.int .i64 c.it.m) := IC.out.wb.cell 19
  have x20 : w5.cell? ⟨w.heap.size, 20, none⟩ = some (.bool c.it.i) := IC.out.wb.cell 20
  have x21 : w5.cell? ⟨w.heap.size, 21, none⟩ = some (.int .i64 c.it.g) := IC.out.wb.cell 21
  have x22 : w5.cell? ⟨w.heap.size, 22, none⟩ = some (.int .i64 c.res) := IC.out.wb.cell 22
  go_upto_region 44 with (go_at_call 133; refine (K0.out _).mono ?_; rintro e wj ⟨rfl, hb⟩; have IJ := Lib.hid (IC.out.keep hb); clear hb K0; have z16 : wj.cell? ⟨w.heap.size, 16, none⟩ = some (.int .i64 c.it.a) := IJ.out.wb.cell 16; have z17 : wj.cell? ⟨w.heap.size, 17, none⟩ = some (.int .i64 c.it.b) := IJ.out.wb.cell 17; have z18 : wj.cell? ⟨w.heap.size, 18, none⟩ = some (.int .i64 c.it.c) := IJ.out.wb.cell 18; have z19 : wj.cell? ⟨w.heap.size, 19, none⟩ = some (.int .i64 c.it.m) := IJ.out.wb.cell 19; have z20 : wj.cell? ⟨w.heap.size, 20, none⟩ = some (.bool c.it.i) := IJ.out.wb.cell 20; have z21 : wj.cell? ⟨w.heap.size, 21, none⟩ = some (.int .i64 c.it.g) := IJ.out.wb.cell 21; have z22 : wj.cell? ⟨w.heap.size, 22, none⟩ = some (.int .i64 c.res) := IJ.out.wb.cell 22)
  go_wp2_with (first
    | (refine wpList_load_row rfl 36 (.tmp 4) rfl O rfl 36 (cA cc none 0 0) (0, 0) _ IJ.out.wo Tryz.underlying36 rfl (info24 _ _ _ _) ?_)
    | (refine wpList_store_row rfl 36 (.tmp 2) (.tmp 208) rfl (w.heap.size + 1) (cA cc none 0 0) rfl rfl 36 (cA (zeroC 0) none 0 0) IJ.out.wr (info24 _ _ _ _) rfl (all24 _ _ _ _) ?_))
  refine bodyPost_ret (results_row2 rfl _ _ (w.heap.size + 1) 36 (cA cc none 0 0) (0, 0) _ rfl (setRow_heap _ _ _ _ _ _ IJ.out.wr) Tryz.underlying36 rfl (info24 _ _ _ _) (.bool false) rfl) rfl ?_
  exact ⟨rfl, below_row IJ.out.bl (Nat.le_succ _) _⟩
set_option maxRecDepth 100000 in
set_option maxHeartbeats 4000000 in
theorem used_15_2 (c : Cv) (A : Option Addr) (n m : Nat) (w : World) (hk : c.k = 15) (h0 : itemOk c.it.a c.it.b c.it.c c.it.m c.it.i c.it.g) (h1 : 0 ≤ c.res) (h2 : ¬ (c.res ≤ 18)) :
    Calls Tryz.prog 84 #[.agg (cA c A n m)] w fun e w' => e = .returned (.tuple #[.agg (cA (setF .data c (setF .res c (setF .item c (zeroC c.k)))) none 0 0), .bool false]) ∧ Below w.heap.size w w' := by
  have I0 := Lib.hid (us_start w c A n m)
  obtain ⟨cc, hcc⟩ : ∃ cc, cc = (setF .data c (setF .res c (setF .item c (zeroC c.k)))) := ⟨_, rfl⟩
  rw [← hcc]
  have HCC := Lib.hid hcc
  clear hcc
  have e0 : (c.k == 0) = false := by rw [hk]; rfl
  have e1 : (c.k == 1) = false := by rw [hk]; rfl
  have e2 : (c.k == 2) = false := by rw [hk]; rfl
  have e3 : (c.k == 3) = false := by rw [hk]; rfl
  have e4 : (c.k == 4) = false := by rw [hk]; rfl
  have e11 : (c.k == 11) = false := by rw [hk]; rfl
  have e12 : (c.k == 12) = false := by rw [hk]; rfl
  have e13 : (c.k == 13) = false := by rw [hk]; rfl
  have e14 : (c.k == 14) = false := by rw [hk]; rfl
  have e15 : (c.k == 15) = true := by rw [hk]; rfl
  have K0 := Lib.hid (fun V => by have := Id.refCheckItem_any c.it.a c.it.b c.it.c c.it.m c.it.i c.it.g V; rw [ckItem_yes h0] at this; exact this : ∀ V, Calls Tryz.prog 133 #[.agg #[.int .i64 c.it.a, .int .i64 c.it.b, .int .i64 c.it.c, .int .i64 c.it.m, .bool c.it.i, .int .i64 c.it.g]] V fun e w' => e = .returned (.int .i64 0) ∧ Below V.heap.size V w')
  clear hk h0
  go_enter Tryz.func84, Tryz.ntmps84
  go_upto_region 1 with fail
  rw [← zero24 0]
  generalize ((w.alloc (.cells (cA c A n m) 36)).alloc (.cells (cA (zeroC 0) none 0 0) 36)) = w1 at I0 ⊢
  have x0 : w1.cell? ⟨w.heap.size, 0, none⟩ = some (.int .i64 c.k) := I0.out.2.1.cell 0
  have I1 := Lib.hid (UsI.new I0.out c.k)
  go_upto_region 2 with (refine wpList_store_row rfl 36 (.tmp 4) (.tmp 8) rfl _ (cA (zeroC c.k) none 0 0) rfl rfl 36 _ (heap_alloc_new _ _) (info24 _ _ _ _) rfl (all24 _ _ _ _) ?_; rw [World.setRow_alloc_new])
  clear x0 I0
  generalize w1.alloc (.cells (cA (zeroC c.k) none 0 0) 36) = w2 at I1 ⊢
  generalize w1.heap.size = O at I1 ⊢
  have x0 : w2.cell? ⟨w.heap.size, 0, none⟩ = some (.int .i64 c.k) := I1.out.wb.cell 0
  have x16 : w2.cell? ⟨w.heap.size, 16, none⟩ = some (.int .i64 c.it.a) := I1.out.wb.cell 16
  have y16 : w2.cell? ⟨O, 16, none⟩ = some (.int .i64 0) := I1.out.wo.cell 16
  have f16 : w2.frozen? ⟨O, 16, none⟩ = false := I1.out.wo.fr 16
  have x17 : w2.cell? ⟨w.heap.size, 17, none⟩ = some (.int .i64 c.it.b) := I1.out.wb.cell 17
  have y17 : w2.cell? ⟨O, 17, none⟩ = some (.int .i64 0) := I1.out.wo.cell 17
  have f17 : w2.frozen? ⟨O, 17, none⟩ = false := I1.out.wo.fr 17
  have x18 : w2.cell? ⟨w.heap.size, 18, none⟩ = some (.int .i64 c.it.c) := I1.out.wb.cell 18
  have y18 : w2.cell? ⟨O, 18, none⟩ = some (.int .i64 0) := I1.out.wo.cell 18
  have f18 : w2.frozen? ⟨O, 18, none⟩ = false := I1.out.wo.fr 18
  have x19 : w2.cell? ⟨w.heap.size, 19, none⟩ = some (.int .i64 c.it.m) := I1.out.wb.cell 19
  have y19 : w2.cell? ⟨O, 19, none⟩ = some (.int .i64 0) := I1.out.wo.cell 19
  have f19 : w2.frozen? ⟨O, 19, none⟩ = false := I1.out.wo.fr 19
  have x20 : w2.cell? ⟨w.heap.size, 20, none⟩ = some (.bool c.it.i) := I1.out.wb.cell 20
  have y20 : w2.cell? ⟨O, 20, none⟩ = some (.bool false) := I1.out.wo.cell 20
  have f20 : w2.frozen? ⟨O, 20, none⟩ = false := I1.out.wo.fr 20
  have x21 : w2.cell? ⟨w.heap.size, 21, none⟩ = some (.int .i64 c.it.g) := I1.out.wb.cell 21
  have y21 : w2.cell? ⟨O, 21, none⟩ = some (.int .i64 0) := I1.out.wo.cell 21
  have f21 : w2.frozen? ⟨O, 21, none⟩ = false := I1.out.wo.fr 21
  have I2 := Lib.hid I1.out.put_item
  go_upto_region 41 with fail
  clear x0 x16 y16 f16 x17 y17 f17 x18 y18 f18 x19 y19 f19 x20 y20 f20 x21 y21 f21 I1
  generalize ((((((w2.setCell ⟨O, 16, none⟩ (.int .i64 c.it.a)).setCell ⟨O, 17, none⟩ (.int .i64 c.it.b)).setCell ⟨O, 18, none⟩ (.int .i64 c.it.c)).setCell ⟨O, 19, none⟩ (.int .i64 c.it.m)).setCell ⟨O, 20, none⟩ (.bool c.it.i)).setCell ⟨O, 21, none⟩ (.int .i64 c.it.g)) = w3 at I2 ⊢
  have x22 : w3.cell? ⟨w.heap.size, 22, none⟩ = some (.int .i64 c.res) := I2.out.wb.cell 22
  have y22 : w3.cell? ⟨O, 22, none⟩ = some (.int .i64 0) := I2.out.wo.cell 22
  have f22 : w3.frozen? ⟨O, 22, none⟩ = false := I2.out.wo.fr 22
  have I3 := Lib.hid I2.out.put_res
  go_upto_region 42 with fail
  clear x22 y22 f22 I2
  generalize (w3.setCell ⟨O, 22, none⟩ (.int .i64 c.res)) = w4 at I3 ⊢
  have x23 : w4.cell? ⟨w.heap.size, 23, none⟩ = some (.string c.data) := I3.out.wb.cell 23
  have y23 : w4.cell? ⟨O, 23, none⟩ = some (.string ⟨#[]⟩) := I3.out.wo.cell 23
  have f23 : w4.frozen? ⟨O, 23, none⟩ = false := I3.out.wo.fr 23
  have I4 := Lib.hid I3.out.put_data
  go_upto_region 43 with fail
  clear x23 y23 f23 I3
  generalize (w4.setCell ⟨O, 23, none⟩ (.string c.data)) = w5 at I4 ⊢
  have IC : Hid (UsI w c A n m O cc none 0 0 w5) := Lib.hid (by have := I4.out; rw [← HCC.out] at this; exact this)
  clear I4
  have x16 : w5.cell? ⟨w.heap.size, 16, none⟩ = some (.int .i64 c.it.a) := IC.out.wb.cell 16
  have x17 : w5.cell? ⟨w.heap.size, 17, none⟩ = some (.int .i64 c.it.b) := IC.out.wb.cell 17
  have x18 : w5.cell? ⟨w.heap.size, 18, none⟩ = some (.int .i64 c.it.c) := IC.out.wb.cell 18
  have x19 : w5.cell? ⟨w.heap.size, 19, none⟩ = some (.int .i64 c.it.m) := IC.out.wb.cell 19
  have x20 : w5.cell? ⟨w.heap.size, 20, none⟩ = some (.bool c.it.i) := IC.out.wb.cell 20
  have x21 : w5.cell? ⟨w.heap.size, 21, none⟩ = some (.int .i64 c.it.g) := IC.out.wb.cell 21
  have x22 : w5.cell? ⟨w.heap.size, 22, none⟩ = some (.int .i64 c.res) := IC.out.wb.cell 22
  go_upto_region 44 with (go_at_call 133; refine (K0.out _).mono ?_; rintro e wj ⟨rfl, hb⟩; have IJ := Lib.hid (IC.out.keep hb); clear hb K0; have z16 : wj.cell? ⟨w.heap.size, 16, none⟩ = some (.int .i64 c.it.a) := IJ.out.wb.cell 16; have z17 : wj.cell? ⟨w.heap.size, 17, none⟩ = some (.int .i64 c.it.b) := IJ.out.wb.cell 17; have z18 : wj.cell? ⟨w.heap.size, 18, none⟩ = some (.int .i64 c.it.c) := IJ.out.wb.cell 18; have z19 : wj.cell? ⟨w.heap.size, 19, none⟩ = some (.int .i64 c.it.m) := IJ.out.wb.cell 19; have z20 : wj.cell? ⟨w.heap.size, 20, none⟩ = some (.bool c.it.i) := IJ.out.wb.cell 20; have z21 : wj.cell? ⟨w.heap.size, 21, none⟩ = some (.int .i64 c.it.g) := IJ.out.wb.cell 21; have z22 : wj.cell? ⟨w.heap.size, 22, none⟩ = some (.int .i64 c.res) := IJ.out.wb.cell 22)
  go_wp2_with (first
    | (refine wpList_load_row rfl 36 (.tmp 4) rfl O rfl 36 (cA cc none 0 0) (0, 0) _ IJ.out.wo Tryz.underlying36 rfl (info24 _ _ _ _) ?_)
    | (refine wpList_store_row rfl 36 (.tmp 2) (.tmp 208) rfl (w.heap.size + 1) (cA cc none 0 0) rfl rfl 36 (cA (zeroC 0) none 0 0) IJ.out.wr (info24 _ _ _ _) rfl (all24 _ _ _ _) ?_))
  refine bodyPost_ret (results_row2 rfl _ _ (w.heap.size + 1) 36 (cA cc none 0 0) (0, 0) _ rfl (setRow_heap _ _ _ _ _ _ IJ.out.wr) Tryz.underlying36 rfl (info24 _ _ _ _) (.bool false) rfl) rfl ?_
  exact ⟨rfl, below_row IJ.out.bl (Nat.le_succ _) _⟩
set_option maxRecDepth 100000 in
set_option maxHeartbeats 4000000 in
theorem used_15_3 (c : Cv) (A : Option Addr) (n m : Nat) (w : World) (hk : c.k = 15) (h0 : itemOk c.it.a c.it.b c.it.c c.it.m c.it.i c.it.g) (h1 : 0 ≤ c.res) (h2 : c.res ≤ 18) (h3 : ¬ (c.data.size ≤ 65536)) :
    Calls Tryz.prog 84 #[.agg (cA c A n m)] w fun e w' => e = .returned (.tuple #[.agg (cA (setF .data c (setF .res c (setF .item c (zeroC c.k)))) none 0 0), .bool false]) ∧ Below w.heap.size w w' := by
  have I0 := Lib.hid (us_start w c A n m)
  obtain ⟨cc, hcc⟩ : ∃ cc, cc = (setF .data c (setF .res c (setF .item c (zeroC c.k)))) := ⟨_, rfl⟩
  rw [← hcc]
  have HCC := Lib.hid hcc
  clear hcc
  have e0 : (c.k == 0) = false := by rw [hk]; rfl
  have e1 : (c.k == 1) = false := by rw [hk]; rfl
  have e2 : (c.k == 2) = false := by rw [hk]; rfl
  have e3 : (c.k == 3) = false := by rw [hk]; rfl
  have e4 : (c.k == 4) = false := by rw [hk]; rfl
  have e11 : (c.k == 11) = false := by rw [hk]; rfl
  have e12 : (c.k == 12) = false := by rw [hk]; rfl
  have e13 : (c.k == 13) = false := by rw [hk]; rfl
  have e14 : (c.k == 14) = false := by rw [hk]; rfl
  have e15 : (c.k == 15) = true := by rw [hk]; rfl
  have K0 := Lib.hid (fun V => by have := Id.refCheckItem_any c.it.a c.it.b c.it.c c.it.m c.it.i c.it.g V; rw [ckItem_yes h0] at this; exact this : ∀ V, Calls Tryz.prog 133 #[.agg #[.int .i64 c.it.a, .int .i64 c.it.b, .int .i64 c.it.c, .int .i64 c.it.m, .bool c.it.i, .int .i64 c.it.g]] V fun e w' => e = .returned (.int .i64 0) ∧ Below V.heap.size V w')
  have K3 := Lib.hid (fun V => udata_no c.data V h3)
  clear hk h0 h3
  go_enter Tryz.func84, Tryz.ntmps84
  go_upto_region 1 with fail
  rw [← zero24 0]
  generalize ((w.alloc (.cells (cA c A n m) 36)).alloc (.cells (cA (zeroC 0) none 0 0) 36)) = w1 at I0 ⊢
  have x0 : w1.cell? ⟨w.heap.size, 0, none⟩ = some (.int .i64 c.k) := I0.out.2.1.cell 0
  have I1 := Lib.hid (UsI.new I0.out c.k)
  go_upto_region 2 with (refine wpList_store_row rfl 36 (.tmp 4) (.tmp 8) rfl _ (cA (zeroC c.k) none 0 0) rfl rfl 36 _ (heap_alloc_new _ _) (info24 _ _ _ _) rfl (all24 _ _ _ _) ?_; rw [World.setRow_alloc_new])
  clear x0 I0
  generalize w1.alloc (.cells (cA (zeroC c.k) none 0 0) 36) = w2 at I1 ⊢
  generalize w1.heap.size = O at I1 ⊢
  have x0 : w2.cell? ⟨w.heap.size, 0, none⟩ = some (.int .i64 c.k) := I1.out.wb.cell 0
  have x16 : w2.cell? ⟨w.heap.size, 16, none⟩ = some (.int .i64 c.it.a) := I1.out.wb.cell 16
  have y16 : w2.cell? ⟨O, 16, none⟩ = some (.int .i64 0) := I1.out.wo.cell 16
  have f16 : w2.frozen? ⟨O, 16, none⟩ = false := I1.out.wo.fr 16
  have x17 : w2.cell? ⟨w.heap.size, 17, none⟩ = some (.int .i64 c.it.b) := I1.out.wb.cell 17
  have y17 : w2.cell? ⟨O, 17, none⟩ = some (.int .i64 0) := I1.out.wo.cell 17
  have f17 : w2.frozen? ⟨O, 17, none⟩ = false := I1.out.wo.fr 17
  have x18 : w2.cell? ⟨w.heap.size, 18, none⟩ = some (.int .i64 c.it.c) := I1.out.wb.cell 18
  have y18 : w2.cell? ⟨O, 18, none⟩ = some (.int .i64 0) := I1.out.wo.cell 18
  have f18 : w2.frozen? ⟨O, 18, none⟩ = false := I1.out.wo.fr 18
  have x19 : w2.cell? ⟨w.heap.size, 19, none⟩ = some (.int .i64 c.it.m) := I1.out.wb.cell 19
  have y19 : w2.cell? ⟨O, 19, none⟩ = some (.int .i64 0) := I1.out.wo.cell 19
  have f19 : w2.frozen? ⟨O, 19, none⟩ = false := I1.out.wo.fr 19
  have x20 : w2.cell? ⟨w.heap.size, 20, none⟩ = some (.bool c.it.i) := I1.out.wb.cell 20
  have y20 : w2.cell? ⟨O, 20, none⟩ = some (.bool false) := I1.out.wo.cell 20
  have f20 : w2.frozen? ⟨O, 20, none⟩ = false := I1.out.wo.fr 20
  have x21 : w2.cell? ⟨w.heap.size, 21, none⟩ = some (.int .i64 c.it.g) := I1.out.wb.cell 21
  have y21 : w2.cell? ⟨O, 21, none⟩ = some (.int .i64 0) := I1.out.wo.cell 21
  have f21 : w2.frozen? ⟨O, 21, none⟩ = false := I1.out.wo.fr 21
  have I2 := Lib.hid I1.out.put_item
  go_upto_region 41 with fail
  clear x0 x16 y16 f16 x17 y17 f17 x18 y18 f18 x19 y19 f19 x20 y20 f20 x21 y21 f21 I1
  generalize ((((((w2.setCell ⟨O, 16, none⟩ (.int .i64 c.it.a)).setCell ⟨O, 17, none⟩ (.int .i64 c.it.b)).setCell ⟨O, 18, none⟩ (.int .i64 c.it.c)).setCell ⟨O, 19, none⟩ (.int .i64 c.it.m)).setCell ⟨O, 20, none⟩ (.bool c.it.i)).setCell ⟨O, 21, none⟩ (.int .i64 c.it.g)) = w3 at I2 ⊢
  have x22 : w3.cell? ⟨w.heap.size, 22, none⟩ = some (.int .i64 c.res) := I2.out.wb.cell 22
  have y22 : w3.cell? ⟨O, 22, none⟩ = some (.int .i64 0) := I2.out.wo.cell 22
  have f22 : w3.frozen? ⟨O, 22, none⟩ = false := I2.out.wo.fr 22
  have I3 := Lib.hid I2.out.put_res
  go_upto_region 42 with fail
  clear x22 y22 f22 I2
  generalize (w3.setCell ⟨O, 22, none⟩ (.int .i64 c.res)) = w4 at I3 ⊢
  have x23 : w4.cell? ⟨w.heap.size, 23, none⟩ = some (.string c.data) := I3.out.wb.cell 23
  have y23 : w4.cell? ⟨O, 23, none⟩ = some (.string ⟨#[]⟩) := I3.out.wo.cell 23
  have f23 : w4.frozen? ⟨O, 23, none⟩ = false := I3.out.wo.fr 23
  have I4 := Lib.hid I3.out.put_data
  go_upto_region 43 with fail
  clear x23 y23 f23 I3
  generalize (w4.setCell ⟨O, 23, none⟩ (.string c.data)) = w5 at I4 ⊢
  have IC : Hid (UsI w c A n m O cc none 0 0 w5) := Lib.hid (by have := I4.out; rw [← HCC.out] at this; exact this)
  clear I4
  have x16 : w5.cell? ⟨w.heap.size, 16, none⟩ = some (.int .i64 c.it.a) := IC.out.wb.cell 16
  have x17 : w5.cell? ⟨w.heap.size, 17, none⟩ = some (.int .i64 c.it.b) := IC.out.wb.cell 17
  have x18 : w5.cell? ⟨w.heap.size, 18, none⟩ = some (.int .i64 c.it.c) := IC.out.wb.cell 18
  have x19 : w5.cell? ⟨w.heap.size, 19, none⟩ = some (.int .i64 c.it.m) := IC.out.wb.cell 19
  have x20 : w5.cell? ⟨w.heap.size, 20, none⟩ = some (.bool c.it.i) := IC.out.wb.cell 20
  have x21 : w5.cell? ⟨w.heap.size, 21, none⟩ = some (.int .i64 c.it.g) := IC.out.wb.cell 21
  have x22 : w5.cell? ⟨w.heap.size, 22, none⟩ = some (.int .i64 c.res) := IC.out.wb.cell 22
  have x23 : w5.cell? ⟨w.heap.size, 23, none⟩ = some (.string c.data) := IC.out.wb.cell 23
  go_upto_region 44 with (first
    | (go_at_call 133; refine (K0.out _).mono ?_; rintro e wj ⟨rfl, hb⟩; have IJ := Lib.hid (IC.out.keep hb); clear hb K0; have z16 : wj.cell? ⟨w.heap.size, 16, none⟩ = some (.int .i64 c.it.a) := IJ.out.wb.cell 16; have z17 : wj.cell? ⟨w.heap.size, 17, none⟩ = some (.int .i64 c.it.b) := IJ.out.wb.cell 17; have z18 : wj.cell? ⟨w.heap.size, 18, none⟩ = some (.int .i64 c.it.c) := IJ.out.wb.cell 18; have z19 : wj.cell? ⟨w.heap.size, 19, none⟩ = some (.int .i64 c.it.m) := IJ.out.wb.cell 19; have z20 : wj.cell? ⟨w.heap.size, 20, none⟩ = some (.bool c.it.i) := IJ.out.wb.cell 20; have z21 : wj.cell? ⟨w.heap.size, 21, none⟩ = some (.int .i64 c.it.g) := IJ.out.wb.cell 21; have z22 : wj.cell? ⟨w.heap.size, 22, none⟩ = some (.int .i64 c.res) := IJ.out.wb.cell 22; have z23 : wj.cell? ⟨w.heap.size, 23, none⟩ = some (.string c.data) := IJ.out.wb.cell 23)
    | (go_at_call 140; refine (K3.out _).mono ?_; rintro e v ⟨rfl, rfl⟩; clear K3))
  go_wp2_with (first
    | (refine wpList_load_row rfl 36 (.tmp 4) rfl O rfl 36 (cA cc none 0 0) (0, 0) _ IJ.out.wo Tryz.underlying36 rfl (info24 _ _ _ _) ?_)
    | (refine wpList_store_row rfl 36 (.tmp 2) (.tmp 208) rfl (w.heap.size + 1) (cA cc none 0 0) rfl rfl 36 (cA (zeroC 0) none 0 0) IJ.out.wr (info24 _ _ _ _) rfl (all24 _ _ _ _) ?_))
  refine bodyPost_ret (results_row2 rfl _ _ (w.heap.size + 1) 36 (cA cc none 0 0) (0, 0) _ rfl (setRow_heap _ _ _ _ _ _ IJ.out.wr) Tryz.underlying36 rfl (info24 _ _ _ _) (.bool false) rfl) rfl ?_
  exact ⟨rfl, below_row IJ.out.bl (Nat.le_succ _) _⟩
set_option maxRecDepth 100000 in
set_option maxHeartbeats 4000000 in
theorem used_15_4 (c : Cv) (A : Option Addr) (n m : Nat) (w : World) (hk : c.k = 15) (h0 : itemOk c.it.a c.it.b c.it.c c.it.m c.it.i c.it.g) (h1 : 0 ≤ c.res) (h2 : c.res ≤ 18) (h3 : c.data.size ≤ 65536) :
    Calls Tryz.prog 84 #[.agg (cA c A n m)] w fun e w' => e = .returned (.tuple #[.agg (cA (setF .data c (setF .res c (setF .item c (zeroC c.k)))) none 0 0), .bool true]) ∧ Below w.heap.size w w' := by
  have I0 := Lib.hid (us_start w c A n m)
  obtain ⟨cc, hcc⟩ : ∃ cc, cc = (setF .data c (setF .res c (setF .item c (zeroC c.k)))) := ⟨_, rfl⟩
  rw [← hcc]
  have HCC := Lib.hid hcc
  clear hcc
  have e0 : (c.k == 0) = false := by rw [hk]; rfl
  have e1 : (c.k == 1) = false := by rw [hk]; rfl
  have e2 : (c.k == 2) = false := by rw [hk]; rfl
  have e3 : (c.k == 3) = false := by rw [hk]; rfl
  have e4 : (c.k == 4) = false := by rw [hk]; rfl
  have e11 : (c.k == 11) = false := by rw [hk]; rfl
  have e12 : (c.k == 12) = false := by rw [hk]; rfl
  have e13 : (c.k == 13) = false := by rw [hk]; rfl
  have e14 : (c.k == 14) = false := by rw [hk]; rfl
  have e15 : (c.k == 15) = true := by rw [hk]; rfl
  have K0 := Lib.hid (fun V => by have := Id.refCheckItem_any c.it.a c.it.b c.it.c c.it.m c.it.i c.it.g V; rw [ckItem_yes h0] at this; exact this : ∀ V, Calls Tryz.prog 133 #[.agg #[.int .i64 c.it.a, .int .i64 c.it.b, .int .i64 c.it.c, .int .i64 c.it.m, .bool c.it.i, .int .i64 c.it.g]] V fun e w' => e = .returned (.int .i64 0) ∧ Below V.heap.size V w')
  have K3 := Lib.hid (fun V => udata_yes c.data V h3)
  clear hk h0 h3
  go_enter Tryz.func84, Tryz.ntmps84
  go_upto_region 1 with fail
  rw [← zero24 0]
  generalize ((w.alloc (.cells (cA c A n m) 36)).alloc (.cells (cA (zeroC 0) none 0 0) 36)) = w1 at I0 ⊢
  have x0 : w1.cell? ⟨w.heap.size, 0, none⟩ = some (.int .i64 c.k) := I0.out.2.1.cell 0
  have I1 := Lib.hid (UsI.new I0.out c.k)
  go_upto_region 2 with (refine wpList_store_row rfl 36 (.tmp 4) (.tmp 8) rfl _ (cA (zeroC c.k) none 0 0) rfl rfl 36 _ (heap_alloc_new _ _) (info24 _ _ _ _) rfl (all24 _ _ _ _) ?_; rw [World.setRow_alloc_new])
  clear x0 I0
  generalize w1.alloc (.cells (cA (zeroC c.k) none 0 0) 36) = w2 at I1 ⊢
  generalize w1.heap.size = O at I1 ⊢
  have x0 : w2.cell? ⟨w.heap.size, 0, none⟩ = some (.int .i64 c.k) := I1.out.wb.cell 0
  have x16 : w2.cell? ⟨w.heap.size, 16, none⟩ = some (.int .i64 c.it.a) := I1.out.wb.cell 16
  have y16 : w2.cell? ⟨O, 16, none⟩ = some (.int .i64 0) := I1.out.wo.cell 16
  have f16 : w2.frozen? ⟨O, 16, none⟩ = false := I1.out.wo.fr 16
  have x17 : w2.cell? ⟨w.heap.size, 17, none⟩ = some (.int .i64 c.it.b) := I1.out.wb.cell 17
  have y17 : w2.cell? ⟨O, 17, none⟩ = some (.int .i64 0) := I1.out.wo.cell 17
  have f17 : w2.frozen? ⟨O, 17, none⟩ = false := I1.out.wo.fr 17
  have x18 : w2.cell? ⟨w.heap.size, 18, none⟩ = some (.int .i64 c.it.c) := I1.out.wb.cell 18
  have y18 : w2.cell? ⟨O, 18, none⟩ = some (.int .i64 0) := I1.out.wo.cell 18
  have f18 : w2.frozen? ⟨O, 18, none⟩ = false := I1.out.wo.fr 18
  have x19 : w2.cell? ⟨w.heap.size, 19, none⟩ = some (.int .i64 c.it.m) := I1.out.wb.cell 19
  have y19 : w2.cell? ⟨O, 19, none⟩ = some (.int .i64 0) := I1.out.wo.cell 19
  have f19 : w2.frozen? ⟨O, 19, none⟩ = false := I1.out.wo.fr 19
  have x20 : w2.cell? ⟨w.heap.size, 20, none⟩ = some (.bool c.it.i) := I1.out.wb.cell 20
  have y20 : w2.cell? ⟨O, 20, none⟩ = some (.bool false) := I1.out.wo.cell 20
  have f20 : w2.frozen? ⟨O, 20, none⟩ = false := I1.out.wo.fr 20
  have x21 : w2.cell? ⟨w.heap.size, 21, none⟩ = some (.int .i64 c.it.g) := I1.out.wb.cell 21
  have y21 : w2.cell? ⟨O, 21, none⟩ = some (.int .i64 0) := I1.out.wo.cell 21
  have f21 : w2.frozen? ⟨O, 21, none⟩ = false := I1.out.wo.fr 21
  have I2 := Lib.hid I1.out.put_item
  go_upto_region 41 with fail
  clear x0 x16 y16 f16 x17 y17 f17 x18 y18 f18 x19 y19 f19 x20 y20 f20 x21 y21 f21 I1
  generalize ((((((w2.setCell ⟨O, 16, none⟩ (.int .i64 c.it.a)).setCell ⟨O, 17, none⟩ (.int .i64 c.it.b)).setCell ⟨O, 18, none⟩ (.int .i64 c.it.c)).setCell ⟨O, 19, none⟩ (.int .i64 c.it.m)).setCell ⟨O, 20, none⟩ (.bool c.it.i)).setCell ⟨O, 21, none⟩ (.int .i64 c.it.g)) = w3 at I2 ⊢
  have x22 : w3.cell? ⟨w.heap.size, 22, none⟩ = some (.int .i64 c.res) := I2.out.wb.cell 22
  have y22 : w3.cell? ⟨O, 22, none⟩ = some (.int .i64 0) := I2.out.wo.cell 22
  have f22 : w3.frozen? ⟨O, 22, none⟩ = false := I2.out.wo.fr 22
  have I3 := Lib.hid I2.out.put_res
  go_upto_region 42 with fail
  clear x22 y22 f22 I2
  generalize (w3.setCell ⟨O, 22, none⟩ (.int .i64 c.res)) = w4 at I3 ⊢
  have x23 : w4.cell? ⟨w.heap.size, 23, none⟩ = some (.string c.data) := I3.out.wb.cell 23
  have y23 : w4.cell? ⟨O, 23, none⟩ = some (.string ⟨#[]⟩) := I3.out.wo.cell 23
  have f23 : w4.frozen? ⟨O, 23, none⟩ = false := I3.out.wo.fr 23
  have I4 := Lib.hid I3.out.put_data
  go_upto_region 43 with fail
  clear x23 y23 f23 I3
  generalize (w4.setCell ⟨O, 23, none⟩ (.string c.data)) = w5 at I4 ⊢
  have IC : Hid (UsI w c A n m O cc none 0 0 w5) := Lib.hid (by have := I4.out; rw [← HCC.out] at this; exact this)
  clear I4
  have x16 : w5.cell? ⟨w.heap.size, 16, none⟩ = some (.int .i64 c.it.a) := IC.out.wb.cell 16
  have x17 : w5.cell? ⟨w.heap.size, 17, none⟩ = some (.int .i64 c.it.b) := IC.out.wb.cell 17
  have x18 : w5.cell? ⟨w.heap.size, 18, none⟩ = some (.int .i64 c.it.c) := IC.out.wb.cell 18
  have x19 : w5.cell? ⟨w.heap.size, 19, none⟩ = some (.int .i64 c.it.m) := IC.out.wb.cell 19
  have x20 : w5.cell? ⟨w.heap.size, 20, none⟩ = some (.bool c.it.i) := IC.out.wb.cell 20
  have x21 : w5.cell? ⟨w.heap.size, 21, none⟩ = some (.int .i64 c.it.g) := IC.out.wb.cell 21
  have x22 : w5.cell? ⟨w.heap.size, 22, none⟩ = some (.int .i64 c.res) := IC.out.wb.cell 22
  have x23 : w5.cell? ⟨w.heap.size, 23, none⟩ = some (.string c.data) := IC.out.wb.cell 23
  go_upto_region 44 with (first
    | (go_at_call 133; refine (K0.out _).mono ?_; rintro e wj ⟨rfl, hb⟩; have IJ := Lib.hid (IC.out.keep hb); clear hb K0; have z16 : wj.cell? ⟨w.heap.size, 16, none⟩ = some (.int .i64 c.it.a) := IJ.out.wb.cell 16; have z17 : wj.cell? ⟨w.heap.size, 17, none⟩ = some (.int .i64 c.it.b) := IJ.out.wb.cell 17; have z18 : wj.cell? ⟨w.heap.size, 18, none⟩ = some (.int .i64 c.it.c) := IJ.out.wb.cell 18; have z19 : wj.cell? ⟨w.heap.size, 19, none⟩ = some (.int .i64 c.it.m) := IJ.out.wb.cell 19; have z20 : wj.cell? ⟨w.heap.size, 20, none⟩ = some (.bool c.it.i) := IJ.out.wb.cell 20; have z21 : wj.cell? ⟨w.heap.size, 21, none⟩ = some (.int .i64 c.it.g) := IJ.out.wb.cell 21; have z22 : wj.cell? ⟨w.heap.size, 22, none⟩ = some (.int .i64 c.res) := IJ.out.wb.cell 22; have z23 : wj.cell? ⟨w.heap.size, 23, none⟩ = some (.string c.data) := IJ.out.wb.cell 23)
    | (go_at_call 140; refine (K3.out _).mono ?_; rintro e v ⟨rfl, rfl⟩; clear K3))
  go_wp2_with (first
    | (refine wpList_load_row rfl 36 (.tmp 4) rfl O rfl 36 (cA cc none 0 0) (0, 0) _ IJ.out.wo Tryz.underlying36 rfl (info24 _ _ _ _) ?_)
    | (refine wpList_store_row rfl 36 (.tmp 2) (.tmp 208) rfl (w.heap.size + 1) (cA cc none 0 0) rfl rfl 36 (cA (zeroC 0) none 0 0) IJ.out.wr (info24 _ _ _ _) rfl (all24 _ _ _ _) ?_))
  refine bodyPost_ret (results_row2 rfl _ _ (w.heap.size + 1) 36 (cA cc none 0 0) (0, 0) _ rfl (setRow_heap _ _ _ _ _ _ IJ.out.wr) Tryz.underlying36 rfl (info24 _ _ _ _) (.bool true) rfl) rfl ?_
  exact ⟨rfl, below_row IJ.out.bl (Nat.le_succ _) _⟩
end Go.Proofs.YtgjnmfmbheejoaaGreatDoor
