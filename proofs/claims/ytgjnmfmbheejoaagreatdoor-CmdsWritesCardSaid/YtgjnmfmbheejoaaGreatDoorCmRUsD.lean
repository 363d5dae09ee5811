/- What a command's kind uses, by the reference. Condition: sizes as a machine's integers can say. -/
import Derived.Test.YtgjnmfmbheejoaaGreatDoorCmRUsS
namespace Go.Proofs.YtgjnmfmbheejoaaGreatDoor
open Go.RowKit Go.Shelf

set_option maxRecDepth 100000 in
set_option maxHeartbeats 4000000 in
theorem used_0_0 (c : Cv) (A : Option Addr) (n m : Nat) (w : World) (hk : c.k = 0)  :
    Calls Tryz.prog 84 #[.agg (cA c A n m)] w fun e w' => e = .returned (.tuple #[.agg (cA (zeroC c.k) none 0 0), .bool true]) ∧ Below w.heap.size w w' := by
  have I0 := Lib.hid (us_start w c A n m)
  obtain ⟨cc, hcc⟩ : ∃ cc, cc = (zeroC c.k) := ⟨_, rfl⟩
  rw [← hcc]
  have HCC := Lib.hid hcc
  clear hcc
  have e0 : (c.k == 0) = true := by rw [hk]; rfl
  clear hk 
  go_enter Tryz.func84, Tryz.ntmps84
  go_upto_region 1 with fail
  rw [← zero24 0]
  generalize ((w.alloc (.cells (cA c A n m) 36)).alloc (.cells (cA (zeroC 0) none 0 0) 36)) = w1 at I0 ⊢
  have x0 : w1.cell? ⟨w.heap.size, 0, none⟩ = some (.int .i64 c.k) := I0.out.2.1.cell 0
  have I1 := Lib.hid (UsI.new I0.out c.k)
  go_upto_region 2 with (refine wpList_store_row rfl 36 (.tmp 4) (.tmp 8) rfl _ (cA (zeroC c.k) none 0 0) rfl rfl 36 _ (heap_alloc_new _ _) (info24 _ _ _ _) rfl (all24 _ _ _ _) ?_; rw [World.setRow_alloc_new])
  clear x0 I0
  generalize w1.alloc (.cells (cA (zeroC c.k) none 0 0) 36) = w2 at I1 ⊢
  generalize w1.heap.size = O at I1 ⊢
  have x0 : w2.cell? ⟨w.heap.size, 0, none⟩ = some (.int .i64 c.k) := I1.out.wb.cell 0
  have IC : Hid (UsI w c A n m O cc none 0 0 w2) := Lib.hid (by have := I1.out; rw [← HCC.out] at this; exact this)
  clear I1
  go_upto_region 44 with fail
  go_wp2_with (first
    | (refine wpList_load_row rfl 36 (.tmp 4) rfl O rfl 36 (cA cc none 0 0) (0, 0) _ IC.out.wo Tryz.underlying36 rfl (info24 _ _ _ _) ?_)
    | (refine wpList_store_row rfl 36 (.tmp 2) (.tmp 208) rfl (w.heap.size + 1) (cA cc none 0 0) rfl rfl 36 (cA (zeroC 0) none 0 0) IC.out.wr (info24 _ _ _ _) rfl (all24 _ _ _ _) ?_))
  refine bodyPost_ret (results_row2 rfl _ _ (w.heap.size + 1) 36 (cA cc none 0 0) (0, 0) _ rfl (setRow_heap _ _ _ _ _ _ IC.out.wr) Tryz.underlying36 rfl (info24 _ _ _ _) (.bool true) rfl) rfl ?_
  exact ⟨rfl, below_row IC.out.bl (Nat.le_succ _) _⟩
set_option maxRecDepth 100000 in
set_option maxHeartbeats 4000000 in
theorem used_14_0 (c : Cv) (A : Option Addr) (n m : Nat) (w : World) (hk : c.k = 14) (h0 : ¬ (0 ≤ c.call ∧ c.call ≤ 2147483648)) :
    Calls Tryz.prog 84 #[.agg (cA c A n m)] w fun e w' => e = .returned (.tuple #[.agg (cA (setF .grp c (setF .rng c (setF .call c (zeroC c.k)))) none 0 0), .bool false]) ∧ Below w.heap.size w w' := by
  have I0 := Lib.hid (us_start w c A n m)
  obtain ⟨cc, hcc⟩ : ∃ cc, cc = (setF .grp c (setF .rng c (setF .call c (zeroC c.k)))) := ⟨_, rfl⟩
  rw [← hcc]
  have HCC := Lib.hid hcc
  clear hcc
  have e0 : (c.k == 0) = false := by rw [hk]; rfl
  have e1 : (c.k == 1) = false := by rw [hk]; rfl
  have e2 : (c.k == 2) = false := by rw [hk]; rfl
  have e3 : (c.k == 3) = false := by rw [hk]; rfl
  have e4 : (c.k == 4) = false := by rw [hk]; rfl
  have e11 : (c.k == 11) = false := by rw [hk]; rfl
  have e12 : (c.k == 12) = false := by rw [hk]; rfl
  have e13 : (c.k == 13) = false := by rw [hk]; rfl
  have e14 : (c.k == 14) = true := by rw [hk]; rfl
  have K0 := Lib.hid (fun V => ucall_no c.call V h0)
  clear hk h0
  go_enter Tryz.func84, Tryz.ntmps84
  go_upto_region 1 with fail
  rw [← zero24 0]
  generalize ((w.alloc (.cells (cA c A n m) 36)).alloc (.cells (cA (zeroC 0) none 0 0) 36)) = w1 at I0 ⊢
  have x0 : w1.cell? ⟨w.heap.size, 0, none⟩ = some (.int .i64 c.k) := I0.out.2.1.cell 0
  have I1 := Lib.hid (UsI.new I0.out c.k)
  go_upto_region 2 with (refine wpList_store_row rfl 36 (.tmp 4) (.tmp 8) rfl _ (cA (zeroC c.k) none 0 0) rfl rfl 36 _ (heap_alloc_new _ _) (info24 _ _ _ _) rfl (all24 _ _ _ _) ?_; rw [World.setRow_alloc_new])
  clear x0 I0
  generalize w1.alloc (.cells (cA (zeroC c.k) none 0 0) 36) = w2 at I1 ⊢
  generalize w1.heap.size = O at I1 ⊢
  have x0 : w2.cell? ⟨w.heap.size, 0, none⟩ = some (.int .i64 c.k) := I1.out.wb.cell 0
  have x1 : w2.cell? ⟨w.heap.size, 1, none⟩ = some (.int .i64 c.call) := I1.out.wb.cell 1
  have y1 : w2.cell? ⟨O, 1, none⟩ = some (.int .i64 0) := I1.out.wo.cell 1
  have f1 : w2.frozen? ⟨O, 1, none⟩ = false := I1.out.wo.fr 1
  have I2 := Lib.hid I1.out.put_call
  go_upto_region 36 with fail
  clear x0 x1 y1 f1 I1
  generalize (w2.setCell ⟨O, 1, none⟩ (.int .i64 c.call)) = w3 at I2 ⊢
  have x9 : w3.cell? ⟨w.heap.size, 9, none⟩ = some (.string c.f) := I2.out.wb.cell 9
  have y9 : w3.cell? ⟨O, 9, none⟩ = some (.string ⟨#[]⟩) := I2.out.wo.cell 9
  have f9 : w3.frozen? ⟨O, 9, none⟩ = false := I2.out.wo.fr 9
  have x10 : w3.cell? ⟨w.heap.size, 10, none⟩ = some (.string c.t) := I2.out.wb.cell 10
  have y10 : w3.cell? ⟨O, 10, none⟩ = some (.string ⟨#[]⟩) := I2.out.wo.cell 10
  have f10 : w3.frozen? ⟨O, 10, none⟩ = false := I2.out.wo.fr 10
  have I3 := Lib.hid I2.out.put_rng
  go_upto_region 37 with fail
  clear x9 y9 f9 x10 y10 f10 I2
  generalize ((w3.setCell ⟨O, 9, none⟩ (.string c.f)).setCell ⟨O, 10, none⟩ (.string c.t)) = w4 at I3 ⊢
  have x11 : w4.cell? ⟨w.heap.size, 11, none⟩ = some (.int .i64 c.g) := I3.out.wb.cell 11
  have y11 : w4.cell? ⟨O, 11, none⟩ = some (.int .i64 0) := I3.out.wo.cell 11
  have f11 : w4.frozen? ⟨O, 11, none⟩ = false := I3.out.wo.fr 11
  have I4 := Lib.hid I3.out.put_grp
  go_upto_region 38 with fail
  clear x11 y11 f11 I3
  generalize (w4.setCell ⟨O, 11, none⟩ (.int .i64 c.g)) = w5 at I4 ⊢
  have IC : Hid (UsI w c A n m O cc none 0 0 w5) := Lib.hid (by have := I4.out; rw [← HCC.out] at this; exact this)
  clear I4
  have x1 : w5.cell? ⟨w.heap.size, 1, none⟩ = some (.int .i64 c.call) := IC.out.wb.cell 1
  go_upto_region 44 with (go_at_call 138; refine (K0.out _).mono ?_; rintro e v ⟨rfl, rfl⟩; clear K0)
  go_wp2_with (first
    | (refine wpList_load_row rfl 36 (.tmp 4) rfl O rfl 36 (cA cc none 0 0) (0, 0) _ IC.out.wo Tryz.underlying36 rfl (info24 _ _ _ _) ?_)
    | (refine wpList_store_row rfl 36 (.tmp 2) (.tmp 208) rfl (w.heap.size + 1) (cA cc none 0 0) rfl rfl 36 (cA (zeroC 0) none 0 0) IC.out.wr (info24 _ _ _ _) rfl (all24 _ _ _ _) ?_))
  refine bodyPost_ret (results_row2 rfl _ _ (w.heap.size + 1) 36 (cA cc none 0 0) (0, 0) _ rfl (setRow_heap _ _ _ _ _ _ IC.out.wr) Tryz.underlying36 rfl (info24 _ _ _ _) (.bool false) rfl) rfl ?_
  exact ⟨rfl, below_row IC.out.bl (Nat.le_succ _) _⟩
set_option maxRecDepth 100000 in
set_option maxHeartbeats 4000000 in
theorem used_14_1 (c : Cv) (A : Option Addr) (n m : Nat) (w : World) (h : CmdIn w c A n m) (hk : c.k = 14) (h0 : 0 ≤ c.call ∧ c.call ≤ 2147483648) (h1 : ¬ (okR c.f c.t = true)) :
    Calls Tryz.prog 84 #[.agg (cA c A n m)] w fun e w' => e = .returned (.tuple #[.agg (cA (setF .grp c (setF .rng c (setF .call c (zeroC c.k)))) none 0 0), .bool false]) ∧ Below w.heap.size w w' := by
  have I0 := Lib.hid (us_start w c A n m)
  obtain ⟨cc, hcc⟩ : ∃ cc, cc = (setF .grp c (setF .rng c (setF .call c (zeroC c.k)))) := ⟨_, rfl⟩
  rw [← hcc]
  have HCC := Lib.hid hcc
  clear hcc
  have HZ := Lib.hid h.z
  have HIN := Lib.hid h
  have e0 : (c.k == 0) = false := by rw [hk]; rfl
  have e1 : (c.k == 1) = false := by rw [hk]; rfl
  have e2 : (c.k == 2) = false := by rw [hk]; rfl
  have e3 : (c.k == 3) = false := by rw [hk]; rfl
  have e4 : (c.k == 4) = false := by rw [hk]; rfl
  have e11 : (c.k == 11) = false := by rw [hk]; rfl
  have e12 : (c.k == 12) = false := by rw [hk]; rfl
  have e13 : (c.k == 13) = false := by rw [hk]; rfl
  have e14 : (c.k == 14) = true := by rw [hk]; rfl
  have K0 := Lib.hid (fun V => ucall_yes c.call V h0)
  have K1 := Lib.hid (fun V => by have := Rg.refCheck_any c.f c.t V HZ.out.f HZ.out.t; rw [show okR c.f c.t = false from Bool.eq_false_iff.2 h1] at this; exact this : ∀ V, Calls Tryz.prog 134 #[.agg #[.string c.f, .string c.t]] V fun e w' => e = .returned (.int .i64 2) ∧ Below V.heap.size V w')
  clear h HZ hk h0 h1
  go_enter Tryz.func84, Tryz.ntmps84
  go_upto_region 1 with fail
  rw [← zero24 0]
  generalize ((w.alloc (.cells (cA c A n m) 36)).alloc (.cells (cA (zeroC 0) none 0 0) 36)) = w1 at I0 ⊢
  have x0 : w1.cell? ⟨w.heap.size, 0, none⟩ = some (.int .i64 c.k) := I0.out.2.1.cell 0
  have I1 := Lib.hid (UsI.new I0.out c.k)
  go_upto_region 2 with (refine wpList_store_row rfl 36 (.tmp 4) (.tmp 8) rfl _ (cA (zeroC c.k) none 0 0) rfl rfl 36 _ (heap_alloc_new _ _) (info24 _ _ _ _) rfl (all24 _ _ _ _) ?_; rw [World.setRow_alloc_new])
  clear x0 I0
  generalize w1.alloc (.cells (cA (zeroC c.k) none 0 0) 36) = w2 at I1 ⊢
  generalize w1.heap.size = O at I1 ⊢
  have x0 : w2.cell? ⟨w.heap.size, 0, none⟩ = some (.int .i64 c.k) := I1.out.wb.cell 0
  have x1 : w2.cell? ⟨w.heap.size, 1, none⟩ = some (.int .i64 c.call) := I1.out.wb.cell 1
  have y1 : w2.cell? ⟨O, 1, none⟩ = some (.int .i64 0) := I1.out.wo.cell 1
  have f1 : w2.frozen? ⟨O, 1, none⟩ = false := I1.out.wo.fr 1
  have I2 := Lib.hid I1.out.put_call
  go_upto_region 36 with fail
  clear x0 x1 y1 f1 I1
  generalize (w2.setCell ⟨O, 1, none⟩ (.int .i64 c.call)) = w3 at I2 ⊢
  have x9 : w3.cell? ⟨w.heap.size, 9, none⟩ = some (.string c.f) := I2.out.wb.cell 9
  have y9 : w3.cell? ⟨O, 9, none⟩ = some (.string ⟨#[]⟩) := I2.out.wo.cell 9
  have f9 : w3.frozen? ⟨O, 9, none⟩ = false := I2.out.wo.fr 9
  have x10 : w3.cell? ⟨w.heap.size, 10, none⟩ = some (.string c.t) := I2.out.wb.cell 10
  have y10 : w3.cell? ⟨O, 10, none⟩ = some (.string ⟨#[]⟩) := I2.out.wo.cell 10
  have f10 : w3.frozen? ⟨O, 10, none⟩ = false := I2.out.wo.fr 10
  have I3 := Lib.hid I2.out.put_rng
  go_upto_region 37 with fail
  clear x9 y9 f9 x10 y10 f10 I2
  generalize ((w3.setCell ⟨O, 9, none⟩ (.string c.f)).setCell ⟨O, 10, none⟩ (.string c.t)) = w4 at I3 ⊢
  have x11 : w4.cell? ⟨w.heap.size, 11, none⟩ = some (.int .i64 c.g) := I3.out.wb.cell 11
  have y11 : w4.cell? ⟨O, 11, none⟩ = some (.int .i64 0) := I3.out.wo.cell 11
  have f11 : w4.frozen? ⟨O, 11, none⟩ = false := I3.out.wo.fr 11
  have I4 := Lib.hid I3.out.put_grp
  go_upto_region 38 with fail
  clear x11 y11 f11 I3
  generalize (w4.setCell ⟨O, 11, none⟩ (.int .i64 c.g)) = w5 at I4 ⊢
  have IC : Hid (UsI w c A n m O cc none 0 0 w5) := Lib.hid (by have := I4.out; rw [← HCC.out] at this; exact this)
  clear I4
  have x1 : w5.cell? ⟨w.heap.size, 1, none⟩ = some (.int .i64 c.call) := IC.out.wb.cell 1
  have x9 : w5.cell? ⟨w.heap.size, 9, none⟩ = some (.string c.f) := IC.out.wb.cell 9
  have x10 : w5.cell? ⟨w.heap.size, 10, none⟩ = some (.string c.t) := IC.out.wb.cell 10
  go_upto_region 44 with (first
    | (go_at_call 138; refine (K0.out _).mono ?_; rintro e v ⟨rfl, rfl⟩; clear K0)
    | (go_at_call 134; refine (K1.out _).mono ?_; rintro e wj ⟨rfl, hb⟩; have IJ := Lib.hid (IC.out.keep hb); clear hb K1; have z1 : wj.cell? ⟨w.heap.size, 1, none⟩ = some (.int .i64 c.call) := IJ.out.wb.cell 1; have z9 : wj.cell? ⟨w.heap.size, 9, none⟩ = some (.string c.f) := IJ.out.wb.cell 9; have z10 : wj.cell? ⟨w.heap.size, 10, none⟩ = some (.string c.t) := IJ.out.wb.cell 10))
  go_wp2_with (first
    | (refine wpList_load_row rfl 36 (.tmp 4) rfl O rfl 36 (cA cc none 0 0) (0, 0) _ IJ.out.wo Tryz.underlying36 rfl (info24 _ _ _ _) ?_)
    | (refine wpList_store_row rfl 36 (.tmp 2) (.tmp 208) rfl (w.heap.size + 1) (cA cc none 0 0) rfl rfl 36 (cA (zeroC 0) none 0 0) IJ.out.wr (info24 _ _ _ _) rfl (all24 _ _ _ _) ?_))
  refine bodyPost_ret (results_row2 rfl _ _ (w.heap.size + 1) 36 (cA cc none 0 0) (0, 0) _ rfl (setRow_heap _ _ _ _ _ _ IJ.out.wr) Tryz.underlying36 rfl (info24 _ _ _ _) (.bool false) rfl) rfl ?_
  exact ⟨rfl, below_row IJ.out.bl (Nat.le_succ _) _⟩
set_option maxRecDepth 100000 in
set_option maxHeartbeats 4000000 in
theorem used_14_2 (c : Cv) (A : Option Addr) (n m : Nat) (w : World) (h : CmdIn w c A n m) (hk : c.k = 14) (h0 : 0 ≤ c.call ∧ c.call ≤ 2147483648) (h1 : okR c.f c.t = true) (h2 : ¬ (1 ≤ c.g)) :
    Calls Tryz.prog 84 #[.agg (cA c A n m)] w fun e w' => e = .returned (.tuple #[.agg (cA (setF .grp c (setF .rng c (setF .call c (zeroC c.k)))) none 0 0), .bool false]) ∧ Below w.heap.size w w' := by
  have I0 := Lib.hid (us_start w c A n m)
  obtain ⟨cc, hcc⟩ : ∃ cc, cc = (setF .grp c (setF .rng c (setF .call c (zeroC c.k)))) := ⟨_, rfl⟩
  rw [← hcc]
  have HCC := Lib.hid hcc
  clear hcc
  have HZ := Lib.hid h.z
  have HIN := Lib.hid h
  have e0 : (c.k == 0) = false := by rw [hk]; rfl
  have e1 : (c.k == 1) = false := by rw [hk]; rfl
  have e2 : (c.k == 2) = false := by rw [hk]; rfl
  have e3 : (c.k == 3) = false := by rw [hk]; rfl
  have e4 : (c.k == 4) = false := by rw [hk]; rfl
  have e11 : (c.k == 11) = false := by rw [hk]; rfl
  have e12 : (c.k == 12) = false := by rw [hk]; rfl
  have e13 : (c.k == 13) = false := by rw [hk]; rfl
  have e14 : (c.k == 14) = true := by rw [hk]; rfl
  have K0 := Lib.hid (fun V => ucall_yes c.call V h0)
  have K1 := Lib.hid (fun V => by have := Rg.refCheck_any c.f c.t V HZ.out.f HZ.out.t; rw [show okR c.f c.t = true from h1] at this; exact this : ∀ V, Calls Tryz.prog 134 #[.agg #[.string c.f, .string c.t]] V fun e w' => e = .returned (.int .i64 0) ∧ Below V.heap.size V w')
  clear h HZ hk h0 h1
  go_enter Tryz.func84, Tryz.ntmps84
  go_upto_region 1 with fail
  rw [← zero24 0]
  generalize ((w.alloc (.cells (cA c A n m) 36)).alloc (.cells (cA (zeroC 0) none 0 0) 36)) = w1 at I0 ⊢
  have x0 : w1.cell? ⟨w.heap.size, 0, none⟩ = some (.int .i64 c.k) := I0.out.2.1.cell 0
  have I1 := Lib.hid (UsI.new I0.out c.k)
  go_upto_region 2 with (refine wpList_store_row rfl 36 (.tmp 4) (.tmp 8) rfl _ (cA (zeroC c.k) none 0 0) rfl rfl 36 _ (heap_alloc_new _ _) (info24 _ _ _ _) rfl (all24 _ _ _ _) ?_; rw [World.setRow_alloc_new])
  clear x0 I0
  generalize w1.alloc (.cells (cA (zeroC c.k) none 0 0) 36) = w2 at I1 ⊢
  generalize w1.heap.size = O at I1 ⊢
  have x0 : w2.cell? ⟨w.heap.size, 0, none⟩ = some (.int .i64 c.k) := I1.out.wb.cell 0
  have x1 : w2.cell? ⟨w.heap.size, 1, none⟩ = some (.int .i64 c.call) := I1.out.wb.cell 1
  have y1 : w2.cell? ⟨O, 1, none⟩ = some (.int .i64 0) := I1.out.wo.cell 1
  have f1 : w2.frozen? ⟨O, 1, none⟩ = false := I1.out.wo.fr 1
  have I2 := Lib.hid I1.out.put_call
  go_upto_region 36 with fail
  clear x0 x1 y1 f1 I1
  generalize (w2.setCell ⟨O, 1, none⟩ (.int .i64 c.call)) = w3 at I2 ⊢
  have x9 : w3.cell? ⟨w.heap.size, 9, none⟩ = some (.string c.f) := I2.out.wb.cell 9
  have y9 : w3.cell? ⟨O, 9, none⟩ = some (.string ⟨#[]⟩) := I2.out.wo.cell 9
  have f9 : w3.frozen? ⟨O, 9, none⟩ = false := I2.out.wo.fr 9
  have x10 : w3.cell? ⟨w.heap.size, 10, none⟩ = some (.string c.t) := I2.out.wb.cell 10
  have y10 : w3.cell? ⟨O, 10, none⟩ = some (.string ⟨#[]⟩) := I2.out.wo.cell 10
  have f10 : w3.frozen? ⟨O, 10, none⟩ = false := I2.out.wo.fr 10
  have I3 := Lib.hid I2.out.put_rng
  go_upto_region 37 with fail
  clear x9 y9 f9 x10 y10 f10 I2
  generalize ((w3.setCell ⟨O, 9, none⟩ (.string c.f)).setCell ⟨O, 10, none⟩ (.string c.t)) = w4 at I3 ⊢
  have x11 : w4.cell? ⟨w.heap.size, 11, none⟩ = some (.int .i64 c.g) := I3.out.wb.cell 11
  have y11 : w4.cell? ⟨O, 11, none⟩ = some (.int .i64 0) := I3.out.wo.cell 11
  have f11 : w4.frozen? ⟨O, 11, none⟩ = false := I3.out.wo.fr 11
  have I4 := Lib.hid I3.out.put_grp
  go_upto_region 38 with fail
  clear x11 y11 f11 I3
  generalize (w4.setCell ⟨O, 11, none⟩ (.int .i64 c.g)) = w5 at I4 ⊢
  have IC : Hid (UsI w c A n m O cc none 0 0 w5) := Lib.hid (by have := I4.out; rw [← HCC.out] at this; exact this)
  clear I4
  have x1 : w5.cell? ⟨w.heap.size, 1, none⟩ = some (.int .i64 c.call) := IC.out.wb.cell 1
  have x9 : w5.cell? ⟨w.heap.size, 9, none⟩ = some (.string c.f) := IC.out.wb.cell 9
  have x10 : w5.cell? ⟨w.heap.size, 10, none⟩ = some (.string c.t) := IC.out.wb.cell 10
  have x11 : w5.cell? ⟨w.heap.size, 11, none⟩ = some (.int .i64 c.g) := IC.out.wb.cell 11
  go_upto_region 44 with (first
    | (go_at_call 138; refine (K0.out _).mono ?_; rintro e v ⟨rfl, rfl⟩; clear K0)
    | (go_at_call 134; refine (K1.out _).mono ?_; rintro e wj ⟨rfl, hb⟩; have IJ := Lib.hid (IC.out.keep hb); clear hb K1; have z1 : wj.cell? ⟨w.heap.size, 1, none⟩ = some (.int .i64 c.call) := IJ.out.wb.cell 1; have z9 : wj.cell? ⟨w.heap.size, 9, none⟩ = some (.string c.f) := IJ.out.wb.cell 9; have z10 : wj.cell? ⟨w.heap.size, 10, none⟩ = some (.string c.t) := IJ.out.wb.cell 10; have z11 : wj.cell? ⟨w.heap.size, 11, none⟩ = some (.int .i64 c.g) := IJ.out.wb.cell 11))
  go_wp2_with (first
    | (refine wpList_load_row rfl 36 (.tmp 4) rfl O rfl 36 (cA cc none 0 0) (0, 0) _ IJ.out.wo Tryz.underlying36 rfl (info24 _ _ _ _) ?_)
    | (refine wpList_store_row rfl 36 (.tmp 2) (.tmp 208) rfl (w.heap.size + 1) (cA cc none 0 0) rfl rfl 36 (cA (zeroC 0) none 0 0) IJ.out.wr (info24 _ _ _ _) rfl (all24 _ _ _ _) ?_))
  refine bodyPost_ret (results_row2 rfl _ _ (w.heap.size + 1) 36 (cA cc none 0 0) (0, 0) _ rfl (setRow_heap _ _ _ _ _ _ IJ.out.wr) Tryz.underlying36 rfl (info24 _ _ _ _) (.bool false) rfl) rfl ?_
  exact ⟨rfl, below_row IJ.out.bl (Nat.le_succ _) _⟩
set_option maxRecDepth 100000 in
set_option maxHeartbeats 4000000 in
theorem used_14_3 (c : Cv) (A : Option Addr) (n m : Nat) (w : World) (h : CmdIn w c A n m) (hk : c.k = 14) (h0 : 0 ≤ c.call ∧ c.call ≤ 2147483648) (h1 : okR c.f c.t = true) (h2 : 1 ≤ c.g) (h3 : ¬ (c.g < 8)) :
    Calls Tryz.prog 84 #[.agg (cA c A n m)] w fun e w' => e = .returned (.tuple #[.agg (cA (setF .grp c (setF .rng c (setF .call c (zeroC c.k)))) none 0 0), .bool false]) ∧ Below w.heap.size w w' := by
  have I0 := Lib.hid (us_start w c A n m)
  obtain ⟨cc, hcc⟩ : ∃ cc, cc = (setF .grp c (setF .rng c (setF .call c (zeroC c.k)))) := ⟨_, rfl⟩
  rw [← hcc]
  have HCC := Lib.hid hcc
  clear hcc
  have HZ := Lib.hid h.z
  have HIN := Lib.hid h
  have e0 : (c.k == 0) = false := by rw [hk]; rfl
  have e1 : (c.k == 1) = false := by rw [hk]; rfl
  have e2 : (c.k == 2) = false := by rw [hk]; rfl
  have e3 : (c.k == 3) = false := by rw [hk]; rfl
  have e4 : (c.k == 4) = false := by rw [hk]; rfl
  have e11 : (c.k == 11) = false := by rw [hk]; rfl
  have e12 : (c.k == 12) = false := by rw [hk]; rfl
  have e13 : (c.k == 13) = false := by rw [hk]; rfl
  have e14 : (c.k == 14) = true := by rw [hk]; rfl
  have K0 := Lib.hid (fun V => ucall_yes c.call V h0)
  have K1 := Lib.hid (fun V => by have := Rg.refCheck_any c.f c.t V HZ.out.f HZ.out.t; rw [show okR c.f c.t = true from h1] at this; exact this : ∀ V, Calls Tryz.prog 134 #[.agg #[.string c.f, .string c.t]] V fun e w' => e = .returned (.int .i64 0) ∧ Below V.heap.size V w')
  clear h HZ hk h0 h1
  go_enter Tryz.func84, Tryz.ntmps84
  go_upto_region 1 with fail
  rw [← zero24 0]
  generalize ((w.alloc (.cells (cA c A n m) 36)).alloc (.cells (cA (zeroC 0) none 0 0) 36)) = w1 at I0 ⊢
  have x0 : w1.cell? ⟨w.heap.size, 0, none⟩ = some (.int .i64 c.k) := I0.out.2.1.cell 0
  have I1 := Lib.hid (UsI.new I0.out c.k)
  go_upto_region 2 with (refine wpList_store_row rfl 36 (.tmp 4) (.tmp 8) rfl _ (cA (zeroC c.k) none 0 0) rfl rfl 36 _ (heap_alloc_new _ _) (info24 _ _ _ _) rfl (all24 _ _ _ _) ?_; rw [World.setRow_alloc_new])
  clear x0 I0
  generalize w1.alloc (.cells (cA (zeroC c.k) none 0 0) 36) = w2 at I1 ⊢
  generalize w1.heap.size = O at I1 ⊢
  have x0 : w2.cell? ⟨w.heap.size, 0, none⟩ = some (.int .i64 c.k) := I1.out.wb.cell 0
  have x1 : w2.cell? ⟨w.heap.size, 1, none⟩ = some (.int .i64 c.call) := I1.out.wb.cell 1
  have y1 : w2.cell? ⟨O, 1, none⟩ = some (.int .i64 0) := I1.out.wo.cell 1
  have f1 : w2.frozen? ⟨O, 1, none⟩ = false := I1.out.wo.fr 1
  have I2 := Lib.hid I1.out.put_call
  go_upto_region 36 with fail
  clear x0 x1 y1 f1 I1
  generalize (w2.setCell ⟨O, 1, none⟩ (.int .i64 c.call)) = w3 at I2 ⊢
  have x9 : w3.cell? ⟨w.heap.size, 9, none⟩ = some (.string c.f) := I2.out.wb.cell 9
  have y9 : w3.cell? ⟨O, 9, none⟩ = some (.string ⟨#[]⟩) := I2.out.wo.cell 9
  have f9 : w3.frozen? ⟨O, 9, none⟩ = false := I2.out.wo.fr 9
  have x10 : w3.cell? ⟨w.heap.size, 10, none⟩ = some (.string c.t) := I2.out.wb.cell 10
  have y10 : w3.cell? ⟨O, 10, none⟩ = some (.string ⟨#[]⟩) := I2.out.wo.cell 10
  have f10 : w3.frozen? ⟨O, 10, none⟩ = false := I2.out.wo.fr 10
  have I3 := Lib.hid I2.out.put_rng
  go_upto_region 37 with fail
  clear x9 y9 f9 x10 y10 f10 I2
  generalize ((w3.setCell ⟨O, 9, none⟩ (.string c.f)).setCell ⟨O, 10, none⟩ (.string c.t)) = w4 at I3 ⊢
  have x11 : w4.cell? ⟨w.heap.size, 11, none⟩ = some (.int .i64 c.g) := I3.out.wb.cell 11
  have y11 : w4.cell? ⟨O, 11, none⟩ = some (.int .i64 0) := I3.out.wo.cell 11
  have f11 : w4.frozen? ⟨O, 11, none⟩ = false := I3.out.wo.fr 11
  have I4 := Lib.hid I3.out.put_grp
  go_upto_region 38 with fail
  clear x11 y11 f11 I3
  generalize (w4.setCell ⟨O, 11, none⟩ (.int .i64 c.g)) = w5 at I4 ⊢
  have IC : Hid (UsI w c A n m O cc none 0 0 w5) := Lib.hid (by have := I4.out; rw [← HCC.out] at this; exact this)
  clear I4
  have x1 : w5.cell? ⟨w.heap.size, 1, none⟩ = some (.int .i64 c.call) := IC.out.wb.cell 1
  have x9 : w5.cell? ⟨w.heap.size, 9, none⟩ = some (.string c.f) := IC.out.wb.cell 9
  have x10 : w5.cell? ⟨w.heap.size, 10, none⟩ = some (.string c.t) := IC.out.wb.cell 10
  have x11 : w5.cell? ⟨w.heap.size, 11, none⟩ = some (.int .i64 c.g) := IC.out.wb.cell 11
  go_upto_region 44 with (first
    | (go_at_call 138; refine (K0.out _).mono ?_; rintro e v ⟨rfl, rfl⟩; clear K0)
    | (go_at_call 134; refine (K1.out _).mono ?_; rintro e wj ⟨rfl, hb⟩; have IJ := Lib.hid (IC.out.keep hb); clear hb K1; have z1 : wj.cell? ⟨w.heap.size, 1, none⟩ = some (.int .i64 c.call) := IJ.out.wb.cell 1; have z9 : wj.cell? ⟨w.heap.size, 9, none⟩ = some (.string c.f) := IJ.out.wb.cell 9; have z10 : wj.cell? ⟨w.heap.size, 10, none⟩ = some (.string c.t) := IJ.out.wb.cell 10; have z11 : wj.cell? ⟨w.heap.size, 11, none⟩ = some (.int .i64 c.g) := IJ.out.wb.cell 11))
  go_wp2_with (first
    | (refine wpList_load_row rfl 36 (.tmp 4) rfl O rfl 36 (cA cc none 0 0) (0, 0) _ IJ.out.wo Tryz.underlying36 rfl (info24 _ _ _ _) ?_)
    | (refine wpList_store_row rfl 36 (.tmp 2) (.tmp 208) rfl (w.heap.size + 1) (cA cc none 0 0) rfl rfl 36 (cA (zeroC 0) none 0 0) IJ.out.wr (info24 _ _ _ _) rfl (all24 _ _ _ _) ?_))
  refine bodyPost_ret (results_row2 rfl _ _ (w.heap.size + 1) 36 (cA cc none 0 0) (0, 0) _ rfl (setRow_heap _ _ _ _ _ _ IJ.out.wr) Tryz.underlying36 rfl (info24 _ _ _ _) (.bool false) (by first | rfl | exact congrArg Value.bool (decide_eq_false (p := c.g < 8) (by omega)))) rfl ?_
  exact ⟨rfl, below_row IJ.out.bl (Nat.le_succ _) _⟩
set_option maxRecDepth 100000 in
set_option maxHeartbeats 4000000 in
theorem used_14_4 (c : Cv) (A : Option Addr) (n m : Nat) (w : World) (h : CmdIn w c A n m) (hk : c.k = 14) (h0 : 0 ≤ c.call ∧ c.call ≤ 2147483648) (h1 : okR c.f c.t = true) (h2 : 1 ≤ c.g) (h3 : c.g < 8) :
    Calls Tryz.prog 84 #[.agg (cA c A n m)] w fun e w' => e = .returned (.tuple #[.agg (cA (setF .grp c (setF .rng c (setF .call c (zeroC c.k)))) none 0 0), .bool true]) ∧ Below w.heap.size w w' := by
  have I0 := Lib.hid (us_start w c A n m)
  obtain ⟨cc, hcc⟩ : ∃ cc, cc = (setF .grp c (setF .rng c (setF .call c (zeroC c.k)))) := ⟨_, rfl⟩
  rw [← hcc]
  have HCC := Lib.hid hcc
  clear hcc
  have HZ := Lib.hid h.z
  have HIN := Lib.hid h
  have e0 : (c.k == 0) = false := by rw [hk]; rfl
  have e1 : (c.k == 1) = false := by rw [hk]; rfl
  have e2 : (c.k == 2) = false := by rw [hk]; rfl
  have e3 : (c.k == 3) = false := by rw [hk]; rfl
  have e4 : (c.k == 4) = false := by rw [hk]; rfl
  have e11 : (c.k == 11) = false := by rw [hk]; rfl
  have e12 : (c.k == 12) = false := by rw [hk]; rfl
  have e13 : (c.k == 13) = false := by rw [hk]; rfl
  have e14 : (c.k == 14) = true := by rw [hk]; rfl
  have K0 := Lib.hid (fun V => ucall_yes c.call V h0)
  have K1 := Lib.hid (fun V => by have := Rg.refCheck_any c.f c.t V HZ.out.f HZ.out.t; rw [show okR c.f c.t = true from h1] at this; exact this : ∀ V, Calls Tryz.prog 134 #[.agg #[.string c.f, .string c.t]] V fun e w' => e = .returned (.int .i64 0) ∧ Below V.heap.size V w')
  clear h HZ hk h0 h1
  go_enter Tryz.func84, Tryz.ntmps84
  go_upto_region 1 with fail
  rw [← zero24 0]
  generalize ((w.alloc (.cells (cA c A n m) 36)).alloc (.cells (cA (zeroC 0) none 0 0) 36)) = w1 at I0 ⊢
  have x0 : w1.cell? ⟨w.heap.size, 0, none⟩ = some (.int .i64 c.k) := I0.out.2.1.cell 0
  have I1 := Lib.hid (UsI.new I0.out c.k)
  go_upto_region 2 with (refine wpList_store_row rfl 36 (.tmp 4) (.tmp 8) rfl _ (cA (zeroC c.k) none 0 0) rfl rfl 36 _ (heap_alloc_new _ _) (info24 _ _ _ _) rfl (all24 _ _ _ _) ?_; rw [World.setRow_alloc_new])
  clear x0 I0
  generalize w1.alloc (.cells (cA (zeroC c.k) none 0 0) 36) = w2 at I1 ⊢
  generalize w1.heap.size = O at I1 ⊢
  have x0 : w2.cell? ⟨w.heap.size, 0, none⟩ = some (.int .i64 c.k) := I1.out.wb.cell 0
  have x1 : w2.cell? ⟨w.heap.size, 1, none⟩ = some (.int .i64 c.call) := I1.out.wb.cell 1
  have y1 : w2.cell? ⟨O, 1, none⟩ = some (.int .i64 0) := I1.out.wo.cell 1
  have f1 : w2.frozen? ⟨O, 1, none⟩ = false := I1.out.wo.fr 1
  have I2 := Lib.hid I1.out.put_call
  go_upto_region 36 with fail
  clear x0 x1 y1 f1 I1
  generalize (w2.setCell ⟨O, 1, none⟩ (.int .i64 c.call)) = w3 at I2 ⊢
  have x9 : w3.cell? ⟨w.heap.size, 9, none⟩ = some (.string c.f) := I2.out.wb.cell 9
  have y9 : w3.cell? ⟨O, 9, none⟩ = some (.string ⟨#[]⟩) := I2.out.wo.cell 9
  have f9 : w3.frozen? ⟨O, 9, none⟩ = false := I2.out.wo.fr 9
  have x10 : w3.cell? ⟨w.heap.size, 10, none⟩ = some (.string c.t) := I2.out.wb.cell 10
  have y10 : w3.cell? ⟨O, 10, none⟩ = some (.string ⟨#[]⟩) := I2.out.wo.cell 10
  have f10 : w3.frozen? ⟨O, 10, none⟩ = false := I2.out.wo.fr 10
  have I3 := Lib.hid I2.out.put_rng
  go_upto_region 37 with fail
  clear x9 y9 f9 x10 y10 f10 I2
  generalize ((w3.setCell ⟨O, 9, none⟩ (.string c.f)).setCell ⟨O, 10, none⟩ (.string c.t)) = w4 at I3 ⊢
  have x11 : w4.cell? ⟨w.heap.size, 11, none⟩ = some (.int .i64 c.g) := I3.out.wb.cell 11
  have y11 : w4.cell? ⟨O, 11, none⟩ = some (.int .i64 0) := I3.out.wo.cell 11
  have f11 : w4.frozen? ⟨O, 11, none⟩ = false := I3.out.wo.fr 11
  have I4 := Lib.hid I3.out.put_grp
  go_upto_region 38 with fail
  clear x11 y11 f11 I3
  generalize (w4.setCell ⟨O, 11, none⟩ (.int .i64 c.g)) = w5 at I4 ⊢
  have IC : Hid (UsI w c A n m O cc none 0 0 w5) := Lib.hid (by have := I4.out; rw [← HCC.out] at this; exact this)
  clear I4
  have x1 : w5.cell? ⟨w.heap.size, 1, none⟩ = some (.int .i64 c.call) := IC.out.wb.cell 1
  have x9 : w5.cell? ⟨w.heap.size, 9, none⟩ = some (.string c.f) := IC.out.wb.cell 9
  have x10 : w5.cell? ⟨w.heap.size, 10, none⟩ = some (.string c.t) := IC.out.wb.cell 10
  have x11 : w5.cell? ⟨w.heap.size, 11, none⟩ = some (.int .i64 c.g) := IC.out.wb.cell 11
  go_upto_region 44 with (first
    | (go_at_call 138; refine (K0.out _).mono ?_; rintro e v ⟨rfl, rfl⟩; clear K0)
    | (go_at_call 134; refine (K1.out _).mono ?_; rintro e wj ⟨rfl, hb⟩; have IJ := Lib.hid (IC.out.keep hb); clear hb K1; have z1 : wj.cell? ⟨w.heap.size, 1, none⟩ = some (.int .i64 c.call) := IJ.out.wb.cell 1; have z9 : wj.cell? ⟨w.heap.size, 9, none⟩ = some (.string c.f) := IJ.out.wb.cell 9; have z10 : wj.cell? ⟨w.heap.size, 10, none⟩ = some (.string c.t) := IJ.out.wb.cell 10; have z11 : wj.cell? ⟨w.heap.size, 11, none⟩ = some (.int .i64 c.g) := IJ.out.wb.cell 11))
  go_wp2_with (first
    | (refine wpList_load_row rfl 36 (.tmp 4) rfl O rfl 36 (cA cc none 0 0) (0, 0) _ IJ.out.wo Tryz.underlying36 rfl (info24 _ _ _ _) ?_)
    | (refine wpList_store_row rfl 36 (.tmp 2) (.tmp 208) rfl (w.heap.size + 1) (cA cc none 0 0) rfl rfl 36 (cA (zeroC 0) none 0 0) IJ.out.wr (info24 _ _ _ _) rfl (all24 _ _ _ _) ?_))
  refine bodyPost_ret (results_row2 rfl _ _ (w.heap.size + 1) 36 (cA cc none 0 0) (0, 0) _ rfl (setRow_heap _ _ _ _ _ _ IJ.out.wr) Tryz.underlying36 rfl (info24 _ _ _ _) (.bool true) (by first | rfl | exact congrArg Value.bool (decide_eq_true (p := c.g < 8) (by omega)))) rfl ?_
  exact ⟨rfl, below_row IJ.out.bl (Nat.le_succ _) _⟩
set_option maxRecDepth 100000 in
set_option maxHeartbeats 4000000 in
theorem used_99_0 (c : Cv) (A : Option Addr) (n m : Nat) (w : World) (hk0 : c.k ≠ 0) (hk1 : c.k ≠ 1) (hk2 : c.k ≠ 2) (hk3 : c.k ≠ 3) (hk4 : c.k ≠ 4) (hk11 : c.k ≠ 11) (hk12 : c.k ≠ 12) (hk13 : c.k ≠ 13) (hk14 : c.k ≠ 14) (hk15 : c.k ≠ 15)  :
    Calls Tryz.prog 84 #[.agg (cA c A n m)] w fun e w' => e = .returned (.tuple #[.agg (cA (zeroC c.k) none 0 0), .bool false]) ∧ Below w.heap.size w w' := by
  have I0 := Lib.hid (us_start w c A n m)
  obtain ⟨cc, hcc⟩ : ∃ cc, cc = (zeroC c.k) := ⟨_, rfl⟩
  rw [← hcc]
  have HCC := Lib.hid hcc
  clear hcc
  have e0 : (c.k == 0) = false := beq_eq_false_iff_ne.2 hk0
  have e1 : (c.k == 1) = false := beq_eq_false_iff_ne.2 hk1
  have e2 : (c.k == 2) = false := beq_eq_false_iff_ne.2 hk2
  have e3 : (c.k == 3) = false := beq_eq_false_iff_ne.2 hk3
  have e4 : (c.k == 4) = false := beq_eq_false_iff_ne.2 hk4
  have e11 : (c.k == 11) = false := beq_eq_false_iff_ne.2 hk11
  have e12 : (c.k == 12) = false := beq_eq_false_iff_ne.2 hk12
  have e13 : (c.k == 13) = false := beq_eq_false_iff_ne.2 hk13
  have e14 : (c.k == 14) = false := beq_eq_false_iff_ne.2 hk14
  have e15 : (c.k == 15) = false := beq_eq_false_iff_ne.2 hk15
  clear hk0 hk1 hk2 hk3 hk4 hk11 hk12 hk13 hk14 hk15
  go_enter Tryz.func84, Tryz.ntmps84
  go_upto_region 1 with fail
  rw [← zero24 0]
  generalize ((w.alloc (.cells (cA c A n m) 36)).alloc (.cells (cA (zeroC 0) none 0 0) 36)) = w1 at I0 ⊢
  have x0 : w1.cell? ⟨w.heap.size, 0, none⟩ = some (.int .i64 c.k) := I0.out.2.1.cell 0
  have I1 := Lib.hid (UsI.new I0.out c.k)
  go_upto_region 2 with (refine wpList_store_row rfl 36 (.tmp 4) (.tmp 8) rfl _ (cA (zeroC c.k) none 0 0) rfl rfl 36 _ (heap_alloc_new _ _) (info24 _ _ _ _) rfl (all24 _ _ _ _) ?_; rw [World.setRow_alloc_new])
  clear x0 I0
  generalize w1.alloc (.cells (cA (zeroC c.k) none 0 0) 36) = w2 at I1 ⊢
  generalize w1.heap.size = O at I1 ⊢
  have x0 : w2.cell? ⟨w.heap.size, 0, none⟩ = some (.int .i64 c.k) := I1.out.wb.cell 0
  have IC : Hid (UsI w c A n m O cc none 0 0 w2) := Lib.hid (by have := I1.out; rw [← HCC.out] at this; exact this)
  clear I1
  go_upto_region 44 with fail
  go_wp2_with (first
    | (refine wpList_load_row rfl 36 (.tmp 4) rfl O rfl 36 (cA cc none 0 0) (0, 0) _ IC.out.wo Tryz.underlying36 rfl (info24 _ _ _ _) ?_)
    | (refine wpList_store_row rfl 36 (.tmp 2) (.tmp 208) rfl (w.heap.size + 1) (cA cc none 0 0) rfl rfl 36 (cA (zeroC 0) none 0 0) IC.out.wr (info24 _ _ _ _) rfl (all24 _ _ _ _) ?_))
  refine bodyPost_ret (results_row2 rfl _ _ (w.heap.size + 1) 36 (cA cc none 0 0) (0, 0) _ rfl (setRow_heap _ _ _ _ _ _ IC.out.wr) Tryz.underlying36 rfl (info24 _ _ _ _) (.bool false) rfl) rfl ?_
  exact ⟨rfl, below_row IC.out.bl (Nat.le_succ _) _⟩
end Go.Proofs.YtgjnmfmbheejoaaGreatDoor
