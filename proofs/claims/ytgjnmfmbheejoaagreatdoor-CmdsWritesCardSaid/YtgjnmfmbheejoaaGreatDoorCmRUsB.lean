/- What a command's kind uses, by the reference. Condition: sizes as a machine's integers can say. -/
import Derived.Test.YtgjnmfmbheejoaaGreatDoorCmRUsS
namespace Go.Proofs.YtgjnmfmbheejoaaGreatDoor
open Go.RowKit Go.Shelf

set_option maxRecDepth 100000 in
set_option maxHeartbeats 4000000 in
theorem used_3_0 (c : Cv) (A : Option Addr) (n m : Nat) (w : World) (hk : c.k = 3) (h0 : ¬ (1 ≤ c.mv ∧ c.mv ≤ 64)) :
    Calls Tryz.prog 84 #[.agg (cA c A n m)] w fun e w' => e = .returned (.tuple #[.agg (cA (setF .rng c (setF .mv c (zeroC c.k))) none 0 0), .bool false]) ∧ Below w.heap.size w w' := by
  have I0 := Lib.hid (us_start w c A n m)
  obtain ⟨cc, hcc⟩ : ∃ cc, cc = (setF .rng c (setF .mv c (zeroC c.k))) := ⟨_, rfl⟩
  rw [← hcc]
  have HCC := Lib.hid hcc
  clear hcc
  have e0 : (c.k == 0) = false := by rw [hk]; rfl
  have e1 : (c.k == 1) = false := by rw [hk]; rfl
  have e2 : (c.k == 2) = false := by rw [hk]; rfl
  have e3 : (c.k == 3) = true := by rw [hk]; rfl
  have K0 := Lib.hid (fun V => umove_no c.mv V h0)
  clear hk h0
  go_enter Tryz.func84, Tryz.ntmps84
  go_upto_region 1 with fail
  rw [← zero24 0]
  generalize ((w.alloc (.cells (cA c A n m) 36)).alloc (.cells (cA (zeroC 0) none 0 0) 36)) = w1 at I0 ⊢
  have x0 : w1.cell? ⟨w.heap.size, 0, none⟩ = some (.int .i64 c.k) := I0.out.2.1.cell 0
  have I1 := Lib.hid (UsI.new I0.out c.k)
  go_upto_region 2 with (refine wpList_store_row rfl 36 (.tmp 4) (.tmp 8) rfl _ (cA (zeroC c.k) none 0 0) rfl rfl 36 _ (heap_alloc_new _ _) (info24 _ _ _ _) rfl (all24 _ _ _ _) ?_; rw [World.setRow_alloc_new])
  clear x0 I0
  generalize w1.alloc (.cells (cA (zeroC c.k) none 0 0) 36) = w2 at I1 ⊢
  generalize w1.heap.size = O at I1 ⊢
  have x0 : w2.cell? ⟨w.heap.size, 0, none⟩ = some (.int .i64 c.k) := I1.out.wb.cell 0
  have x8 : w2.cell? ⟨w.heap.size, 8, none⟩ = some (.int .i64 c.mv) := I1.out.wb.cell 8
  have y8 : w2.cell? ⟨O, 8, none⟩ = some (.int .i64 0) := I1.out.wo.cell 8
  have f8 : w2.frozen? ⟨O, 8, none⟩ = false := I1.out.wo.fr 8
  have I2 := Lib.hid I1.out.put_mv
  go_upto_region 17 with fail
  clear x0 x8 y8 f8 I1
  generalize (w2.setCell ⟨O, 8, none⟩ (.int .i64 c.mv)) = w3 at I2 ⊢
  have x9 : w3.cell? ⟨w.heap.size, 9, none⟩ = some (.string c.f) := I2.out.wb.cell 9
  have y9 : w3.cell? ⟨O, 9, none⟩ = some (.string ⟨#[]⟩) := I2.out.wo.cell 9
  have f9 : w3.frozen? ⟨O, 9, none⟩ = false := I2.out.wo.fr 9
  have x10 : w3.cell? ⟨w.heap.size, 10, none⟩ = some (.string c.t) := I2.out.wb.cell 10
  have y10 : w3.cell? ⟨O, 10, none⟩ = some (.string ⟨#[]⟩) := I2.out.wo.cell 10
  have f10 : w3.frozen? ⟨O, 10, none⟩ = false := I2.out.wo.fr 10
  have I3 := Lib.hid I2.out.put_rng
  go_upto_region 18 with fail
  clear x9 y9 f9 x10 y10 f10 I2
  generalize ((w3.setCell ⟨O, 9, none⟩ (.string c.f)).setCell ⟨O, 10, none⟩ (.string c.t)) = w4 at I3 ⊢
  have IC : Hid (UsI w c A n m O cc none 0 0 w4) := Lib.hid (by have := I3.out; rw [← HCC.out] at this; exact this)
  clear I3
  have x8 : w4.cell? ⟨w.heap.size, 8, none⟩ = some (.int .i64 c.mv) := IC.out.wb.cell 8
  go_upto_region 44 with (go_at_call 139; refine (K0.out _).mono ?_; rintro e v ⟨rfl, rfl⟩; clear K0)
  go_wp2_with (first
    | (refine wpList_load_row rfl 36 (.tmp 4) rfl O rfl 36 (cA cc none 0 0) (0, 0) _ IC.out.wo Tryz.underlying36 rfl (info24 _ _ _ _) ?_)
    | (refine wpList_store_row rfl 36 (.tmp 2) (.tmp 208) rfl (w.heap.size + 1) (cA cc none 0 0) rfl rfl 36 (cA (zeroC 0) none 0 0) IC.out.wr (info24 _ _ _ _) rfl (all24 _ _ _ _) ?_))
  refine bodyPost_ret (results_row2 rfl _ _ (w.heap.size + 1) 36 (cA cc none 0 0) (0, 0) _ rfl (setRow_heap _ _ _ _ _ _ IC.out.wr) Tryz.underlying36 rfl (info24 _ _ _ _) (.bool false) rfl) rfl ?_
  exact ⟨rfl, below_row IC.out.bl (Nat.le_succ _) _⟩
set_option maxRecDepth 100000 in
set_option maxHeartbeats 4000000 in
theorem used_3_1 (c : Cv) (A : Option Addr) (n m : Nat) (w : World) (h : CmdIn w c A n m) (hk : c.k = 3) (h0 : 1 ≤ c.mv ∧ c.mv ≤ 64) (h1 : ¬ (okR c.f c.t = true)) :
    Calls Tryz.prog 84 #[.agg (cA c A n m)] w fun e w' => e = .returned (.tuple #[.agg (cA (setF .rng c (setF .mv c (zeroC c.k))) none 0 0), .bool false]) ∧ Below w.heap.size w w' := by
  have I0 := Lib.hid (us_start w c A n m)
  obtain ⟨cc, hcc⟩ : ∃ cc, cc = (setF .rng c (setF .mv c (zeroC c.k))) := ⟨_, rfl⟩
  rw [← hcc]
  have HCC := Lib.hid hcc
  clear hcc
  have HZ := Lib.hid h.z
  have HIN := Lib.hid h
  have e0 : (c.k == 0) = false := by rw [hk]; rfl
  have e1 : (c.k == 1) = false := by rw [hk]; rfl
  have e2 : (c.k == 2) = false := by rw [hk]; rfl
  have e3 : (c.k == 3) = true := by rw [hk]; rfl
  have K0 := Lib.hid (fun V => umove_yes c.mv V h0)
  have K1 := Lib.hid (fun V => by have := Rg.refCheck_any c.f c.t V HZ.out.f HZ.out.t; rw [show okR c.f c.t = false from Bool.eq_false_iff.2 h1] at this; exact this : ∀ V, Calls Tryz.prog 134 #[.agg #[.string c.f, .string c.t]] V fun e w' => e = .returned (.int .i64 2) ∧ Below V.heap.size V w')
  clear h HZ hk h0 h1
  go_enter Tryz.func84, Tryz.ntmps84
  go_upto_region 1 with fail
  rw [← zero24 0]
  generalize ((w.alloc (.cells (cA c A n m) 36)).alloc (.cells (cA (zeroC 0) none 0 0) 36)) = w1 at I0 ⊢
  have x0 : w1.cell? ⟨w.heap.size, 0, none⟩ = some (.int .i64 c.k) := I0.out.2.1.cell 0
  have I1 := Lib.hid (UsI.new I0.out c.k)
  go_upto_region 2 with (refine wpList_store_row rfl 36 (.tmp 4) (.tmp 8) rfl _ (cA (zeroC c.k) none 0 0) rfl rfl 36 _ (heap_alloc_new _ _) (info24 _ _ _ _) rfl (all24 _ _ _ _) ?_; rw [World.setRow_alloc_new])
  clear x0 I0
  generalize w1.alloc (.cells (cA (zeroC c.k) none 0 0) 36) = w2 at I1 ⊢
  generalize w1.heap.size = O at I1 ⊢
  have x0 : w2.cell? ⟨w.heap.size, 0, none⟩ = some (.int .i64 c.k) := I1.out.wb.cell 0
  have x8 : w2.cell? ⟨w.heap.size, 8, none⟩ = some (.int .i64 c.mv) := I1.out.wb.cell 8
  have y8 : w2.cell? ⟨O, 8, none⟩ = some (.int .i64 0) := I1.out.wo.cell 8
  have f8 : w2.frozen? ⟨O, 8, none⟩ = false := I1.out.wo.fr 8
  have I2 := Lib.hid I1.out.put_mv
  go_upto_region 17 with fail
  clear x0 x8 y8 f8 I1
  generalize (w2.setCell ⟨O, 8, none⟩ (.int .i64 c.mv)) = w3 at I2 ⊢
  have x9 : w3.cell? ⟨w.heap.size, 9, none⟩ = some (.string c.f) := I2.out.wb.cell 9
  have y9 : w3.cell? ⟨O, 9, none⟩ = some (.string ⟨#[]⟩) := I2.out.wo.cell 9
  have f9 : w3.frozen? ⟨O, 9, none⟩ = false := I2.out.wo.fr 9
  have x10 : w3.cell? ⟨w.heap.size, 10, none⟩ = some (.string c.t) := I2.out.wb.cell 10
  have y10 : w3.cell? ⟨O, 10, none⟩ = some (.string ⟨#[]⟩) := I2.out.wo.cell 10
  have f10 : w3.frozen? ⟨O, 10, none⟩ = false := I2.out.wo.fr 10
  have I3 := Lib.hid I2.out.put_rng
  go_upto_region 18 with fail
  clear x9 y9 f9 x10 y10 f10 I2
  generalize ((w3.setCell ⟨O, 9, none⟩ (.string c.f)).setCell ⟨O, 10, none⟩ (.string c.t)) = w4 at I3 ⊢
  have IC : Hid (UsI w c A n m O cc none 0 0 w4) := Lib.hid (by have := I3.out; rw [← HCC.out] at this; exact this)
  clear I3
  have x8 : w4.cell? ⟨w.heap.size, 8, none⟩ = some (.int .i64 c.mv) := IC.out.wb.cell 8
  have x9 : w4.cell? ⟨w.heap.size, 9, none⟩ = some (.string c.f) := IC.out.wb.cell 9
  have x10 : w4.cell? ⟨w.heap.size, 10, none⟩ = some (.string c.t) := IC.out.wb.cell 10
  go_upto_region 44 with (first
    | (go_at_call 139; refine (K0.out _).mono ?_; rintro e v ⟨rfl, rfl⟩; clear K0)
    | (go_at_call 134; refine (K1.out _).mono ?_; rintro e wj ⟨rfl, hb⟩; have IJ := Lib.hid (IC.out.keep hb); clear hb K1; have z8 : wj.cell? ⟨w.heap.size, 8, none⟩ = some (.int .i64 c.mv) := IJ.out.wb.cell 8; have z9 : wj.cell? ⟨w.heap.size, 9, none⟩ = some (.string c.f) := IJ.out.wb.cell 9; have z10 : wj.cell? ⟨w.heap.size, 10, none⟩ = some (.string c.t) := IJ.out.wb.cell 10))
  go_wp2_with (first
    | (refine wpList_load_row rfl 36 (.tmp 4) rfl O rfl 36 (cA cc none 0 0) (0, 0) _ IJ.out.wo Tryz.underlying36 rfl (info24 _ _ _ _) ?_)
    | (refine wpList_store_row rfl 36 (.tmp 2) (.tmp 208) rfl (w.heap.size + 1) (cA cc none 0 0) rfl rfl 36 (cA (zeroC 0) none 0 0) IJ.out.wr (info24 _ _ _ _) rfl (all24 _ _ _ _) ?_))
  refine bodyPost_ret (results_row2 rfl _ _ (w.heap.size + 1) 36 (cA cc none 0 0) (0, 0) _ rfl (setRow_heap _ _ _ _ _ _ IJ.out.wr) Tryz.underlying36 rfl (info24 _ _ _ _) (.bool false) rfl) rfl ?_
  exact ⟨rfl, below_row IJ.out.bl (Nat.le_succ _) _⟩
set_option maxRecDepth 100000 in
set_option maxHeartbeats 4000000 in
theorem used_3_2 (c : Cv) (A : Option Addr) (n m : Nat) (w : World) (h : CmdIn w c A n m) (hk : c.k = 3) (h0 : 1 ≤ c.mv ∧ c.mv ≤ 64) (h1 : okR c.f c.t = true) :
    Calls Tryz.prog 84 #[.agg (cA c A n m)] w fun e w' => e = .returned (.tuple #[.agg (cA (setF .rng c (setF .mv c (zeroC c.k))) none 0 0), .bool true]) ∧ Below w.heap.size w w' := by
  have I0 := Lib.hid (us_start w c A n m)
  obtain ⟨cc, hcc⟩ : ∃ cc, cc = (setF .rng c (setF .mv c (zeroC c.k))) := ⟨_, rfl⟩
  rw [← hcc]
  have HCC := Lib.hid hcc
  clear hcc
  have HZ := Lib.hid h.z
  have HIN := Lib.hid h
  have e0 : (c.k == 0) = false := by rw [hk]; rfl
  have e1 : (c.k == 1) = false := by rw [hk]; rfl
  have e2 : (c.k == 2) = false := by rw [hk]; rfl
  have e3 : (c.k == 3) = true := by rw [hk]; rfl
  have K0 := Lib.hid (fun V => umove_yes c.mv V h0)
  have K1 := Lib.hid (fun V => by have := Rg.refCheck_any c.f c.t V HZ.out.f HZ.out.t; rw [show okR c.f c.t = true from h1] at this; exact this : ∀ V, Calls Tryz.prog 134 #[.agg #[.string c.f, .string c.t]] V fun e w' => e = .returned (.int .i64 0) ∧ Below V.heap.size V w')
  clear h HZ hk h0 h1
  go_enter Tryz.func84, Tryz.ntmps84
  go_upto_region 1 with fail
  rw [← zero24 0]
  generalize ((w.alloc (.cells (cA c A n m) 36)).alloc (.cells (cA (zeroC 0) none 0 0) 36)) = w1 at I0 ⊢
  have x0 : w1.cell? ⟨w.heap.size, 0, none⟩ = some (.int .i64 c.k) := I0.out.2.1.cell 0
  have I1 := Lib.hid (UsI.new I0.out c.k)
  go_upto_region 2 with (refine wpList_store_row rfl 36 (.tmp 4) (.tmp 8) rfl _ (cA (zeroC c.k) none 0 0) rfl rfl 36 _ (heap_alloc_new _ _) (info24 _ _ _ _) rfl (all24 _ _ _ _) ?_; rw [World.setRow_alloc_new])
  clear x0 I0
  generalize w1.alloc (.cells (cA (zeroC c.k) none 0 0) 36) = w2 at I1 ⊢
  generalize w1.heap.size = O at I1 ⊢
  have x0 : w2.cell? ⟨w.heap.size, 0, none⟩ = some (.int .i64 c.k) := I1.out.wb.cell 0
  have x8 : w2.cell? ⟨w.heap.size, 8, none⟩ = some (.int .i64 c.mv) := I1.out.wb.cell 8
  have y8 : w2.cell? ⟨O, 8, none⟩ = some (.int .i64 0) := I1.out.wo.cell 8
  have f8 : w2.frozen? ⟨O, 8, none⟩ = false := I1.out.wo.fr 8
  have I2 := Lib.hid I1.out.put_mv
  go_upto_region 17 with fail
  clear x0 x8 y8 f8 I1
  generalize (w2.setCell ⟨O, 8, none⟩ (.int .i64 c.mv)) = w3 at I2 ⊢
  have x9 : w3.cell? ⟨w.heap.size, 9, none⟩ = some (.string c.f) := I2.out.wb.cell 9
  have y9 : w3.cell? ⟨O, 9, none⟩ = some (.string ⟨#[]⟩) := I2.out.wo.cell 9
  have f9 : w3.frozen? ⟨O, 9, none⟩ = false := I2.out.wo.fr 9
  have x10 : w3.cell? ⟨w.heap.size, 10, none⟩ = some (.string c.t) := I2.out.wb.cell 10
  have y10 : w3.cell? ⟨O, 10, none⟩ = some (.string ⟨#[]⟩) := I2.out.wo.cell 10
  have f10 : w3.frozen? ⟨O, 10, none⟩ = false := I2.out.wo.fr 10
  have I3 := Lib.hid I2.out.put_rng
  go_upto_region 18 with fail
  clear x9 y9 f9 x10 y10 f10 I2
  generalize ((w3.setCell ⟨O, 9, none⟩ (.string c.f)).setCell ⟨O, 10, none⟩ (.string c.t)) = w4 at I3 ⊢
  have IC : Hid (UsI w c A n m O cc none 0 0 w4) := Lib.hid (by have := I3.out; rw [← HCC.out] at this; exact this)
  clear I3
  have x8 : w4.cell? ⟨w.heap.size, 8, none⟩ = some (.int .i64 c.mv) := IC.out.wb.cell 8
  have x9 : w4.cell? ⟨w.heap.size, 9, none⟩ = some (.string c.f) := IC.out.wb.cell 9
  have x10 : w4.cell? ⟨w.heap.size, 10, none⟩ = some (.string c.t) := IC.out.wb.cell 10
  go_upto_region 44 with (first
    | (go_at_call 139; refine (K0.out _).mono ?_; rintro e v ⟨rfl, rfl⟩; clear K0)
    | (go_at_call 134; refine (K1.out _).mono ?_; rintro e wj ⟨rfl, hb⟩; have IJ := Lib.hid (IC.out.keep hb); clear hb K1; have z8 : wj.cell? ⟨w.heap.size, 8, none⟩ = some (.int .i64 c.mv) := IJ.out.wb.cell 8; have z9 : wj.cell? ⟨w.heap.size, 9, none⟩ = some (.string c.f) := IJ.out.wb.cell 9; have z10 : wj.cell? ⟨w.heap.size, 10, none⟩ = some (.string c.t) := IJ.out.wb.cell 10))
  go_wp2_with (first
    | (refine wpList_load_row rfl 36 (.tmp 4) rfl O rfl 36 (cA cc none 0 0) (0, 0) _ IJ.out.wo Tryz.underlying36 rfl (info24 _ _ _ _) ?_)
    | (refine wpList_store_row rfl 36 (.tmp 2) (.tmp 208) rfl (w.heap.size + 1) (cA cc none 0 0) rfl rfl 36 (cA (zeroC 0) none 0 0) IJ.out.wr (info24 _ _ _ _) rfl (all24 _ _ _ _) ?_))
  refine bodyPost_ret (results_row2 rfl _ _ (w.heap.size + 1) 36 (cA cc none 0 0) (0, 0) _ rfl (setRow_heap _ _ _ _ _ _ IJ.out.wr) Tryz.underlying36 rfl (info24 _ _ _ _) (.bool true) rfl) rfl ?_
  exact ⟨rfl, below_row IJ.out.bl (Nat.le_succ _) _⟩
set_option maxRecDepth 100000 in
set_option maxHeartbeats 4000000 in
theorem used_4_0 (c : Cv) (A : Option Addr) (n m : Nat) (w : World) (hk : c.k = 4) (h0 : ¬ (1 ≤ c.mv ∧ c.mv ≤ 64)) :
    Calls Tryz.prog 84 #[.agg (cA c A n m)] w fun e w' => e = .returned (.tuple #[.agg (cA (setF .data c (setF .rng c (setF .mv c (zeroC c.k)))) none 0 0), .bool false]) ∧ Below w.heap.size w w' := by
  have I0 := Lib.hid (us_start w c A n m)
  obtain ⟨cc, hcc⟩ : ∃ cc, cc = (setF .data c (setF .rng c (setF .mv c (zeroC c.k)))) := ⟨_, rfl⟩
  rw [← hcc]
  have HCC := Lib.hid hcc
  clear hcc
  have e0 : (c.k == 0) = false := by rw [hk]; rfl
  have e1 : (c.k == 1) = false := by rw [hk]; rfl
  have e2 : (c.k == 2) = false := by rw [hk]; rfl
  have e3 : (c.k == 3) = false := by rw [hk]; rfl
  have e4 : (c.k == 4) = true := by rw [hk]; rfl
  have K0 := Lib.hid (fun V => umove_no c.mv V h0)
  clear hk h0
  go_enter Tryz.func84, Tryz.ntmps84
  go_upto_region 1 with fail
  rw [← zero24 0]
  generalize ((w.alloc (.cells (cA c A n m) 36)).alloc (.cells (cA (zeroC 0) none 0 0) 36)) = w1 at I0 ⊢
  have x0 : w1.cell? ⟨w.heap.size, 0, none⟩ = some (.int .i64 c.k) := I0.out.2.1.cell 0
  have I1 := Lib.hid (UsI.new I0.out c.k)
  go_upto_region 2 with (refine wpList_store_row rfl 36 (.tmp 4) (.tmp 8) rfl _ (cA (zeroC c.k) none 0 0) rfl rfl 36 _ (heap_alloc_new _ _) (info24 _ _ _ _) rfl (all24 _ _ _ _) ?_; rw [World.setRow_alloc_new])
  clear x0 I0
  generalize w1.alloc (.cells (cA (zeroC c.k) none 0 0) 36) = w2 at I1 ⊢
  generalize w1.heap.size = O at I1 ⊢
  have x0 : w2.cell? ⟨w.heap.size, 0, none⟩ = some (.int .i64 c.k) := I1.out.wb.cell 0
  have x8 : w2.cell? ⟨w.heap.size, 8, none⟩ = some (.int .i64 c.mv) := I1.out.wb.cell 8
  have y8 : w2.cell? ⟨O, 8, none⟩ = some (.int .i64 0) := I1.out.wo.cell 8
  have f8 : w2.frozen? ⟨O, 8, none⟩ = false := I1.out.wo.fr 8
  have I2 := Lib.hid I1.out.put_mv
  go_upto_region 21 with fail
  clear x0 x8 y8 f8 I1
  generalize (w2.setCell ⟨O, 8, none⟩ (.int .i64 c.mv)) = w3 at I2 ⊢
  have x9 : w3.cell? ⟨w.heap.size, 9, none⟩ = some (.string c.f) := I2.out.wb.cell 9
  have y9 : w3.cell? ⟨O, 9, none⟩ = some (.string ⟨#[]⟩) := I2.out.wo.cell 9
  have f9 : w3.frozen? ⟨O, 9, none⟩ = false := I2.out.wo.fr 9
  have x10 : w3.cell? ⟨w.heap.size, 10, none⟩ = some (.string c.t) := I2.out.wb.cell 10
  have y10 : w3.cell? ⟨O, 10, none⟩ = some (.string ⟨#[]⟩) := I2.out.wo.cell 10
  have f10 : w3.frozen? ⟨O, 10, none⟩ = false := I2.out.wo.fr 10
  have I3 := Lib.hid I2.out.put_rng
  go_upto_region 22 with fail
  clear x9 y9 f9 x10 y10 f10 I2
  generalize ((w3.setCell ⟨O, 9, none⟩ (.string c.f)).setCell ⟨O, 10, none⟩ (.string c.t)) = w4 at I3 ⊢
  have x23 : w4.cell? ⟨w.heap.size, 23, none⟩ = some (.string c.data) := I3.out.wb.cell 23
  have y23 : w4.cell? ⟨O, 23, none⟩ = some (.string ⟨#[]⟩) := I3.out.wo.cell 23
  have f23 : w4.frozen? ⟨O, 23, none⟩ = false := I3.out.wo.fr 23
  have I4 := Lib.hid I3.out.put_data
  go_upto_region 23 with fail
  clear x23 y23 f23 I3
  generalize (w4.setCell ⟨O, 23, none⟩ (.string c.data)) = w5 at I4 ⊢
  have IC : Hid (UsI w c A n m O cc none 0 0 w5) := Lib.hid (by have := I4.out; rw [← HCC.out] at this; exact this)
  clear I4
  have x8 : w5.cell? ⟨w.heap.size, 8, none⟩ = some (.int .i64 c.mv) := IC.out.wb.cell 8
  go_upto_region 44 with (go_at_call 139; refine (K0.out _).mono ?_; rintro e v ⟨rfl, rfl⟩; clear K0)
  go_wp2_with (first
    | (refine wpList_load_row rfl 36 (.tmp 4) rfl O rfl 36 (cA cc none 0 0) (0, 0) _ IC.out.wo Tryz.underlying36 rfl (info24 _ _ _ _) ?_)
    | (refine wpList_store_row rfl 36 (.tmp 2) (.tmp 208) rfl (w.heap.size + 1) (cA cc none 0 0) rfl rfl 36 (cA (zeroC 0) none 0 0) IC.out.wr (info24 _ _ _ _) rfl (all24 _ _ _ _) ?_))
  refine bodyPost_ret (results_row2 rfl _ _ (w.heap.size + 1) 36 (cA cc none 0 0) (0, 0) _ rfl (setRow_heap _ _ _ _ _ _ IC.out.wr) Tryz.underlying36 rfl (info24 _ _ _ _) (.bool false) rfl) rfl ?_
  exact ⟨rfl, below_row IC.out.bl (Nat.le_succ _) _⟩
set_option maxRecDepth 100000 in
set_option maxHeartbeats 4000000 in
theorem used_4_1 (c : Cv) (A : Option Addr) (n m : Nat) (w : World) (h : CmdIn w c A n m) (hk : c.k = 4) (h0 : 1 ≤ c.mv ∧ c.mv ≤ 64) (h1 : ¬ (okR c.f c.t = true)) :
    Calls Tryz.prog 84 #[.agg (cA c A n m)] w fun e w' => e = .returned (.tuple #[.agg (cA (setF .data c (setF .rng c (setF .mv c (zeroC c.k)))) none 0 0), .bool false]) ∧ Below w.heap.size w w' := by
  have I0 := Lib.hid (us_start w c A n m)
  obtain ⟨cc, hcc⟩ : ∃ cc, cc = (setF .data c (setF .rng c (setF .mv c (zeroC c.k)))) := ⟨_, rfl⟩
  rw [← hcc]
  have HCC := Lib.hid hcc
  clear hcc
  have HZ := Lib.hid h.z
  have HIN := Lib.hid h
  have e0 : (c.k == 0) = false := by rw [hk]; rfl
  have e1 : (c.k == 1) = false := by rw [hk]; rfl
  have e2 : (c.k == 2) = false := by rw [hk]; rfl
  have e3 : (c.k == 3) = false := by rw [hk]; rfl
  have e4 : (c.k == 4) = true := by rw [hk]; rfl
  have K0 := Lib.hid (fun V => umove_yes c.mv V h0)
  have K1 := Lib.hid (fun V => by have := Rg.refCheck_any c.f c.t V HZ.out.f HZ.out.t; rw [show okR c.f c.t = false from Bool.eq_false_iff.2 h1] at this; exact this : ∀ V, Calls Tryz.prog 134 #[.agg #[.string c.f, .string c.t]] V fun e w' => e = .returned (.int .i64 2) ∧ Below V.heap.size V w')
  clear h HZ hk h0 h1
  go_enter Tryz.func84, Tryz.ntmps84
  go_upto_region 1 with fail
  rw [← zero24 0]
  generalize ((w.alloc (.cells (cA c A n m) 36)).alloc (.cells (cA (zeroC 0) none 0 0) 36)) = w1 at I0 ⊢
  have x0 : w1.cell? ⟨w.heap.size, 0, none⟩ = some (.int .i64 c.k) := I0.out.2.1.cell 0
  have I1 := Lib.hid (UsI.new I0.out c.k)
  go_upto_region 2 with (refine wpList_store_row rfl 36 (.tmp 4) (.tmp 8) rfl _ (cA (zeroC c.k) none 0 0) rfl rfl 36 _ (heap_alloc_new _ _) (info24 _ _ _ _) rfl (all24 _ _ _ _) ?_; rw [World.setRow_alloc_new])
  clear x0 I0
  generalize w1.alloc (.cells (cA (zeroC c.k) none 0 0) 36) = w2 at I1 ⊢
  generalize w1.heap.size = O at I1 ⊢
  have x0 : w2.cell? ⟨w.heap.size, 0, none⟩ = some (.int .i64 c.k) := I1.out.wb.cell 0
  have x8 : w2.cell? ⟨w.heap.size, 8, none⟩ = some (.int .i64 c.mv) := I1.out.wb.cell 8
  have y8 : w2.cell? ⟨O, 8, none⟩ = some (.int .i64 0) := I1.out.wo.cell 8
  have f8 : w2.frozen? ⟨O, 8, none⟩ = false := I1.out.wo.fr 8
  have I2 := Lib.hid I1.out.put_mv
  go_upto_region 21 with fail
  clear x0 x8 y8 f8 I1
  generalize (w2.setCell ⟨O, 8, none⟩ (.int .i64 c.mv)) = w3 at I2 ⊢
  have x9 : w3.cell? ⟨w.heap.size, 9, none⟩ = some (.string c.f) := I2.out.wb.cell 9
  have y9 : w3.cell? ⟨O, 9, none⟩ = some (.string ⟨#[]⟩) := I2.out.wo.cell 9
  have f9 : w3.frozen? ⟨O, 9, none⟩ = false := I2.out.wo.fr 9
  have x10 : w3.cell? ⟨w.heap.size, 10, none⟩ = some (.string c.t) := I2.out.wb.cell 10
  have y10 : w3.cell? ⟨O, 10, none⟩ = some (.string ⟨#[]⟩) := I2.out.wo.cell 10
  have f10 : w3.frozen? ⟨O, 10, none⟩ = false := I2.out.wo.fr 10
  have I3 := Lib.hid I2.out.put_rng
  go_upto_region 22 with fail
  clear x9 y9 f9 x10 y10 f10 I2
  generalize ((w3.setCell ⟨O, 9, none⟩ (.string c.f)).setCell ⟨O, 10, none⟩ (.string c.t)) = w4 at I3 ⊢
  have x23 : w4.cell? ⟨w.heap.size, 23, none⟩ = some (.string c.data) := I3.out.wb.cell 23
  have y23 : w4.cell? ⟨O, 23, none⟩ = some (.string ⟨#[]⟩) := I3.out.wo.cell 23
  have f23 : w4.frozen? ⟨O, 23, none⟩ = false := I3.out.wo.fr 23
  have I4 := Lib.hid I3.out.put_data
  go_upto_region 23 with fail
  clear x23 y23 f23 I3
  generalize (w4.setCell ⟨O, 23, none⟩ (.string c.data)) = w5 at I4 ⊢
  have IC : Hid (UsI w c A n m O cc none 0 0 w5) := Lib.hid (by have := I4.out; rw [← HCC.out] at this; exact this)
  clear I4
  have x8 : w5.cell? ⟨w.heap.size, 8, none⟩ = some (.int .i64 c.mv) := IC.out.wb.cell 8
  have x9 : w5.cell? ⟨w.heap.size, 9, none⟩ = some (.string c.f) := IC.out.wb.cell 9
  have x10 : w5.cell? ⟨w.heap.size, 10, none⟩ = some (.string c.t) := IC.out.wb.cell 10
  go_upto_region 44 with (first
    | (go_at_call 139; refine (K0.out _).mono ?_; rintro e v ⟨rfl, rfl⟩; clear K0)
    | (go_at_call 134; refine (K1.out _).mono ?_; rintro e wj ⟨rfl, hb⟩; have IJ := Lib.hid (IC.out.keep hb); clear hb K1; have z8 : wj.cell? ⟨w.heap.size, 8, none⟩ = some (.int .i64 c.mv) := IJ.out.wb.cell 8; have z9 : wj.cell? ⟨w.heap.size, 9, none⟩ = some (.string c.f) := IJ.out.wb.cell 9; have z10 : wj.cell? ⟨w.heap.size, 10, none⟩ = some (.string c.t) := IJ.out.wb.cell 10))
  go_wp2_with (first
    | (refine wpList_load_row rfl 36 (.tmp 4) rfl O rfl 36 (cA cc none 0 0) (0, 0) _ IJ.out.wo Tryz.underlying36 rfl (info24 _ _ _ _) ?_)
    | (refine wpList_store_row rfl 36 (.tmp 2) (.tmp 208) rfl (w.heap.size + 1) (cA cc none 0 0) rfl rfl 36 (cA (zeroC 0) none 0 0) IJ.out.wr (info24 _ _ _ _) rfl (all24 _ _ _ _) ?_))
  refine bodyPost_ret (results_row2 rfl _ _ (w.heap.size + 1) 36 (cA cc none 0 0) (0, 0) _ rfl (setRow_heap _ _ _ _ _ _ IJ.out.wr) Tryz.underlying36 rfl (info24 _ _ _ _) (.bool false) rfl) rfl ?_
  exact ⟨rfl, below_row IJ.out.bl (Nat.le_succ _) _⟩
set_option maxRecDepth 100000 in
set_option maxHeartbeats 4000000 in
theorem used_4_2 (c : Cv) (A : Option Addr) (n m : Nat) (w : World) (h : CmdIn w c A n m) (hk : c.k = 4) (h0 : 1 ≤ c.mv ∧ c.mv ≤ 64) (h1 : okR c.f c.t = true) (h2 : ¬ (c.data.size ≤ 65536)) :
    Calls Tryz.prog 84 #[.agg (cA c A n m)] w fun e w' => e = .returned (.tuple #[.agg (cA (setF .data c (setF .rng c (setF .mv c (zeroC c.k)))) none 0 0), .bool false]) ∧ Below w.heap.size w w' := by
  have I0 := Lib.hid (us_start w c A n m)
  obtain ⟨cc, hcc⟩ : ∃ cc, cc = (setF .data c (setF .rng c (setF .mv c (zeroC c.k)))) := ⟨_, rfl⟩
  rw [← hcc]
  have HCC := Lib.hid hcc
  clear hcc
  have HZ := Lib.hid h.z
  have HIN := Lib.hid h
  have e0 : (c.k == 0) = false := by rw [hk]; rfl
  have e1 : (c.k == 1) = false := by rw [hk]; rfl
  have e2 : (c.k == 2) = false := by rw [hk]; rfl
  have e3 : (c.k == 3) = false := by rw [hk]; rfl
  have e4 : (c.k == 4) = true := by rw [hk]; rfl
  have K0 := Lib.hid (fun V => umove_yes c.mv V h0)
  have K1 := Lib.hid (fun V => by have := Rg.refCheck_any c.f c.t V HZ.out.f HZ.out.t; rw [show okR c.f c.t = true from h1] at this; exact this : ∀ V, Calls Tryz.prog 134 #[.agg #[.string c.f, .string c.t]] V fun e w' => e = .returned (.int .i64 0) ∧ Below V.heap.size V w')
  have K2 := Lib.hid (fun V => udata_no c.data V h2)
  clear h HZ hk h0 h1 h2
  go_enter Tryz.func84, Tryz.ntmps84
  go_upto_region 1 with fail
  rw [← zero24 0]
  generalize ((w.alloc (.cells (cA c A n m) 36)).alloc (.cells (cA (zeroC 0) none 0 0) 36)) = w1 at I0 ⊢
  have x0 : w1.cell? ⟨w.heap.size, 0, none⟩ = some (.int .i64 c.k) := I0.out.2.1.cell 0
  have I1 := Lib.hid (UsI.new I0.out c.k)
  go_upto_region 2 with (refine wpList_store_row rfl 36 (.tmp 4) (.tmp 8) rfl _ (cA (zeroC c.k) none 0 0) rfl rfl 36 _ (heap_alloc_new _ _) (info24 _ _ _ _) rfl (all24 _ _ _ _) ?_; rw [World.setRow_alloc_new])
  clear x0 I0
  generalize w1.alloc (.cells (cA (zeroC c.k) none 0 0) 36) = w2 at I1 ⊢
  generalize w1.heap.size = O at I1 ⊢
  have x0 : w2.cell? ⟨w.heap.size, 0, none⟩ = some (.int .i64 c.k) := I1.out.wb.cell 0
  have x8 : w2.cell? ⟨w.heap.size, 8, none⟩ = some (.int .i64 c.mv) := I1.out.wb.cell 8
  have y8 : w2.cell? ⟨O, 8, none⟩ = some (.int .i64 0) := I1.out.wo.cell 8
  have f8 : w2.frozen? ⟨O, 8, none⟩ = false := I1.out.wo.fr 8
  have I2 := Lib.hid I1.out.put_mv
  go_upto_region 21 with fail
  clear x0 x8 y8 f8 I1
  generalize (w2.setCell ⟨O, 8, none⟩ (.int .i64 c.mv)) = w3 at I2 ⊢
  have x9 : w3.cell? ⟨w.heap.size, 9, none⟩ = some (.string c.f) := I2.out.wb.cell 9
  have y9 : w3.cell? ⟨O, 9, none⟩ = some (.string ⟨#[]⟩) := I2.out.wo.cell 9
  have f9 : w3.frozen? ⟨O, 9, none⟩ = false := I2.out.wo.fr 9
  have x10 : w3.cell? ⟨w.heap.size, 10, none⟩ = some (.string c.t) := I2.out.wb.cell 10
  have y10 : w3.cell? ⟨O, 10, none⟩ = some (.string ⟨#[]⟩) := I2.out.wo.cell 10
  have f10 : w3.frozen? ⟨O, 10, none⟩ = false := I2.out.wo.fr 10
  have I3 := Lib.hid I2.out.put_rng
  go_upto_region 22 with fail
  clear x9 y9 f9 x10 y10 f10 I2
  generalize ((w3.setCell ⟨O, 9, none⟩ (.string c.f)).setCell ⟨O, 10, none⟩ (.string c.t)) = w4 at I3 ⊢
  have x23 : w4.cell? ⟨w.heap.size, 23, none⟩ = some (.string c.data) := I3.out.wb.cell 23
  have y23 : w4.cell? ⟨O, 23, none⟩ = some (.string ⟨#[]⟩) := I3.out.wo.cell 23
  have f23 : w4.frozen? ⟨O, 23, none⟩ = false := I3.out.wo.fr 23
  have I4 := Lib.hid I3.out.put_data
  go_upto_region 23 with fail
  clear x23 y23 f23 I3
  generalize (w4.setCell ⟨O, 23, none⟩ (.string c.data)) = w5 at I4 ⊢
  have IC : Hid (UsI w c A n m O cc none 0 0 w5) := Lib.hid (by have := I4.out; rw [← HCC.out] at this; exact this)
  clear I4
  have x8 : w5.cell? ⟨w.heap.size, 8, none⟩ = some (.int .i64 c.mv) := IC.out.wb.cell 8
  have x9 : w5.cell? ⟨w.heap.size, 9, none⟩ = some (.string c.f) := IC.out.wb.cell 9
  have x10 : w5.cell? ⟨w.heap.size, 10, none⟩ = some (.string c.t) := IC.out.wb.cell 10
  have x23 : w5.cell? ⟨w.heap.size, 23, none⟩ = some (.string c.data) := IC.out.wb.cell 23
  go_upto_region 44 with (first
    | (go_at_call 139; refine (K0.out _).mono ?_; rintro e v ⟨rfl, rfl⟩; clear K0)
    | (go_at_call 134; refine (K1.out _).mono ?_; rintro e wj ⟨rfl, hb⟩; have IJ := Lib.hid (IC.out.keep hb); clear hb K1; have z8 : wj.cell? ⟨w.heap.size, 8, none⟩ = some (.int .i64 c.mv) := IJ.out.wb.cell 8; have z9 : wj.cell? ⟨w.heap.size, 9, none⟩ = some (.string c.f) := IJ.out.wb.cell 9; have z10 : wj.cell? ⟨w.heap.size, 10, none⟩ = some (.string c.t) := IJ.out.wb.cell 10; have z23 : wj.cell? ⟨w.heap.size, 23, none⟩ = some (.string c.data) := IJ.out.wb.cell 23)
    | (go_at_call 140; refine (K2.out _).mono ?_; rintro e v ⟨rfl, rfl⟩; clear K2))
  go_wp2_with (first
    | (refine wpList_load_row rfl 36 (.tmp 4) rfl O rfl 36 (cA cc none 0 0) (0, 0) _ IJ.out.wo Tryz.underlying36 rfl (info24 _ _ _ _) ?_)
    | (refine wpList_store_row rfl 36 (.tmp 2) (.tmp 208) rfl (w.heap.size + 1) (cA cc none 0 0) rfl rfl 36 (cA (zeroC 0) none 0 0) IJ.out.wr (info24 _ _ _ _) rfl (all24 _ _ _ _) ?_))
  refine bodyPost_ret (results_row2 rfl _ _ (w.heap.size + 1) 36 (cA cc none 0 0) (0, 0) _ rfl (setRow_heap _ _ _ _ _ _ IJ.out.wr) Tryz.underlying36 rfl (info24 _ _ _ _) (.bool false) rfl) rfl ?_
  exact ⟨rfl, below_row IJ.out.bl (Nat.le_succ _) _⟩
set_option maxRecDepth 100000 in
set_option maxHeartbeats 4000000 in
theorem used_4_3 (c : Cv) (A : Option Addr) (n m : Nat) (w : World) (h : CmdIn w c A n m) (hk : c.k = 4) (h0 : 1 ≤ c.mv ∧ c.mv ≤ 64) (h1 : okR c.f c.t = true) (h2 : c.data.size ≤ 65536) :
    Calls Tryz.prog 84 #[.agg (cA c A n m)] w fun e w' => e = .returned (.tuple #[.agg (cA (setF .data c (setF .rng c (setF .mv c (zeroC c.k)))) none 0 0), .bool true]) ∧ Below w.heap.size w w' := by
  have I0 := Lib.hid (us_start w c A n m)
  obtain ⟨cc, hcc⟩ : ∃ cc, cc = (setF .data c (setF .rng c (setF .mv c (zeroC c.k)))) := ⟨_, rfl⟩
  rw [← hcc]
  have HCC := Lib.hid hcc
  clear hcc
  have HZ := Lib.hid h.z
  have HIN := Lib.hid h
  have e0 : (c.k == 0) = false := by rw [hk]; rfl
  have e1 : (c.k == 1) = false := by rw [hk]; rfl
  have e2 : (c.k == 2) = false := by rw [hk]; rfl
  have e3 : (c.k == 3) = false := by rw [hk]; rfl
  have e4 : (c.k == 4) = true := by rw [hk]; rfl
  have K0 := Lib.hid (fun V => umove_yes c.mv V h0)
  have K1 := Lib.hid (fun V => by have := Rg.refCheck_any c.f c.t V HZ.out.f HZ.out.t; rw [show okR c.f c.t = true from h1] at this; exact this : ∀ V, Calls Tryz.prog 134 #[.agg #[.string c.f, .string c.t]] V fun e w' => e = .returned (.int .i64 0) ∧ Below V.heap.size V w')
  have K2 := Lib.hid (fun V => udata_yes c.data V h2)
  clear h HZ hk h0 h1 h2
  go_enter Tryz.func84, Tryz.ntmps84
  go_upto_region 1 with fail
  rw [← zero24 0]
  generalize ((w.alloc (.cells (cA c A n m) 36)).alloc (.cells (cA (zeroC 0) none 0 0) 36)) = w1 at I0 ⊢
  have x0 : w1.cell? ⟨w.heap.size, 0, none⟩ = some (.int .i64 c.k) := I0.out.2.1.cell 0
  have I1 := Lib.hid (UsI.new I0.out c.k)
  go_upto_region 2 with (refine wpList_store_row rfl 36 (.tmp 4) (.tmp 8) rfl _ (cA (zeroC c.k) none 0 0) rfl rfl 36 _ (heap_alloc_new _ _) (info24 _ _ _ _) rfl (all24 _ _ _ _) ?_; rw [World.setRow_alloc_new])
  clear x0 I0
  generalize w1.alloc (.cells (cA (zeroC c.k) none 0 0) 36) = w2 at I1 ⊢
  generalize w1.heap.size = O at I1 ⊢
  have x0 : w2.cell? ⟨w.heap.size, 0, none⟩ = some (.int .i64 c.k) := I1.out.wb.cell 0
  have x8 : w2.cell? ⟨w.heap.size, 8, none⟩ = some (.int .i64 c.mv) := I1.out.wb.cell 8
  have y8 : w2.cell? ⟨O, 8, none⟩ = some (.int .i64 0) := I1.out.wo.cell 8
  have f8 : w2.frozen? ⟨O, 8, none⟩ = false := I1.out.wo.fr 8
  have I2 := Lib.hid I1.out.put_mv
  go_upto_region 21 with fail
  clear x0 x8 y8 f8 I1
  generalize (w2.setCell ⟨O, 8, none⟩ (.int .i64 c.mv)) = w3 at I2 ⊢
  have x9 : w3.cell? ⟨w.heap.size, 9, none⟩ = some (.string c.f) := I2.out.wb.cell 9
  have y9 : w3.cell? ⟨O, 9, none⟩ = some (.string ⟨#[]⟩) := I2.out.wo.cell 9
  have f9 : w3.frozen? ⟨O, 9, none⟩ = false := I2.out.wo.fr 9
  have x10 : w3.cell? ⟨w.heap.size, 10, none⟩ = some (.string c.t) := I2.out.wb.cell 10
  have y10 : w3.cell? ⟨O, 10, none⟩ = some (.string ⟨#[]⟩) := I2.out.wo.cell 10
  have f10 : w3.frozen? ⟨O, 10, none⟩ = false := I2.out.wo.fr 10
  have I3 := Lib.hid I2.out.put_rng
  go_upto_region 22 with fail
  clear x9 y9 f9 x10 y10 f10 I2
  generalize ((w3.setCell ⟨O, 9, none⟩ (.string c.f)).setCell ⟨O, 10, none⟩ (.string c.t)) = w4 at I3 ⊢
  have x23 : w4.cell? ⟨w.heap.size, 23, none⟩ = some (.string c.data) := I3.out.wb.cell 23
  have y23 : w4.cell? ⟨O, 23, none⟩ = some (.string ⟨#[]⟩) := I3.out.wo.cell 23
  have f23 : w4.frozen? ⟨O, 23, none⟩ = false := I3.out.wo.fr 23
  have I4 := Lib.hid I3.out.put_data
  go_upto_region 23 with fail
  clear x23 y23 f23 I3
  generalize (w4.setCell ⟨O, 23, none⟩ (.string c.data)) = w5 at I4 ⊢
  have IC : Hid (UsI w c A n m O cc none 0 0 w5) := Lib.hid (by have := I4.out; rw [← HCC.out] at this; exact this)
  clear I4
  have x8 : w5.cell? ⟨w.heap.size, 8, none⟩ = some (.int .i64 c.mv) := IC.out.wb.cell 8
  have x9 : w5.cell? ⟨w.heap.size, 9, none⟩ = some (.string c.f) := IC.out.wb.cell 9
  have x10 : w5.cell? ⟨w.heap.size, 10, none⟩ = some (.string c.t) := IC.out.wb.cell 10
  have x23 : w5.cell? ⟨w.heap.size, 23, none⟩ = some (.string c.data) := IC.out.wb.cell 23
  go_upto_region 44 with (first
    | (go_at_call 139; refine (K0.out _).mono ?_; rintro e v ⟨rfl, rfl⟩; clear K0)
    | (go_at_call 134; refine (K1.out _).mono ?_; rintro e wj ⟨rfl, hb⟩; have IJ := Lib.hid (IC.out.keep hb); clear hb K1; have z8 : wj.cell? ⟨w.heap.size, 8, none⟩ = some (.int .i64 c.mv) := IJ.out.wb.cell 8; have z9 : wj.cell? ⟨w.heap.size, 9, none⟩ = some (.string c.f) := IJ.out.wb.cell 9; have z10 : wj.cell? ⟨w.heap.size, 10, none⟩ = some (.string c.t) := IJ.out.wb.cell 10; have z23 : wj.cell? ⟨w.heap.size, 23, none⟩ = some (.string c.data) := IJ.out.wb.cell 23)
    | (go_at_call 140; refine (K2.out _).mono ?_; rintro e v ⟨rfl, rfl⟩; clear K2))
  go_wp2_with (first
    | (refine wpList_load_row rfl 36 (.tmp 4) rfl O rfl 36 (cA cc none 0 0) (0, 0) _ IJ.out.wo Tryz.underlying36 rfl (info24 _ _ _ _) ?_)
    | (refine wpList_store_row rfl 36 (.tmp 2) (.tmp 208) rfl (w.heap.size + 1) (cA cc none 0 0) rfl rfl 36 (cA (zeroC 0) none 0 0) IJ.out.wr (info24 _ _ _ _) rfl (all24 _ _ _ _) ?_))
  refine bodyPost_ret (results_row2 rfl _ _ (w.heap.size + 1) 36 (cA cc none 0 0) (0, 0) _ rfl (setRow_heap _ _ _ _ _ _ IJ.out.wr) Tryz.underlying36 rfl (info24 _ _ _ _) (.bool true) rfl) rfl ?_
  exact ⟨rfl, below_row IJ.out.bl (Nat.le_succ _) _⟩
set_option maxRecDepth 100000 in
set_option maxHeartbeats 4000000 in
theorem used_12_0 (c : Cv) (A : Option Addr) (n m : Nat) (w : World) (hk : c.k = 12) (h0 : ¬ (0 ≤ c.call ∧ c.call ≤ 2147483648)) :
    Calls Tryz.prog 84 #[.agg (cA c A n m)] w fun e w' => e = .returned (.tuple #[.agg (cA (setF .saga c (setF .call c (zeroC c.k))) none 0 0), .bool false]) ∧ Below w.heap.size w w' := by
  have I0 := Lib.hid (us_start w c A n m)
  obtain ⟨cc, hcc⟩ : ∃ cc, cc = (setF .saga c (setF .call c (zeroC c.k))) := ⟨_, rfl⟩
  rw [← hcc]
  have HCC := Lib.hid hcc
  clear hcc
  have e0 : (c.k == 0) = false := by rw [hk]; rfl
  have e1 : (c.k == 1) = false := by rw [hk]; rfl
  have e2 : (c.k == 2) = false := by rw [hk]; rfl
  have e3 : (c.k == 3) = false := by rw [hk]; rfl
  have e4 : (c.k == 4) = false := by rw [hk]; rfl
  have e11 : (c.k == 11) = false := by rw [hk]; rfl
  have e12 : (c.k == 12) = true := by rw [hk]; rfl
  have K0 := Lib.hid (fun V => ucall_no c.call V h0)
  clear hk h0
  go_enter Tryz.func84, Tryz.ntmps84
  go_upto_region 1 with fail
  rw [← zero24 0]
  generalize ((w.alloc (.cells (cA c A n m) 36)).alloc (.cells (cA (zeroC 0) none 0 0) 36)) = w1 at I0 ⊢
  have x0 : w1.cell? ⟨w.heap.size, 0, none⟩ = some (.int .i64 c.k) := I0.out.2.1.cell 0
  have I1 := Lib.hid (UsI.new I0.out c.k)
  go_upto_region 2 with (refine wpList_store_row rfl 36 (.tmp 4) (.tmp 8) rfl _ (cA (zeroC c.k) none 0 0) rfl rfl 36 _ (heap_alloc_new _ _) (info24 _ _ _ _) rfl (all24 _ _ _ _) ?_; rw [World.setRow_alloc_new])
  clear x0 I0
  generalize w1.alloc (.cells (cA (zeroC c.k) none 0 0) 36) = w2 at I1 ⊢
  generalize w1.heap.size = O at I1 ⊢
  have x0 : w2.cell? ⟨w.heap.size, 0, none⟩ = some (.int .i64 c.k) := I1.out.wb.cell 0
  have x1 : w2.cell? ⟨w.heap.size, 1, none⟩ = some (.int .i64 c.call) := I1.out.wb.cell 1
  have y1 : w2.cell? ⟨O, 1, none⟩ = some (.int .i64 0) := I1.out.wo.cell 1
  have f1 : w2.frozen? ⟨O, 1, none⟩ = false := I1.out.wo.fr 1
  have I2 := Lib.hid I1.out.put_call
  go_upto_region 32 with fail
  clear x0 x1 y1 f1 I1
  generalize (w2.setCell ⟨O, 1, none⟩ (.int .i64 c.call)) = w3 at I2 ⊢
  have x2 : w3.cell? ⟨w.heap.size, 2, none⟩ = some (.int .i64 c.saga) := I2.out.wb.cell 2
  have y2 : w3.cell? ⟨O, 2, none⟩ = some (.int .i64 0) := I2.out.wo.cell 2
  have f2 : w3.frozen? ⟨O, 2, none⟩ = false := I2.out.wo.fr 2
  have I3 := Lib.hid I2.out.put_saga
  go_upto_region 33 with fail
  clear x2 y2 f2 I2
  generalize (w3.setCell ⟨O, 2, none⟩ (.int .i64 c.saga)) = w4 at I3 ⊢
  have IC : Hid (UsI w c A n m O cc none 0 0 w4) := Lib.hid (by have := I3.out; rw [← HCC.out] at this; exact this)
  clear I3
  have x1 : w4.cell? ⟨w.heap.size, 1, none⟩ = some (.int .i64 c.call) := IC.out.wb.cell 1
  go_upto_region 44 with (go_at_call 138; refine (K0.out _).mono ?_; rintro e v ⟨rfl, rfl⟩; clear K0)
  go_wp2_with (first
    | (refine wpList_load_row rfl 36 (.tmp 4) rfl O rfl 36 (cA cc none 0 0) (0, 0) _ IC.out.wo Tryz.underlying36 rfl (info24 _ _ _ _) ?_)
    | (refine wpList_store_row rfl 36 (.tmp 2) (.tmp 208) rfl (w.heap.size + 1) (cA cc none 0 0) rfl rfl 36 (cA (zeroC 0) none 0 0) IC.out.wr (info24 _ _ _ _) rfl (all24 _ _ _ _) ?_))
  refine bodyPost_ret (results_row2 rfl _ _ (w.heap.size + 1) 36 (cA cc none 0 0) (0, 0) _ rfl (setRow_heap _ _ _ _ _ _ IC.out.wr) Tryz.underlying36 rfl (info24 _ _ _ _) (.bool false) rfl) rfl ?_
  exact ⟨rfl, below_row IC.out.bl (Nat.le_succ _) _⟩
set_option maxRecDepth 100000 in
set_option maxHeartbeats 4000000 in
theorem used_12_1 (c : Cv) (A : Option Addr) (n m : Nat) (w : World) (hk : c.k = 12) (h0 : 0 ≤ c.call ∧ c.call ≤ 2147483648) (h1 : ¬ (1 ≤ c.saga ∧ c.saga ≤ 9999)) :
    Calls Tryz.prog 84 #[.agg (cA c A n m)] w fun e w' => e = .returned (.tuple #[.agg (cA (setF .saga c (setF .call c (zeroC c.k))) none 0 0), .bool false]) ∧ Below w.heap.size w w' := by
  have I0 := Lib.hid (us_start w c A n m)
  obtain ⟨cc, hcc⟩ : ∃ cc, cc = (setF .saga c (setF .call c (zeroC c.k))) := ⟨_, rfl⟩
  rw [← hcc]
  have HCC := Lib.hid hcc
  clear hcc
  have e0 : (c.k == 0) = false := by rw [hk]; rfl
  have e1 : (c.k == 1) = false := by rw [hk]; rfl
  have e2 : (c.k == 2) = false := by rw [hk]; rfl
  have e3 : (c.k == 3) = false := by rw [hk]; rfl
  have e4 : (c.k == 4) = false := by rw [hk]; rfl
  have e11 : (c.k == 11) = false := by rw [hk]; rfl
  have e12 : (c.k == 12) = true := by rw [hk]; rfl
  have K0 := Lib.hid (fun V => ucall_yes c.call V h0)
  have K1 := Lib.hid (fun V => usaga_no c.saga V h1)
  clear hk h0 h1
  go_enter Tryz.func84, Tryz.ntmps84
  go_upto_region 1 with fail
  rw [← zero24 0]
  generalize ((w.alloc (.cells (cA c A n m) 36)).alloc (.cells (cA (zeroC 0) none 0 0) 36)) = w1 at I0 ⊢
  have x0 : w1.cell? ⟨w.heap.size, 0, none⟩ = some (.int .i64 c.k) := I0.out.2.1.cell 0
  have I1 := Lib.hid (UsI.new I0.out c.k)
  go_upto_region 2 with (refine wpList_store_row rfl 36 (.tmp 4) (.tmp 8) rfl _ (cA (zeroC c.k) none 0 0) rfl rfl 36 _ (heap_alloc_new _ _) (info24 _ _ _ _) rfl (all24 _ _ _ _) ?_; rw [World.setRow_alloc_new])
  clear x0 I0
  generalize w1.alloc (.cells (cA (zeroC c.k) none 0 0) 36) = w2 at I1 ⊢
  generalize w1.heap.size = O at I1 ⊢
  have x0 : w2.cell? ⟨w.heap.size, 0, none⟩ = some (.int .i64 c.k) := I1.out.wb.cell 0
  have x1 : w2.cell? ⟨w.heap.size, 1, none⟩ = some (.int .i64 c.call) := I1.out.wb.cell 1
  have y1 : w2.cell? ⟨O, 1, none⟩ = some (.int .i64 0) := I1.out.wo.cell 1
  have f1 : w2.frozen? ⟨O, 1, none⟩ = false := I1.out.wo.fr 1
  have I2 := Lib.hid I1.out.put_call
  go_upto_region 32 with fail
  clear x0 x1 y1 f1 I1
  generalize (w2.setCell ⟨O, 1, none⟩ (.int .i64 c.call)) = w3 at I2 ⊢
  have x2 : w3.cell? ⟨w.heap.size, 2, none⟩ = some (.int .i64 c.saga) := I2.out.wb.cell 2
  have y2 : w3.cell? ⟨O, 2, none⟩ = some (.int .i64 0) := I2.out.wo.cell 2
  have f2 : w3.frozen? ⟨O, 2, none⟩ = false := I2.out.wo.fr 2
  have I3 := Lib.hid I2.out.put_saga
  go_upto_region 33 with fail
  clear x2 y2 f2 I2
  generalize (w3.setCell ⟨O, 2, none⟩ (.int .i64 c.saga)) = w4 at I3 ⊢
  have IC : Hid (UsI w c A n m O cc none 0 0 w4) := Lib.hid (by have := I3.out; rw [← HCC.out] at this; exact this)
  clear I3
  have x1 : w4.cell? ⟨w.heap.size, 1, none⟩ = some (.int .i64 c.call) := IC.out.wb.cell 1
  have x2 : w4.cell? ⟨w.heap.size, 2, none⟩ = some (.int .i64 c.saga) := IC.out.wb.cell 2
  go_upto_region 44 with (first
    | (go_at_call 138; refine (K0.out _).mono ?_; rintro e v ⟨rfl, rfl⟩; clear K0)
    | (go_at_call 141; refine (K1.out _).mono ?_; rintro e v ⟨rfl, rfl⟩; clear K1))
  go_wp2_with (first
    | (refine wpList_load_row rfl 36 (.tmp 4) rfl O rfl 36 (cA cc none 0 0) (0, 0) _ IC.out.wo Tryz.underlying36 rfl (info24 _ _ _ _) ?_)
    | (refine wpList_store_row rfl 36 (.tmp 2) (.tmp 208) rfl (w.heap.size + 1) (cA cc none 0 0) rfl rfl 36 (cA (zeroC 0) none 0 0) IC.out.wr (info24 _ _ _ _) rfl (all24 _ _ _ _) ?_))
  refine bodyPost_ret (results_row2 rfl _ _ (w.heap.size + 1) 36 (cA cc none 0 0) (0, 0) _ rfl (setRow_heap _ _ _ _ _ _ IC.out.wr) Tryz.underlying36 rfl (info24 _ _ _ _) (.bool false) rfl) rfl ?_
  exact ⟨rfl, below_row IC.out.bl (Nat.le_succ _) _⟩
set_option maxRecDepth 100000 in
set_option maxHeartbeats 4000000 in
theorem used_12_2 (c : Cv) (A : Option Addr) (n m : Nat) (w : World) (hk : c.k = 12) (h0 : 0 ≤ c.call ∧ c.call ≤ 2147483648) (h1 : 1 ≤ c.saga ∧ c.saga ≤ 9999) :
    Calls Tryz.prog 84 #[.agg (cA c A n m)] w fun e w' => e = .returned (.tuple #[.agg (cA (setF .saga c (setF .call c (zeroC c.k))) none 0 0), .bool true]) ∧ Below w.heap.size w w' := by
  have I0 := Lib.hid (us_start w c A n m)
  obtain ⟨cc, hcc⟩ : ∃ cc, cc = (setF .saga c (setF .call c (zeroC c.k))) := ⟨_, rfl⟩
  rw [← hcc]
  have HCC := Lib.hid hcc
  clear hcc
  have e0 : (c.k == 0) = false := by rw [hk]; rfl
  have e1 : (c.k == 1) = false := by rw [hk]; rfl
  have e2 : (c.k == 2) = false := by rw [hk]; rfl
  have e3 : (c.k == 3) = false := by rw [hk]; rfl
  have e4 : (c.k == 4) = false := by rw [hk]; rfl
  have e11 : (c.k == 11) = false := by rw [hk]; rfl
  have e12 : (c.k == 12) = true := by rw [hk]; rfl
  have K0 := Lib.hid (fun V => ucall_yes c.call V h0)
  have K1 := Lib.hid (fun V => usaga_yes c.saga V h1)
  clear hk h0 h1
  go_enter Tryz.func84, Tryz.ntmps84
  go_upto_region 1 with fail
  rw [← zero24 0]
  generalize ((w.alloc (.cells (cA c A n m) 36)).alloc (.cells (cA (zeroC 0) none 0 0) 36)) = w1 at I0 ⊢
  have x0 : w1.cell? ⟨w.heap.size, 0, none⟩ = some (.int .i64 c.k) := I0.out.2.1.cell 0
  have I1 := Lib.hid (UsI.new I0.out c.k)
  go_upto_region 2 with (refine wpList_store_row rfl 36 (.tmp 4) (.tmp 8) rfl _ (cA (zeroC c.k) none 0 0) rfl rfl 36 _ (heap_alloc_new _ _) (info24 _ _ _ _) rfl (all24 _ _ _ _) ?_; rw [World.setRow_alloc_new])
  clear x0 I0
  generalize w1.alloc (.cells (cA (zeroC c.k) none 0 0) 36) = w2 at I1 ⊢
  generalize w1.heap.size = O at I1 ⊢
  have x0 : w2.cell? ⟨w.heap.size, 0, none⟩ = some (.int .i64 c.k) := I1.out.wb.cell 0
  have x1 : w2.cell? ⟨w.heap.size, 1, none⟩ = some (.int .i64 c.call) := I1.out.wb.cell 1
  have y1 : w2.cell? ⟨O, 1, none⟩ = some (.int .i64 0) := I1.out.wo.cell 1
  have f1 : w2.frozen? ⟨O, 1, none⟩ = false := I1.out.wo.fr 1
  have I2 := Lib.hid I1.out.put_call
  go_upto_region 32 with fail
  clear x0 x1 y1 f1 I1
  generalize (w2.setCell ⟨O, 1, none⟩ (.int .i64 c.call)) = w3 at I2 ⊢
  have x2 : w3.cell? ⟨w.heap.size, 2, none⟩ = some (.int .i64 c.saga) := I2.out.wb.cell 2
  have y2 : w3.cell? ⟨O, 2, none⟩ = some (.int .i64 0) := I2.out.wo.cell 2
  have f2 : w3.frozen? ⟨O, 2, none⟩ = false := I2.out.wo.fr 2
  have I3 := Lib.hid I2.out.put_saga
  go_upto_region 33 with fail
  clear x2 y2 f2 I2
  generalize (w3.setCell ⟨O, 2, none⟩ (.int .i64 c.saga)) = w4 at I3 ⊢
  have IC : Hid (UsI w c A n m O cc none 0 0 w4) := Lib.hid (by have := I3.out; rw [← HCC.out] at this; exact this)
  clear I3
  have x1 : w4.cell? ⟨w.heap.size, 1, none⟩ = some (.int .i64 c.call) := IC.out.wb.cell 1
  have x2 : w4.cell? ⟨w.heap.size, 2, none⟩ = some (.int .i64 c.saga) := IC.out.wb.cell 2
  go_upto_region 44 with (first
    | (go_at_call 138; refine (K0.out _).mono ?_; rintro e v ⟨rfl, rfl⟩; clear K0)
    | (go_at_call 141; refine (K1.out _).mono ?_; rintro e v ⟨rfl, rfl⟩; clear K1))
  go_wp2_with (first
    | (refine wpList_load_row rfl 36 (.tmp 4) rfl O rfl 36 (cA cc none 0 0) (0, 0) _ IC.out.wo Tryz.underlying36 rfl (info24 _ _ _ _) ?_)
    | (refine wpList_store_row rfl 36 (.tmp 2) (.tmp 208) rfl (w.heap.size + 1) (cA cc none 0 0) rfl rfl 36 (cA (zeroC 0) none 0 0) IC.out.wr (info24 _ _ _ _) rfl (all24 _ _ _ _) ?_))
  refine bodyPost_ret (results_row2 rfl _ _ (w.heap.size + 1) 36 (cA cc none 0 0) (0, 0) _ rfl (setRow_heap _ _ _ _ _ _ IC.out.wr) Tryz.underlying36 rfl (info24 _ _ _ _) (.bool true) rfl) rfl ?_
  exact ⟨rfl, below_row IC.out.bl (Nat.le_succ _) _⟩
end Go.Proofs.YtgjnmfmbheejoaaGreatDoor
