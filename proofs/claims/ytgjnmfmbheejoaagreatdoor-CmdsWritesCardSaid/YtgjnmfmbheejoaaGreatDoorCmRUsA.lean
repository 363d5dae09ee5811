/- What a command's kind uses, by the reference. Condition: sizes as a machine's integers can say. -/
import Derived.Test.YtgjnmfmbheejoaaGreatDoorCmRUsS
namespace Go.Proofs.YtgjnmfmbheejoaaGreatDoor
open Go.RowKit Go.Shelf

set_option maxRecDepth 100000 in
set_option maxHeartbeats 4000000 in
theorem used_1_0 (c : Cv) (A : Option Addr) (n m : Nat) (w : World) (hk : c.k = 1) (h0 : ¬ (effOk c.ea c.eb c.ec)) :
    Calls Tryz.prog 84 #[.agg (cA c A n m)] w fun e w' => e = .returned (.tuple #[.agg (cA (setF .dl c (setF .key c (setF .eff c (zeroC c.k)))) none 0 0), .bool false]) ∧ Below w.heap.size w w' := by
  have I0 := Lib.hid (us_start w c A n m)
  obtain ⟨cc, hcc⟩ : ∃ cc, cc = (setF .dl c (setF .key c (setF .eff c (zeroC c.k)))) := ⟨_, rfl⟩
  rw [← hcc]
  have HCC := Lib.hid hcc
  clear hcc
  have e0 : (c.k == 0) = false := by rw [hk]; rfl
  have e1 : (c.k == 1) = true := by rw [hk]; rfl
  have K0 := Lib.hid (fun V => by have := Id.refCheckEffect_any c.ea c.eb c.ec V; rw [ckEff_no h0] at this; exact this : ∀ V, Calls Tryz.prog 135 #[.agg #[.int .i64 c.ea, .int .i64 c.eb, .int .i64 c.ec]] V fun e w' => e = .returned (.int .i64 2) ∧ Below V.heap.size V w')
  clear hk h0
  go_enter Tryz.func84, Tryz.ntmps84
  go_upto_region 1 with fail
  rw [← zero24 0]
  generalize ((w.alloc (.cells (cA c A n m) 36)).alloc (.cells (cA (zeroC 0) none 0 0) 36)) = w1 at I0 ⊢
  have x0 : w1.cell? ⟨w.heap.size, 0, none⟩ = some (.int .i64 c.k) := I0.out.2.1.cell 0
  have I1 := Lib.hid (UsI.new I0.out c.k)
  go_upto_region 2 with (refine wpList_store_row rfl 36 (.tmp 4) (.tmp 8) rfl _ (cA (zeroC c.k) none 0 0) rfl rfl 36 _ (heap_alloc_new _ _) (info24 _ _ _ _) rfl (all24 _ _ _ _) ?_; rw [World.setRow_alloc_new])
  clear x0 I0
  generalize w1.alloc (.cells (cA (zeroC c.k) none 0 0) 36) = w2 at I1 ⊢
  generalize w1.heap.size = O at I1 ⊢
  have x0 : w2.cell? ⟨w.heap.size, 0, none⟩ = some (.int .i64 c.k) := I1.out.wb.cell 0
  have x3 : w2.cell? ⟨w.heap.size, 3, none⟩ = some (.int .i64 c.ea) := I1.out.wb.cell 3
  have y3 : w2.cell? ⟨O, 3, none⟩ = some (.int .i64 0) := I1.out.wo.cell 3
  have f3 : w2.frozen? ⟨O, 3, none⟩ = false := I1.out.wo.fr 3
  have x4 : w2.cell? ⟨w.heap.size, 4, none⟩ = some (.int .i64 c.eb) := I1.out.wb.cell 4
  have y4 : w2.cell? ⟨O, 4, none⟩ = some (.int .i64 0) := I1.out.wo.cell 4
  have f4 : w2.frozen? ⟨O, 4, none⟩ = false := I1.out.wo.fr 4
  have x5 : w2.cell? ⟨w.heap.size, 5, none⟩ = some (.int .i64 c.ec) := I1.out.wb.cell 5
  have y5 : w2.cell? ⟨O, 5, none⟩ = some (.int .i64 0) := I1.out.wo.cell 5
  have f5 : w2.frozen? ⟨O, 5, none⟩ = false := I1.out.wo.fr 5
  have I2 := Lib.hid I1.out.put_eff
  go_upto_region 8 with fail
  clear x0 x3 y3 f3 x4 y4 f4 x5 y5 f5 I1
  generalize (((w2.setCell ⟨O, 3, none⟩ (.int .i64 c.ea)).setCell ⟨O, 4, none⟩ (.int .i64 c.eb)).setCell ⟨O, 5, none⟩ (.int .i64 c.ec)) = w3 at I2 ⊢
  have x6 : w3.cell? ⟨w.heap.size, 6, none⟩ = some (.string c.key) := I2.out.wb.cell 6
  have y6 : w3.cell? ⟨O, 6, none⟩ = some (.string ⟨#[]⟩) := I2.out.wo.cell 6
  have f6 : w3.frozen? ⟨O, 6, none⟩ = false := I2.out.wo.fr 6
  have I3 := Lib.hid I2.out.put_key
  go_upto_region 9 with fail
  clear x6 y6 f6 I2
  generalize (w3.setCell ⟨O, 6, none⟩ (.string c.key)) = w4 at I3 ⊢
  have x7 : w4.cell? ⟨w.heap.size, 7, none⟩ = some (.int .i64 c.dl) := I3.out.wb.cell 7
  have y7 : w4.cell? ⟨O, 7, none⟩ = some (.int .i64 0) := I3.out.wo.cell 7
  have f7 : w4.frozen? ⟨O, 7, none⟩ = false := I3.out.wo.fr 7
  have I4 := Lib.hid I3.out.put_dl
  go_upto_region 10 with fail
  clear x7 y7 f7 I3
  generalize (w4.setCell ⟨O, 7, none⟩ (.int .i64 c.dl)) = w5 at I4 ⊢
  have IC : Hid (UsI w c A n m O cc none 0 0 w5) := Lib.hid (by have := I4.out; rw [← HCC.out] at this; exact this)
  clear I4
  have x3 : w5.cell? ⟨w.heap.size, 3, none⟩ = some (.int .i64 c.ea) := IC.out.wb.cell 3
  have x4 : w5.cell? ⟨w.heap.size, 4, none⟩ = some (.int .i64 c.eb) := IC.out.wb.cell 4
  have x5 : w5.cell? ⟨w.heap.size, 5, none⟩ = some (.int .i64 c.ec) := IC.out.wb.cell 5
  go_upto_region 44 with (go_at_call 135; refine (K0.out _).mono ?_; rintro e wj ⟨rfl, hb⟩; have IJ := Lib.hid (IC.out.keep hb); clear hb K0; have z3 : wj.cell? ⟨w.heap.size, 3, none⟩ = some (.int .i64 c.ea) := IJ.out.wb.cell 3; have z4 : wj.cell? ⟨w.heap.size, 4, none⟩ = some (.int .i64 c.eb) := IJ.out.wb.cell 4; have z5 : wj.cell? ⟨w.heap.size, 5, none⟩ = some (.int .i64 c.ec) := IJ.out.wb.cell 5)
  go_wp2_with (first
    | (refine wpList_load_row rfl 36 (.tmp 4) rfl O rfl 36 (cA cc none 0 0) (0, 0) _ IJ.out.wo Tryz.underlying36 rfl (info24 _ _ _ _) ?_)
    | (refine wpList_store_row rfl 36 (.tmp 2) (.tmp 208) rfl (w.heap.size + 1) (cA cc none 0 0) rfl rfl 36 (cA (zeroC 0) none 0 0) IJ.out.wr (info24 _ _ _ _) rfl (all24 _ _ _ _) ?_))
  refine bodyPost_ret (results_row2 rfl _ _ (w.heap.size + 1) 36 (cA cc none 0 0) (0, 0) _ rfl (setRow_heap _ _ _ _ _ _ IJ.out.wr) Tryz.underlying36 rfl (info24 _ _ _ _) (.bool false) rfl) rfl ?_
  exact ⟨rfl, below_row IJ.out.bl (Nat.le_succ _) _⟩
set_option maxRecDepth 100000 in
set_option maxHeartbeats 4000000 in
theorem used_1_1 (c : Cv) (A : Option Addr) (n m : Nat) (w : World) (h : CmdIn w c A n m) (hk : c.k = 1) (h0 : effOk c.ea c.eb c.ec) (h1 : ¬ (isName c.key.data.toList = true)) :
    Calls Tryz.prog 84 #[.agg (cA c A n m)] w fun e w' => e = .returned (.tuple #[.agg (cA (setF .dl c (setF .key c (setF .eff c (zeroC c.k)))) none 0 0), .bool false]) ∧ Below w.heap.size w w' := by
  have I0 := Lib.hid (us_start w c A n m)
  obtain ⟨cc, hcc⟩ : ∃ cc, cc = (setF .dl c (setF .key c (setF .eff c (zeroC c.k)))) := ⟨_, rfl⟩
  rw [← hcc]
  have HCC := Lib.hid hcc
  clear hcc
  have HZ := Lib.hid h.z
  have HIN := Lib.hid h
  have e0 : (c.k == 0) = false := by rw [hk]; rfl
  have e1 : (c.k == 1) = true := by rw [hk]; rfl
  have K0 := Lib.hid (fun V => by have := Id.refCheckEffect_any c.ea c.eb c.ec V; rw [ckEff_yes h0] at this; exact this : ∀ V, Calls Tryz.prog 135 #[.agg #[.int .i64 c.ea, .int .i64 c.eb, .int .i64 c.ec]] V fun e w' => e = .returned (.int .i64 0) ∧ Below V.heap.size V w')
  have K1 := Lib.hid (fun V => by have := refName_any c.key V HZ.out.key; rw [show isName c.key.data.toList = false from Bool.eq_false_iff.2 h1] at this; exact this : ∀ V, Calls Tryz.prog 137 #[.string c.key] V fun e w' => e = .returned (.bool false) ∧ V = w')
  clear h HZ hk h0 h1
  go_enter Tryz.func84, Tryz.ntmps84
  go_upto_region 1 with fail
  rw [← zero24 0]
  generalize ((w.alloc (.cells (cA c A n m) 36)).alloc (.cells (cA (zeroC 0) none 0 0) 36)) = w1 at I0 ⊢
  have x0 : w1.cell? ⟨w.heap.size, 0, none⟩ = some (.int .i64 c.k) := I0.out.2.1.cell 0
  have I1 := Lib.hid (UsI.new I0.out c.k)
  go_upto_region 2 with (refine wpList_store_row rfl 36 (.tmp 4) (.tmp 8) rfl _ (cA (zeroC c.k) none 0 0) rfl rfl 36 _ (heap_alloc_new _ _) (info24 _ _ _ _) rfl (all24 _ _ _ _) ?_; rw [World.setRow_alloc_new])
  clear x0 I0
  generalize w1.alloc (.cells (cA (zeroC c.k) none 0 0) 36) = w2 at I1 ⊢
  generalize w1.heap.size = O at I1 ⊢
  have x0 : w2.cell? ⟨w.heap.size, 0, none⟩ = some (.int .i64 c.k) := I1.out.wb.cell 0
  have x3 : w2.cell? ⟨w.heap.size, 3, none⟩ = some (.int .i64 c.ea) := I1.out.wb.cell 3
  have y3 : w2.cell? ⟨O, 3, none⟩ = some (.int .i64 0) := I1.out.wo.cell 3
  have f3 : w2.frozen? ⟨O, 3, none⟩ = false := I1.out.wo.fr 3
  have x4 : w2.cell? ⟨w.heap.size, 4, none⟩ = some (.int .i64 c.eb) := I1.out.wb.cell 4
  have y4 : w2.cell? ⟨O, 4, none⟩ = some (.int .i64 0) := I1.out.wo.cell 4
  have f4 : w2.frozen? ⟨O, 4, none⟩ = false := I1.out.wo.fr 4
  have x5 : w2.cell? ⟨w.heap.size, 5, none⟩ = some (.int .i64 c.ec) := I1.out.wb.cell 5
  have y5 : w2.cell? ⟨O, 5, none⟩ = some (.int .i64 0) := I1.out.wo.cell 5
  have f5 : w2.frozen? ⟨O, 5, none⟩ = false := I1.out.wo.fr 5
  have I2 := Lib.hid I1.out.put_eff
  go_upto_region 8 with fail
  clear x0 x3 y3 f3 x4 y4 f4 x5 y5 f5 I1
  generalize (((w2.setCell ⟨O, 3, none⟩ (.int .i64 c.ea)).setCell ⟨O, 4, none⟩ (.int .i64 c.eb)).setCell ⟨O, 5, none⟩ (.int .i64 c.ec)) = w3 at I2 ⊢
  have x6 : w3.cell? ⟨w.heap.size, 6, none⟩ = some (.string c.key) := I2.out.wb.cell 6
  have y6 : w3.cell? ⟨O, 6, none⟩ = some (.string ⟨#[]⟩) := I2.out.wo.cell 6
  have f6 : w3.frozen? ⟨O, 6, none⟩ = false := I2.out.wo.fr 6
  have I3 := Lib.hid I2.out.put_key
  go_upto_region 9 with fail
  clear x6 y6 f6 I2
  generalize (w3.setCell ⟨O, 6, none⟩ (.string c.key)) = w4 at I3 ⊢
  have x7 : w4.cell? ⟨w.heap.size, 7, none⟩ = some (.int .i64 c.dl) := I3.out.wb.cell 7
  have y7 : w4.cell? ⟨O, 7, none⟩ = some (.int .i64 0) := I3.out.wo.cell 7
  have f7 : w4.frozen? ⟨O, 7, none⟩ = false := I3.out.wo.fr 7
  have I4 := Lib.hid I3.out.put_dl
  go_upto_region 10 with fail
  clear x7 y7 f7 I3
  generalize (w4.setCell ⟨O, 7, none⟩ (.int .i64 c.dl)) = w5 at I4 ⊢
  have IC : Hid (UsI w c A n m O cc none 0 0 w5) := Lib.hid (by have := I4.out; rw [← HCC.out] at this; exact this)
  clear I4
  have x3 : w5.cell? ⟨w.heap.size, 3, none⟩ = some (.int .i64 c.ea) := IC.out.wb.cell 3
  have x4 : w5.cell? ⟨w.heap.size, 4, none⟩ = some (.int .i64 c.eb) := IC.out.wb.cell 4
  have x5 : w5.cell? ⟨w.heap.size, 5, none⟩ = some (.int .i64 c.ec) := IC.out.wb.cell 5
  have x6 : w5.cell? ⟨w.heap.size, 6, none⟩ = some (.string c.key) := IC.out.wb.cell 6
  go_upto_region 44 with (first
    | (go_at_call 135; refine (K0.out _).mono ?_; rintro e wj ⟨rfl, hb⟩; have IJ := Lib.hid (IC.out.keep hb); clear hb K0; have z3 : wj.cell? ⟨w.heap.size, 3, none⟩ = some (.int .i64 c.ea) := IJ.out.wb.cell 3; have z4 : wj.cell? ⟨w.heap.size, 4, none⟩ = some (.int .i64 c.eb) := IJ.out.wb.cell 4; have z5 : wj.cell? ⟨w.heap.size, 5, none⟩ = some (.int .i64 c.ec) := IJ.out.wb.cell 5; have z6 : wj.cell? ⟨w.heap.size, 6, none⟩ = some (.string c.key) := IJ.out.wb.cell 6)
    | (go_at_call 137; refine (K1.out _).mono ?_; rintro e v ⟨rfl, rfl⟩; clear K1))
  go_wp2_with (first
    | (refine wpList_load_row rfl 36 (.tmp 4) rfl O rfl 36 (cA cc none 0 0) (0, 0) _ IJ.out.wo Tryz.underlying36 rfl (info24 _ _ _ _) ?_)
    | (refine wpList_store_row rfl 36 (.tmp 2) (.tmp 208) rfl (w.heap.size + 1) (cA cc none 0 0) rfl rfl 36 (cA (zeroC 0) none 0 0) IJ.out.wr (info24 _ _ _ _) rfl (all24 _ _ _ _) ?_))
  refine bodyPost_ret (results_row2 rfl _ _ (w.heap.size + 1) 36 (cA cc none 0 0) (0, 0) _ rfl (setRow_heap _ _ _ _ _ _ IJ.out.wr) Tryz.underlying36 rfl (info24 _ _ _ _) (.bool false) rfl) rfl ?_
  exact ⟨rfl, below_row IJ.out.bl (Nat.le_succ _) _⟩
set_option maxRecDepth 100000 in
set_option maxHeartbeats 4000000 in
theorem used_1_2 (c : Cv) (A : Option Addr) (n m : Nat) (w : World) (h : CmdIn w c A n m) (hk : c.k = 1) (h0 : effOk c.ea c.eb c.ec) (h1 : isName c.key.data.toList = true) (h2 : ¬ (c.dl ≠ 0)) :
    Calls Tryz.prog 84 #[.agg (cA c A n m)] w fun e w' => e = .returned (.tuple #[.agg (cA (setF .dl c (setF .key c (setF .eff c (zeroC c.k)))) none 0 0), .bool false]) ∧ Below w.heap.size w w' := by
  have I0 := Lib.hid (us_start w c A n m)
  obtain ⟨cc, hcc⟩ : ∃ cc, cc = (setF .dl c (setF .key c (setF .eff c (zeroC c.k)))) := ⟨_, rfl⟩
  rw [← hcc]
  have HCC := Lib.hid hcc
  clear hcc
  have HZ := Lib.hid h.z
  have HIN := Lib.hid h
  have e0 : (c.k == 0) = false := by rw [hk]; rfl
  have e1 : (c.k == 1) = true := by rw [hk]; rfl
  have K0 := Lib.hid (fun V => by have := Id.refCheckEffect_any c.ea c.eb c.ec V; rw [ckEff_yes h0] at this; exact this : ∀ V, Calls Tryz.prog 135 #[.agg #[.int .i64 c.ea, .int .i64 c.eb, .int .i64 c.ec]] V fun e w' => e = .returned (.int .i64 0) ∧ Below V.heap.size V w')
  have K1 := Lib.hid (fun V => by have := refName_any c.key V HZ.out.key; rw [show isName c.key.data.toList = true from h1] at this; exact this : ∀ V, Calls Tryz.prog 137 #[.string c.key] V fun e w' => e = .returned (.bool true) ∧ V = w')
  have r2 : (c.dl != 0) = false := by rw [Decidable.not_not.1 h2]; rfl
  clear h HZ hk h0 h1 h2
  go_enter Tryz.func84, Tryz.ntmps84
  go_upto_region 1 with fail
  rw [← zero24 0]
  generalize ((w.alloc (.cells (cA c A n m) 36)).alloc (.cells (cA (zeroC 0) none 0 0) 36)) = w1 at I0 ⊢
  have x0 : w1.cell? ⟨w.heap.size, 0, none⟩ = some (.int .i64 c.k) := I0.out.2.1.cell 0
  have I1 := Lib.hid (UsI.new I0.out c.k)
  go_upto_region 2 with (refine wpList_store_row rfl 36 (.tmp 4) (.tmp 8) rfl _ (cA (zeroC c.k) none 0 0) rfl rfl 36 _ (heap_alloc_new _ _) (info24 _ _ _ _) rfl (all24 _ _ _ _) ?_; rw [World.setRow_alloc_new])
  clear x0 I0
  generalize w1.alloc (.cells (cA (zeroC c.k) none 0 0) 36) = w2 at I1 ⊢
  generalize w1.heap.size = O at I1 ⊢
  have x0 : w2.cell? ⟨w.heap.size, 0, none⟩ = some (.int .i64 c.k) := I1.out.wb.cell 0
  have x3 : w2.cell? ⟨w.heap.size, 3, none⟩ = some (.int .i64 c.ea) := I1.out.wb.cell 3
  have y3 : w2.cell? ⟨O, 3, none⟩ = some (.int .i64 0) := I1.out.wo.cell 3
  have f3 : w2.frozen? ⟨O, 3, none⟩ = false := I1.out.wo.fr 3
  have x4 : w2.cell? ⟨w.heap.size, 4, none⟩ = some (.int .i64 c.eb) := I1.out.wb.cell 4
  have y4 : w2.cell? ⟨O, 4, none⟩ = some (.int .i64 0) := I1.out.wo.cell 4
  have f4 : w2.frozen? ⟨O, 4, none⟩ = false := I1.out.wo.fr 4
  have x5 : w2.cell? ⟨w.heap.size, 5, none⟩ = some (.int .i64 c.ec) := I1.out.wb.cell 5
  have y5 : w2.cell? ⟨O, 5, none⟩ = some (.int .i64 0) := I1.out.wo.cell 5
  have f5 : w2.frozen? ⟨O, 5, none⟩ = false := I1.out.wo.fr 5
  have I2 := Lib.hid I1.out.put_eff
  go_upto_region 8 with fail
  clear x0 x3 y3 f3 x4 y4 f4 x5 y5 f5 I1
  generalize (((w2.setCell ⟨O, 3, none⟩ (.int .i64 c.ea)).setCell ⟨O, 4, none⟩ (.int .i64 c.eb)).setCell ⟨O, 5, none⟩ (.int .i64 c.ec)) = w3 at I2 ⊢
  have x6 : w3.cell? ⟨w.heap.size, 6, none⟩ = some (.string c.key) := I2.out.wb.cell 6
  have y6 : w3.cell? ⟨O, 6, none⟩ = some (.string ⟨#[]⟩) := I2.out.wo.cell 6
  have f6 : w3.frozen? ⟨O, 6, none⟩ = false := I2.out.wo.fr 6
  have I3 := Lib.hid I2.out.put_key
  go_upto_region 9 with fail
  clear x6 y6 f6 I2
  generalize (w3.setCell ⟨O, 6, none⟩ (.string c.key)) = w4 at I3 ⊢
  have x7 : w4.cell? ⟨w.heap.size, 7, none⟩ = some (.int .i64 c.dl) := I3.out.wb.cell 7
  have y7 : w4.cell? ⟨O, 7, none⟩ = some (.int .i64 0) := I3.out.wo.cell 7
  have f7 : w4.frozen? ⟨O, 7, none⟩ = false := I3.out.wo.fr 7
  have I4 := Lib.hid I3.out.put_dl
  go_upto_region 10 with fail
  clear x7 y7 f7 I3
  generalize (w4.setCell ⟨O, 7, none⟩ (.int .i64 c.dl)) = w5 at I4 ⊢
  have IC : Hid (UsI w c A n m O cc none 0 0 w5) := Lib.hid (by have := I4.out; rw [← HCC.out] at this; exact this)
  clear I4
  have x3 : w5.cell? ⟨w.heap.size, 3, none⟩ = some (.int .i64 c.ea) := IC.out.wb.cell 3
  have x4 : w5.cell? ⟨w.heap.size, 4, none⟩ = some (.int .i64 c.eb) := IC.out.wb.cell 4
  have x5 : w5.cell? ⟨w.heap.size, 5, none⟩ = some (.int .i64 c.ec) := IC.out.wb.cell 5
  have x6 : w5.cell? ⟨w.heap.size, 6, none⟩ = some (.string c.key) := IC.out.wb.cell 6
  have x7 : w5.cell? ⟨w.heap.size, 7, none⟩ = some (.int .i64 c.dl) := IC.out.wb.cell 7
  go_upto_region 44 with (first
    | (go_at_call 135; refine (K0.out _).mono ?_; rintro e wj ⟨rfl, hb⟩; have IJ := Lib.hid (IC.out.keep hb); clear hb K0; have z3 : wj.cell? ⟨w.heap.size, 3, none⟩ = some (.int .i64 c.ea) := IJ.out.wb.cell 3; have z4 : wj.cell? ⟨w.heap.size, 4, none⟩ = some (.int .i64 c.eb) := IJ.out.wb.cell 4; have z5 : wj.cell? ⟨w.heap.size, 5, none⟩ = some (.int .i64 c.ec) := IJ.out.wb.cell 5; have z6 : wj.cell? ⟨w.heap.size, 6, none⟩ = some (.string c.key) := IJ.out.wb.cell 6; have z7 : wj.cell? ⟨w.heap.size, 7, none⟩ = some (.int .i64 c.dl) := IJ.out.wb.cell 7)
    | (go_at_call 137; refine (K1.out _).mono ?_; rintro e v ⟨rfl, rfl⟩; clear K1))
  go_wp2_with (first
    | (refine wpList_load_row rfl 36 (.tmp 4) rfl O rfl 36 (cA cc none 0 0) (0, 0) _ IJ.out.wo Tryz.underlying36 rfl (info24 _ _ _ _) ?_)
    | (refine wpList_store_row rfl 36 (.tmp 2) (.tmp 208) rfl (w.heap.size + 1) (cA cc none 0 0) rfl rfl 36 (cA (zeroC 0) none 0 0) IJ.out.wr (info24 _ _ _ _) rfl (all24 _ _ _ _) ?_))
  refine bodyPost_ret (results_row2 rfl _ _ (w.heap.size + 1) 36 (cA cc none 0 0) (0, 0) _ rfl (setRow_heap _ _ _ _ _ _ IJ.out.wr) Tryz.underlying36 rfl (info24 _ _ _ _) (.bool false) rfl) rfl ?_
  exact ⟨rfl, below_row IJ.out.bl (Nat.le_succ _) _⟩
set_option maxRecDepth 100000 in
set_option maxHeartbeats 4000000 in
theorem used_1_3 (c : Cv) (A : Option Addr) (n m : Nat) (w : World) (h : CmdIn w c A n m) (hk : c.k = 1) (h0 : effOk c.ea c.eb c.ec) (h1 : isName c.key.data.toList = true) (h2 : c.dl ≠ 0) (h3 : ¬ (-1152921504606846976 ≤ c.dl)) :
    Calls Tryz.prog 84 #[.agg (cA c A n m)] w fun e w' => e = .returned (.tuple #[.agg (cA (setF .dl c (setF .key c (setF .eff c (zeroC c.k)))) none 0 0), .bool false]) ∧ Below w.heap.size w w' := by
  have I0 := Lib.hid (us_start w c A n m)
  obtain ⟨cc, hcc⟩ : ∃ cc, cc = (setF .dl c (setF .key c (setF .eff c (zeroC c.k)))) := ⟨_, rfl⟩
  rw [← hcc]
  have HCC := Lib.hid hcc
  clear hcc
  have HZ := Lib.hid h.z
  have HIN := Lib.hid h
  have e0 : (c.k == 0) = false := by rw [hk]; rfl
  have e1 : (c.k == 1) = true := by rw [hk]; rfl
  have K0 := Lib.hid (fun V => by have := Id.refCheckEffect_any c.ea c.eb c.ec V; rw [ckEff_yes h0] at this; exact this : ∀ V, Calls Tryz.prog 135 #[.agg #[.int .i64 c.ea, .int .i64 c.eb, .int .i64 c.ec]] V fun e w' => e = .returned (.int .i64 0) ∧ Below V.heap.size V w')
  have K1 := Lib.hid (fun V => by have := refName_any c.key V HZ.out.key; rw [show isName c.key.data.toList = true from h1] at this; exact this : ∀ V, Calls Tryz.prog 137 #[.string c.key] V fun e w' => e = .returned (.bool true) ∧ V = w')
  have r2 : (c.dl != 0) = true := bne_iff_ne.2 h2
  clear h HZ hk h0 h1 h2
  go_enter Tryz.func84, Tryz.ntmps84
  go_upto_region 1 with fail
  rw [← zero24 0]
  generalize ((w.alloc (.cells (cA c A n m) 36)).alloc (.cells (cA (zeroC 0) none 0 0) 36)) = w1 at I0 ⊢
  have x0 : w1.cell? ⟨w.heap.size, 0, none⟩ = some (.int .i64 c.k) := I0.out.2.1.cell 0
  have I1 := Lib.hid (UsI.new I0.out c.k)
  go_upto_region 2 with (refine wpList_store_row rfl 36 (.tmp 4) (.tmp 8) rfl _ (cA (zeroC c.k) none 0 0) rfl rfl 36 _ (heap_alloc_new _ _) (info24 _ _ _ _) rfl (all24 _ _ _ _) ?_; rw [World.setRow_alloc_new])
  clear x0 I0
  generalize w1.alloc (.cells (cA (zeroC c.k) none 0 0) 36) = w2 at I1 ⊢
  generalize w1.heap.size = O at I1 ⊢
  have x0 : w2.cell? ⟨w.heap.size, 0, none⟩ = some (.int .i64 c.k) := I1.out.wb.cell 0
  have x3 : w2.cell? ⟨w.heap.size, 3, none⟩ = some (.int .i64 c.ea) := I1.out.wb.cell 3
  have y3 : w2.cell? ⟨O, 3, none⟩ = some (.int .i64 0) := I1.out.wo.cell 3
  have f3 : w2.frozen? ⟨O, 3, none⟩ = false := I1.out.wo.fr 3
  have x4 : w2.cell? ⟨w.heap.size, 4, none⟩ = some (.int .i64 c.eb) := I1.out.wb.cell 4
  have y4 : w2.cell? ⟨O, 4, none⟩ = some (.int .i64 0) := I1.out.wo.cell 4
  have f4 : w2.frozen? ⟨O, 4, none⟩ = false := I1.out.wo.fr 4
  have x5 : w2.cell? ⟨w.heap.size, 5, none⟩ = some (.int .i64 c.ec) := I1.out.wb.cell 5
  have y5 : w2.cell? ⟨O, 5, none⟩ = some (.int .i64 0) := I1.out.wo.cell 5
  have f5 : w2.frozen? ⟨O, 5, none⟩ = false := I1.out.wo.fr 5
  have I2 := Lib.hid I1.out.put_eff
  go_upto_region 8 with fail
  clear x0 x3 y3 f3 x4 y4 f4 x5 y5 f5 I1
  generalize (((w2.setCell ⟨O, 3, none⟩ (.int .i64 c.ea)).setCell ⟨O, 4, none⟩ (.int .i64 c.eb)).setCell ⟨O, 5, none⟩ (.int .i64 c.ec)) = w3 at I2 ⊢
  have x6 : w3.cell? ⟨w.heap.size, 6, none⟩ = some (.string c.key) := I2.out.wb.cell 6
  have y6 : w3.cell? ⟨O, 6, none⟩ = some (.string ⟨#[]⟩) := I2.out.wo.cell 6
  have f6 : w3.frozen? ⟨O, 6, none⟩ = false := I2.out.wo.fr 6
  have I3 := Lib.hid I2.out.put_key
  go_upto_region 9 with fail
  clear x6 y6 f6 I2
  generalize (w3.setCell ⟨O, 6, none⟩ (.string c.key)) = w4 at I3 ⊢
  have x7 : w4.cell? ⟨w.heap.size, 7, none⟩ = some (.int .i64 c.dl) := I3.out.wb.cell 7
  have y7 : w4.cell? ⟨O, 7, none⟩ = some (.int .i64 0) := I3.out.wo.cell 7
  have f7 : w4.frozen? ⟨O, 7, none⟩ = false := I3.out.wo.fr 7
  have I4 := Lib.hid I3.out.put_dl
  go_upto_region 10 with fail
  clear x7 y7 f7 I3
  generalize (w4.setCell ⟨O, 7, none⟩ (.int .i64 c.dl)) = w5 at I4 ⊢
  have IC : Hid (UsI w c A n m O cc none 0 0 w5) := Lib.hid (by have := I4.out; rw [← HCC.out] at this; exact this)
  clear I4
  have x3 : w5.cell? ⟨w.heap.size, 3, none⟩ = some (.int .i64 c.ea) := IC.out.wb.cell 3
  have x4 : w5.cell? ⟨w.heap.size, 4, none⟩ = some (.int .i64 c.eb) := IC.out.wb.cell 4
  have x5 : w5.cell? ⟨w.heap.size, 5, none⟩ = some (.int .i64 c.ec) := IC.out.wb.cell 5
  have x6 : w5.cell? ⟨w.heap.size, 6, none⟩ = some (.string c.key) := IC.out.wb.cell 6
  have x7 : w5.cell? ⟨w.heap.size, 7, none⟩ = some (.int .i64 c.dl) := IC.out.wb.cell 7
  go_upto_region 44 with (first
    | (go_at_call 135; refine (K0.out _).mono ?_; rintro e wj ⟨rfl, hb⟩; have IJ := Lib.hid (IC.out.keep hb); clear hb K0; have z3 : wj.cell? ⟨w.heap.size, 3, none⟩ = some (.int .i64 c.ea) := IJ.out.wb.cell 3; have z4 : wj.cell? ⟨w.heap.size, 4, none⟩ = some (.int .i64 c.eb) := IJ.out.wb.cell 4; have z5 : wj.cell? ⟨w.heap.size, 5, none⟩ = some (.int .i64 c.ec) := IJ.out.wb.cell 5; have z6 : wj.cell? ⟨w.heap.size, 6, none⟩ = some (.string c.key) := IJ.out.wb.cell 6; have z7 : wj.cell? ⟨w.heap.size, 7, none⟩ = some (.int .i64 c.dl) := IJ.out.wb.cell 7)
    | (go_at_call 137; refine (K1.out _).mono ?_; rintro e v ⟨rfl, rfl⟩; clear K1))
  go_wp2_with (first
    | (refine wpList_load_row rfl 36 (.tmp 4) rfl O rfl 36 (cA cc none 0 0) (0, 0) _ IJ.out.wo Tryz.underlying36 rfl (info24 _ _ _ _) ?_)
    | (refine wpList_store_row rfl 36 (.tmp 2) (.tmp 208) rfl (w.heap.size + 1) (cA cc none 0 0) rfl rfl 36 (cA (zeroC 0) none 0 0) IJ.out.wr (info24 _ _ _ _) rfl (all24 _ _ _ _) ?_))
  refine bodyPost_ret (results_row2 rfl _ _ (w.heap.size + 1) 36 (cA cc none 0 0) (0, 0) _ rfl (setRow_heap _ _ _ _ _ _ IJ.out.wr) Tryz.underlying36 rfl (info24 _ _ _ _) (.bool false) rfl) rfl ?_
  exact ⟨rfl, below_row IJ.out.bl (Nat.le_succ _) _⟩
set_option maxRecDepth 100000 in
set_option maxHeartbeats 4000000 in
theorem used_1_4 (c : Cv) (A : Option Addr) (n m : Nat) (w : World) (h : CmdIn w c A n m) (hk : c.k = 1) (h0 : effOk c.ea c.eb c.ec) (h1 : isName c.key.data.toList = true) (h2 : c.dl ≠ 0) (h3 : -1152921504606846976 ≤ c.dl) (h4 : ¬ (c.dl ≤ 1152921504606846976)) :
    Calls Tryz.prog 84 #[.agg (cA c A n m)] w fun e w' => e = .returned (.tuple #[.agg (cA (setF .dl c (setF .key c (setF .eff c (zeroC c.k)))) none 0 0), .bool false]) ∧ Below w.heap.size w w' := by
  have I0 := Lib.hid (us_start w c A n m)
  obtain ⟨cc, hcc⟩ : ∃ cc, cc = (setF .dl c (setF .key c (setF .eff c (zeroC c.k)))) := ⟨_, rfl⟩
  rw [← hcc]
  have HCC := Lib.hid hcc
  clear hcc
  have HZ := Lib.hid h.z
  have HIN := Lib.hid h
  have e0 : (c.k == 0) = false := by rw [hk]; rfl
  have e1 : (c.k == 1) = true := by rw [hk]; rfl
  have K0 := Lib.hid (fun V => by have := Id.refCheckEffect_any c.ea c.eb c.ec V; rw [ckEff_yes h0] at this; exact this : ∀ V, Calls Tryz.prog 135 #[.agg #[.int .i64 c.ea, .int .i64 c.eb, .int .i64 c.ec]] V fun e w' => e = .returned (.int .i64 0) ∧ Below V.heap.size V w')
  have K1 := Lib.hid (fun V => by have := refName_any c.key V HZ.out.key; rw [show isName c.key.data.toList = true from h1] at this; exact this : ∀ V, Calls Tryz.prog 137 #[.string c.key] V fun e w' => e = .returned (.bool true) ∧ V = w')
  have r2 : (c.dl != 0) = true := bne_iff_ne.2 h2
  clear h HZ hk h0 h1 h2
  go_enter Tryz.func84, Tryz.ntmps84
  go_upto_region 1 with fail
  rw [← zero24 0]
  generalize ((w.alloc (.cells (cA c A n m) 36)).alloc (.cells (cA (zeroC 0) none 0 0) 36)) = w1 at I0 ⊢
  have x0 : w1.cell? ⟨w.heap.size, 0, none⟩ = some (.int .i64 c.k) := I0.out.2.1.cell 0
  have I1 := Lib.hid (UsI.new I0.out c.k)
  go_upto_region 2 with (refine wpList_store_row rfl 36 (.tmp 4) (.tmp 8) rfl _ (cA (zeroC c.k) none 0 0) rfl rfl 36 _ (heap_alloc_new _ _) (info24 _ _ _ _) rfl (all24 _ _ _ _) ?_; rw [World.setRow_alloc_new])
  clear x0 I0
  generalize w1.alloc (.cells (cA (zeroC c.k) none 0 0) 36) = w2 at I1 ⊢
  generalize w1.heap.size = O at I1 ⊢
  have x0 : w2.cell? ⟨w.heap.size, 0, none⟩ = some (.int .i64 c.k) := I1.out.wb.cell 0
  have x3 : w2.cell? ⟨w.heap.size, 3, none⟩ = some (.int .i64 c.ea) := I1.out.wb.cell 3
  have y3 : w2.cell? ⟨O, 3, none⟩ = some (.int .i64 0) := I1.out.wo.cell 3
  have f3 : w2.frozen? ⟨O, 3, none⟩ = false := I1.out.wo.fr 3
  have x4 : w2.cell? ⟨w.heap.size, 4, none⟩ = some (.int .i64 c.eb) := I1.out.wb.cell 4
  have y4 : w2.cell? ⟨O, 4, none⟩ = some (.int .i64 0) := I1.out.wo.cell 4
  have f4 : w2.frozen? ⟨O, 4, none⟩ = false := I1.out.wo.fr 4
  have x5 : w2.cell? ⟨w.heap.size, 5, none⟩ = some (.int .i64 c.ec) := I1.out.wb.cell 5
  have y5 : w2.cell? ⟨O, 5, none⟩ = some (.int .i64 0) := I1.out.wo.cell 5
  have f5 : w2.frozen? ⟨O, 5, none⟩ = false := I1.out.wo.fr 5
  have I2 := Lib.hid I1.out.put_eff
  go_upto_region 8 with fail
  clear x0 x3 y3 f3 x4 y4 f4 x5 y5 f5 I1
  generalize (((w2.setCell ⟨O, 3, none⟩ (.int .i64 c.ea)).setCell ⟨O, 4, none⟩ (.int .i64 c.eb)).setCell ⟨O, 5, none⟩ (.int .i64 c.ec)) = w3 at I2 ⊢
  have x6 : w3.cell? ⟨w.heap.size, 6, none⟩ = some (.string c.key) := I2.out.wb.cell 6
  have y6 : w3.cell? ⟨O, 6, none⟩ = some (.string ⟨#[]⟩) := I2.out.wo.cell 6
  have f6 : w3.frozen? ⟨O, 6, none⟩ = false := I2.out.wo.fr 6
  have I3 := Lib.hid I2.out.put_key
  go_upto_region 9 with fail
  clear x6 y6 f6 I2
  generalize (w3.setCell ⟨O, 6, none⟩ (.string c.key)) = w4 at I3 ⊢
  have x7 : w4.cell? ⟨w.heap.size, 7, none⟩ = some (.int .i64 c.dl) := I3.out.wb.cell 7
  have y7 : w4.cell? ⟨O, 7, none⟩ = some (.int .i64 0) := I3.out.wo.cell 7
  have f7 : w4.frozen? ⟨O, 7, none⟩ = false := I3.out.wo.fr 7
  have I4 := Lib.hid I3.out.put_dl
  go_upto_region 10 with fail
  clear x7 y7 f7 I3
  generalize (w4.setCell ⟨O, 7, none⟩ (.int .i64 c.dl)) = w5 at I4 ⊢
  have IC : Hid (UsI w c A n m O cc none 0 0 w5) := Lib.hid (by have := I4.out; rw [← HCC.out] at this; exact this)
  clear I4
  have x3 : w5.cell? ⟨w.heap.size, 3, none⟩ = some (.int .i64 c.ea) := IC.out.wb.cell 3
  have x4 : w5.cell? ⟨w.heap.size, 4, none⟩ = some (.int .i64 c.eb) := IC.out.wb.cell 4
  have x5 : w5.cell? ⟨w.heap.size, 5, none⟩ = some (.int .i64 c.ec) := IC.out.wb.cell 5
  have x6 : w5.cell? ⟨w.heap.size, 6, none⟩ = some (.string c.key) := IC.out.wb.cell 6
  have x7 : w5.cell? ⟨w.heap.size, 7, none⟩ = some (.int .i64 c.dl) := IC.out.wb.cell 7
  go_upto_region 44 with (first
    | (go_at_call 135; refine (K0.out _).mono ?_; rintro e wj ⟨rfl, hb⟩; have IJ := Lib.hid (IC.out.keep hb); clear hb K0; have z3 : wj.cell? ⟨w.heap.size, 3, none⟩ = some (.int .i64 c.ea) := IJ.out.wb.cell 3; have z4 : wj.cell? ⟨w.heap.size, 4, none⟩ = some (.int .i64 c.eb) := IJ.out.wb.cell 4; have z5 : wj.cell? ⟨w.heap.size, 5, none⟩ = some (.int .i64 c.ec) := IJ.out.wb.cell 5; have z6 : wj.cell? ⟨w.heap.size, 6, none⟩ = some (.string c.key) := IJ.out.wb.cell 6; have z7 : wj.cell? ⟨w.heap.size, 7, none⟩ = some (.int .i64 c.dl) := IJ.out.wb.cell 7)
    | (go_at_call 137; refine (K1.out _).mono ?_; rintro e v ⟨rfl, rfl⟩; clear K1))
  go_wp2_with (first
    | (refine wpList_load_row rfl 36 (.tmp 4) rfl O rfl 36 (cA cc none 0 0) (0, 0) _ IJ.out.wo Tryz.underlying36 rfl (info24 _ _ _ _) ?_)
    | (refine wpList_store_row rfl 36 (.tmp 2) (.tmp 208) rfl (w.heap.size + 1) (cA cc none 0 0) rfl rfl 36 (cA (zeroC 0) none 0 0) IJ.out.wr (info24 _ _ _ _) rfl (all24 _ _ _ _) ?_))
  refine bodyPost_ret (results_row2 rfl _ _ (w.heap.size + 1) 36 (cA cc none 0 0) (0, 0) _ rfl (setRow_heap _ _ _ _ _ _ IJ.out.wr) Tryz.underlying36 rfl (info24 _ _ _ _) (.bool false) (by first | rfl | exact congrArg Value.bool (decide_eq_false (p := c.dl ≤ 1152921504606846976) (by omega)))) rfl ?_
  exact ⟨rfl, below_row IJ.out.bl (Nat.le_succ _) _⟩
set_option maxRecDepth 100000 in
set_option maxHeartbeats 4000000 in
theorem used_1_5 (c : Cv) (A : Option Addr) (n m : Nat) (w : World) (h : CmdIn w c A n m) (hk : c.k = 1) (h0 : effOk c.ea c.eb c.ec) (h1 : isName c.key.data.toList = true) (h2 : c.dl ≠ 0) (h3 : -1152921504606846976 ≤ c.dl) (h4 : c.dl ≤ 1152921504606846976) :
    Calls Tryz.prog 84 #[.agg (cA c A n m)] w fun e w' => e = .returned (.tuple #[.agg (cA (setF .dl c (setF .key c (setF .eff c (zeroC c.k)))) none 0 0), .bool true]) ∧ Below w.heap.size w w' := by
  have I0 := Lib.hid (us_start w c A n m)
  obtain ⟨cc, hcc⟩ : ∃ cc, cc = (setF .dl c (setF .key c (setF .eff c (zeroC c.k)))) := ⟨_, rfl⟩
  rw [← hcc]
  have HCC := Lib.hid hcc
  clear hcc
  have HZ := Lib.hid h.z
  have HIN := Lib.hid h
  have e0 : (c.k == 0) = false := by rw [hk]; rfl
  have e1 : (c.k == 1) = true := by rw [hk]; rfl
  have K0 := Lib.hid (fun V => by have := Id.refCheckEffect_any c.ea c.eb c.ec V; rw [ckEff_yes h0] at this; exact this : ∀ V, Calls Tryz.prog 135 #[.agg #[.int .i64 c.ea, .int .i64 c.eb, .int .i64 c.ec]] V fun e w' => e = .returned (.int .i64 0) ∧ Below V.heap.size V w')
  have K1 := Lib.hid (fun V => by have := refName_any c.key V HZ.out.key; rw [show isName c.key.data.toList = true from h1] at this; exact this : ∀ V, Calls Tryz.prog 137 #[.string c.key] V fun e w' => e = .returned (.bool true) ∧ V = w')
  have r2 : (c.dl != 0) = true := bne_iff_ne.2 h2
  clear h HZ hk h0 h1 h2
  go_enter Tryz.func84, Tryz.ntmps84
  go_upto_region 1 with fail
  rw [← zero24 0]
  generalize ((w.alloc (.cells (cA c A n m) 36)).alloc (.cells (cA (zeroC 0) none 0 0) 36)) = w1 at I0 ⊢
  have x0 : w1.cell? ⟨w.heap.size, 0, none⟩ = some (.int .i64 c.k) := I0.out.2.1.cell 0
  have I1 := Lib.hid (UsI.new I0.out c.k)
  go_upto_region 2 with (refine wpList_store_row rfl 36 (.tmp 4) (.tmp 8) rfl _ (cA (zeroC c.k) none 0 0) rfl rfl 36 _ (heap_alloc_new _ _) (info24 _ _ _ _) rfl (all24 _ _ _ _) ?_; rw [World.setRow_alloc_new])
  clear x0 I0
  generalize w1.alloc (.cells (cA (zeroC c.k) none 0 0) 36) = w2 at I1 ⊢
  generalize w1.heap.size = O at I1 ⊢
  have x0 : w2.cell? ⟨w.heap.size, 0, none⟩ = some (.int .i64 c.k) := I1.out.wb.cell 0
  have x3 : w2.cell? ⟨w.heap.size, 3, none⟩ = some (.int .i64 c.ea) := I1.out.wb.cell 3
  have y3 : w2.cell? ⟨O, 3, none⟩ = some (.int .i64 0) := I1.out.wo.cell 3
  have f3 : w2.frozen? ⟨O, 3, none⟩ = false := I1.out.wo.fr 3
  have x4 : w2.cell? ⟨w.heap.size, 4, none⟩ = some (.int .i64 c.eb) := I1.out.wb.cell 4
  have y4 : w2.cell? ⟨O, 4, none⟩ = some (.int .i64 0) := I1.out.wo.cell 4
  have f4 : w2.frozen? ⟨O, 4, none⟩ = false := I1.out.wo.fr 4
  have x5 : w2.cell? ⟨w.heap.size, 5, none⟩ = some (.int .i64 c.ec) := I1.out.wb.cell 5
  have y5 : w2.cell? ⟨O, 5, none⟩ = some (.int .i64 0) := I1.out.wo.cell 5
  have f5 : w2.frozen? ⟨O, 5, none⟩ = false := I1.out.wo.fr 5
  have I2 := Lib.hid I1.out.put_eff
  go_upto_region 8 with fail
  clear x0 x3 y3 f3 x4 y4 f4 x5 y5 f5 I1
  generalize (((w2.setCell ⟨O, 3, none⟩ (.int .i64 c.ea)).setCell ⟨O, 4, none⟩ (.int .i64 c.eb)).setCell ⟨O, 5, none⟩ (.int .i64 c.ec)) = w3 at I2 ⊢
  have x6 : w3.cell? ⟨w.heap.size, 6, none⟩ = some (.string c.key) := I2.out.wb.cell 6
  have y6 : w3.cell? ⟨O, 6, none⟩ = some (.string ⟨#[]⟩) := I2.out.wo.cell 6
  have f6 : w3.frozen? ⟨O, 6, none⟩ = false := I2.out.wo.fr 6
  have I3 := Lib.hid I2.out.put_key
  go_upto_region 9 with fail
  clear x6 y6 f6 I2
  generalize (w3.setCell ⟨O, 6, none⟩ (.string c.key)) = w4 at I3 ⊢
  have x7 : w4.cell? ⟨w.heap.size, 7, none⟩ = some (.int .i64 c.dl) := I3.out.wb.cell 7
  have y7 : w4.cell? ⟨O, 7, none⟩ = some (.int .i64 0) := I3.out.wo.cell 7
  have f7 : w4.frozen? ⟨O, 7, none⟩ = false := I3.out.wo.fr 7
  have I4 := Lib.hid I3.out.put_dl
  go_upto_region 10 with fail
  clear x7 y7 f7 I3
  generalize (w4.setCell ⟨O, 7, none⟩ (.int .i64 c.dl)) = w5 at I4 ⊢
  have IC : Hid (UsI w c A n m O cc none 0 0 w5) := Lib.hid (by have := I4.out; rw [← HCC.out] at this; exact this)
  clear I4
  have x3 : w5.cell? ⟨w.heap.size, 3, none⟩ = some (.int .i64 c.ea) := IC.out.wb.cell 3
  have x4 : w5.cell? ⟨w.heap.size, 4, none⟩ = some (.int .i64 c.eb) := IC.out.wb.cell 4
  have x5 : w5.cell? ⟨w.heap.size, 5, none⟩ = some (.int .i64 c.ec) := IC.out.wb.cell 5
  have x6 : w5.cell? ⟨w.heap.size, 6, none⟩ = some (.string c.key) := IC.out.wb.cell 6
  have x7 : w5.cell? ⟨w.heap.size, 7, none⟩ = some (.int .i64 c.dl) := IC.out.wb.cell 7
  go_upto_region 44 with (first
    | (go_at_call 135; refine (K0.out _).mono ?_; rintro e wj ⟨rfl, hb⟩; have IJ := Lib.hid (IC.out.keep hb); clear hb K0; have z3 : wj.cell? ⟨w.heap.size, 3, none⟩ = some (.int .i64 c.ea) := IJ.out.wb.cell 3; have z4 : wj.cell? ⟨w.heap.size, 4, none⟩ = some (.int .i64 c.eb) := IJ.out.wb.cell 4; have z5 : wj.cell? ⟨w.heap.size, 5, none⟩ = some (.int .i64 c.ec) := IJ.out.wb.cell 5; have z6 : wj.cell? ⟨w.heap.size, 6, none⟩ = some (.string c.key) := IJ.out.wb.cell 6; have z7 : wj.cell? ⟨w.heap.size, 7, none⟩ = some (.int .i64 c.dl) := IJ.out.wb.cell 7)
    | (go_at_call 137; refine (K1.out _).mono ?_; rintro e v ⟨rfl, rfl⟩; clear K1))
  go_wp2_with (first
    | (refine wpList_load_row rfl 36 (.tmp 4) rfl O rfl 36 (cA cc none 0 0) (0, 0) _ IJ.out.wo Tryz.underlying36 rfl (info24 _ _ _ _) ?_)
    | (refine wpList_store_row rfl 36 (.tmp 2) (.tmp 208) rfl (w.heap.size + 1) (cA cc none 0 0) rfl rfl 36 (cA (zeroC 0) none 0 0) IJ.out.wr (info24 _ _ _ _) rfl (all24 _ _ _ _) ?_))
  refine bodyPost_ret (results_row2 rfl _ _ (w.heap.size + 1) 36 (cA cc none 0 0) (0, 0) _ rfl (setRow_heap _ _ _ _ _ _ IJ.out.wr) Tryz.underlying36 rfl (info24 _ _ _ _) (.bool true) (by first | rfl | exact congrArg Value.bool (decide_eq_true (p := c.dl ≤ 1152921504606846976) (by omega)))) rfl ?_
  exact ⟨rfl, below_row IJ.out.bl (Nat.le_succ _) _⟩
set_option maxRecDepth 100000 in
set_option maxHeartbeats 4000000 in
theorem used_2_0 (c : Cv) (A : Option Addr) (n m : Nat) (w : World) (hk : c.k = 2) (h0 : ¬ (0 ≤ c.call ∧ c.call ≤ 2147483648)) :
    Calls Tryz.prog 84 #[.agg (cA c A n m)] w fun e w' => e = .returned (.tuple #[.agg (cA (setF .key c (setF .call c (zeroC c.k))) none 0 0), .bool false]) ∧ Below w.heap.size w w' := by
  have I0 := Lib.hid (us_start w c A n m)
  obtain ⟨cc, hcc⟩ : ∃ cc, cc = (setF .key c (setF .call c (zeroC c.k))) := ⟨_, rfl⟩
  rw [← hcc]
  have HCC := Lib.hid hcc
  clear hcc
  have e0 : (c.k == 0) = false := by rw [hk]; rfl
  have e1 : (c.k == 1) = false := by rw [hk]; rfl
  have e2 : (c.k == 2) = true := by rw [hk]; rfl
  have K0 := Lib.hid (fun V => ucall_no c.call V h0)
  clear hk h0
  go_enter Tryz.func84, Tryz.ntmps84
  go_upto_region 1 with fail
  rw [← zero24 0]
  generalize ((w.alloc (.cells (cA c A n m) 36)).alloc (.cells (cA (zeroC 0) none 0 0) 36)) = w1 at I0 ⊢
  have x0 : w1.cell? ⟨w.heap.size, 0, none⟩ = some (.int .i64 c.k) := I0.out.2.1.cell 0
  have I1 := Lib.hid (UsI.new I0.out c.k)
  go_upto_region 2 with (refine wpList_store_row rfl 36 (.tmp 4) (.tmp 8) rfl _ (cA (zeroC c.k) none 0 0) rfl rfl 36 _ (heap_alloc_new _ _) (info24 _ _ _ _) rfl (all24 _ _ _ _) ?_; rw [World.setRow_alloc_new])
  clear x0 I0
  generalize w1.alloc (.cells (cA (zeroC c.k) none 0 0) 36) = w2 at I1 ⊢
  generalize w1.heap.size = O at I1 ⊢
  have x0 : w2.cell? ⟨w.heap.size, 0, none⟩ = some (.int .i64 c.k) := I1.out.wb.cell 0
  have x1 : w2.cell? ⟨w.heap.size, 1, none⟩ = some (.int .i64 c.call) := I1.out.wb.cell 1
  have y1 : w2.cell? ⟨O, 1, none⟩ = some (.int .i64 0) := I1.out.wo.cell 1
  have f1 : w2.frozen? ⟨O, 1, none⟩ = false := I1.out.wo.fr 1
  have I2 := Lib.hid I1.out.put_call
  go_upto_region 13 with fail
  clear x0 x1 y1 f1 I1
  generalize (w2.setCell ⟨O, 1, none⟩ (.int .i64 c.call)) = w3 at I2 ⊢
  have x6 : w3.cell? ⟨w.heap.size, 6, none⟩ = some (.string c.key) := I2.out.wb.cell 6
  have y6 : w3.cell? ⟨O, 6, none⟩ = some (.string ⟨#[]⟩) := I2.out.wo.cell 6
  have f6 : w3.frozen? ⟨O, 6, none⟩ = false := I2.out.wo.fr 6
  have I3 := Lib.hid I2.out.put_key
  go_upto_region 14 with fail
  clear x6 y6 f6 I2
  generalize (w3.setCell ⟨O, 6, none⟩ (.string c.key)) = w4 at I3 ⊢
  have IC : Hid (UsI w c A n m O cc none 0 0 w4) := Lib.hid (by have := I3.out; rw [← HCC.out] at this; exact this)
  clear I3
  have x1 : w4.cell? ⟨w.heap.size, 1, none⟩ = some (.int .i64 c.call) := IC.out.wb.cell 1
  go_upto_region 44 with (go_at_call 138; refine (K0.out _).mono ?_; rintro e v ⟨rfl, rfl⟩; clear K0)
  go_wp2_with (first
    | (refine wpList_load_row rfl 36 (.tmp 4) rfl O rfl 36 (cA cc none 0 0) (0, 0) _ IC.out.wo Tryz.underlying36 rfl (info24 _ _ _ _) ?_)
    | (refine wpList_store_row rfl 36 (.tmp 2) (.tmp 208) rfl (w.heap.size + 1) (cA cc none 0 0) rfl rfl 36 (cA (zeroC 0) none 0 0) IC.out.wr (info24 _ _ _ _) rfl (all24 _ _ _ _) ?_))
  refine bodyPost_ret (results_row2 rfl _ _ (w.heap.size + 1) 36 (cA cc none 0 0) (0, 0) _ rfl (setRow_heap _ _ _ _ _ _ IC.out.wr) Tryz.underlying36 rfl (info24 _ _ _ _) (.bool false) rfl) rfl ?_
  exact ⟨rfl, below_row IC.out.bl (Nat.le_succ _) _⟩
set_option maxRecDepth 100000 in
set_option maxHeartbeats 4000000 in
theorem used_2_1 (c : Cv) (A : Option Addr) (n m : Nat) (w : World) (h : CmdIn w c A n m) (hk : c.k = 2) (h0 : 0 ≤ c.call ∧ c.call ≤ 2147483648) (h1 : ¬ (isName c.key.data.toList = true)) :
    Calls Tryz.prog 84 #[.agg (cA c A n m)] w fun e w' => e = .returned (.tuple #[.agg (cA (setF .key c (setF .call c (zeroC c.k))) none 0 0), .bool false]) ∧ Below w.heap.size w w' := by
  have I0 := Lib.hid (us_start w c A n m)
  obtain ⟨cc, hcc⟩ : ∃ cc, cc = (setF .key c (setF .call c (zeroC c.k))) := ⟨_, rfl⟩
  rw [← hcc]
  have HCC := Lib.hid hcc
  clear hcc
  have HZ := Lib.hid h.z
  have HIN := Lib.hid h
  have e0 : (c.k == 0) = false := by rw [hk]; rfl
  have e1 : (c.k == 1) = false := by rw [hk]; rfl
  have e2 : (c.k == 2) = true := by rw [hk]; rfl
  have K0 := Lib.hid (fun V => ucall_yes c.call V h0)
  have K1 := Lib.hid (fun V => by have := refName_any c.key V HZ.out.key; rw [show isName c.key.data.toList = false from Bool.eq_false_iff.2 h1] at this; exact this : ∀ V, Calls Tryz.prog 137 #[.string c.key] V fun e w' => e = .returned (.bool false) ∧ V = w')
  clear h HZ hk h0 h1
  go_enter Tryz.func84, Tryz.ntmps84
  go_upto_region 1 with fail
  rw [← zero24 0]
  generalize ((w.alloc (.cells (cA c A n m) 36)).alloc (.cells (cA (zeroC 0) none 0 0) 36)) = w1 at I0 ⊢
  have x0 : w1.cell? ⟨w.heap.size, 0, none⟩ = some (.int .i64 c.k) := I0.out.2.1.cell 0
  have I1 := Lib.hid (UsI.new I0.out c.k)
  go_upto_region 2 with (refine wpList_store_row rfl 36 (.tmp 4) (.tmp 8) rfl _ (cA (zeroC c.k) none 0 0) rfl rfl 36 _ (heap_alloc_new _ _) (info24 _ _ _ _) rfl (all24 _ _ _ _) ?_; rw [World.setRow_alloc_new])
  clear x0 I0
  generalize w1.alloc (.cells (cA (zeroC c.k) none 0 0) 36) = w2 at I1 ⊢
  generalize w1.heap.size = O at I1 ⊢
  have x0 : w2.cell? ⟨w.heap.size, 0, none⟩ = some (.int .i64 c.k) := I1.out.wb.cell 0
  have x1 : w2.cell? ⟨w.heap.size, 1, none⟩ = some (.int .i64 c.call) := I1.out.wb.cell 1
  have y1 : w2.cell? ⟨O, 1, none⟩ = some (.int .i64 0) := I1.out.wo.cell 1
  have f1 : w2.frozen? ⟨O, 1, none⟩ = false := I1.out.wo.fr 1
  have I2 := Lib.hid I1.out.put_call
  go_upto_region 13 with fail
  clear x0 x1 y1 f1 I1
  generalize (w2.setCell ⟨O, 1, none⟩ (.int .i64 c.call)) = w3 at I2 ⊢
  have x6 : w3.cell? ⟨w.heap.size, 6, none⟩ = some (.string c.key) := I2.out.wb.cell 6
  have y6 : w3.cell? ⟨O, 6, none⟩ = some (.string ⟨#[]⟩) := I2.out.wo.cell 6
  have f6 : w3.frozen? ⟨O, 6, none⟩ = false := I2.out.wo.fr 6
  have I3 := Lib.hid I2.out.put_key
  go_upto_region 14 with fail
  clear x6 y6 f6 I2
  generalize (w3.setCell ⟨O, 6, none⟩ (.string c.key)) = w4 at I3 ⊢
  have IC : Hid (UsI w c A n m O cc none 0 0 w4) := Lib.hid (by have := I3.out; rw [← HCC.out] at this; exact this)
  clear I3
  have x1 : w4.cell? ⟨w.heap.size, 1, none⟩ = some (.int .i64 c.call) := IC.out.wb.cell 1
  have x6 : w4.cell? ⟨w.heap.size, 6, none⟩ = some (.string c.key) := IC.out.wb.cell 6
  go_upto_region 44 with (first
    | (go_at_call 138; refine (K0.out _).mono ?_; rintro e v ⟨rfl, rfl⟩; clear K0)
    | (go_at_call 137; refine (K1.out _).mono ?_; rintro e v ⟨rfl, rfl⟩; clear K1))
  go_wp2_with (first
    | (refine wpList_load_row rfl 36 (.tmp 4) rfl O rfl 36 (cA cc none 0 0) (0, 0) _ IC.out.wo Tryz.underlying36 rfl (info24 _ _ _ _) ?_)
    | (refine wpList_store_row rfl 36 (.tmp 2) (.tmp 208) rfl (w.heap.size + 1) (cA cc none 0 0) rfl rfl 36 (cA (zeroC 0) none 0 0) IC.out.wr (info24 _ _ _ _) rfl (all24 _ _ _ _) ?_))
  refine bodyPost_ret (results_row2 rfl _ _ (w.heap.size + 1) 36 (cA cc none 0 0) (0, 0) _ rfl (setRow_heap _ _ _ _ _ _ IC.out.wr) Tryz.underlying36 rfl (info24 _ _ _ _) (.bool false) rfl) rfl ?_
  exact ⟨rfl, below_row IC.out.bl (Nat.le_succ _) _⟩
set_option maxRecDepth 100000 in
set_option maxHeartbeats 4000000 in
theorem used_2_2 (c : Cv) (A : Option Addr) (n m : Nat) (w : World) (h : CmdIn w c A n m) (hk : c.k = 2) (h0 : 0 ≤ c.call ∧ c.call ≤ 2147483648) (h1 : isName c.key.data.toList = true) :
    Calls Tryz.prog 84 #[.agg (cA c A n m)] w fun e w' => e = .returned (.tuple #[.agg (cA (setF .key c (setF .call c (zeroC c.k))) none 0 0), .bool true]) ∧ Below w.heap.size w w' := by
  have I0 := Lib.hid (us_start w c A n m)
  obtain ⟨cc, hcc⟩ : ∃ cc, cc = (setF .key c (setF .call c (zeroC c.k))) := ⟨_, rfl⟩
  rw [← hcc]
  have HCC := Lib.hid hcc
  clear hcc
  have HZ := Lib.hid h.z
  have HIN := Lib.hid h
  have e0 : (c.k == 0) = false := by rw [hk]; rfl
  have e1 : (c.k == 1) = false := by rw [hk]; rfl
  have e2 : (c.k == 2) = true := by rw [hk]; rfl
  have K0 := Lib.hid (fun V => ucall_yes c.call V h0)
  have K1 := Lib.hid (fun V => by have := refName_any c.key V HZ.out.key; rw [show isName c.key.data.toList = true from h1] at this; exact this : ∀ V, Calls Tryz.prog 137 #[.string c.key] V fun e w' => e = .returned (.bool true) ∧ V = w')
  clear h HZ hk h0 h1
  go_enter Tryz.func84, Tryz.ntmps84
  go_upto_region 1 with fail
  rw [← zero24 0]
  generalize ((w.alloc (.cells (cA c A n m) 36)).alloc (.cells (cA (zeroC 0) none 0 0) 36)) = w1 at I0 ⊢
  have x0 : w1.cell? ⟨w.heap.size, 0, none⟩ = some (.int .i64 c.k) := I0.out.2.1.cell 0
  have I1 := Lib.hid (UsI.new I0.out c.k)
  go_upto_region 2 with (refine wpList_store_row rfl 36 (.tmp 4) (.tmp 8) rfl _ (cA (zeroC c.k) none 0 0) rfl rfl 36 _ (heap_alloc_new _ _) (info24 _ _ _ _) rfl (all24 _ _ _ _) ?_; rw [World.setRow_alloc_new])
  clear x0 I0
  generalize w1.alloc (.cells (cA (zeroC c.k) none 0 0) 36) = w2 at I1 ⊢
  generalize w1.heap.size = O at I1 ⊢
  have x0 : w2.cell? ⟨w.heap.size, 0, none⟩ = some (.int .i64 c.k) := I1.out.wb.cell 0
  have x1 : w2.cell? ⟨w.heap.size, 1, none⟩ = some (.int .i64 c.call) := I1.out.wb.cell 1
  have y1 : w2.cell? ⟨O, 1, none⟩ = some (.int .i64 0) := I1.out.wo.cell 1
  have f1 : w2.frozen? ⟨O, 1, none⟩ = false := I1.out.wo.fr 1
  have I2 := Lib.hid I1.out.put_call
  go_upto_region 13 with fail
  clear x0 x1 y1 f1 I1
  generalize (w2.setCell ⟨O, 1, none⟩ (.int .i64 c.call)) = w3 at I2 ⊢
  have x6 : w3.cell? ⟨w.heap.size, 6, none⟩ = some (.string c.key) := I2.out.wb.cell 6
  have y6 : w3.cell? ⟨O, 6, none⟩ = some (.string ⟨#[]⟩) := I2.out.wo.cell 6
  have f6 : w3.frozen? ⟨O, 6, none⟩ = false := I2.out.wo.fr 6
  have I3 := Lib.hid I2.out.put_key
  go_upto_region 14 with fail
  clear x6 y6 f6 I2
  generalize (w3.setCell ⟨O, 6, none⟩ (.string c.key)) = w4 at I3 ⊢
  have IC : Hid (UsI w c A n m O cc none 0 0 w4) := Lib.hid (by have := I3.out; rw [← HCC.out] at this; exact this)
  clear I3
  have x1 : w4.cell? ⟨w.heap.size, 1, none⟩ = some (.int .i64 c.call) := IC.out.wb.cell 1
  have x6 : w4.cell? ⟨w.heap.size, 6, none⟩ = some (.string c.key) := IC.out.wb.cell 6
  go_upto_region 44 with (first
    | (go_at_call 138; refine (K0.out _).mono ?_; rintro e v ⟨rfl, rfl⟩; clear K0)
    | (go_at_call 137; refine (K1.out _).mono ?_; rintro e v ⟨rfl, rfl⟩; clear K1))
  go_wp2_with (first
    | (refine wpList_load_row rfl 36 (.tmp 4) rfl O rfl 36 (cA cc none 0 0) (0, 0) _ IC.out.wo Tryz.underlying36 rfl (info24 _ _ _ _) ?_)
    | (refine wpList_store_row rfl 36 (.tmp 2) (.tmp 208) rfl (w.heap.size + 1) (cA cc none 0 0) rfl rfl 36 (cA (zeroC 0) none 0 0) IC.out.wr (info24 _ _ _ _) rfl (all24 _ _ _ _) ?_))
  refine bodyPost_ret (results_row2 rfl _ _ (w.heap.size + 1) 36 (cA cc none 0 0) (0, 0) _ rfl (setRow_heap _ _ _ _ _ _ IC.out.wr) Tryz.underlying36 rfl (info24 _ _ _ _) (.bool true) rfl) rfl ?_
  exact ⟨rfl, below_row IC.out.bl (Nat.le_succ _) _⟩
end Go.Proofs.YtgjnmfmbheejoaaGreatDoor
