/- Whether two commands are equal. Condition: sizes as a machine's integers can say. -/
import Derived.Test.YtgjnmfmbheejoaaGreatDoorCmA
import Derived.Test.YtgjnmfmbheejoaaGreatDoorDfG
import Derived.Test.YtgjnmfmbheejoaaGreatDoorCmOk
namespace Go.Proofs.YtgjnmfmbheejoaaGreatDoor
open Go.RowKit Go.Shelf

theorem effNe_t (a0 b0 : Int) (a1 b1 : Int) (a2 b2 : Int) (h : a0 = b0 ∧ a1 = b1 ∧ a2 = b2) (W : World) : (binOp .neq 26 (.agg #[.int .i64 a0, .int .i64 a1, .int .i64 a2]) (.agg #[.int .i64 b0, .int .i64 b1, .int .i64 b2])).run Tryz.prog W = .ok (.bool false) W := by
  obtain ⟨rfl, rfl, rfl⟩ := h
  go_simp
theorem effNe_f (a0 b0 : Int) (a1 b1 : Int) (a2 b2 : Int) (h : ¬ (a0 = b0 ∧ a1 = b1 ∧ a2 = b2)) (W : World) : (binOp .neq 26 (.agg #[.int .i64 a0, .int .i64 a1, .int .i64 a2]) (.agg #[.int .i64 b0, .int .i64 b1, .int .i64 b2])).run Tryz.prog W = .ok (.bool true) W := by
  by_cases h0 : a0 = b0
  case neg =>
    clear h
    go_simp
  subst h0
  by_cases h1 : a1 = b1
  case neg =>
    clear h
    go_simp
  subst h1
  by_cases h2 : a2 = b2
  case neg =>
    clear h
    go_simp
  subst h2
  exact absurd ⟨rfl, rfl, rfl⟩ h
theorem rngNe_t (a0 b0 : ByteArray) (a1 b1 : ByteArray) (h : a0 = b0 ∧ a1 = b1) (W : World) : (binOp .neq 28 (.agg #[.string a0, .string a1]) (.agg #[.string b0, .string b1])).run Tryz.prog W = .ok (.bool false) W := by
  obtain ⟨rfl, rfl⟩ := h
  go_simp
theorem rngNe_f (a0 b0 : ByteArray) (a1 b1 : ByteArray) (h : ¬ (a0 = b0 ∧ a1 = b1)) (W : World) : (binOp .neq 28 (.agg #[.string a0, .string a1]) (.agg #[.string b0, .string b1])).run Tryz.prog W = .ok (.bool true) W := by
  by_cases h0 : a0 = b0
  case neg =>
    have e : (a0.toList == b0.toList) = false := key_ne.2 h0
    clear h
    go_simp
  subst h0
  by_cases h1 : a1 = b1
  case neg =>
    have e : (a1.toList == b1.toList) = false := key_ne.2 h1
    clear h
    go_simp
  subst h1
  exact absurd ⟨rfl, rfl⟩ h
theorem itNe_t (a0 b0 : Int) (a1 b1 : Int) (a2 b2 : Int) (a3 b3 : Int) (a4 b4 : Bool) (a5 b5 : Int) (h : a0 = b0 ∧ a1 = b1 ∧ a2 = b2 ∧ a3 = b3 ∧ a4 = b4 ∧ a5 = b5) (W : World) : (binOp .neq 33 (.agg #[.int .i64 a0, .int .i64 a1, .int .i64 a2, .int .i64 a3, .bool a4, .int .i64 a5]) (.agg #[.int .i64 b0, .int .i64 b1, .int .i64 b2, .int .i64 b3, .bool b4, .int .i64 b5])).run Tryz.prog W = .ok (.bool false) W := by
  obtain ⟨rfl, rfl, rfl, rfl, rfl, rfl⟩ := h
  go_simp
theorem itNe_f (a0 b0 : Int) (a1 b1 : Int) (a2 b2 : Int) (a3 b3 : Int) (a4 b4 : Bool) (a5 b5 : Int) (h : ¬ (a0 = b0 ∧ a1 = b1 ∧ a2 = b2 ∧ a3 = b3 ∧ a4 = b4 ∧ a5 = b5)) (W : World) : (binOp .neq 33 (.agg #[.int .i64 a0, .int .i64 a1, .int .i64 a2, .int .i64 a3, .bool a4, .int .i64 a5]) (.agg #[.int .i64 b0, .int .i64 b1, .int .i64 b2, .int .i64 b3, .bool b4, .int .i64 b5])).run Tryz.prog W = .ok (.bool true) W := by
  by_cases h0 : a0 = b0
  case neg =>
    clear h
    go_simp
  subst h0
  by_cases h1 : a1 = b1
  case neg =>
    clear h
    go_simp
  subst h1
  by_cases h2 : a2 = b2
  case neg =>
    clear h
    go_simp
  subst h2
  by_cases h3 : a3 = b3
  case neg =>
    clear h
    go_simp
  subst h3
  by_cases h4 : a4 = b4
  case neg =>
    clear h
    go_simp
  subst h4
  by_cases h5 : a5 = b5
  case neg =>
    clear h
    go_simp
  subst h5
  exact absurd ⟨rfl, rfl, rfl, rfl, rfl, rfl⟩ h
theorem cmd24 {W : World} {B : Nat} {c : Cv} {A : Option Addr} {n m : Nat} (h : Whole W B 36 (cA c A n m)) : W.cell? ⟨B, 0, none⟩ = some (.int .i64 c.k) ∧ W.cell? ⟨B, 1, none⟩ = some (.int .i64 c.call) ∧ W.cell? ⟨B, 2, none⟩ = some (.int .i64 c.saga) ∧ W.cell? ⟨B, 3, none⟩ = some (.int .i64 c.ea) ∧ W.cell? ⟨B, 4, none⟩ = some (.int .i64 c.eb) ∧ W.cell? ⟨B, 5, none⟩ = some (.int .i64 c.ec) ∧ W.cell? ⟨B, 6, none⟩ = some (.string c.key) ∧ W.cell? ⟨B, 7, none⟩ = some (.int .i64 c.dl) ∧ W.cell? ⟨B, 8, none⟩ = some (.int .i64 c.mv) ∧ W.cell? ⟨B, 9, none⟩ = some (.string c.f) ∧ W.cell? ⟨B, 10, none⟩ = some (.string c.t) ∧ W.cell? ⟨B, 11, none⟩ = some (.int .i64 c.g) ∧ W.cell? ⟨B, 12, none⟩ = some (.string c.d.n) ∧ W.cell? ⟨B, 13, none⟩ = some (.int .i64 c.d.r) ∧ W.cell? ⟨B, 14, none⟩ = some (.int .i64 c.d.dl) ∧ W.cell? ⟨B, 15, none⟩ = some (.slice A n m) ∧ W.cell? ⟨B, 16, none⟩ = some (.int .i64 c.it.a) ∧ W.cell? ⟨B, 17, none⟩ = some (.int .i64 c.it.b) ∧ W.cell? ⟨B, 18, none⟩ = some (.int .i64 c.it.c) ∧ W.cell? ⟨B, 19, none⟩ = some (.int .i64 c.it.m) ∧ W.cell? ⟨B, 20, none⟩ = some (.bool c.it.i) ∧ W.cell? ⟨B, 21, none⟩ = some (.int .i64 c.it.g) ∧ W.cell? ⟨B, 22, none⟩ = some (.int .i64 c.res) ∧ W.cell? ⟨B, 23, none⟩ = some (.string c.data) :=
  ⟨h.cell 0, h.cell 1, h.cell 2, h.cell 3, h.cell 4, h.cell 5, h.cell 6, h.cell 7, h.cell 8, h.cell 9, h.cell 10, h.cell 11, h.cell 12, h.cell 13, h.cell 14, h.cell 15, h.cell 16, h.cell 17, h.cell 18, h.cell 19, h.cell 20, h.cell 21, h.cell 22, h.cell 23⟩
set_option maxHeartbeats 4000000 in
theorem equal_0 (c c' : Cv) (A A' : Option Addr) (n n' m m' : Nat) (w : World) (h : CmdIn w c A n m) (h' : CmdIn w c' A' n' m') (h0 : ¬ (c.d = c'.d)) :
    Calls Tryz.prog 34 #[.agg (cA c A n m), .agg (cA c' A' n' m')] w fun e w' => e = .returned (.bool false) ∧ Below w.heap.size w w' := by
  have b2 := ((Below.refl w.heap.size w).alloc (Nat.le_refl _) (.cells (cA c A n m) 36)).alloc (by simp) (.cells (cA c' A' n' m') 36)
  have E1 := (defEqual_any c.d c'.d A A' n n' m m' _ (h.d.keep b2) (h'.d.keep b2)).mono (R' := fun e w' => e = .returned (.bool false) ∧ Below _ _ w') (fun e w' ⟨⟨q, he, hq⟩, hb⟩ => ⟨by rw [he]; rw [show q = false from Bool.eq_false_iff.2 (fun e => h0 (hq.1 e))], hb⟩)
  have W1 := (Whole.new w 36 (cA c A n m)).alloc (.cells (cA c' A' n' m') 36)
  have W2 := Whole.new (w.alloc (.cells (cA c A n m) 36)) 36 (cA c' A' n' m')
  rw [World.size_alloc] at W2
  have HB := Lib.hid b2
  unfold dV at E1
  have HW := Lib.hid (And.intro W1 W2)
  have E1 := Lib.hid E1
  clear h h' b2 W1 W2 h0
  unfold cA
  unfold cA at HW HB E1
  go_enter Tryz.func34, Tryz.ntmps34
  go_wp2_with (go_at_call 85; refine E1.out.mono ?_; rintro e w1 ⟨rfl, hb⟩; obtain ⟨x0, x1, x2, x3, x4, x5, x6, x7, x8, x9, x10, x11, x12, x13, x14, x15, x16, x17, x18, x19, x20, x21, x22, x23⟩ := cmd24 (HW.out.1.keep hb); obtain ⟨y0, y1, y2, y3, y4, y5, y6, y7, y8, y9, y10, y11, y12, y13, y14, y15, y16, y17, y18, y19, y20, y21, y22, y23⟩ := cmd24 (HW.out.2.keep hb); have BX := Lib.hid (HB.out.trans (hb.mono HB.out.size)); clear hb E1)
  go_ret
  exact ⟨rfl, BX.out⟩
set_option maxHeartbeats 4000000 in
theorem equal_1 (c c' : Cv) (A A' : Option Addr) (n n' m m' : Nat) (w : World) (h : CmdIn w c A n m) (h' : CmdIn w c' A' n' m') (h0 : c.d = c'.d) (h1 : ¬ (c.ea = c'.ea ∧ c.eb = c'.eb ∧ c.ec = c'.ec)) :
    Calls Tryz.prog 34 #[.agg (cA c A n m), .agg (cA c' A' n' m')] w fun e w' => e = .returned (.bool false) ∧ Below w.heap.size w w' := by
  have b2 := ((Below.refl w.heap.size w).alloc (Nat.le_refl _) (.cells (cA c A n m) 36)).alloc (by simp) (.cells (cA c' A' n' m') 36)
  have E1 := (defEqual_any c.d c'.d A A' n n' m m' _ (h.d.keep b2) (h'.d.keep b2)).mono (R' := fun e w' => e = .returned (.bool true) ∧ Below _ _ w') (fun e w' ⟨⟨q, he, hq⟩, hb⟩ => ⟨by rw [he]; rw [hq.2 h0], hb⟩)
  have W1 := (Whole.new w 36 (cA c A n m)).alloc (.cells (cA c' A' n' m') 36)
  have W2 := Whole.new (w.alloc (.cells (cA c A n m) 36)) 36 (cA c' A' n' m')
  rw [World.size_alloc] at W2
  have HB := Lib.hid b2
  have r1 := fun W => effNe_f _ _ _ _ _ _ h1 W
  unfold dV at E1
  have HW := Lib.hid (And.intro W1 W2)
  have E1 := Lib.hid E1
  clear h h' b2 W1 W2 h0 h1
  unfold cA
  unfold cA at HW HB E1
  go_enter Tryz.func34, Tryz.ntmps34
  go_wp2_with (go_at_call 85; refine E1.out.mono ?_; rintro e w1 ⟨rfl, hb⟩; obtain ⟨x0, x1, x2, x3, x4, x5, x6, x7, x8, x9, x10, x11, x12, x13, x14, x15, x16, x17, x18, x19, x20, x21, x22, x23⟩ := cmd24 (HW.out.1.keep hb); obtain ⟨y0, y1, y2, y3, y4, y5, y6, y7, y8, y9, y10, y11, y12, y13, y14, y15, y16, y17, y18, y19, y20, y21, y22, y23⟩ := cmd24 (HW.out.2.keep hb); have BX := Lib.hid (HB.out.trans (hb.mono HB.out.size)); clear hb E1)
  go_ret
  exact ⟨rfl, BX.out⟩
set_option maxHeartbeats 4000000 in
theorem equal_2 (c c' : Cv) (A A' : Option Addr) (n n' m m' : Nat) (w : World) (h : CmdIn w c A n m) (h' : CmdIn w c' A' n' m') (h0 : c.d = c'.d) (h1 : c.ea = c'.ea ∧ c.eb = c'.eb ∧ c.ec = c'.ec) (h2 : ¬ (c.f = c'.f ∧ c.t = c'.t)) :
    Calls Tryz.prog 34 #[.agg (cA c A n m), .agg (cA c' A' n' m')] w fun e w' => e = .returned (.bool false) ∧ Below w.heap.size w w' := by
  have b2 := ((Below.refl w.heap.size w).alloc (Nat.le_refl _) (.cells (cA c A n m) 36)).alloc (by simp) (.cells (cA c' A' n' m') 36)
  have E1 := (defEqual_any c.d c'.d A A' n n' m m' _ (h.d.keep b2) (h'.d.keep b2)).mono (R' := fun e w' => e = .returned (.bool true) ∧ Below _ _ w') (fun e w' ⟨⟨q, he, hq⟩, hb⟩ => ⟨by rw [he]; rw [hq.2 h0], hb⟩)
  have W1 := (Whole.new w 36 (cA c A n m)).alloc (.cells (cA c' A' n' m') 36)
  have W2 := Whole.new (w.alloc (.cells (cA c A n m) 36)) 36 (cA c' A' n' m')
  rw [World.size_alloc] at W2
  have HB := Lib.hid b2
  have r1 := fun W => effNe_t _ _ _ _ _ _ h1 W
  have r2 := fun W => rngNe_f _ _ _ _ h2 W
  unfold dV at E1
  have HW := Lib.hid (And.intro W1 W2)
  have E1 := Lib.hid E1
  clear h h' b2 W1 W2 h0 h1 h2
  unfold cA
  unfold cA at HW HB E1
  go_enter Tryz.func34, Tryz.ntmps34
  go_wp2_with (go_at_call 85; refine E1.out.mono ?_; rintro e w1 ⟨rfl, hb⟩; obtain ⟨x0, x1, x2, x3, x4, x5, x6, x7, x8, x9, x10, x11, x12, x13, x14, x15, x16, x17, x18, x19, x20, x21, x22, x23⟩ := cmd24 (HW.out.1.keep hb); obtain ⟨y0, y1, y2, y3, y4, y5, y6, y7, y8, y9, y10, y11, y12, y13, y14, y15, y16, y17, y18, y19, y20, y21, y22, y23⟩ := cmd24 (HW.out.2.keep hb); have BX := Lib.hid (HB.out.trans (hb.mono HB.out.size)); clear hb E1)
  go_ret
  exact ⟨rfl, BX.out⟩
set_option maxHeartbeats 4000000 in
theorem equal_3 (c c' : Cv) (A A' : Option Addr) (n n' m m' : Nat) (w : World) (h : CmdIn w c A n m) (h' : CmdIn w c' A' n' m') (h0 : c.d = c'.d) (h1 : c.ea = c'.ea ∧ c.eb = c'.eb ∧ c.ec = c'.ec) (h2 : c.f = c'.f ∧ c.t = c'.t) (h3 : ¬ (c.it.a = c'.it.a ∧ c.it.b = c'.it.b ∧ c.it.c = c'.it.c ∧ c.it.m = c'.it.m ∧ c.it.i = c'.it.i ∧ c.it.g = c'.it.g)) :
    Calls Tryz.prog 34 #[.agg (cA c A n m), .agg (cA c' A' n' m')] w fun e w' => e = .returned (.bool false) ∧ Below w.heap.size w w' := by
  have b2 := ((Below.refl w.heap.size w).alloc (Nat.le_refl _) (.cells (cA c A n m) 36)).alloc (by simp) (.cells (cA c' A' n' m') 36)
  have E1 := (defEqual_any c.d c'.d A A' n n' m m' _ (h.d.keep b2) (h'.d.keep b2)).mono (R' := fun e w' => e = .returned (.bool true) ∧ Below _ _ w') (fun e w' ⟨⟨q, he, hq⟩, hb⟩ => ⟨by rw [he]; rw [hq.2 h0], hb⟩)
  have W1 := (Whole.new w 36 (cA c A n m)).alloc (.cells (cA c' A' n' m') 36)
  have W2 := Whole.new (w.alloc (.cells (cA c A n m) 36)) 36 (cA c' A' n' m')
  rw [World.size_alloc] at W2
  have HB := Lib.hid b2
  have r1 := fun W => effNe_t _ _ _ _ _ _ h1 W
  have r2 := fun W => rngNe_t _ _ _ _ h2 W
  have r3 := fun W => itNe_f _ _ _ _ _ _ _ _ _ _ _ _ h3 W
  unfold dV at E1
  have HW := Lib.hid (And.intro W1 W2)
  have E1 := Lib.hid E1
  clear h h' b2 W1 W2 h0 h1 h2 h3
  unfold cA
  unfold cA at HW HB E1
  go_enter Tryz.func34, Tryz.ntmps34
  go_wp2_with (go_at_call 85; refine E1.out.mono ?_; rintro e w1 ⟨rfl, hb⟩; obtain ⟨x0, x1, x2, x3, x4, x5, x6, x7, x8, x9, x10, x11, x12, x13, x14, x15, x16, x17, x18, x19, x20, x21, x22, x23⟩ := cmd24 (HW.out.1.keep hb); obtain ⟨y0, y1, y2, y3, y4, y5, y6, y7, y8, y9, y10, y11, y12, y13, y14, y15, y16, y17, y18, y19, y20, y21, y22, y23⟩ := cmd24 (HW.out.2.keep hb); have BX := Lib.hid (HB.out.trans (hb.mono HB.out.size)); clear hb E1)
  go_ret
  exact ⟨rfl, BX.out⟩
set_option maxHeartbeats 4000000 in
theorem equal_4 (c c' : Cv) (A A' : Option Addr) (n n' m m' : Nat) (w : World) (h : CmdIn w c A n m) (h' : CmdIn w c' A' n' m') (h0 : c.d = c'.d) (h1 : c.ea = c'.ea ∧ c.eb = c'.eb ∧ c.ec = c'.ec) (h2 : c.f = c'.f ∧ c.t = c'.t) (h3 : c.it.a = c'.it.a ∧ c.it.b = c'.it.b ∧ c.it.c = c'.it.c ∧ c.it.m = c'.it.m ∧ c.it.i = c'.it.i ∧ c.it.g = c'.it.g) (h4 : ¬ (c.k = c'.k)) :
    Calls Tryz.prog 34 #[.agg (cA c A n m), .agg (cA c' A' n' m')] w fun e w' => e = .returned (.bool false) ∧ Below w.heap.size w w' := by
  have b2 := ((Below.refl w.heap.size w).alloc (Nat.le_refl _) (.cells (cA c A n m) 36)).alloc (by simp) (.cells (cA c' A' n' m') 36)
  have E1 := (defEqual_any c.d c'.d A A' n n' m m' _ (h.d.keep b2) (h'.d.keep b2)).mono (R' := fun e w' => e = .returned (.bool true) ∧ Below _ _ w') (fun e w' ⟨⟨q, he, hq⟩, hb⟩ => ⟨by rw [he]; rw [hq.2 h0], hb⟩)
  have W1 := (Whole.new w 36 (cA c A n m)).alloc (.cells (cA c' A' n' m') 36)
  have W2 := Whole.new (w.alloc (.cells (cA c A n m) 36)) 36 (cA c' A' n' m')
  rw [World.size_alloc] at W2
  have HB := Lib.hid b2
  have r1 := fun W => effNe_t _ _ _ _ _ _ h1 W
  have r2 := fun W => rngNe_t _ _ _ _ h2 W
  have r3 := fun W => itNe_t _ _ _ _ _ _ _ _ _ _ _ _ h3 W
  have r4 : (c.k == c'.k) = false := beq_eq_false_iff_ne.2 h4
  unfold dV at E1
  have HW := Lib.hid (And.intro W1 W2)
  have E1 := Lib.hid E1
  clear h h' b2 W1 W2 h0 h1 h2 h3 h4
  unfold cA
  unfold cA at HW HB E1
  go_enter Tryz.func34, Tryz.ntmps34
  go_wp2_with (go_at_call 85; refine E1.out.mono ?_; rintro e w1 ⟨rfl, hb⟩; obtain ⟨x0, x1, x2, x3, x4, x5, x6, x7, x8, x9, x10, x11, x12, x13, x14, x15, x16, x17, x18, x19, x20, x21, x22, x23⟩ := cmd24 (HW.out.1.keep hb); obtain ⟨y0, y1, y2, y3, y4, y5, y6, y7, y8, y9, y10, y11, y12, y13, y14, y15, y16, y17, y18, y19, y20, y21, y22, y23⟩ := cmd24 (HW.out.2.keep hb); have BX := Lib.hid (HB.out.trans (hb.mono HB.out.size)); clear hb E1)
  go_ret
  exact ⟨rfl, BX.out⟩
set_option maxHeartbeats 4000000 in
theorem equal_5 (c c' : Cv) (A A' : Option Addr) (n n' m m' : Nat) (w : World) (h : CmdIn w c A n m) (h' : CmdIn w c' A' n' m') (h0 : c.d = c'.d) (h1 : c.ea = c'.ea ∧ c.eb = c'.eb ∧ c.ec = c'.ec) (h2 : c.f = c'.f ∧ c.t = c'.t) (h3 : c.it.a = c'.it.a ∧ c.it.b = c'.it.b ∧ c.it.c = c'.it.c ∧ c.it.m = c'.it.m ∧ c.it.i = c'.it.i ∧ c.it.g = c'.it.g) (h4 : c.k = c'.k) (h5 : ¬ (c.call = c'.call)) :
    Calls Tryz.prog 34 #[.agg (cA c A n m), .agg (cA c' A' n' m')] w fun e w' => e = .returned (.bool false) ∧ Below w.heap.size w w' := by
  have b2 := ((Below.refl w.heap.size w).alloc (Nat.le_refl _) (.cells (cA c A n m) 36)).alloc (by simp) (.cells (cA c' A' n' m') 36)
  have E1 := (defEqual_any c.d c'.d A A' n n' m m' _ (h.d.keep b2) (h'.d.keep b2)).mono (R' := fun e w' => e = .returned (.bool true) ∧ Below _ _ w') (fun e w' ⟨⟨q, he, hq⟩, hb⟩ => ⟨by rw [he]; rw [hq.2 h0], hb⟩)
  have W1 := (Whole.new w 36 (cA c A n m)).alloc (.cells (cA c' A' n' m') 36)
  have W2 := Whole.new (w.alloc (.cells (cA c A n m) 36)) 36 (cA c' A' n' m')
  rw [World.size_alloc] at W2
  have HB := Lib.hid b2
  have r1 := fun W => effNe_t _ _ _ _ _ _ h1 W
  have r2 := fun W => rngNe_t _ _ _ _ h2 W
  have r3 := fun W => itNe_t _ _ _ _ _ _ _ _ _ _ _ _ h3 W
  have r4 : (c.k == c'.k) = true := beq_iff_eq.2 h4
  have r5 : (c.call == c'.call) = false := beq_eq_false_iff_ne.2 h5
  unfold dV at E1
  have HW := Lib.hid (And.intro W1 W2)
  have E1 := Lib.hid E1
  clear h h' b2 W1 W2 h0 h1 h2 h3 h4 h5
  unfold cA
  unfold cA at HW HB E1
  go_enter Tryz.func34, Tryz.ntmps34
  go_wp2_with (go_at_call 85; refine E1.out.mono ?_; rintro e w1 ⟨rfl, hb⟩; obtain ⟨x0, x1, x2, x3, x4, x5, x6, x7, x8, x9, x10, x11, x12, x13, x14, x15, x16, x17, x18, x19, x20, x21, x22, x23⟩ := cmd24 (HW.out.1.keep hb); obtain ⟨y0, y1, y2, y3, y4, y5, y6, y7, y8, y9, y10, y11, y12, y13, y14, y15, y16, y17, y18, y19, y20, y21, y22, y23⟩ := cmd24 (HW.out.2.keep hb); have BX := Lib.hid (HB.out.trans (hb.mono HB.out.size)); clear hb E1)
  go_ret
  exact ⟨rfl, BX.out⟩
set_option maxHeartbeats 4000000 in
theorem equal_6 (c c' : Cv) (A A' : Option Addr) (n n' m m' : Nat) (w : World) (h : CmdIn w c A n m) (h' : CmdIn w c' A' n' m') (h0 : c.d = c'.d) (h1 : c.ea = c'.ea ∧ c.eb = c'.eb ∧ c.ec = c'.ec) (h2 : c.f = c'.f ∧ c.t = c'.t) (h3 : c.it.a = c'.it.a ∧ c.it.b = c'.it.b ∧ c.it.c = c'.it.c ∧ c.it.m = c'.it.m ∧ c.it.i = c'.it.i ∧ c.it.g = c'.it.g) (h4 : c.k = c'.k) (h5 : c.call = c'.call) (h6 : ¬ (c.saga = c'.saga)) :
    Calls Tryz.prog 34 #[.agg (cA c A n m), .agg (cA c' A' n' m')] w fun e w' => e = .returned (.bool false) ∧ Below w.heap.size w w' := by
  have b2 := ((Below.refl w.heap.size w).alloc (Nat.le_refl _) (.cells (cA c A n m) 36)).alloc (by simp) (.cells (cA c' A' n' m') 36)
  have E1 := (defEqual_any c.d c'.d A A' n n' m m' _ (h.d.keep b2) (h'.d.keep b2)).mono (R' := fun e w' => e = .returned (.bool true) ∧ Below _ _ w') (fun e w' ⟨⟨q, he, hq⟩, hb⟩ => ⟨by rw [he]; rw [hq.2 h0], hb⟩)
  have W1 := (Whole.new w 36 (cA c A n m)).alloc (.cells (cA c' A' n' m') 36)
  have W2 := Whole.new (w.alloc (.cells (cA c A n m) 36)) 36 (cA c' A' n' m')
  rw [World.size_alloc] at W2
  have HB := Lib.hid b2
  have r1 := fun W => effNe_t _ _ _ _ _ _ h1 W
  have r2 := fun W => rngNe_t _ _ _ _ h2 W
  have r3 := fun W => itNe_t _ _ _ _ _ _ _ _ _ _ _ _ h3 W
  have r4 : (c.k == c'.k) = true := beq_iff_eq.2 h4
  have r5 : (c.call == c'.call) = true := beq_iff_eq.2 h5
  have r6 : (c.saga == c'.saga) = false := beq_eq_false_iff_ne.2 h6
  unfold dV at E1
  have HW := Lib.hid (And.intro W1 W2)
  have E1 := Lib.hid E1
  clear h h' b2 W1 W2 h0 h1 h2 h3 h4 h5 h6
  unfold cA
  unfold cA at HW HB E1
  go_enter Tryz.func34, Tryz.ntmps34
  go_wp2_with (go_at_call 85; refine E1.out.mono ?_; rintro e w1 ⟨rfl, hb⟩; obtain ⟨x0, x1, x2, x3, x4, x5, x6, x7, x8, x9, x10, x11, x12, x13, x14, x15, x16, x17, x18, x19, x20, x21, x22, x23⟩ := cmd24 (HW.out.1.keep hb); obtain ⟨y0, y1, y2, y3, y4, y5, y6, y7, y8, y9, y10, y11, y12, y13, y14, y15, y16, y17, y18, y19, y20, y21, y22, y23⟩ := cmd24 (HW.out.2.keep hb); have BX := Lib.hid (HB.out.trans (hb.mono HB.out.size)); clear hb E1)
  go_ret
  exact ⟨rfl, BX.out⟩
set_option maxHeartbeats 4000000 in
theorem equal_7 (c c' : Cv) (A A' : Option Addr) (n n' m m' : Nat) (w : World) (h : CmdIn w c A n m) (h' : CmdIn w c' A' n' m') (h0 : c.d = c'.d) (h1 : c.ea = c'.ea ∧ c.eb = c'.eb ∧ c.ec = c'.ec) (h2 : c.f = c'.f ∧ c.t = c'.t) (h3 : c.it.a = c'.it.a ∧ c.it.b = c'.it.b ∧ c.it.c = c'.it.c ∧ c.it.m = c'.it.m ∧ c.it.i = c'.it.i ∧ c.it.g = c'.it.g) (h4 : c.k = c'.k) (h5 : c.call = c'.call) (h6 : c.saga = c'.saga) (h7 : ¬ (c.key = c'.key)) :
    Calls Tryz.prog 34 #[.agg (cA c A n m), .agg (cA c' A' n' m')] w fun e w' => e = .returned (.bool false) ∧ Below w.heap.size w w' := by
  have b2 := ((Below.refl w.heap.size w).alloc (Nat.le_refl _) (.cells (cA c A n m) 36)).alloc (by simp) (.cells (cA c' A' n' m') 36)
  have E1 := (defEqual_any c.d c'.d A A' n n' m m' _ (h.d.keep b2) (h'.d.keep b2)).mono (R' := fun e w' => e = .returned (.bool true) ∧ Below _ _ w') (fun e w' ⟨⟨q, he, hq⟩, hb⟩ => ⟨by rw [he]; rw [hq.2 h0], hb⟩)
  have W1 := (Whole.new w 36 (cA c A n m)).alloc (.cells (cA c' A' n' m') 36)
  have W2 := Whole.new (w.alloc (.cells (cA c A n m) 36)) 36 (cA c' A' n' m')
  rw [World.size_alloc] at W2
  have HB := Lib.hid b2
  have r1 := fun W => effNe_t _ _ _ _ _ _ h1 W
  have r2 := fun W => rngNe_t _ _ _ _ h2 W
  have r3 := fun W => itNe_t _ _ _ _ _ _ _ _ _ _ _ _ h3 W
  have r4 : (c.k == c'.k) = true := beq_iff_eq.2 h4
  have r5 : (c.call == c'.call) = true := beq_iff_eq.2 h5
  have r6 : (c.saga == c'.saga) = true := beq_iff_eq.2 h6
  have r7 : (c.key.toList == c'.key.toList) = false := key_ne.2 h7
  unfold dV at E1
  have HW := Lib.hid (And.intro W1 W2)
  have E1 := Lib.hid E1
  clear h h' b2 W1 W2 h0 h1 h2 h3 h4 h5 h6 h7
  unfold cA
  unfold cA at HW HB E1
  go_enter Tryz.func34, Tryz.ntmps34
  go_wp2_with (go_at_call 85; refine E1.out.mono ?_; rintro e w1 ⟨rfl, hb⟩; obtain ⟨x0, x1, x2, x3, x4, x5, x6, x7, x8, x9, x10, x11, x12, x13, x14, x15, x16, x17, x18, x19, x20, x21, x22, x23⟩ := cmd24 (HW.out.1.keep hb); obtain ⟨y0, y1, y2, y3, y4, y5, y6, y7, y8, y9, y10, y11, y12, y13, y14, y15, y16, y17, y18, y19, y20, y21, y22, y23⟩ := cmd24 (HW.out.2.keep hb); have BX := Lib.hid (HB.out.trans (hb.mono HB.out.size)); clear hb E1)
  go_ret
  exact ⟨rfl, BX.out⟩
set_option maxHeartbeats 4000000 in
theorem equal_8 (c c' : Cv) (A A' : Option Addr) (n n' m m' : Nat) (w : World) (h : CmdIn w c A n m) (h' : CmdIn w c' A' n' m') (h0 : c.d = c'.d) (h1 : c.ea = c'.ea ∧ c.eb = c'.eb ∧ c.ec = c'.ec) (h2 : c.f = c'.f ∧ c.t = c'.t) (h3 : c.it.a = c'.it.a ∧ c.it.b = c'.it.b ∧ c.it.c = c'.it.c ∧ c.it.m = c'.it.m ∧ c.it.i = c'.it.i ∧ c.it.g = c'.it.g) (h4 : c.k = c'.k) (h5 : c.call = c'.call) (h6 : c.saga = c'.saga) (h7 : c.key = c'.key) (h8 : ¬ (c.dl = c'.dl)) :
    Calls Tryz.prog 34 #[.agg (cA c A n m), .agg (cA c' A' n' m')] w fun e w' => e = .returned (.bool false) ∧ Below w.heap.size w w' := by
  have b2 := ((Below.refl w.heap.size w).alloc (Nat.le_refl _) (.cells (cA c A n m) 36)).alloc (by simp) (.cells (cA c' A' n' m') 36)
  have E1 := (defEqual_any c.d c'.d A A' n n' m m' _ (h.d.keep b2) (h'.d.keep b2)).mono (R' := fun e w' => e = .returned (.bool true) ∧ Below _ _ w') (fun e w' ⟨⟨q, he, hq⟩, hb⟩ => ⟨by rw [he]; rw [hq.2 h0], hb⟩)
  have W1 := (Whole.new w 36 (cA c A n m)).alloc (.cells (cA c' A' n' m') 36)
  have W2 := Whole.new (w.alloc (.cells (cA c A n m) 36)) 36 (cA c' A' n' m')
  rw [World.size_alloc] at W2
  have HB := Lib.hid b2
  have r1 := fun W => effNe_t _ _ _ _ _ _ h1 W
  have r2 := fun W => rngNe_t _ _ _ _ h2 W
  have r3 := fun W => itNe_t _ _ _ _ _ _ _ _ _ _ _ _ h3 W
  have r4 : (c.k == c'.k) = true := beq_iff_eq.2 h4
  have r5 : (c.call == c'.call) = true := beq_iff_eq.2 h5
  have r6 : (c.saga == c'.saga) = true := beq_iff_eq.2 h6
  have r7 : (c.key.toList == c'.key.toList) = true := key_eq.2 h7
  have r8 : (c.dl == c'.dl) = false := beq_eq_false_iff_ne.2 h8
  unfold dV at E1
  have HW := Lib.hid (And.intro W1 W2)
  have E1 := Lib.hid E1
  clear h h' b2 W1 W2 h0 h1 h2 h3 h4 h5 h6 h7 h8
  unfold cA
  unfold cA at HW HB E1
  go_enter Tryz.func34, Tryz.ntmps34
  go_wp2_with (go_at_call 85; refine E1.out.mono ?_; rintro e w1 ⟨rfl, hb⟩; obtain ⟨x0, x1, x2, x3, x4, x5, x6, x7, x8, x9, x10, x11, x12, x13, x14, x15, x16, x17, x18, x19, x20, x21, x22, x23⟩ := cmd24 (HW.out.1.keep hb); obtain ⟨y0, y1, y2, y3, y4, y5, y6, y7, y8, y9, y10, y11, y12, y13, y14, y15, y16, y17, y18, y19, y20, y21, y22, y23⟩ := cmd24 (HW.out.2.keep hb); have BX := Lib.hid (HB.out.trans (hb.mono HB.out.size)); clear hb E1)
  go_ret
  exact ⟨rfl, BX.out⟩
set_option maxHeartbeats 4000000 in
theorem equal_9 (c c' : Cv) (A A' : Option Addr) (n n' m m' : Nat) (w : World) (h : CmdIn w c A n m) (h' : CmdIn w c' A' n' m') (h0 : c.d = c'.d) (h1 : c.ea = c'.ea ∧ c.eb = c'.eb ∧ c.ec = c'.ec) (h2 : c.f = c'.f ∧ c.t = c'.t) (h3 : c.it.a = c'.it.a ∧ c.it.b = c'.it.b ∧ c.it.c = c'.it.c ∧ c.it.m = c'.it.m ∧ c.it.i = c'.it.i ∧ c.it.g = c'.it.g) (h4 : c.k = c'.k) (h5 : c.call = c'.call) (h6 : c.saga = c'.saga) (h7 : c.key = c'.key) (h8 : c.dl = c'.dl) (h9 : ¬ (c.mv = c'.mv)) :
    Calls Tryz.prog 34 #[.agg (cA c A n m), .agg (cA c' A' n' m')] w fun e w' => e = .returned (.bool false) ∧ Below w.heap.size w w' := by
  have b2 := ((Below.refl w.heap.size w).alloc (Nat.le_refl _) (.cells (cA c A n m) 36)).alloc (by simp) (.cells (cA c' A' n' m') 36)
  have E1 := (defEqual_any c.d c'.d A A' n n' m m' _ (h.d.keep b2) (h'.d.keep b2)).mono (R' := fun e w' => e = .returned (.bool true) ∧ Below _ _ w') (fun e w' ⟨⟨q, he, hq⟩, hb⟩ => ⟨by rw [he]; rw [hq.2 h0], hb⟩)
  have W1 := (Whole.new w 36 (cA c A n m)).alloc (.cells (cA c' A' n' m') 36)
  have W2 := Whole.new (w.alloc (.cells (cA c A n m) 36)) 36 (cA c' A' n' m')
  rw [World.size_alloc] at W2
  have HB := Lib.hid b2
  have r1 := fun W => effNe_t _ _ _ _ _ _ h1 W
  have r2 := fun W => rngNe_t _ _ _ _ h2 W
  have r3 := fun W => itNe_t _ _ _ _ _ _ _ _ _ _ _ _ h3 W
  have r4 : (c.k == c'.k) = true := beq_iff_eq.2 h4
  have r5 : (c.call == c'.call) = true := beq_iff_eq.2 h5
  have r6 : (c.saga == c'.saga) = true := beq_iff_eq.2 h6
  have r7 : (c.key.toList == c'.key.toList) = true := key_eq.2 h7
  have r8 : (c.dl == c'.dl) = true := beq_iff_eq.2 h8
  have r9 : (c.mv == c'.mv) = false := beq_eq_false_iff_ne.2 h9
  unfold dV at E1
  have HW := Lib.hid (And.intro W1 W2)
  have E1 := Lib.hid E1
  clear h h' b2 W1 W2 h0 h1 h2 h3 h4 h5 h6 h7 h8 h9
  unfold cA
  unfold cA at HW HB E1
  go_enter Tryz.func34, Tryz.ntmps34
  go_wp2_with (go_at_call 85; refine E1.out.mono ?_; rintro e w1 ⟨rfl, hb⟩; obtain ⟨x0, x1, x2, x3, x4, x5, x6, x7, x8, x9, x10, x11, x12, x13, x14, x15, x16, x17, x18, x19, x20, x21, x22, x23⟩ := cmd24 (HW.out.1.keep hb); obtain ⟨y0, y1, y2, y3, y4, y5, y6, y7, y8, y9, y10, y11, y12, y13, y14, y15, y16, y17, y18, y19, y20, y21, y22, y23⟩ := cmd24 (HW.out.2.keep hb); have BX := Lib.hid (HB.out.trans (hb.mono HB.out.size)); clear hb E1)
  go_ret
  exact ⟨rfl, BX.out⟩
set_option maxHeartbeats 4000000 in
theorem equal_10 (c c' : Cv) (A A' : Option Addr) (n n' m m' : Nat) (w : World) (h : CmdIn w c A n m) (h' : CmdIn w c' A' n' m') (h0 : c.d = c'.d) (h1 : c.ea = c'.ea ∧ c.eb = c'.eb ∧ c.ec = c'.ec) (h2 : c.f = c'.f ∧ c.t = c'.t) (h3 : c.it.a = c'.it.a ∧ c.it.b = c'.it.b ∧ c.it.c = c'.it.c ∧ c.it.m = c'.it.m ∧ c.it.i = c'.it.i ∧ c.it.g = c'.it.g) (h4 : c.k = c'.k) (h5 : c.call = c'.call) (h6 : c.saga = c'.saga) (h7 : c.key = c'.key) (h8 : c.dl = c'.dl) (h9 : c.mv = c'.mv) (h10 : ¬ (c.g = c'.g)) :
    Calls Tryz.prog 34 #[.agg (cA c A n m), .agg (cA c' A' n' m')] w fun e w' => e = .returned (.bool false) ∧ Below w.heap.size w w' := by
  have b2 := ((Below.refl w.heap.size w).alloc (Nat.le_refl _) (.cells (cA c A n m) 36)).alloc (by simp) (.cells (cA c' A' n' m') 36)
  have E1 := (defEqual_any c.d c'.d A A' n n' m m' _ (h.d.keep b2) (h'.d.keep b2)).mono (R' := fun e w' => e = .returned (.bool true) ∧ Below _ _ w') (fun e w' ⟨⟨q, he, hq⟩, hb⟩ => ⟨by rw [he]; rw [hq.2 h0], hb⟩)
  have W1 := (Whole.new w 36 (cA c A n m)).alloc (.cells (cA c' A' n' m') 36)
  have W2 := Whole.new (w.alloc (.cells (cA c A n m) 36)) 36 (cA c' A' n' m')
  rw [World.size_alloc] at W2
  have HB := Lib.hid b2
  have r1 := fun W => effNe_t _ _ _ _ _ _ h1 W
  have r2 := fun W => rngNe_t _ _ _ _ h2 W
  have r3 := fun W => itNe_t _ _ _ _ _ _ _ _ _ _ _ _ h3 W
  have r4 : (c.k == c'.k) = true := beq_iff_eq.2 h4
  have r5 : (c.call == c'.call) = true := beq_iff_eq.2 h5
  have r6 : (c.saga == c'.saga) = true := beq_iff_eq.2 h6
  have r7 : (c.key.toList == c'.key.toList) = true := key_eq.2 h7
  have r8 : (c.dl == c'.dl) = true := beq_iff_eq.2 h8
  have r9 : (c.mv == c'.mv) = true := beq_iff_eq.2 h9
  have r10 : (c.g == c'.g) = false := beq_eq_false_iff_ne.2 h10
  unfold dV at E1
  have HW := Lib.hid (And.intro W1 W2)
  have E1 := Lib.hid E1
  clear h h' b2 W1 W2 h0 h1 h2 h3 h4 h5 h6 h7 h8 h9 h10
  unfold cA
  unfold cA at HW HB E1
  go_enter Tryz.func34, Tryz.ntmps34
  go_wp2_with (go_at_call 85; refine E1.out.mono ?_; rintro e w1 ⟨rfl, hb⟩; obtain ⟨x0, x1, x2, x3, x4, x5, x6, x7, x8, x9, x10, x11, x12, x13, x14, x15, x16, x17, x18, x19, x20, x21, x22, x23⟩ := cmd24 (HW.out.1.keep hb); obtain ⟨y0, y1, y2, y3, y4, y5, y6, y7, y8, y9, y10, y11, y12, y13, y14, y15, y16, y17, y18, y19, y20, y21, y22, y23⟩ := cmd24 (HW.out.2.keep hb); have BX := Lib.hid (HB.out.trans (hb.mono HB.out.size)); clear hb E1)
  go_ret
  exact ⟨rfl, BX.out⟩
set_option maxHeartbeats 4000000 in
theorem equal_11 (c c' : Cv) (A A' : Option Addr) (n n' m m' : Nat) (w : World) (h : CmdIn w c A n m) (h' : CmdIn w c' A' n' m') (h0 : c.d = c'.d) (h1 : c.ea = c'.ea ∧ c.eb = c'.eb ∧ c.ec = c'.ec) (h2 : c.f = c'.f ∧ c.t = c'.t) (h3 : c.it.a = c'.it.a ∧ c.it.b = c'.it.b ∧ c.it.c = c'.it.c ∧ c.it.m = c'.it.m ∧ c.it.i = c'.it.i ∧ c.it.g = c'.it.g) (h4 : c.k = c'.k) (h5 : c.call = c'.call) (h6 : c.saga = c'.saga) (h7 : c.key = c'.key) (h8 : c.dl = c'.dl) (h9 : c.mv = c'.mv) (h10 : c.g = c'.g) (h11 : ¬ (c.res = c'.res)) :
    Calls Tryz.prog 34 #[.agg (cA c A n m), .agg (cA c' A' n' m')] w fun e w' => e = .returned (.bool false) ∧ Below w.heap.size w w' := by
  have b2 := ((Below.refl w.heap.size w).alloc (Nat.le_refl _) (.cells (cA c A n m) 36)).alloc (by simp) (.cells (cA c' A' n' m') 36)
  have E1 := (defEqual_any c.d c'.d A A' n n' m m' _ (h.d.keep b2) (h'.d.keep b2)).mono (R' := fun e w' => e = .returned (.bool true) ∧ Below _ _ w') (fun e w' ⟨⟨q, he, hq⟩, hb⟩ => ⟨by rw [he]; rw [hq.2 h0], hb⟩)
  have W1 := (Whole.new w 36 (cA c A n m)).alloc (.cells (cA c' A' n' m') 36)
  have W2 := Whole.new (w.alloc (.cells (cA c A n m) 36)) 36 (cA c' A' n' m')
  rw [World.size_alloc] at W2
  have HB := Lib.hid b2
  have r1 := fun W => effNe_t _ _ _ _ _ _ h1 W
  have r2 := fun W => rngNe_t _ _ _ _ h2 W
  have r3 := fun W => itNe_t _ _ _ _ _ _ _ _ _ _ _ _ h3 W
  have r4 : (c.k == c'.k) = true := beq_iff_eq.2 h4
  have r5 : (c.call == c'.call) = true := beq_iff_eq.2 h5
  have r6 : (c.saga == c'.saga) = true := beq_iff_eq.2 h6
  have r7 : (c.key.toList == c'.key.toList) = true := key_eq.2 h7
  have r8 : (c.dl == c'.dl) = true := beq_iff_eq.2 h8
  have r9 : (c.mv == c'.mv) = true := beq_iff_eq.2 h9
  have r10 : (c.g == c'.g) = true := beq_iff_eq.2 h10
  have r11 : (c.res == c'.res) = false := beq_eq_false_iff_ne.2 h11
  unfold dV at E1
  have HW := Lib.hid (And.intro W1 W2)
  have E1 := Lib.hid E1
  clear h h' b2 W1 W2 h0 h1 h2 h3 h4 h5 h6 h7 h8 h9 h10 h11
  unfold cA
  unfold cA at HW HB E1
  go_enter Tryz.func34, Tryz.ntmps34
  go_wp2_with (go_at_call 85; refine E1.out.mono ?_; rintro e w1 ⟨rfl, hb⟩; obtain ⟨x0, x1, x2, x3, x4, x5, x6, x7, x8, x9, x10, x11, x12, x13, x14, x15, x16, x17, x18, x19, x20, x21, x22, x23⟩ := cmd24 (HW.out.1.keep hb); obtain ⟨y0, y1, y2, y3, y4, y5, y6, y7, y8, y9, y10, y11, y12, y13, y14, y15, y16, y17, y18, y19, y20, y21, y22, y23⟩ := cmd24 (HW.out.2.keep hb); have BX := Lib.hid (HB.out.trans (hb.mono HB.out.size)); clear hb E1)
  go_ret
  exact ⟨rfl, BX.out⟩
set_option maxHeartbeats 4000000 in
theorem equal_12 (c c' : Cv) (A A' : Option Addr) (n n' m m' : Nat) (w : World) (h : CmdIn w c A n m) (h' : CmdIn w c' A' n' m') (h0 : c.d = c'.d) (h1 : c.ea = c'.ea ∧ c.eb = c'.eb ∧ c.ec = c'.ec) (h2 : c.f = c'.f ∧ c.t = c'.t) (h3 : c.it.a = c'.it.a ∧ c.it.b = c'.it.b ∧ c.it.c = c'.it.c ∧ c.it.m = c'.it.m ∧ c.it.i = c'.it.i ∧ c.it.g = c'.it.g) (h4 : c.k = c'.k) (h5 : c.call = c'.call) (h6 : c.saga = c'.saga) (h7 : c.key = c'.key) (h8 : c.dl = c'.dl) (h9 : c.mv = c'.mv) (h10 : c.g = c'.g) (h11 : c.res = c'.res) (h12 : ¬ (c.data = c'.data)) :
    Calls Tryz.prog 34 #[.agg (cA c A n m), .agg (cA c' A' n' m')] w fun e w' => e = .returned (.bool false) ∧ Below w.heap.size w w' := by
  have b2 := ((Below.refl w.heap.size w).alloc (Nat.le_refl _) (.cells (cA c A n m) 36)).alloc (by simp) (.cells (cA c' A' n' m') 36)
  have E1 := (defEqual_any c.d c'.d A A' n n' m m' _ (h.d.keep b2) (h'.d.keep b2)).mono (R' := fun e w' => e = .returned (.bool true) ∧ Below _ _ w') (fun e w' ⟨⟨q, he, hq⟩, hb⟩ => ⟨by rw [he]; rw [hq.2 h0], hb⟩)
  have W1 := (Whole.new w 36 (cA c A n m)).alloc (.cells (cA c' A' n' m') 36)
  have W2 := Whole.new (w.alloc (.cells (cA c A n m) 36)) 36 (cA c' A' n' m')
  rw [World.size_alloc] at W2
  have HB := Lib.hid b2
  have r1 := fun W => effNe_t _ _ _ _ _ _ h1 W
  have r2 := fun W => rngNe_t _ _ _ _ h2 W
  have r3 := fun W => itNe_t _ _ _ _ _ _ _ _ _ _ _ _ h3 W
  have r4 : (c.k == c'.k) = true := beq_iff_eq.2 h4
  have r5 : (c.call == c'.call) = true := beq_iff_eq.2 h5
  have r6 : (c.saga == c'.saga) = true := beq_iff_eq.2 h6
  have r7 : (c.key.toList == c'.key.toList) = true := key_eq.2 h7
  have r8 : (c.dl == c'.dl) = true := beq_iff_eq.2 h8
  have r9 : (c.mv == c'.mv) = true := beq_iff_eq.2 h9
  have r10 : (c.g == c'.g) = true := beq_iff_eq.2 h10
  have r11 : (c.res == c'.res) = true := beq_iff_eq.2 h11
  have r12 : (c.data.toList == c'.data.toList) = false := key_ne.2 h12
  unfold dV at E1
  have HW := Lib.hid (And.intro W1 W2)
  have E1 := Lib.hid E1
  clear h h' b2 W1 W2 h0 h1 h2 h3 h4 h5 h6 h7 h8 h9 h10 h11 h12
  unfold cA
  unfold cA at HW HB E1
  go_enter Tryz.func34, Tryz.ntmps34
  go_wp2_with (go_at_call 85; refine E1.out.mono ?_; rintro e w1 ⟨rfl, hb⟩; obtain ⟨x0, x1, x2, x3, x4, x5, x6, x7, x8, x9, x10, x11, x12, x13, x14, x15, x16, x17, x18, x19, x20, x21, x22, x23⟩ := cmd24 (HW.out.1.keep hb); obtain ⟨y0, y1, y2, y3, y4, y5, y6, y7, y8, y9, y10, y11, y12, y13, y14, y15, y16, y17, y18, y19, y20, y21, y22, y23⟩ := cmd24 (HW.out.2.keep hb); have BX := Lib.hid (HB.out.trans (hb.mono HB.out.size)); clear hb E1)
  go_ret
  exact ⟨rfl, BX.out⟩
set_option maxHeartbeats 4000000 in
theorem equal_13 (c c' : Cv) (A A' : Option Addr) (n n' m m' : Nat) (w : World) (h : CmdIn w c A n m) (h' : CmdIn w c' A' n' m') (h0 : c.d = c'.d) (h1 : c.ea = c'.ea ∧ c.eb = c'.eb ∧ c.ec = c'.ec) (h2 : c.f = c'.f ∧ c.t = c'.t) (h3 : c.it.a = c'.it.a ∧ c.it.b = c'.it.b ∧ c.it.c = c'.it.c ∧ c.it.m = c'.it.m ∧ c.it.i = c'.it.i ∧ c.it.g = c'.it.g) (h4 : c.k = c'.k) (h5 : c.call = c'.call) (h6 : c.saga = c'.saga) (h7 : c.key = c'.key) (h8 : c.dl = c'.dl) (h9 : c.mv = c'.mv) (h10 : c.g = c'.g) (h11 : c.res = c'.res) (h12 : c.data = c'.data) :
    Calls Tryz.prog 34 #[.agg (cA c A n m), .agg (cA c' A' n' m')] w fun e w' => e = .returned (.bool true) ∧ Below w.heap.size w w' := by
  have b2 := ((Below.refl w.heap.size w).alloc (Nat.le_refl _) (.cells (cA c A n m) 36)).alloc (by simp) (.cells (cA c' A' n' m') 36)
  have E1 := (defEqual_any c.d c'.d A A' n n' m m' _ (h.d.keep b2) (h'.d.keep b2)).mono (R' := fun e w' => e = .returned (.bool true) ∧ Below _ _ w') (fun e w' ⟨⟨q, he, hq⟩, hb⟩ => ⟨by rw [he]; rw [hq.2 h0], hb⟩)
  have W1 := (Whole.new w 36 (cA c A n m)).alloc (.cells (cA c' A' n' m') 36)
  have W2 := Whole.new (w.alloc (.cells (cA c A n m) 36)) 36 (cA c' A' n' m')
  rw [World.size_alloc] at W2
  have HB := Lib.hid b2
  have r1 := fun W => effNe_t _ _ _ _ _ _ h1 W
  have r2 := fun W => rngNe_t _ _ _ _ h2 W
  have r3 := fun W => itNe_t _ _ _ _ _ _ _ _ _ _ _ _ h3 W
  have r4 : (c.k == c'.k) = true := beq_iff_eq.2 h4
  have r5 : (c.call == c'.call) = true := beq_iff_eq.2 h5
  have r6 : (c.saga == c'.saga) = true := beq_iff_eq.2 h6
  have r7 : (c.key.toList == c'.key.toList) = true := key_eq.2 h7
  have r8 : (c.dl == c'.dl) = true := beq_iff_eq.2 h8
  have r9 : (c.mv == c'.mv) = true := beq_iff_eq.2 h9
  have r10 : (c.g == c'.g) = true := beq_iff_eq.2 h10
  have r11 : (c.res == c'.res) = true := beq_iff_eq.2 h11
  have r12 : (c.data.toList == c'.data.toList) = true := key_eq.2 h12
  unfold dV at E1
  have HW := Lib.hid (And.intro W1 W2)
  have E1 := Lib.hid E1
  clear h h' b2 W1 W2 h0 h1 h2 h3 h4 h5 h6 h7 h8 h9 h10 h11 h12
  unfold cA
  unfold cA at HW HB E1
  go_enter Tryz.func34, Tryz.ntmps34
  go_wp2_with (go_at_call 85; refine E1.out.mono ?_; rintro e w1 ⟨rfl, hb⟩; obtain ⟨x0, x1, x2, x3, x4, x5, x6, x7, x8, x9, x10, x11, x12, x13, x14, x15, x16, x17, x18, x19, x20, x21, x22, x23⟩ := cmd24 (HW.out.1.keep hb); obtain ⟨y0, y1, y2, y3, y4, y5, y6, y7, y8, y9, y10, y11, y12, y13, y14, y15, y16, y17, y18, y19, y20, y21, y22, y23⟩ := cmd24 (HW.out.2.keep hb); have BX := Lib.hid (HB.out.trans (hb.mono HB.out.size)); clear hb E1)
  go_ret
  exact ⟨rfl, BX.out⟩
theorem cv_ext {c c' : Cv} (h0 : c.d = c'.d) (h1 : c.ea = c'.ea ∧ c.eb = c'.eb ∧ c.ec = c'.ec) (h2 : c.f = c'.f ∧ c.t = c'.t) (h3 : c.it.a = c'.it.a ∧ c.it.b = c'.it.b ∧ c.it.c = c'.it.c ∧ c.it.m = c'.it.m ∧ c.it.i = c'.it.i ∧ c.it.g = c'.it.g) (h4 : c.k = c'.k) (h5 : c.call = c'.call) (h6 : c.saga = c'.saga) (h7 : c.key = c'.key) (h8 : c.dl = c'.dl) (h9 : c.mv = c'.mv) (h10 : c.g = c'.g) (h11 : c.res = c'.res) (h12 : c.data = c'.data) : c = c' := by
  obtain ⟨k, call, saga, ea, eb, ec, key, dl, mv, f, t, g, d, ⟨ia, ib, ic, im, ii, ig⟩, res, data⟩ := c
  obtain ⟨k', call', saga', ea', eb', ec', key', dl', mv', f', t', g', d', ⟨ia', ib', ic', im', ii', ig'⟩, res', data'⟩ := c'
  dsimp only at *
  obtain ⟨rfl, rfl, rfl⟩ := h1
  obtain ⟨rfl, rfl⟩ := h2
  obtain ⟨rfl, rfl, rfl, rfl, rfl, rfl⟩ := h3
  subst h0; subst h4; subst h5; subst h6; subst h7; subst h8; subst h9; subst h10; subst h11; subst h12
  rfl
/-- cmds.Equal. -/
theorem equal_any (c c' : Cv) (A A' : Option Addr) (n n' m m' : Nat) (w : World) (h : CmdIn w c A n m) (h' : CmdIn w c' A' n' m') :
    Calls Tryz.prog 34 #[.agg (cA c A n m), .agg (cA c' A' n' m')] w fun e w' => BoolR (c = c') w w' e := by
  by_cases h0 : c.d = c'.d
  case neg => exact (equal_0 c c' A A' n n' m m' w h h' h0).mono (fun e w' ⟨he, hb⟩ => ⟨⟨false, he, by simp only [Bool.false_eq_true, false_iff]; exact fun e => h0 (e ▸ rfl)⟩, hb⟩)
  by_cases h1 : c.ea = c'.ea ∧ c.eb = c'.eb ∧ c.ec = c'.ec
  case neg => exact (equal_1 c c' A A' n n' m m' w h h' h0 h1).mono (fun e w' ⟨he, hb⟩ => ⟨⟨false, he, by simp only [Bool.false_eq_true, false_iff]; exact fun e => h1 (e ▸ ⟨rfl, rfl, rfl⟩)⟩, hb⟩)
  by_cases h2 : c.f = c'.f ∧ c.t = c'.t
  case neg => exact (equal_2 c c' A A' n n' m m' w h h' h0 h1 h2).mono (fun e w' ⟨he, hb⟩ => ⟨⟨false, he, by simp only [Bool.false_eq_true, false_iff]; exact fun e => h2 (e ▸ ⟨rfl, rfl⟩)⟩, hb⟩)
  by_cases h3 : c.it.a = c'.it.a ∧ c.it.b = c'.it.b ∧ c.it.c = c'.it.c ∧ c.it.m = c'.it.m ∧ c.it.i = c'.it.i ∧ c.it.g = c'.it.g
  case neg => exact (equal_3 c c' A A' n n' m m' w h h' h0 h1 h2 h3).mono (fun e w' ⟨he, hb⟩ => ⟨⟨false, he, by simp only [Bool.false_eq_true, false_iff]; exact fun e => h3 (e ▸ ⟨rfl, rfl, rfl, rfl, rfl, rfl⟩)⟩, hb⟩)
  by_cases h4 : c.k = c'.k
  case neg => exact (equal_4 c c' A A' n n' m m' w h h' h0 h1 h2 h3 h4).mono (fun e w' ⟨he, hb⟩ => ⟨⟨false, he, by simp only [Bool.false_eq_true, false_iff]; exact fun e => h4 (e ▸ rfl)⟩, hb⟩)
  by_cases h5 : c.call = c'.call
  case neg => exact (equal_5 c c' A A' n n' m m' w h h' h0 h1 h2 h3 h4 h5).mono (fun e w' ⟨he, hb⟩ => ⟨⟨false, he, by simp only [Bool.false_eq_true, false_iff]; exact fun e => h5 (e ▸ rfl)⟩, hb⟩)
  by_cases h6 : c.saga = c'.saga
  case neg => exact (equal_6 c c' A A' n n' m m' w h h' h0 h1 h2 h3 h4 h5 h6).mono (fun e w' ⟨he, hb⟩ => ⟨⟨false, he, by simp only [Bool.false_eq_true, false_iff]; exact fun e => h6 (e ▸ rfl)⟩, hb⟩)
  by_cases h7 : c.key = c'.key
  case neg => exact (equal_7 c c' A A' n n' m m' w h h' h0 h1 h2 h3 h4 h5 h6 h7).mono (fun e w' ⟨he, hb⟩ => ⟨⟨false, he, by simp only [Bool.false_eq_true, false_iff]; exact fun e => h7 (e ▸ rfl)⟩, hb⟩)
  by_cases h8 : c.dl = c'.dl
  case neg => exact (equal_8 c c' A A' n n' m m' w h h' h0 h1 h2 h3 h4 h5 h6 h7 h8).mono (fun e w' ⟨he, hb⟩ => ⟨⟨false, he, by simp only [Bool.false_eq_true, false_iff]; exact fun e => h8 (e ▸ rfl)⟩, hb⟩)
  by_cases h9 : c.mv = c'.mv
  case neg => exact (equal_9 c c' A A' n n' m m' w h h' h0 h1 h2 h3 h4 h5 h6 h7 h8 h9).mono (fun e w' ⟨he, hb⟩ => ⟨⟨false, he, by simp only [Bool.false_eq_true, false_iff]; exact fun e => h9 (e ▸ rfl)⟩, hb⟩)
  by_cases h10 : c.g = c'.g
  case neg => exact (equal_10 c c' A A' n n' m m' w h h' h0 h1 h2 h3 h4 h5 h6 h7 h8 h9 h10).mono (fun e w' ⟨he, hb⟩ => ⟨⟨false, he, by simp only [Bool.false_eq_true, false_iff]; exact fun e => h10 (e ▸ rfl)⟩, hb⟩)
  by_cases h11 : c.res = c'.res
  case neg => exact (equal_11 c c' A A' n n' m m' w h h' h0 h1 h2 h3 h4 h5 h6 h7 h8 h9 h10 h11).mono (fun e w' ⟨he, hb⟩ => ⟨⟨false, he, by simp only [Bool.false_eq_true, false_iff]; exact fun e => h11 (e ▸ rfl)⟩, hb⟩)
  by_cases h12 : c.data = c'.data
  case neg => exact (equal_12 c c' A A' n n' m m' w h h' h0 h1 h2 h3 h4 h5 h6 h7 h8 h9 h10 h11 h12).mono (fun e w' ⟨he, hb⟩ => ⟨⟨false, he, by simp only [Bool.false_eq_true, false_iff]; exact fun e => h12 (e ▸ rfl)⟩, hb⟩)
  exact (equal_13 c c' A A' n n' m m' w h h' h0 h1 h2 h3 h4 h5 h6 h7 h8 h9 h10 h11 h12).mono (fun e w' ⟨he, hb⟩ => ⟨⟨true, he, by simp only [true_iff]; exact cv_ext h0 h1 h2 h3 h4 h5 h6 h7 h8 h9 h10 h11 h12⟩, hb⟩)
end Go.Proofs.YtgjnmfmbheejoaaGreatDoor
