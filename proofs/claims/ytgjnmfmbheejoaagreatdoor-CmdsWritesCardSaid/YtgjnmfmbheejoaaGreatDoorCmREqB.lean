/- Whether two commands are equal, by the reference. Condition: sizes as a machine's integers can say. -/
import Derived.Test.YtgjnmfmbheejoaaGreatDoorCmREqS
namespace Go.Proofs.YtgjnmfmbheejoaaGreatDoor
open Go.RowKit Go.Shelf

set_option maxHeartbeats 4000000 in
theorem requal_9 (c c' : Cv) (A A' : Option Addr) (n n' m m' : Nat) (w : World) (h : CmdIn w c A n m) (h' : CmdIn w c' A' n' m') (h0 : c.k = c'.k) (h1 : c.call = c'.call) (h2 : c.saga = c'.saga) (h3 : c.ea = c'.ea ∧ c.eb = c'.eb ∧ c.ec = c'.ec) (h4 : c.key = c'.key) (h5 : c.dl = c'.dl) (h6 : c.mv = c'.mv) (h7 : c.f = c'.f ∧ c.t = c'.t) (h8 : c.g = c'.g) (h9 : ¬ (c.d = c'.d)) :
    Calls Tryz.prog 18 #[.agg (cA c A n m), .agg (cA c' A' n' m')] w fun e w' => e = .returned (.bool false) ∧ Below w.heap.size w w' := by
  have b2 := ((Below.refl w.heap.size w).alloc (Nat.le_refl _) (.cells (cA c A n m) 36)).alloc (by simp) (.cells (cA c' A' n' m') 36)
  have E1 := (refEqual_any c.d c'.d A A' n n' m m' _ (h.d.keep b2) (h'.d.keep b2)).mono (R' := fun e w' => e = .returned (.bool false) ∧ Below _ _ w') (fun e w' ⟨⟨q, he, hq⟩, hb⟩ => ⟨by rw [he]; rw [show q = false from Bool.eq_false_iff.2 (fun e => h9 (hq.1 e))], hb⟩)
  have W1 := (Whole.new w 36 (cA c A n m)).alloc (.cells (cA c' A' n' m') 36)
  have W2 := Whole.new (w.alloc (.cells (cA c A n m) 36)) 36 (cA c' A' n' m')
  rw [World.size_alloc] at W2
  have HB := Lib.hid b2
  have r0 : (c.k == c'.k) = true := beq_iff_eq.2 h0
  have r1 : (c.call == c'.call) = true := beq_iff_eq.2 h1
  have r2 : (c.saga == c'.saga) = true := beq_iff_eq.2 h2
  have r3 := fun W => effEq_t _ _ _ _ _ _ h3 W
  have r4 : (c.key.toList == c'.key.toList) = true := key_eq.2 h4
  have r5 : (c.dl == c'.dl) = true := beq_iff_eq.2 h5
  have r6 : (c.mv == c'.mv) = true := beq_iff_eq.2 h6
  have r7 := fun W => rngEq_t _ _ _ _ h7 W
  have r8 : (c.g == c'.g) = true := beq_iff_eq.2 h8
  unfold dV at E1
  have E1 := Lib.hid E1
  unfold cA at E1
  have HW := Lib.hid (And.intro W1 W2)
  clear h h' b2 W1 W2 h0 h1 h2 h3 h4 h5 h6 h7 h8 h9
  unfold cA
  unfold cA at HW HB
  go_enter Tryz.func18, Tryz.ntmps18
  go_wp2_with (go_at_call 61; refine E1.out.mono ?_; rintro e w1 ⟨rfl, hb⟩; obtain ⟨x0, x1, x2, x3, x4, x5, x6, x7, x8, x9, x10, x11, x12, x13, x14, x15, x16, x17, x18, x19, x20, x21, x22, x23⟩ := cmd24 (HW.out.1.keep hb); obtain ⟨y0, y1, y2, y3, y4, y5, y6, y7, y8, y9, y10, y11, y12, y13, y14, y15, y16, y17, y18, y19, y20, y21, y22, y23⟩ := cmd24 (HW.out.2.keep hb); have BX := Lib.hid (HB.out.trans (hb.mono HB.out.size)); clear hb E1)
  go_ret
  exact ⟨rfl, BX.out⟩
set_option maxHeartbeats 4000000 in
theorem requal_10 (c c' : Cv) (A A' : Option Addr) (n n' m m' : Nat) (w : World) (h : CmdIn w c A n m) (h' : CmdIn w c' A' n' m') (h0 : c.k = c'.k) (h1 : c.call = c'.call) (h2 : c.saga = c'.saga) (h3 : c.ea = c'.ea ∧ c.eb = c'.eb ∧ c.ec = c'.ec) (h4 : c.key = c'.key) (h5 : c.dl = c'.dl) (h6 : c.mv = c'.mv) (h7 : c.f = c'.f ∧ c.t = c'.t) (h8 : c.g = c'.g) (h9 : c.d = c'.d) (h10 : ¬ (c.it.a = c'.it.a ∧ c.it.b = c'.it.b ∧ c.it.c = c'.it.c ∧ c.it.m = c'.it.m ∧ c.it.i = c'.it.i ∧ c.it.g = c'.it.g)) :
    Calls Tryz.prog 18 #[.agg (cA c A n m), .agg (cA c' A' n' m')] w fun e w' => e = .returned (.bool false) ∧ Below w.heap.size w w' := by
  have b2 := ((Below.refl w.heap.size w).alloc (Nat.le_refl _) (.cells (cA c A n m) 36)).alloc (by simp) (.cells (cA c' A' n' m') 36)
  have E1 := (refEqual_any c.d c'.d A A' n n' m m' _ (h.d.keep b2) (h'.d.keep b2)).mono (R' := fun e w' => e = .returned (.bool true) ∧ Below _ _ w') (fun e w' ⟨⟨q, he, hq⟩, hb⟩ => ⟨by rw [he]; rw [hq.2 h9], hb⟩)
  have W1 := (Whole.new w 36 (cA c A n m)).alloc (.cells (cA c' A' n' m') 36)
  have W2 := Whole.new (w.alloc (.cells (cA c A n m) 36)) 36 (cA c' A' n' m')
  rw [World.size_alloc] at W2
  have HB := Lib.hid b2
  have r0 : (c.k == c'.k) = true := beq_iff_eq.2 h0
  have r1 : (c.call == c'.call) = true := beq_iff_eq.2 h1
  have r2 : (c.saga == c'.saga) = true := beq_iff_eq.2 h2
  have r3 := fun W => effEq_t _ _ _ _ _ _ h3 W
  have r4 : (c.key.toList == c'.key.toList) = true := key_eq.2 h4
  have r5 : (c.dl == c'.dl) = true := beq_iff_eq.2 h5
  have r6 : (c.mv == c'.mv) = true := beq_iff_eq.2 h6
  have r7 := fun W => rngEq_t _ _ _ _ h7 W
  have r8 : (c.g == c'.g) = true := beq_iff_eq.2 h8
  have r10 := fun W => itEq_f _ _ _ _ _ _ _ _ _ _ _ _ h10 W
  unfold dV at E1
  have E1 := Lib.hid E1
  unfold cA at E1
  have HW := Lib.hid (And.intro W1 W2)
  clear h h' b2 W1 W2 h0 h1 h2 h3 h4 h5 h6 h7 h8 h9 h10
  unfold cA
  unfold cA at HW HB
  go_enter Tryz.func18, Tryz.ntmps18
  go_wp2_with (go_at_call 61; refine E1.out.mono ?_; rintro e w1 ⟨rfl, hb⟩; obtain ⟨x0, x1, x2, x3, x4, x5, x6, x7, x8, x9, x10, x11, x12, x13, x14, x15, x16, x17, x18, x19, x20, x21, x22, x23⟩ := cmd24 (HW.out.1.keep hb); obtain ⟨y0, y1, y2, y3, y4, y5, y6, y7, y8, y9, y10, y11, y12, y13, y14, y15, y16, y17, y18, y19, y20, y21, y22, y23⟩ := cmd24 (HW.out.2.keep hb); have BX := Lib.hid (HB.out.trans (hb.mono HB.out.size)); clear hb E1)
  go_ret
  exact ⟨rfl, BX.out⟩
set_option maxHeartbeats 4000000 in
theorem requal_11 (c c' : Cv) (A A' : Option Addr) (n n' m m' : Nat) (w : World) (h : CmdIn w c A n m) (h' : CmdIn w c' A' n' m') (h0 : c.k = c'.k) (h1 : c.call = c'.call) (h2 : c.saga = c'.saga) (h3 : c.ea = c'.ea ∧ c.eb = c'.eb ∧ c.ec = c'.ec) (h4 : c.key = c'.key) (h5 : c.dl = c'.dl) (h6 : c.mv = c'.mv) (h7 : c.f = c'.f ∧ c.t = c'.t) (h8 : c.g = c'.g) (h9 : c.d = c'.d) (h10 : c.it.a = c'.it.a ∧ c.it.b = c'.it.b ∧ c.it.c = c'.it.c ∧ c.it.m = c'.it.m ∧ c.it.i = c'.it.i ∧ c.it.g = c'.it.g) (h11 : ¬ (c.res = c'.res)) :
    Calls Tryz.prog 18 #[.agg (cA c A n m), .agg (cA c' A' n' m')] w fun e w' => e = .returned (.bool false) ∧ Below w.heap.size w w' := by
  have b2 := ((Below.refl w.heap.size w).alloc (Nat.le_refl _) (.cells (cA c A n m) 36)).alloc (by simp) (.cells (cA c' A' n' m') 36)
  have E1 := (refEqual_any c.d c'.d A A' n n' m m' _ (h.d.keep b2) (h'.d.keep b2)).mono (R' := fun e w' => e = .returned (.bool true) ∧ Below _ _ w') (fun e w' ⟨⟨q, he, hq⟩, hb⟩ => ⟨by rw [he]; rw [hq.2 h9], hb⟩)
  have W1 := (Whole.new w 36 (cA c A n m)).alloc (.cells (cA c' A' n' m') 36)
  have W2 := Whole.new (w.alloc (.cells (cA c A n m) 36)) 36 (cA c' A' n' m')
  rw [World.size_alloc] at W2
  have HB := Lib.hid b2
  have r0 : (c.k == c'.k) = true := beq_iff_eq.2 h0
  have r1 : (c.call == c'.call) = true := beq_iff_eq.2 h1
  have r2 : (c.saga == c'.saga) = true := beq_iff_eq.2 h2
  have r3 := fun W => effEq_t _ _ _ _ _ _ h3 W
  have r4 : (c.key.toList == c'.key.toList) = true := key_eq.2 h4
  have r5 : (c.dl == c'.dl) = true := beq_iff_eq.2 h5
  have r6 : (c.mv == c'.mv) = true := beq_iff_eq.2 h6
  have r7 := fun W => rngEq_t _ _ _ _ h7 W
  have r8 : (c.g == c'.g) = true := beq_iff_eq.2 h8
  have r10 := fun W => itEq_t _ _ _ _ _ _ _ _ _ _ _ _ h10 W
  have r11 : (c.res == c'.res) = false := beq_eq_false_iff_ne.2 h11
  unfold dV at E1
  have E1 := Lib.hid E1
  unfold cA at E1
  have HW := Lib.hid (And.intro W1 W2)
  clear h h' b2 W1 W2 h0 h1 h2 h3 h4 h5 h6 h7 h8 h9 h10 h11
  unfold cA
  unfold cA at HW HB
  go_enter Tryz.func18, Tryz.ntmps18
  go_wp2_with (go_at_call 61; refine E1.out.mono ?_; rintro e w1 ⟨rfl, hb⟩; obtain ⟨x0, x1, x2, x3, x4, x5, x6, x7, x8, x9, x10, x11, x12, x13, x14, x15, x16, x17, x18, x19, x20, x21, x22, x23⟩ := cmd24 (HW.out.1.keep hb); obtain ⟨y0, y1, y2, y3, y4, y5, y6, y7, y8, y9, y10, y11, y12, y13, y14, y15, y16, y17, y18, y19, y20, y21, y22, y23⟩ := cmd24 (HW.out.2.keep hb); have BX := Lib.hid (HB.out.trans (hb.mono HB.out.size)); clear hb E1)
  go_ret
  exact ⟨rfl, BX.out⟩
set_option maxHeartbeats 4000000 in
theorem requal_12 (c c' : Cv) (A A' : Option Addr) (n n' m m' : Nat) (w : World) (h : CmdIn w c A n m) (h' : CmdIn w c' A' n' m') (h0 : c.k = c'.k) (h1 : c.call = c'.call) (h2 : c.saga = c'.saga) (h3 : c.ea = c'.ea ∧ c.eb = c'.eb ∧ c.ec = c'.ec) (h4 : c.key = c'.key) (h5 : c.dl = c'.dl) (h6 : c.mv = c'.mv) (h7 : c.f = c'.f ∧ c.t = c'.t) (h8 : c.g = c'.g) (h9 : c.d = c'.d) (h10 : c.it.a = c'.it.a ∧ c.it.b = c'.it.b ∧ c.it.c = c'.it.c ∧ c.it.m = c'.it.m ∧ c.it.i = c'.it.i ∧ c.it.g = c'.it.g) (h11 : c.res = c'.res) (h12 : ¬ (c.data = c'.data)) :
    Calls Tryz.prog 18 #[.agg (cA c A n m), .agg (cA c' A' n' m')] w fun e w' => e = .returned (.bool false) ∧ Below w.heap.size w w' := by
  have b2 := ((Below.refl w.heap.size w).alloc (Nat.le_refl _) (.cells (cA c A n m) 36)).alloc (by simp) (.cells (cA c' A' n' m') 36)
  have E1 := (refEqual_any c.d c'.d A A' n n' m m' _ (h.d.keep b2) (h'.d.keep b2)).mono (R' := fun e w' => e = .returned (.bool true) ∧ Below _ _ w') (fun e w' ⟨⟨q, he, hq⟩, hb⟩ => ⟨by rw [he]; rw [hq.2 h9], hb⟩)
  have W1 := (Whole.new w 36 (cA c A n m)).alloc (.cells (cA c' A' n' m') 36)
  have W2 := Whole.new (w.alloc (.cells (cA c A n m) 36)) 36 (cA c' A' n' m')
  rw [World.size_alloc] at W2
  have HB := Lib.hid b2
  have r0 : (c.k == c'.k) = true := beq_iff_eq.2 h0
  have r1 : (c.call == c'.call) = true := beq_iff_eq.2 h1
  have r2 : (c.saga == c'.saga) = true := beq_iff_eq.2 h2
  have r3 := fun W => effEq_t _ _ _ _ _ _ h3 W
  have r4 : (c.key.toList == c'.key.toList) = true := key_eq.2 h4
  have r5 : (c.dl == c'.dl) = true := beq_iff_eq.2 h5
  have r6 : (c.mv == c'.mv) = true := beq_iff_eq.2 h6
  have r7 := fun W => rngEq_t _ _ _ _ h7 W
  have r8 : (c.g == c'.g) = true := beq_iff_eq.2 h8
  have r10 := fun W => itEq_t _ _ _ _ _ _ _ _ _ _ _ _ h10 W
  have r11 : (c.res == c'.res) = true := beq_iff_eq.2 h11
  have r12 : (c.data.toList == c'.data.toList) = false := key_ne.2 h12
  unfold dV at E1
  have E1 := Lib.hid E1
  unfold cA at E1
  have HW := Lib.hid (And.intro W1 W2)
  clear h h' b2 W1 W2 h0 h1 h2 h3 h4 h5 h6 h7 h8 h9 h10 h11 h12
  unfold cA
  unfold cA at HW HB
  go_enter Tryz.func18, Tryz.ntmps18
  go_wp2_with (go_at_call 61; refine E1.out.mono ?_; rintro e w1 ⟨rfl, hb⟩; obtain ⟨x0, x1, x2, x3, x4, x5, x6, x7, x8, x9, x10, x11, x12, x13, x14, x15, x16, x17, x18, x19, x20, x21, x22, x23⟩ := cmd24 (HW.out.1.keep hb); obtain ⟨y0, y1, y2, y3, y4, y5, y6, y7, y8, y9, y10, y11, y12, y13, y14, y15, y16, y17, y18, y19, y20, y21, y22, y23⟩ := cmd24 (HW.out.2.keep hb); have BX := Lib.hid (HB.out.trans (hb.mono HB.out.size)); clear hb E1)
  go_ret
  exact ⟨rfl, BX.out⟩
set_option maxHeartbeats 4000000 in
theorem requal_13 (c c' : Cv) (A A' : Option Addr) (n n' m m' : Nat) (w : World) (h : CmdIn w c A n m) (h' : CmdIn w c' A' n' m') (h0 : c.k = c'.k) (h1 : c.call = c'.call) (h2 : c.saga = c'.saga) (h3 : c.ea = c'.ea ∧ c.eb = c'.eb ∧ c.ec = c'.ec) (h4 : c.key = c'.key) (h5 : c.dl = c'.dl) (h6 : c.mv = c'.mv) (h7 : c.f = c'.f ∧ c.t = c'.t) (h8 : c.g = c'.g) (h9 : c.d = c'.d) (h10 : c.it.a = c'.it.a ∧ c.it.b = c'.it.b ∧ c.it.c = c'.it.c ∧ c.it.m = c'.it.m ∧ c.it.i = c'.it.i ∧ c.it.g = c'.it.g) (h11 : c.res = c'.res) (h12 : c.data = c'.data) :
    Calls Tryz.prog 18 #[.agg (cA c A n m), .agg (cA c' A' n' m')] w fun e w' => e = .returned (.bool true) ∧ Below w.heap.size w w' := by
  have b2 := ((Below.refl w.heap.size w).alloc (Nat.le_refl _) (.cells (cA c A n m) 36)).alloc (by simp) (.cells (cA c' A' n' m') 36)
  have E1 := (refEqual_any c.d c'.d A A' n n' m m' _ (h.d.keep b2) (h'.d.keep b2)).mono (R' := fun e w' => e = .returned (.bool true) ∧ Below _ _ w') (fun e w' ⟨⟨q, he, hq⟩, hb⟩ => ⟨by rw [he]; rw [hq.2 h9], hb⟩)
  have W1 := (Whole.new w 36 (cA c A n m)).alloc (.cells (cA c' A' n' m') 36)
  have W2 := Whole.new (w.alloc (.cells (cA c A n m) 36)) 36 (cA c' A' n' m')
  rw [World.size_alloc] at W2
  have HB := Lib.hid b2
  have r0 : (c.k == c'.k) = true := beq_iff_eq.2 h0
  have r1 : (c.call == c'.call) = true := beq_iff_eq.2 h1
  have r2 : (c.saga == c'.saga) = true := beq_iff_eq.2 h2
  have r3 := fun W => effEq_t _ _ _ _ _ _ h3 W
  have r4 : (c.key.toList == c'.key.toList) = true := key_eq.2 h4
  have r5 : (c.dl == c'.dl) = true := beq_iff_eq.2 h5
  have r6 : (c.mv == c'.mv) = true := beq_iff_eq.2 h6
  have r7 := fun W => rngEq_t _ _ _ _ h7 W
  have r8 : (c.g == c'.g) = true := beq_iff_eq.2 h8
  have r10 := fun W => itEq_t _ _ _ _ _ _ _ _ _ _ _ _ h10 W
  have r11 : (c.res == c'.res) = true := beq_iff_eq.2 h11
  have r12 : (c.data.toList == c'.data.toList) = true := key_eq.2 h12
  unfold dV at E1
  have E1 := Lib.hid E1
  unfold cA at E1
  have HW := Lib.hid (And.intro W1 W2)
  clear h h' b2 W1 W2 h0 h1 h2 h3 h4 h5 h6 h7 h8 h9 h10 h11 h12
  unfold cA
  unfold cA at HW HB
  go_enter Tryz.func18, Tryz.ntmps18
  go_wp2_with (go_at_call 61; refine E1.out.mono ?_; rintro e w1 ⟨rfl, hb⟩; obtain ⟨x0, x1, x2, x3, x4, x5, x6, x7, x8, x9, x10, x11, x12, x13, x14, x15, x16, x17, x18, x19, x20, x21, x22, x23⟩ := cmd24 (HW.out.1.keep hb); obtain ⟨y0, y1, y2, y3, y4, y5, y6, y7, y8, y9, y10, y11, y12, y13, y14, y15, y16, y17, y18, y19, y20, y21, y22, y23⟩ := cmd24 (HW.out.2.keep hb); have BX := Lib.hid (HB.out.trans (hb.mono HB.out.size)); clear hb E1)
  go_ret
  exact ⟨rfl, BX.out⟩
end Go.Proofs.YtgjnmfmbheejoaaGreatDoor
