/- Whether two commands are equal, by the reference. Condition: sizes as a machine's integers can say. -/
import Derived.Test.YtgjnmfmbheejoaaGreatDoorCmREqS
namespace Go.Proofs.YtgjnmfmbheejoaaGreatDoor
open Go.RowKit Go.Shelf

set_option maxHeartbeats 4000000 in
theorem requal_0 (c c' : Cv) (A A' : Option Addr) (n n' m m' : Nat) (w : World) (h0 : ¬ (c.k = c'.k)) :
    Calls Tryz.prog 18 #[.agg (cA c A n m), .agg (cA c' A' n' m')] w fun e w' => e = .returned (.bool false) ∧ Below w.heap.size w w' := by
  have b2 := ((Below.refl w.heap.size w).alloc (Nat.le_refl _) (.cells (cA c A n m) 36)).alloc (by simp) (.cells (cA c' A' n' m') 36)
  have W1 := (Whole.new w 36 (cA c A n m)).alloc (.cells (cA c' A' n' m') 36)
  have W2 := Whole.new (w.alloc (.cells (cA c A n m) 36)) 36 (cA c' A' n' m')
  rw [World.size_alloc] at W2
  have HB := Lib.hid b2
  have r0 : (c.k == c'.k) = false := beq_eq_false_iff_ne.2 h0
  have HW := Lib.hid (And.intro W1 W2)
  clear b2 W1 W2 h0
  unfold cA
  unfold cA at HW HB
  go_enter Tryz.func18, Tryz.ntmps18
  go_wp2_with fail
  go_ret
  exact ⟨rfl, HB.out⟩
set_option maxHeartbeats 4000000 in
theorem requal_1 (c c' : Cv) (A A' : Option Addr) (n n' m m' : Nat) (w : World) (h0 : c.k = c'.k) (h1 : ¬ (c.call = c'.call)) :
    Calls Tryz.prog 18 #[.agg (cA c A n m), .agg (cA c' A' n' m')] w fun e w' => e = .returned (.bool false) ∧ Below w.heap.size w w' := by
  have b2 := ((Below.refl w.heap.size w).alloc (Nat.le_refl _) (.cells (cA c A n m) 36)).alloc (by simp) (.cells (cA c' A' n' m') 36)
  have W1 := (Whole.new w 36 (cA c A n m)).alloc (.cells (cA c' A' n' m') 36)
  have W2 := Whole.new (w.alloc (.cells (cA c A n m) 36)) 36 (cA c' A' n' m')
  rw [World.size_alloc] at W2
  have HB := Lib.hid b2
  have r0 : (c.k == c'.k) = true := beq_iff_eq.2 h0
  have r1 : (c.call == c'.call) = false := beq_eq_false_iff_ne.2 h1
  have HW := Lib.hid (And.intro W1 W2)
  clear b2 W1 W2 h0 h1
  unfold cA
  unfold cA at HW HB
  go_enter Tryz.func18, Tryz.ntmps18
  go_wp2_with fail
  go_ret
  exact ⟨rfl, HB.out⟩
set_option maxHeartbeats 4000000 in
theorem requal_2 (c c' : Cv) (A A' : Option Addr) (n n' m m' : Nat) (w : World) (h0 : c.k = c'.k) (h1 : c.call = c'.call) (h2 : ¬ (c.saga = c'.saga)) :
    Calls Tryz.prog 18 #[.agg (cA c A n m), .agg (cA c' A' n' m')] w fun e w' => e = .returned (.bool false) ∧ Below w.heap.size w w' := by
  have b2 := ((Below.refl w.heap.size w).alloc (Nat.le_refl _) (.cells (cA c A n m) 36)).alloc (by simp) (.cells (cA c' A' n' m') 36)
  have W1 := (Whole.new w 36 (cA c A n m)).alloc (.cells (cA c' A' n' m') 36)
  have W2 := Whole.new (w.alloc (.cells (cA c A n m) 36)) 36 (cA c' A' n' m')
  rw [World.size_alloc] at W2
  have HB := Lib.hid b2
  have r0 : (c.k == c'.k) = true := beq_iff_eq.2 h0
  have r1 : (c.call == c'.call) = true := beq_iff_eq.2 h1
  have r2 : (c.saga == c'.saga) = false := beq_eq_false_iff_ne.2 h2
  have HW := Lib.hid (And.intro W1 W2)
  clear b2 W1 W2 h0 h1 h2
  unfold cA
  unfold cA at HW HB
  go_enter Tryz.func18, Tryz.ntmps18
  go_wp2_with fail
  go_ret
  exact ⟨rfl, HB.out⟩
set_option maxHeartbeats 4000000 in
theorem requal_3 (c c' : Cv) (A A' : Option Addr) (n n' m m' : Nat) (w : World) (h0 : c.k = c'.k) (h1 : c.call = c'.call) (h2 : c.saga = c'.saga) (h3 : ¬ (c.ea = c'.ea ∧ c.eb = c'.eb ∧ c.ec = c'.ec)) :
    Calls Tryz.prog 18 #[.agg (cA c A n m), .agg (cA c' A' n' m')] w fun e w' => e = .returned (.bool false) ∧ Below w.heap.size w w' := by
  have b2 := ((Below.refl w.heap.size w).alloc (Nat.le_refl _) (.cells (cA c A n m) 36)).alloc (by simp) (.cells (cA c' A' n' m') 36)
  have W1 := (Whole.new w 36 (cA c A n m)).alloc (.cells (cA c' A' n' m') 36)
  have W2 := Whole.new (w.alloc (.cells (cA c A n m) 36)) 36 (cA c' A' n' m')
  rw [World.size_alloc] at W2
  have HB := Lib.hid b2
  have r0 : (c.k == c'.k) = true := beq_iff_eq.2 h0
  have r1 : (c.call == c'.call) = true := beq_iff_eq.2 h1
  have r2 : (c.saga == c'.saga) = true := beq_iff_eq.2 h2
  have r3 := fun W => effEq_f _ _ _ _ _ _ h3 W
  have HW := Lib.hid (And.intro W1 W2)
  clear b2 W1 W2 h0 h1 h2 h3
  unfold cA
  unfold cA at HW HB
  go_enter Tryz.func18, Tryz.ntmps18
  go_wp2_with fail
  go_ret
  exact ⟨rfl, HB.out⟩
set_option maxHeartbeats 4000000 in
theorem requal_4 (c c' : Cv) (A A' : Option Addr) (n n' m m' : Nat) (w : World) (h0 : c.k = c'.k) (h1 : c.call = c'.call) (h2 : c.saga = c'.saga) (h3 : c.ea = c'.ea ∧ c.eb = c'.eb ∧ c.ec = c'.ec) (h4 : ¬ (c.key = c'.key)) :
    Calls Tryz.prog 18 #[.agg (cA c A n m), .agg (cA c' A' n' m')] w fun e w' => e = .returned (.bool false) ∧ Below w.heap.size w w' := by
  have b2 := ((Below.refl w.heap.size w).alloc (Nat.le_refl _) (.cells (cA c A n m) 36)).alloc (by simp) (.cells (cA c' A' n' m') 36)
  have W1 := (Whole.new w 36 (cA c A n m)).alloc (.cells (cA c' A' n' m') 36)
  have W2 := Whole.new (w.alloc (.cells (cA c A n m) 36)) 36 (cA c' A' n' m')
  rw [World.size_alloc] at W2
  have HB := Lib.hid b2
  have r0 : (c.k == c'.k) = true := beq_iff_eq.2 h0
  have r1 : (c.call == c'.call) = true := beq_iff_eq.2 h1
  have r2 : (c.saga == c'.saga) = true := beq_iff_eq.2 h2
  have r3 := fun W => effEq_t _ _ _ _ _ _ h3 W
  have r4 : (c.key.toList == c'.key.toList) = false := key_ne.2 h4
  have HW := Lib.hid (And.intro W1 W2)
  clear b2 W1 W2 h0 h1 h2 h3 h4
  unfold cA
  unfold cA at HW HB
  go_enter Tryz.func18, Tryz.ntmps18
  go_wp2_with fail
  go_ret
  exact ⟨rfl, HB.out⟩
set_option maxHeartbeats 4000000 in
theorem requal_5 (c c' : Cv) (A A' : Option Addr) (n n' m m' : Nat) (w : World) (h0 : c.k = c'.k) (h1 : c.call = c'.call) (h2 : c.saga = c'.saga) (h3 : c.ea = c'.ea ∧ c.eb = c'.eb ∧ c.ec = c'.ec) (h4 : c.key = c'.key) (h5 : ¬ (c.dl = c'.dl)) :
    Calls Tryz.prog 18 #[.agg (cA c A n m), .agg (cA c' A' n' m')] w fun e w' => e = .returned (.bool false) ∧ Below w.heap.size w w' := by
  have b2 := ((Below.refl w.heap.size w).alloc (Nat.le_refl _) (.cells (cA c A n m) 36)).alloc (by simp) (.cells (cA c' A' n' m') 36)
  have W1 := (Whole.new w 36 (cA c A n m)).alloc (.cells (cA c' A' n' m') 36)
  have W2 := Whole.new (w.alloc (.cells (cA c A n m) 36)) 36 (cA c' A' n' m')
  rw [World.size_alloc] at W2
  have HB := Lib.hid b2
  have r0 : (c.k == c'.k) = true := beq_iff_eq.2 h0
  have r1 : (c.call == c'.call) = true := beq_iff_eq.2 h1
  have r2 : (c.saga == c'.saga) = true := beq_iff_eq.2 h2
  have r3 := fun W => effEq_t _ _ _ _ _ _ h3 W
  have r4 : (c.key.toList == c'.key.toList) = true := key_eq.2 h4
  have r5 : (c.dl == c'.dl) = false := beq_eq_false_iff_ne.2 h5
  have HW := Lib.hid (And.intro W1 W2)
  clear b2 W1 W2 h0 h1 h2 h3 h4 h5
  unfold cA
  unfold cA at HW HB
  go_enter Tryz.func18, Tryz.ntmps18
  go_wp2_with fail
  go_ret
  exact ⟨rfl, HB.out⟩
set_option maxHeartbeats 4000000 in
theorem requal_6 (c c' : Cv) (A A' : Option Addr) (n n' m m' : Nat) (w : World) (h0 : c.k = c'.k) (h1 : c.call = c'.call) (h2 : c.saga = c'.saga) (h3 : c.ea = c'.ea ∧ c.eb = c'.eb ∧ c.ec = c'.ec) (h4 : c.key = c'.key) (h5 : c.dl = c'.dl) (h6 : ¬ (c.mv = c'.mv)) :
    Calls Tryz.prog 18 #[.agg (cA c A n m), .agg (cA c' A' n' m')] w fun e w' => e = .returned (.bool false) ∧ Below w.heap.size w w' := by
  have b2 := ((Below.refl w.heap.size w).alloc (Nat.le_refl _) (.cells (cA c A n m) 36)).alloc (by simp) (.cells (cA c' A' n' m') 36)
  have W1 := (Whole.new w 36 (cA c A n m)).alloc (.cells (cA c' A' n' m') 36)
  have W2 := Whole.new (w.alloc (.cells (cA c A n m) 36)) 36 (cA c' A' n' m')
  rw [World.size_alloc] at W2
  have HB := Lib.hid b2
  have r0 : (c.k == c'.k) = true := beq_iff_eq.2 h0
  have r1 : (c.call == c'.call) = true := beq_iff_eq.2 h1
  have r2 : (c.saga == c'.saga) = true := beq_iff_eq.2 h2
  have r3 := fun W => effEq_t _ _ _ _ _ _ h3 W
  have r4 : (c.key.toList == c'.key.toList) = true := key_eq.2 h4
  have r5 : (c.dl == c'.dl) = true := beq_iff_eq.2 h5
  have r6 : (c.mv == c'.mv) = false := beq_eq_false_iff_ne.2 h6
  have HW := Lib.hid (And.intro W1 W2)
  clear b2 W1 W2 h0 h1 h2 h3 h4 h5 h6
  unfold cA
  unfold cA at HW HB
  go_enter Tryz.func18, Tryz.ntmps18
  go_wp2_with fail
  go_ret
  exact ⟨rfl, HB.out⟩
set_option maxHeartbeats 4000000 in
theorem requal_7 (c c' : Cv) (A A' : Option Addr) (n n' m m' : Nat) (w : World) (h0 : c.k = c'.k) (h1 : c.call = c'.call) (h2 : c.saga = c'.saga) (h3 : c.ea = c'.ea ∧ c.eb = c'.eb ∧ c.ec = c'.ec) (h4 : c.key = c'.key) (h5 : c.dl = c'.dl) (h6 : c.mv = c'.mv) (h7 : ¬ (c.f = c'.f ∧ c.t = c'.t)) :
    Calls Tryz.prog 18 #[.agg (cA c A n m), .agg (cA c' A' n' m')] w fun e w' => e = .returned (.bool false) ∧ Below w.heap.size w w' := by
  have b2 := ((Below.refl w.heap.size w).alloc (Nat.le_refl _) (.cells (cA c A n m) 36)).alloc (by simp) (.cells (cA c' A' n' m') 36)
  have W1 := (Whole.new w 36 (cA c A n m)).alloc (.cells (cA c' A' n' m') 36)
  have W2 := Whole.new (w.alloc (.cells (cA c A n m) 36)) 36 (cA c' A' n' m')
  rw [World.size_alloc] at W2
  have HB := Lib.hid b2
  have r0 : (c.k == c'.k) = true := beq_iff_eq.2 h0
  have r1 : (c.call == c'.call) = true := beq_iff_eq.2 h1
  have r2 : (c.saga == c'.saga) = true := beq_iff_eq.2 h2
  have r3 := fun W => effEq_t _ _ _ _ _ _ h3 W
  have r4 : (c.key.toList == c'.key.toList) = true := key_eq.2 h4
  have r5 : (c.dl == c'.dl) = true := beq_iff_eq.2 h5
  have r6 : (c.mv == c'.mv) = true := beq_iff_eq.2 h6
  have r7 := fun W => rngEq_f _ _ _ _ h7 W
  have HW := Lib.hid (And.intro W1 W2)
  clear b2 W1 W2 h0 h1 h2 h3 h4 h5 h6 h7
  unfold cA
  unfold cA at HW HB
  go_enter Tryz.func18, Tryz.ntmps18
  go_wp2_with fail
  go_ret
  exact ⟨rfl, HB.out⟩
set_option maxHeartbeats 4000000 in
theorem requal_8 (c c' : Cv) (A A' : Option Addr) (n n' m m' : Nat) (w : World) (h0 : c.k = c'.k) (h1 : c.call = c'.call) (h2 : c.saga = c'.saga) (h3 : c.ea = c'.ea ∧ c.eb = c'.eb ∧ c.ec = c'.ec) (h4 : c.key = c'.key) (h5 : c.dl = c'.dl) (h6 : c.mv = c'.mv) (h7 : c.f = c'.f ∧ c.t = c'.t) (h8 : ¬ (c.g = c'.g)) :
    Calls Tryz.prog 18 #[.agg (cA c A n m), .agg (cA c' A' n' m')] w fun e w' => e = .returned (.bool false) ∧ Below w.heap.size w w' := by
  have b2 := ((Below.refl w.heap.size w).alloc (Nat.le_refl _) (.cells (cA c A n m) 36)).alloc (by simp) (.cells (cA c' A' n' m') 36)
  have W1 := (Whole.new w 36 (cA c A n m)).alloc (.cells (cA c' A' n' m') 36)
  have W2 := Whole.new (w.alloc (.cells (cA c A n m) 36)) 36 (cA c' A' n' m')
  rw [World.size_alloc] at W2
  have HB := Lib.hid b2
  have r0 : (c.k == c'.k) = true := beq_iff_eq.2 h0
  have r1 : (c.call == c'.call) = true := beq_iff_eq.2 h1
  have r2 : (c.saga == c'.saga) = true := beq_iff_eq.2 h2
  have r3 := fun W => effEq_t _ _ _ _ _ _ h3 W
  have r4 : (c.key.toList == c'.key.toList) = true := key_eq.2 h4
  have r5 : (c.dl == c'.dl) = true := beq_iff_eq.2 h5
  have r6 : (c.mv == c'.mv) = true := beq_iff_eq.2 h6
  have r7 := fun W => rngEq_t _ _ _ _ h7 W
  have r8 : (c.g == c'.g) = false := beq_eq_false_iff_ne.2 h8
  have HW := Lib.hid (And.intro W1 W2)
  clear b2 W1 W2 h0 h1 h2 h3 h4 h5 h6 h7 h8
  unfold cA
  unfold cA at HW HB
  go_enter Tryz.func18, Tryz.ntmps18
  go_wp2_with fail
  go_ret
  exact ⟨rfl, HB.out⟩
end Go.Proofs.YtgjnmfmbheejoaaGreatDoor
