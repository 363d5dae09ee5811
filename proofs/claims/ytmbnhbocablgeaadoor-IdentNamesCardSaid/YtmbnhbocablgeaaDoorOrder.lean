/- What Order of ident and of the reference return; memory that lay stays. No condition. -/
import Derived.Test.YtmbnhbocablgeaaDoorProg
import Derived.Test.YtmbnhbocablgeaaDoorPlIdent
import Derived.WalkKit
import Derived.WalkSpells
import Derived.WalkLawsBesides
import Derived.Lib.Hide
import Derived.Handy
import Derived.Deep.RegionHeld3
namespace Go.Proofs.YtmbnhbocablgeaaDoor
open Go.RowKit

theorem cmpI_lt {a b : Int} (h : a < b) : cmpI a b = -1 := if_pos h
theorem cmpI_gt {a b : Int} (h : b < a) : cmpI a b = 1 := by unfold cmpI; rw [if_neg (by omega), if_pos h]
theorem cmpI_eq {a b : Int} (h : a = b) : cmpI a b = 0 := by unfold cmpI; rw [if_neg (by omega), if_neg (by omega)]
theorem cmpI_zero {a b : Int} : cmpI a b = 0 ↔ a = b := by
  constructor
  · intro h
    unfold cmpI at h
    split at h
    · omega
    · split at h <;> omega
  · exact cmpI_eq

set_option maxHeartbeats 400000 in
theorem compare_any (a b : Int) (w : World) : Calls Tryd.prog 51 #[.int .i64 a, .int .i64 b] w fun e w' => e = .returned (.int .i64 (cmpI a b)) ∧ w = w' := by
  by_cases h1 : a < b
  · have HF := Lib.hid (cmpI_lt h1)
    go_enter Tryd.func51, Tryd.ntmps51
    go_wp2
    go_ret
    exact ⟨by rw [HF.out]; rfl, rfl⟩
  · by_cases h2 : b < a
    · have HF := Lib.hid (cmpI_gt h2)
      go_enter Tryd.func51, Tryd.ntmps51
      go_wp2
      go_ret
      exact ⟨by rw [HF.out]; rfl, rfl⟩
    · have HF := Lib.hid (cmpI_eq (show a = b by omega))
      go_enter Tryd.func51, Tryd.ntmps51
      go_wp2
      go_ret
      exact ⟨by rw [HF.out]; rfl, rfl⟩
set_option maxHeartbeats 400000 in
theorem refCompare_any (a b : Int) (w : World) : Calls Tryd.prog 52 #[.int .i64 a, .int .i64 b] w fun e w' => e = .returned (.int .i64 (cmpI a b)) ∧ w = w' := by
  by_cases h1 : a < b
  · have HF := Lib.hid (cmpI_lt h1)
    go_enter Tryd.func52, Tryd.ntmps52
    go_wp2
    go_ret
    exact ⟨by rw [HF.out]; rfl, rfl⟩
  · by_cases h2 : b < a
    · have HF := Lib.hid (cmpI_gt h2)
      go_enter Tryd.func52, Tryd.ntmps52
      go_wp2
      go_ret
      exact ⟨by rw [HF.out]; rfl, rfl⟩
    · have HF := Lib.hid (cmpI_eq (show a = b by omega))
      go_enter Tryd.func52, Tryd.ntmps52
      go_wp2
      go_ret
      exact ⟨by rw [HF.out]; rfl, rfl⟩

def firstOf (x y z : Int) : Int := if x ≠ 0 then x else if y ≠ 0 then y else z
theorem firstOf_ord (a b c x y z : Int) : firstOf (cmpI a x) (cmpI b y) (cmpI c z) = ordEff a b c x y z := by
  unfold firstOf ordEff
  by_cases h1 : a = x
  · subst h1
    have e1 : cmpI a a = 0 := cmpI_eq rfl
    by_cases h2 : b = y
    · subst h2
      have e2 : cmpI b b = 0 := cmpI_eq rfl
      simp [e1, e2]
    · have e2 : cmpI b y ≠ 0 := fun h => h2 (cmpI_zero.1 h)
      simp [e1, e2, h2]
  · have e1 : cmpI a x ≠ 0 := fun h => h1 (cmpI_zero.1 h)
    simp [e1, h1]

set_option maxHeartbeats 800000 in
theorem or_any (x y z : Int) (b : Nat) (w : World) (h0 : w.cell? ⟨b, 0, none⟩ = some (.int .i64 x)) (h1 : w.cell? ⟨b, 1, none⟩ = some (.int .i64 y)) (h2 : w.cell? ⟨b, 2, none⟩ = some (.int .i64 z)) :
    Calls Tryd.prog 50 #[.slice (some ⟨b, 0, none⟩) 3 3] w fun e w' => e = .returned (.int .i64 (firstOf x y z)) ∧ w = w' := by
  by_cases hx : x = 0
  · by_cases hy : y = 0
    · by_cases hz : z = 0
      · have HF := Lib.hid (show firstOf x y z = 0 by simp [firstOf, hx, hy, hz])
        subst hx; subst hy; subst hz
        go_enter Tryd.func50, Tryd.ntmps50
        go_wp2
        go_rounds 4
        go_ret
        exact ⟨by rw [HF.out]; rfl, rfl⟩
      · have HF := Lib.hid (show firstOf x y z = z by simp [firstOf, hx, hy])
        have hb : ((z : Int) != 0) = true := by simpa using hz
        subst hx; subst hy
        go_enter Tryd.func50, Tryd.ntmps50
        go_wp2
        go_rounds 4
        go_ret
        exact ⟨by rw [HF.out]; rfl, rfl⟩
    · have HF := Lib.hid (show firstOf x y z = y by simp [firstOf, hx, hy])
      have hb : ((y : Int) != 0) = true := by simpa using hy
      subst hx
      go_enter Tryd.func50, Tryd.ntmps50
      go_wp2
      go_rounds 4
      go_ret
      exact ⟨by rw [HF.out]; rfl, rfl⟩
  · have HF := Lib.hid (show firstOf x y z = x by simp [firstOf, hx])
    have hb : ((x : Int) != 0) = true := by simpa using hx
    go_enter Tryd.func50, Tryd.ntmps50
    go_wp2
    go_rounds 4
    go_ret
    exact ⟨by rw [HF.out]; rfl, rfl⟩

set_option maxHeartbeats 800000 in
theorem refOrder_any (a b c x y z : Int) (w : World) :
    Calls Tryd.prog 33 #[.agg #[.int .i64 a, .int .i64 b, .int .i64 c], .agg #[.int .i64 x, .int .i64 y, .int .i64 z]] w fun e w' => e = .returned (.int .i64 (ordEff a b c x y z)) ∧ Below w.heap.size w w' := by
  by_cases h1 : a = x
  · have b1 : ((a : Int) != x) = false := by simpa using h1
    by_cases h2 : b = y
    · have b2 : ((b : Int) != y) = false := by simpa using h2
      have HF := Lib.hid (show ordEff a b c x y z = cmpI c z by simp [ordEff, h1, h2])
      clear h1 h2
      go_enter Tryd.func33, Tryd.ntmps33
      go_wp2_with (go_at_call 52; refine (refCompare_any _ _ _).mono ?_; rintro e w' ⟨rfl, rfl⟩)
      go_ret
      exact ⟨by rw [HF.out]; rfl, by go_grown⟩
    · have b2 : ((b : Int) != y) = true := by simpa using h2
      have HF := Lib.hid (show ordEff a b c x y z = cmpI b y by simp [ordEff, h1, h2])
      clear h1 h2
      go_enter Tryd.func33, Tryd.ntmps33
      go_wp2_with (go_at_call 52; refine (refCompare_any _ _ _).mono ?_; rintro e w' ⟨rfl, rfl⟩)
      go_ret
      exact ⟨by rw [HF.out]; rfl, by go_grown⟩
  · have b1 : ((a : Int) != x) = true := by simpa using h1
    have HF := Lib.hid (show ordEff a b c x y z = cmpI a x by simp [ordEff, h1])
    clear h1
    go_enter Tryd.func33, Tryd.ntmps33
    go_wp2_with (go_at_call 52; refine (refCompare_any _ _ _).mono ?_; rintro e w' ⟨rfl, rfl⟩)
    go_ret
    exact ⟨by rw [HF.out]; rfl, by go_grown⟩

set_option maxHeartbeats 2000000 in
theorem order_any (a b c x y z : Int) (w : World) :
    Calls Tryd.prog 32 #[.agg #[.int .i64 a, .int .i64 b, .int .i64 c], .agg #[.int .i64 x, .int .i64 y, .int .i64 z]] w fun e w' => e = .returned (.int .i64 (ordEff a b c x y z)) ∧ Below w.heap.size w w' := by
  have HF := Lib.hid (firstOf_ord a b c x y z)
  go_enter Tryd.func32, Tryd.ntmps32
  go_wp2_with fail
  go_region_held3 (fun w' => w'.cell? ⟨w.heap.size, 0, none⟩ = some (.int .i64 a) ∧ w'.cell? ⟨w.heap.size, 1, none⟩ = some (.int .i64 b) ∧ w'.cell? ⟨w.heap.size, 2, none⟩ = some (.int .i64 c) ∧
      w'.cell? ⟨w.heap.size + 1, 0, none⟩ = some (.int .i64 x) ∧ w'.cell? ⟨w.heap.size + 1, 1, none⟩ = some (.int .i64 y) ∧ w'.cell? ⟨w.heap.size + 1, 2, none⟩ = some (.int .i64 z)) (go_keep)
    (first | (go_at_call 51; refine (compare_any _ _ _).mono ?_; rintro e w' ⟨rfl, rfl⟩) | (go_at_call 50; refine (or_any (cmpI a x) (cmpI b y) (cmpI c z) (w.heap.size + 1 + 1) _ (by simp [go_sem]) (by simp [go_sem]) (by simp [go_sem])).mono ?_; rintro e w' ⟨rfl, rfl⟩))
  go_wp2
  go_ret
  exact ⟨by rw [← HF.out]; rfl, by go_grown⟩
end Go.Proofs.YtmbnhbocablgeaaDoor
