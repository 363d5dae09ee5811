/- What the reference's Check, and how ends are compared, return; memory that lay stays. Condition: the ends are no longer than an int can say. -/
import Derived.Test.YtkkkppbcjmeapaaDoorCheck
import Derived.Test.YtkkkppbcjmeapaaDoorRtA
namespace Go.Proofs.YtkkkppbcjmeapaaDoor
open Go.RowKit

theorem okR_val2 {f t : ByteArray} (h1 : okS f = true) (h2 : okS t = true) : okR f t = !(!(t.toList == ([] : List UInt8)) && !Op.bytesLess f.toList t.toList) := by
  obtain ⟨g, R⟩ := ranks [f, t]
  rw [okR_num R (by simp) (by simp), h1, h2, R.em t (by simp), R.lt f (by simp) t (by simp), Bool.eq_iff_iff]
  simp only [Bool.true_and, nb_iff, Bool.and_eq_true, decide_eq_true_eq]
  omega

set_option maxHeartbeats 4000000 in
theorem refCheck_any (f t : ByteArray) (w : World) (hf : f.size ≤ 9223372036854775807) (ht : t.size ≤ 9223372036854775807) :
    Calls Tryd.prog 62 #[.agg #[.string f, .string t]] w fun e w' => e = .returned (.int .i64 (ckI (okR f t))) ∧ Below w.heap.size w w' := by
  have b1 := (Below.refl w.heap.size w).alloc (Nat.le_refl _) (.cells #[.string f, .string t] 30)
  have hq : okR f t = ((f.toList == ([] : List UInt8) || isName f.data.toList) && ((t.toList == ([] : List UInt8) || isName t.data.toList) && (t.toList == ([] : List UInt8) || Op.bytesLess f.toList t.toList))) := rfl
  generalize okR f t = q at hq
  cases hE : (f.toList == ([] : List UInt8)) <;> cases hN : isName f.data.toList <;> cases hF : (t.toList == ([] : List UInt8)) <;> cases hM : isName t.data.toList <;> cases hL : Op.bytesLess f.toList t.toList
  all_goals
    rw [hE, hN, hF, hM, hL] at hq
    have HQ := Lib.hid hq
    clear hq
    go_enter Tryd.func62, Tryd.ntmps62
    go_wp2_with (go_at_call 79; refine (refName_any _ _ (by assumption)).mono ?_; rintro e w1 ⟨rfl, rfl⟩)
    go_ret
    exact ⟨by rw [HQ.out]; rfl, b1⟩

set_option maxHeartbeats 1000000 in
theorem isNaN_any (x : ByteArray) (w : World) : Calls Tryd.prog 82 #[.string x] w fun e w' => e = .returned (.bool false) ∧ w = w' := by
  go_enter Tryd.func82, Tryd.ntmps82
  go_wp2
  go_ret
  exact ⟨by simp, rfl⟩

/-- The sign of a comparison. -/
def cmpS (x y : ByteArray) : Int := if Op.bytesLess x.toList y.toList then -1 else if x.toList == y.toList then 0 else 1
set_option maxHeartbeats 1000000 in
theorem compare_any (x y : ByteArray) (w : World) : Calls Tryd.prog 65 #[.string x, .string y] w fun e w' => e = .returned (.int .i64 (cmpS x y)) ∧ w = w' := by
  have hq : cmpS x y = if Op.bytesLess x.toList y.toList then -1 else if x.toList == y.toList then 0 else 1 := rfl
  generalize cmpS x y = q at hq
  cases h1 : Op.bytesLess x.toList y.toList <;> cases h2 : (x.toList == y.toList)
  all_goals
    have HQ := Lib.hid (hq.trans (by rw [h1, h2]) : q = _)
    clear hq
    go_enter Tryd.func65, Tryd.ntmps65
    go_wp2_with (go_at_call 82; refine (isNaN_any _ _).mono ?_; rintro e w1 ⟨rfl, rfl⟩)
    go_ret
    exact ⟨by rw [HQ.out]; rfl, rfl⟩

/-- How ends are compared. -/
def endN (x y : ByteArray) : Int := if x.toList == y.toList then 0 else if x.toList == ([] : List UInt8) then 1 else if y.toList == ([] : List UInt8) then -1 else cmpS x y
theorem endN_lt (x y : ByteArray) : decide (endN x y < 0) = endLt x y := by
  unfold endN endLt cmpS
  cases h1 : (x.toList == y.toList) <;> cases h2 : (x.toList == ([] : List UInt8)) <;> cases h3 : (y.toList == ([] : List UInt8)) <;> cases h4 : Op.bytesLess x.toList y.toList <;> decide
set_option maxHeartbeats 1000000 in
theorem end_any (x y : ByteArray) (w : World) : Calls Tryd.prog 69 #[.string x, .string y] w fun e w' => e = .returned (.int .i64 (endN x y)) ∧ w = w' := by
  have hq : endN x y = if x.toList == y.toList then 0 else if x.toList == ([] : List UInt8) then 1 else if y.toList == ([] : List UInt8) then -1 else cmpS x y := rfl
  generalize endN x y = q at hq
  have C := compare_any x y
  generalize cmpS x y = c at hq C
  cases h1 : (x.toList == y.toList) <;> cases h2 : (x.toList == ([] : List UInt8)) <;> cases h3 : (y.toList == ([] : List UInt8))
  all_goals
    have HQ := Lib.hid (hq.trans (by rw [h1, h2, h3]) : q = _)
    clear hq
    go_enter Tryd.func69, Tryd.ntmps69
    go_wp2_with (go_at_call 65; refine (C _).mono ?_; rintro e w1 ⟨rfl, rfl⟩)
    go_ret
    exact ⟨by rw [HQ.out]; rfl, rfl⟩

set_option maxHeartbeats 1000000 in
theorem refEnd_any (x y : ByteArray) (w : World) : Calls Tryd.prog 77 #[.string x, .string y] w fun e w' => e = .returned (.string (minE x y)) ∧ w = w' := by
  have hq : minE x y = if (x.toList == ([] : List UInt8) || (!(y.toList == ([] : List UInt8)) && Op.bytesLess y.toList x.toList)) = true then y else x := (refEnd_eq x y).symm
  generalize minE x y = q at hq
  cases h1 : (x.toList == ([] : List UInt8)) <;> cases h2 : (y.toList == ([] : List UInt8)) <;> cases h3 : Op.bytesLess y.toList x.toList
  all_goals
    have HQ := Lib.hid (hq.trans (by rw [h1, h2, h3]) : q = _)
    clear hq
    go_enter Tryd.func77, Tryd.ntmps77
    go_wp2
    go_ret
    exact ⟨by rw [HQ.out]; rfl, rfl⟩
end Go.Proofs.YtkkkppbcjmeapaaDoor
