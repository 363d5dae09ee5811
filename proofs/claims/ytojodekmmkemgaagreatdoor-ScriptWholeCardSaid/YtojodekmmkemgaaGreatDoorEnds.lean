/- What the reference's Check, and how ends are compared, return; memory that lay stays. Condition: the ends are no longer than an int can say. -/
import Derived.Test.YtojodekmmkemgaaGreatDoorCheck
import Derived.Test.YtojodekmmkemgaaGreatDoorPlS
namespace Go.Proofs.YtojodekmmkemgaaGreatDoor.Rg
open Go.RowKit

theorem okR_val2 {f t : ByteArray} (h1 : okS f = true) (h2 : okS t = true) : okR f t = !(!(t.toList == ([] : List UInt8)) && !Op.bytesLess f.toList t.toList) := by
  obtain ⟨g, R⟩ := ranks [f, t]
  rw [okR_num R (by simp) (by simp), h1, h2, R.em t (by simp), R.lt f (by simp) t (by simp), Bool.eq_iff_iff]
  simp only [Bool.true_and, nb_iff, Bool.and_eq_true, decide_eq_true_eq]
  omega

set_option maxHeartbeats 4000000 in
theorem refCheck_any (f t : ByteArray) (w : World) (hf : f.size ≤ 9223372036854775807) (ht : t.size ≤ 9223372036854775807) :
    Calls Tryz.prog 92 #[.agg #[.string f, .string t]] w fun e w' => e = .returned (.int .i64 (ckI (okR f t))) ∧ Below w.heap.size w w' := by
  have b1 := (Below.refl w.heap.size w).alloc (Nat.le_refl _) (.cells #[.string f, .string t] 29)
  have hq : okR f t = ((f.toList == ([] : List UInt8) || isName f.data.toList) && ((t.toList == ([] : List UInt8) || isName t.data.toList) && (t.toList == ([] : List UInt8) || Op.bytesLess f.toList t.toList))) := rfl
  generalize okR f t = q at hq
  cases hE : (f.toList == ([] : List UInt8)) <;> cases hN : isName f.data.toList <;> cases hF : (t.toList == ([] : List UInt8)) <;> cases hM : isName t.data.toList <;> cases hL : Op.bytesLess f.toList t.toList
  all_goals
    rw [hE, hN, hF, hM, hL] at hq
    have HQ := Lib.hid hq
    clear hq
    go_enter Tryz.func92, Tryz.ntmps92
    go_wp2_with (go_at_call 97; refine (refName_any _ _ (by assumption)).mono ?_; rintro e w1 ⟨rfl, rfl⟩)
    go_ret
    exact ⟨by rw [HQ.out]; rfl, b1⟩

end Go.Proofs.YtojodekmmkemgaaGreatDoor.Rg
