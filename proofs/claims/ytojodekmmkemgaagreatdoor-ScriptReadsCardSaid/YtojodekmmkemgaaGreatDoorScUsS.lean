/- What an operation's kind uses, by the reference. Condition: sizes as a machine's integers can say. -/
import Derived.Test.YtojodekmmkemgaaGreatDoorScAl
import Derived.Deep.RegionHeld3
namespace Go.Proofs.YtojodekmmkemgaaGreatDoor
open Go.RowKit Go.Shelf

theorem node_b (x : Int) (w : World) : Calls Tryz.prog 95 #[.int .i64 x] w fun e w' => e = .returned (.bool (decide (0 ≤ x ∧ x ≤ 55))) ∧ Below w.heap.size w w' := by
  generalize hq : decide (0 ≤ x ∧ x ≤ 55) = q
  have HQ := Lib.hid hq
  clear hq
  by_cases h1 : 0 ≤ x <;> by_cases h2 : x < 56
  all_goals
    go_enter Tryz.func95, Tryz.ntmps95
    go_wp2
    go_ret
    exact ⟨by rw [← HQ.out]; simp [h1] <;> omega, Below.refl _ _⟩
theorem saga_b (x : Int) (w : World) : Calls Tryz.prog 96 #[.int .i64 x] w fun e w' => e = .returned (.bool (decide (1 ≤ x ∧ x ≤ 9999))) ∧ Below w.heap.size w w' := by
  generalize hq : decide (1 ≤ x ∧ x ≤ 9999) = q
  have HQ := Lib.hid hq
  clear hq
  by_cases h1 : 1 ≤ x <;> by_cases h2 : x ≤ 9999
  all_goals
    go_enter Tryz.func96, Tryz.ntmps96
    go_wp2
    go_ret
    exact ⟨by rw [← HQ.out]; simp [h1, h2], Below.refl _ _⟩
end Go.Proofs.YtojodekmmkemgaaGreatDoor
