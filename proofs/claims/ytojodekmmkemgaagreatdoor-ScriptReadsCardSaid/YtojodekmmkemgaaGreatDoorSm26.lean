/- The reference's small. No condition. -/
import Derived.Test.YtojodekmmkemgaaGreatDoorGnS
namespace Go.Proofs.YtojodekmmkemgaaGreatDoor
open Go.RowKit Go.Shelf

set_option maxHeartbeats 1000000 in
theorem small26_any (u : Nat) (w : World) (hu : u < 2 ^ 64) : Calls Tryz.prog 107 #[.int .u64 (u : Int)] w fun e w' => e = .returned (.int .i64 ((small u : Nat) : Int)) ∧ w = w' := by
  obtain ⟨v, hv⟩ : ∃ v : Nat, v = small u := ⟨_, rfl⟩
  rw [← hv]
  by_cases h : 1000000 < u
  · have e1 : (1000000 : Int) < (u : Int) := by omega
    have HV : Hid (v = 1000000) := Lib.hid (by rw [hv]; unfold small; omega)
    clear hv h hu
    go_enter Tryz.func107, Tryz.ntmps107
    go_wp2
    go_ret
    exact ⟨by rw [HV.out]; rfl, rfl⟩
  · have e1 : ¬ ((1000000 : Int) < (u : Int)) := by omega
    have hwu : IntKind.i64.wrap (u : Int) = (u : Int) := IntWalk.i64_in _ (by omega)
    have HV : Hid (v = u) := Lib.hid (by rw [hv]; unfold small; omega)
    clear hv h hu
    go_enter Tryz.func107, Tryz.ntmps107
    go_wp2
    go_ret
    exact ⟨by rw [HV.out]; rfl, rfl⟩
theorem small_le (u : Nat) : small u ≤ 1000000 := Nat.min_le_right _ _
end Go.Proofs.YtojodekmmkemgaaGreatDoor
