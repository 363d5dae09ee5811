/- Numbers with their sign as numbers without, by the program and by the reference. Condition: the numbers are 64 bits. -/
import Derived.Test.YtgjnmfmbheejoaaGreatDoorPlBits
import Derived.Test.YtgjnmfmbheejoaaGreatDoorGen
import Derived.Test.YtgjnmfmbheejoaaGreatDoorProg
namespace Go.Proofs.YtgjnmfmbheejoaaGreatDoor
open Go.RowKit

theorem zig_ret {a : Int} {l : Array Value} (h1 : -9223372036854775808 ≤ a) (h2 : a ≤ 9223372036854775807) (h : l.getD 2 undef = .int .u64 (bits .xor .u64 (IntKind.u64.wrap (IntKind.u64.wrap a * 2)) (IntKind.u64.wrap (a / 9223372036854775808)))) : Ending.returned (l.getD 2 undef) = .returned (.int .u64 (zig a : Int)) := by
  rw [h, zig_bits h1 h2]
set_option maxHeartbeats 400000 in
theorem zig_any (a : Int) (w : World) (h1 : -9223372036854775808 ≤ a) (h2 : a ≤ 9223372036854775807) :
    Calls Tryz.prog 125 #[.int .i64 a] w fun e w' => e = .returned (.int .u64 (zig a : Int)) ∧ w = w' := by
  go_enter Tryz.func125, Tryz.ntmps125
  go_wp2
  go_ret
  exact ⟨zig_ret h1 h2 rfl, rfl⟩
theorem ret_u64 {a b : Int} (h : a = b) : Ending.returned (.int .u64 a) = .returned (.int .u64 b) := by rw [h]
theorem ret_i64 {a b : Int} (h : a = b) : Ending.returned (.int .i64 a) = .returned (.int .i64 b) := by rw [h]
set_option maxHeartbeats 400000 in
theorem rzig_any (a : Int) (w : World) (h1 : -9223372036854775808 ≤ a) (h2 : a ≤ 9223372036854775807) :
    Calls Tryz.prog 130 #[.int .i64 a] w fun e w' => e = .returned (.int .u64 (zig a : Int)) ∧ w = w' := by
  by_cases h : a < 0
  all_goals
    go_enter Tryz.func130, Tryz.ntmps130
    go_wp2
    go_ret
    exact ⟨ret_u64 (by unfold zig; split <;> omega), rfl⟩
set_option maxHeartbeats 400000 in
theorem zag_any (u : Nat) (w : World) (h : u < 18446744073709551616) :
    Calls Tryz.prog 121 #[.int .u64 (u : Int)] w fun e w' => e = .returned (.int .i64 (zag u)) ∧ w = w' := by
  go_enter Tryz.func121, Tryz.ntmps121
  go_wp2
  go_ret
  exact ⟨ret_i64 (zag_bits h), rfl⟩
set_option maxHeartbeats 400000 in
theorem rzag_any (u : Nat) (w : World) (h : u < 18446744073709551616) :
    Calls Tryz.prog 116 #[.int .u64 (u : Int)] w fun e w' => e = .returned (.int .i64 (zag u)) ∧ w = w' := by
  by_cases hu : u % 2 = 1
  · have e1 : ((u : Int) % 2 == 1) = true := by rw [beq_iff_eq]; omega
    go_enter Tryz.func116, Tryz.ntmps116
    go_wp2
    go_ret
    exact ⟨ret_i64 (by unfold zag; rw [if_pos hu]; omega), rfl⟩
  · have e1 : ((u : Int) % 2 == 1) = false := by rw [beq_eq_false_iff_ne]; omega
    go_enter Tryz.func116, Tryz.ntmps116
    go_wp2
    go_ret
    exact ⟨ret_i64 (by unfold zag; rw [if_neg hu]; omega), rfl⟩
end Go.Proofs.YtgjnmfmbheejoaaGreatDoor
