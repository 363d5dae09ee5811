/- Plain facts: numbers with their sign as numbers without, by the machine's operations. No condition. -/
import Derived.Test.YtgeljnjcpkmlmaaGreatDoorPlA
import Derived.Laws.BitsAllLaws
import Derived.Laws.BitsLemmas
namespace Go.Proofs.YtgeljnjcpkmlmaaGreatDoor
open Go.RowKit

theorem xor_ones {x : Nat} (h : x < 2 ^ 64) : x ^^^ (2 ^ 64 - 1) = 2 ^ 64 - (x + 1) := by
  apply Nat.eq_of_testBit_eq
  intro i
  rw [Nat.testBit_xor, Nat.testBit_two_pow_sub_succ h, Nat.testBit_two_pow_sub_one]
  by_cases hi : i < 64
  · simp [hi]
  · have : x.testBit i = false := Nat.testBit_lt_two_pow (Nat.lt_of_lt_of_le h (Nat.pow_le_pow_right (by decide) (by omega)))
    simp [hi, this]
theorem zig_bits {a : Int} (h1 : -9223372036854775808 ≤ a) (h2 : a ≤ 9223372036854775807) :
    bits .xor .u64 (IntKind.u64.wrap (IntKind.u64.wrap a * 2)) (IntKind.u64.wrap (a / 9223372036854775808)) = (zig a : Int) := by
  simp only [IntKind.wrap_u64]
  unfold zig
  by_cases h : a < 0
  · rw [if_pos h]
    have e1 : a / 9223372036854775808 % 18446744073709551616 = ((2 ^ 64 - 1 : Nat) : Int) := by
      have : a / 9223372036854775808 = -1 := by omega
      rw [this]; decide
    have e2 : a % 18446744073709551616 * 2 % 18446744073709551616 = ((2 * a + 18446744073709551616).toNat : Int) := by omega
    rw [e1, e2, u64_xor_nat _ _ (by omega) (by decide), xor_ones (by omega)]
    omega
  · rw [if_neg h]
    have e1 : a / 9223372036854775808 % 18446744073709551616 = ((0 : Nat) : Int) := by omega
    have e2 : a % 18446744073709551616 * 2 % 18446744073709551616 = ((2 * a).toNat : Int) := by omega
    rw [e1, e2, u64_xor_nat _ _ (by omega) (by decide), Nat.xor_zero]
theorem i64_xor_ones {x : Nat} (h : x < 9223372036854775808) : bits .xor .i64 (x : Int) (-1) = -(x : Int) - 1 := by
  show IntKind.i64.wrap ((BitVec.ofInt 64 (x : Int) ^^^ BitVec.ofInt 64 (-1)).toNat : Int) = _
  have e : (BitVec.ofInt 64 (-1)).toNat = 2 ^ 64 - 1 := by decide
  rw [BitVec.toNat_xor, ofInt_u64 x (by omega), e, xor_ones (by omega), IntKind.wrap_i64]
  have : ((2 ^ 64 - (x + 1) : Nat) : Int) = 18446744073709551616 - ((x : Int) + 1) := by omega
  rw [this]
  omega
theorem i64_xor_zero {x : Nat} (h : x < 9223372036854775808) : bits .xor .i64 (x : Int) 0 = (x : Int) := by
  show IntKind.i64.wrap ((BitVec.ofInt 64 (x : Int) ^^^ BitVec.ofInt 64 0).toNat : Int) = _
  have e : (BitVec.ofInt 64 0).toNat = 0 := by decide
  rw [BitVec.toNat_xor, ofInt_u64 x (by omega), e, Nat.xor_zero, IntKind.wrap_i64]
  omega
theorem zag_bits {u : Nat} (h : u < 18446744073709551616) : bits .xor .i64 ((u : Int) / 2) (wrap64 (-wrap64 (bits .and .u64 (u : Int) 1))) = zag u := by
  have e1 : bits .and .u64 (u : Int) 1 = ((u % 2 : Nat) : Int) := by
    have := u64_and_nat u 1 h (by decide)
    rw [nat_mask1] at this
    exact this
  have e2 : (u : Int) / 2 = ((u / 2 : Nat) : Int) := by omega
  rw [e1, e2]
  unfold zag
  by_cases hu : u % 2 = 1
  · rw [if_pos hu, hu]
    have : wrap64 (-wrap64 ((1 : Nat) : Int)) = -1 := by decide +kernel
    rw [this, i64_xor_ones (by omega)]
  · rw [if_neg hu]
    have h0 : u % 2 = 0 := by omega
    have : wrap64 (-wrap64 ((0 : Nat) : Int)) = 0 := by decide +kernel
    rw [h0, this, i64_xor_zero (by omega)]
end Go.Proofs.YtgeljnjcpkmlmaaGreatDoor
