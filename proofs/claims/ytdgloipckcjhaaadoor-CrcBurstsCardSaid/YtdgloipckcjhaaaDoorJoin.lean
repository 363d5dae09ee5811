/- What crc.Join and the reference's Join return. No condition. -/
import Derived.Test.YtdgloipckcjhaaaDoorMat
namespace Go.Proofs.YtdgloipckcjhaaaDoor
open Go.RowKit

theorem bit0_eq {n : Nat} (h : n < 9223372036854775808) : bits .and .i64 (n : Int) 1 = ((n % 2 : Nat) : Int) := by
  show IntKind.i64.wrap ((BitVec.ofInt 64 (n : Int) &&& BitVec.ofInt 64 ((1 : Nat) : Int)).toNat : Int) = _
  rw [BitVec.toNat_and, ofInt_u64 n (by omega), ofInt_u64 1 (by decide), nat_mask1]
  simp [IntKind.wrap, IntKind.signed, IntKind.bits]
  omega

/-- What Join answers. -/
def joinV (a b : Nat) (n : Int) : Value := if n < 0 ∨ 2147483648 < n then .tuple #[.int .u32 0, .int .i64 2] else .tuple #[.int .u32 (Crc.join a b n.toNat : Nat), .int .i64 0]

set_option maxHeartbeats 1000000 in
theorem join_ok (a b n : Nat) (w : World) (ha : a < 4294967296) (hb : b < 4294967296) (hn : n ≤ 2147483648) :
    Calls Tryd.prog 13 #[.int .u32 (a : Int), .int .u32 (b : Int), .int .i64 (n : Int)] w fun e w' => e = .returned (.tuple #[.int .u32 (Crc.join a b n : Nat), .int .i64 0]) ∧ Below w.heap.size w w' := by
  have d1 : decide ((n : Int) < 0) = false := by simp
  have d2 : decide (2147483648 < (n : Int)) = false := by simp; omega
  go_enter Tryd.func13, Tryd.ntmps13
  go_wp2_with (go_at_call 28; refine (step_any _).mono ?_; rintro e w1 ⟨g1, rfl, hm1, hb1⟩)
  have HM1 := Lib.hid hm1
  have HB1 := Lib.hid hb1
  clear hm1 hb1
  go_loopw [8, 16] (fun p i wr => ∃ k g : Nat, k ≤ 3 ∧ i = .int .i64 k ∧ p = .pointer (some ⟨g, 0, none⟩) ∧ MatAt wr g (fun i => Crc.stepn (2 ^ k) (2 ^ i)) ∧ Below w.heap.size w wr) (fun _ i _ => 3 - (intOf i).toNat)
  case atStart => exact ⟨0, g1, Nat.zero_le _, rfl, rfl, HM1.out, HB1.out⟩
  case round =>
    obtain ⟨k, g, hk, rfl, rfl, hm, hbel⟩ := hrel
    have HM := Lib.hid hm
    have HL := Lib.hid hbel
    clear hm hbel HM1 HB1
    by_cases hlt : k < 3
    · go_wp2_with (go_at_call 29; refine (twice_stepn _ _ _ HM.out).mono ?_; rintro e w2 ⟨g2, rfl, hm2, hb2⟩)
      go_roundw
      case rel => exact ⟨k + 1, g2, by omega, by go_num, rfl, hm2, HL.out.trans (hb2.mono HL.out.size)⟩
      case measure => simp [intOf]; omega
    · obtain rfl : k = 3 := by omega
      obtain ⟨wq, rfl⟩ : ∃ wq : World, wq = wr := ⟨_, rfl⟩
      have HM8 : Hid (MatAt wq g (fun i => Crc.stepn (8 * 2 ^ 0) (2 ^ i))) := Lib.hid HM.out
      clear HM hlt hk
      rw [show ((3 : Nat) : Int) = 3 from rfl]
      go_wp2
      go_loopw [0, 2, 8] (fun av nv p wr => ∃ t cur acc g : Nat, nv = .int .i64 cur ∧ Hid (cur = n / 2 ^ t) ∧ av = .int .u32 acc ∧ Hid (acc = Crc.stepn (8 * (n % 2 ^ t)) a) ∧ acc < 4294967296 ∧ cur ≤ 2147483648 ∧ p = .pointer (some ⟨g, 0, none⟩) ∧ MatAt wr g (fun i => Crc.stepn (8 * 2 ^ t) (2 ^ i)) ∧ Below w.heap.size w wr) (fun _ nv _ _ => (intOf nv).toNat)
      case atStart => exact ⟨0, n, a, g, rfl, Lib.hid (by simp), rfl, Lib.hid (by rw [Nat.pow_zero, Nat.mod_one]; rfl), ha, hn, rfl, HM8.out, HL.out⟩
      case round =>
        clear HM8 HL
        obtain ⟨t, cur, acc, g, rfl, hcur, rfl, hacc, hlt, hle, rfl, hm, hbel⟩ := hrel
        have HM := Lib.hid hm
        have HL := Lib.hid hbel
        clear hm hbel
        by_cases hc : 0 < cur
        · have hb0 := bit0_eq (n := cur) (by omega)
          have hx := Crc.stepn_lt (8 * 2 ^ t) hlt
          rcases Nat.mod_two_eq_zero_or_one cur with e | e
          · have hS : Crc.stepn (8 * (n % 2 ^ (t + 1))) a = acc := by
              rw [Nat.mod_pow_succ, ← hcur.out, e, Nat.mul_zero, Nat.add_zero, ← hacc.out]
            have HS := Lib.hid hS
            have HD : Hid (cur / 2 = n / 2 ^ (t + 1)) := Lib.hid (by rw [hcur.out, Nat.div_div_eq_div_mul, ← Nat.pow_succ])
            rw [e] at hb0
            clear e hS hx
            go_wp2_with (go_at_call 29; refine (twice_stepn _ _ _ HM.out).mono ?_; rintro e w2 ⟨g2, rfl, hm2, hb2⟩)
            have HM2 := Lib.hid hm2
            clear hm2
            go_roundw
            case rel => exact ⟨t + 1, cur / 2, acc, g2, by go_num, HD, rfl, Lib.hid HS.out.symm, hlt, by omega, rfl, by rw [Nat.pow_succ, ← Nat.mul_assoc]; exact HM2.out, HL.out.trans (hb2.mono HL.out.size)⟩
            case measure => simp [intOf]; omega
          · have hS : Crc.stepn (8 * (n % 2 ^ (t + 1))) a = Crc.stepn (8 * 2 ^ t) acc := by
              rw [Nat.mod_pow_succ, ← hcur.out, e, Nat.mul_one, Nat.mul_add, Nat.add_comm, Crc.stepn_add, ← hacc.out]
            have HS := Lib.hid hS
            have HD : Hid (cur / 2 = n / 2 ^ (t + 1)) := Lib.hid (by rw [hcur.out, Nat.div_div_eq_div_mul, ← Nat.pow_succ])
            rw [e] at hb0
            clear e hS
            go_wp2_with (first
              | (go_at_call 30; refine (of_stepn _ _ _ _ hlt HM.out).mono ?_; rintro e w2 ⟨rfl, rfl⟩)
              | (go_at_call 29; refine (twice_stepn _ _ _ HM.out).mono ?_; rintro e w2 ⟨g2, rfl, hm2, hb2⟩))
            have HM2 := Lib.hid hm2
            clear hm2
            go_roundw
            case rel => exact ⟨t + 1, cur / 2, Crc.stepn (8 * 2 ^ t) acc, g2, by go_num, HD, rfl, Lib.hid HS.out.symm, hx, by omega, rfl, by rw [Nat.pow_succ, ← Nat.mul_assoc]; exact HM2.out, HL.out.trans (hb2.mono HL.out.size)⟩
            case measure => simp [intOf]; omega
        · obtain rfl : cur = 0 := by omega
          have hfin : acc = Crc.stepn (8 * n) a := by
            have h0 : n < 2 ^ t := by
              refine Nat.lt_of_not_le fun h => ?_
              have := Nat.div_pos h (Nat.two_pow_pos t)
              have h1 := hcur.out
              omega
            rw [hacc.out, Nat.mod_eq_of_lt h0]
          have hx := u32_xor_nat _ _ hlt hb
          have HF := Lib.hid hfin
          clear hfin
          go_wp2
          go_ret2
          exact ⟨by unfold Crc.join; rw [← HF.out]; rfl, HL.out⟩

set_option maxHeartbeats 400000 in
theorem join_no (a b : Nat) (n : Int) (w : World) (hn : n < 0 ∨ 2147483648 < n) :
    Calls Tryd.prog 13 #[.int .u32 (a : Int), .int .u32 (b : Int), .int .i64 n] w fun e w' => e = .returned (.tuple #[.int .u32 0, .int .i64 2]) ∧ Below w.heap.size w w' := by
  rcases hn with hn | hn
  · go_enter Tryd.func13, Tryd.ntmps13
    go_wp2
    go_ret2
    exact ⟨rfl, Below.refl _ _⟩
  · have h0 : ¬ n < 0 := by omega
    go_enter Tryd.func13, Tryd.ntmps13
    go_wp2
    go_ret2
    exact ⟨rfl, Below.refl _ _⟩

theorem join_any (a b : Nat) (n : Int) (w : World) (ha : a < 4294967296) (hb : b < 4294967296) :
    Calls Tryd.prog 13 #[.int .u32 (a : Int), .int .u32 (b : Int), .int .i64 n] w fun e w' => e = .returned (joinV a b n) ∧ Below w.heap.size w w' := by
  unfold joinV
  by_cases h : n < 0 ∨ 2147483648 < n
  · rw [if_pos h]; exact join_no a b n w h
  · rw [if_neg h]
    obtain ⟨k, rfl⟩ : ∃ k : Nat, n = k := ⟨n.toNat, by omega⟩
    exact join_ok a b k w ha hb (by omega)
end Go.Proofs.YtdgloipckcjhaaaDoor
