/- A number at the beginning of bytes, as the program reads it. Condition: the bytes are no longer than a machine's integer can say. -/
import Derived.Test.YtgjnmfmbheejoaaGreatDoorWrt2
import Derived.IntWalk
namespace Go.Proofs.YtgjnmfmbheejoaaGreatDoor
open Go.RowKit Go.Shelf

theorem pow128 (k : Nat) : (128 : Nat) ^ k = 2 ^ (7 * k) := by rw [Nat.pow_mul]
theorem low7 {c : Nat} (h : c < 256) : bits .andNot .u8 (c : Int) 128 = ((c % 128 : Nat) : Int) := by
  have e := u8_andNot_nat c 128 h (by decide)
  have e2 : c &&& (255 - 128) = c % 128 := Nat.and_two_pow_sub_one_eq_mod c 7
  rw [e2] at e
  exact e
theorem or_add {a d k : Nat} (ha : a < 128 ^ k) (hk : k ≤ 9) (hd : d < 128) (h9 : k = 9 → d ≤ 1) : bits .or .u64 (a : Int) ((d * 128 ^ k : Nat) : Int) = ((a + d * 128 ^ k : Nat) : Int) := by
  have p9 : (128 : Nat) ^ 9 = 9223372036854775808 := by decide
  have hp : (128 : Nat) ^ k ≤ 128 ^ 9 := Nat.pow_le_pow_right (by decide) hk
  have hb : d * 128 ^ k < 18446744073709551616 := by
    by_cases e : k = 9
    · have := h9 e; subst e; rw [p9]; omega
    · have h1 : (128 : Nat) ^ (k + 1) ≤ 128 ^ 9 := Nat.pow_le_pow_right (by decide) (by omega)
      rw [Nat.pow_succ, p9] at h1
      have h2 : d * 128 ^ k ≤ 127 * 128 ^ k := Nat.mul_le_mul_right _ (by omega)
      omega
  rw [u64_or_nat _ _ (by omega) hb, Nat.or_comm, nat_join (7 * k) (d * 128 ^ k) a (by rw [pow128]; exact Nat.mul_mod_left _ _) (by rw [← pow128]; exact ha), Nat.add_comm]
theorem shl_or {a d k : Nat} (ha : a < 128 ^ k) (hk : k ≤ 9) (hd : d < 128) (h9 : k = 9 → d ≤ 1) : bits .or .u64 (a : Int) (IntKind.u64.wrap (IntKind.u64.wrap (d : Int) * 2 ^ (7 * k))) = ((a + d * 128 ^ k : Nat) : Int) := by
  have p9 : (128 : Nat) ^ 9 = 9223372036854775808 := by decide
  have hb : d * 128 ^ k < 18446744073709551616 := by
    by_cases e : k = 9
    · have := h9 e; subst e; rw [p9]; omega
    · have h1 : (128 : Nat) ^ (k + 1) ≤ 128 ^ 9 := Nat.pow_le_pow_right (by decide) (by omega)
      rw [Nat.pow_succ, p9] at h1
      have h2 : d * 128 ^ k ≤ 127 * 128 ^ k := Nat.mul_le_mul_right _ (by omega)
      omega
  rw [← or_add ha hk hd h9]
  congr 1
  have h1 : IntKind.u64.wrap (d : Int) = (d : Int) := by rw [IntKind.wrap_u64]; omega
  have hc : (d : Int) * 2 ^ (7 * k) = ((d * 128 ^ k : Nat) : Int) := by rw [pow128]; simp
  rw [h1, hc, IntKind.wrap_u64]
  omega
/-- What number answers. -/
def nbV (l : List UInt8) : Nat × Nat := match uvR l with | none => (0, 0) | some p => p
theorem uvGo_stop {i n : Nat} {c : UInt8} {l : List UInt8} (h : (i = 9 ∧ 1 < c.toNat) ∨ (0 < i ∧ c.toNat = 0)) : uvGo i n (c :: l) = none := by rw [uvGo, if_pos h]
theorem uvGo_last {i n : Nat} {c : UInt8} {l : List UInt8} (h : ¬ ((i = 9 ∧ 1 < c.toNat) ∨ (0 < i ∧ c.toNat = 0))) (hc : c.toNat < 128) : uvGo i n (c :: l) = some (n + c.toNat * 128 ^ i, i + 1) := by rw [uvGo, if_neg h, if_pos hc]
theorem uvGo_next {i n : Nat} {c : UInt8} {l : List UInt8} (h : ¬ ((i = 9 ∧ 1 < c.toNat) ∨ (0 < i ∧ c.toNat = 0))) (hc : ¬ c.toNat < 128) : uvGo i n (c :: l) = uvGo (i + 1) (n + (c.toNat - 128) * 128 ^ i) l := by rw [uvGo, if_neg h, if_neg hc]

set_option maxRecDepth 100000 in
set_option maxHeartbeats 8000000 in
theorem number_any (A : Option Addr) (n cap : Nat) (l : List UInt8) (w : World) (h : SlB w A n l) (hn : n ≤ 1000000000000) :
    Calls Tryz.prog 120 #[.slice A n cap] w fun e w' => e = .returned (.tuple #[.int .u64 ((nbV l).1 : Int), .int .i64 ((nbV l).2 : Int)]) ∧ w = w' := by
  generalize hq : nbV l = q
  have HQ := Lib.hid hq
  have HS := Lib.hid h
  have HL := Lib.hid h.1
  clear hq h
  go_enter Tryz.func120, Tryz.ntmps120
  go_wp2
  go_loop [4, 9] (fun a i => ∃ k acc : Nat, k ≤ n ∧ k ≤ 9 ∧ i = .int .i64 k ∧ a = .int .u64 acc ∧ Hid (acc < 128 ^ k ∧ uvR l = uvGo k acc (l.drop k))) (fun _ i => n - (intOf i).toNat)
  case atStart => exact ⟨0, 0, Nat.zero_le _, Nat.zero_le _, rfl, rfl, Lib.hid ⟨by decide, rfl⟩⟩
  case round =>
    obtain ⟨k, acc, hk, hk9, rfl, rfl, HU⟩ := hrel
    by_cases hlt : k < n
    · obtain ⟨c, hc⟩ : ∃ c, l[k]? = some c := ⟨_, List.getElem?_eq_getElem (show k < l.length by rw [HL.out]; exact hlt)⟩
      obtain ⟨g, o, rfl, hcell⟩ := HS.out.2 k c hc
      have hd : l.drop k = c :: l.drop (k + 1) := by
        obtain ⟨hx, rfl⟩ := List.getElem?_eq_some_iff.1 hc
        exact List.drop_eq_getElem_cons hx
      unfold u8V at hcell
      have hcl := c.toNat_lt
      have HV : Hid (uvR l = uvGo k acc (c :: l.drop (k + 1))) := Lib.hid (by rw [HU.out.2, hd])
      have HA := Lib.hid HU.out.1
      clear hd hc HU
      by_cases hst : (k = 9 ∧ 1 < c.toNat) ∨ (0 < k ∧ c.toNat = 0)
      · have HE : Hid (q = (0, 0)) := Lib.hid (by rw [← HQ.out]; unfold nbV; rw [HV.out, uvGo_stop hst])
        generalize c.toNat = x at hcell hcl hst
        clear HV HQ
        rcases hst with ⟨h9, h1⟩ | ⟨h0, h1⟩
        · subst h9
          go_wp2
          go_ret2
          exact ⟨by rw [HE.out]; rfl, rfl⟩
        · subst h1
          have e9 : ((k : Int) == 9) = true ∨ ((k : Int) == 9) = false := by cases ((k : Int) == 9) <;> simp
          rcases e9 with e9 | e9
          all_goals
            go_wp2
            go_ret2
            exact ⟨by rw [HE.out]; rfl, rfl⟩
      · have h9 : k = 9 → c.toNat ≤ 1 := fun e => by
          rcases Nat.lt_or_ge 1 c.toNat with h1 | h1
          · exact absurd (Or.inl ⟨e, h1⟩) hst
          · exact h1
        have h0 : 0 < k → c.toNat ≠ 0 := fun e e2 => hst (Or.inr ⟨e, e2⟩)
        have e29 := low7 (c := c.toNat) (by omega)
        have e34 := shl_or (d := c.toNat % 128) HA.out hk9 (by omega) (fun e => by have := h9 e; omega)
        obtain ⟨sh, hsh⟩ : ∃ sh : Nat, sh = c.toNat % 128 * 128 ^ k := ⟨_, rfl⟩
        obtain ⟨ac, hac⟩ : ∃ ac : Nat, ac = acc + sh := ⟨_, rfl⟩
        obtain ⟨d, hd⟩ : ∃ d : Nat, d = c.toNat % 128 := ⟨_, rfl⟩
        rw [← hsh, ← hac] at e34
        rw [← hd] at e29 e34
        have hw : IntKind.i64.wrap ((k : Int) + 1) = (k : Int) + 1 := IntWalk.i64_in _ (by omega)
        by_cases h128 : c.toNat < 128
        · have HE : Hid (q = (ac, k + 1)) := Lib.hid (by rw [← HQ.out]; unfold nbV; rw [HV.out, uvGo_last hst h128, hac, hsh, Nat.mod_eq_of_lt h128])
          clear HV HQ HA hst hsh hac hd
          have t9 : (k = 9 ∧ c.toNat ≤ 1) ∨ k ≠ 9 := by omega
          have t0 : (k = 0) ∨ (0 < k ∧ c.toNat ≠ 0) := by omega
          clear h9 h0
          generalize c.toNat = x at hcell hcl h128 e29 t9 t0
          have f9 : (((k : Int) == 9) = true ∧ (x : Int) ≤ 1) ∨ ((k : Int) == 9) = false := by
            rcases t9 with ⟨e, h⟩ | e
            · exact .inl ⟨by rw [beq_iff_eq]; omega, by omega⟩
            · exact .inr (by rw [beq_eq_false_iff_ne]; omega)
          have f0 : (k : Int) ≤ 0 ∨ (0 < (k : Int) ∧ ((x : Int) == 0) = false) := by
            rcases t0 with e | ⟨e, h⟩
            · exact .inl (by omega)
            · exact .inr ⟨by omega, by rw [beq_eq_false_iff_ne]; omega⟩
          clear t9 t0
          rcases f9 with ⟨f9, f1⟩ | f9 <;> rcases f0 with f0 | ⟨f0, f2⟩
          all_goals
            go_wp2
            go_ret2
            exact ⟨by rw [HE.out]; rfl, rfl⟩
        · have HN : Hid (ac < 128 ^ (k + 1) ∧ uvR l = uvGo (k + 1) ac (l.drop (k + 1))) := Lib.hid ⟨by
            rw [hac, hsh, Nat.pow_succ]
            have h1 := HA.out
            have h2 : c.toNat % 128 * 128 ^ k ≤ 127 * 128 ^ k := Nat.mul_le_mul_right _ (by omega)
            omega, by
            rw [HV.out, uvGo_next hst h128, hac, hsh]
            congr 2
            congr 1
            omega⟩
          have hk8 : k ≤ 8 := by
            rcases Nat.lt_or_ge k 9 with h1 | h1
            · omega
            · have := h9 (by omega); omega
          clear HV HQ HA hst hsh hac hd
          have t0 : (k = 0) ∨ (0 < k ∧ c.toNat ≠ 0) := by omega
          clear h9 h0
          generalize c.toNat = x at hcell hcl h128 e29 t0
          have f9 : ((k : Int) == 9) = false := by rw [beq_eq_false_iff_ne]; omega
          have f0 : (k : Int) ≤ 0 ∨ (0 < (k : Int) ∧ ((x : Int) == 0) = false) := by
            rcases t0 with e | ⟨e, h⟩
            · exact .inl (by omega)
            · exact .inr ⟨by omega, by rw [beq_eq_false_iff_ne]; omega⟩
          clear t0
          rcases f0 with f0 | ⟨f0, f2⟩
          all_goals
            go_wp2
            go_round
            case rel => exact ⟨k + 1, ac, by omega, by omega, by go_num, rfl, HN⟩
            case measure => simp [intOf]; omega
    · obtain rfl : k = n := by omega
      have HE : Hid (q = (0, 0)) := Lib.hid (by rw [← HQ.out]; unfold nbV; rw [HU.out.2, List.drop_eq_nil_of_le (by rw [HL.out]; exact Nat.le_refl _)]; rfl)
      clear HU HQ
      go_wp2
      go_ret2
      exact ⟨by rw [HE.out]; rfl, rfl⟩
end Go.Proofs.YtgjnmfmbheejoaaGreatDoor
