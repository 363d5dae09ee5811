/- Plain facts about the bytes of numbers and texts: how they are written and read back, as lists of bytes. No condition. -/
import Derived.Lib.Hide
namespace Go.Proofs.YtgeljnjcpkmlmaaGreatDoor

/-- The bytes of a number. -/
def uvB (n : Nat) : List UInt8 := if h : n < 128 then [n.toUInt8] else (n % 128 + 128).toUInt8 :: uvB (n / 128)
termination_by n
decreasing_by omega

theorem uvB_lt {n : Nat} (h : n < 128) : uvB n = [n.toUInt8] := by rw [uvB, dif_pos h]
theorem uvB_ge {n : Nat} (h : 128 ≤ n) : uvB n = (n % 128 + 128).toUInt8 :: uvB (n / 128) := by rw [uvB, dif_neg (by omega)]
theorem uvB_ne (n : Nat) : uvB n ≠ [] := by rw [uvB]; split <;> simp
theorem uvB_pos (n : Nat) : 0 < (uvB n).length := List.length_pos_iff.2 (uvB_ne n)
theorem u8_lt {n : Nat} (h : n < 256) : n.toUInt8.toNat = n := by simp [Nat.mod_eq_of_lt h]
theorem uvB_len (k : Nat) : ∀ n, n < 128 ^ (k + 1) → (uvB n).length ≤ k + 1 := by
  induction k with
  | zero => intro n h; rw [uvB_lt (by simpa using h)]; simp
  | succ k ih =>
    intro n h
    by_cases hn : n < 128
    · rw [uvB_lt hn]; simp
    · rw [uvB_ge (by omega)]
      have := ih (n / 128) (by rw [Nat.div_lt_iff_lt_mul (by decide), ← Nat.pow_succ]; exact h)
      simp only [List.length_cons]; omega
theorem uvB_len10 {n : Nat} (h : n < 2 ^ 64) : (uvB n).length ≤ 10 := uvB_len 9 n (by
  have : (128 : Nat) ^ (9 + 1) = 1180591620717411303424 := by decide
  omega)

/-- A number that is read: the index, what was read so far. -/
def uvGo (i n : Nat) : List UInt8 → Option (Nat × Nat)
  | [] => none
  | c :: l => if (i = 9 ∧ 1 < c.toNat) ∨ (0 < i ∧ c.toNat = 0) then none else if c.toNat < 128 then some (n + c.toNat * 128 ^ i, i + 1) else uvGo (i + 1) (n + (c.toNat - 128) * 128 ^ i) l
/-- A number at the beginning of bytes, and how many bytes it has. -/
def uvR (l : List UInt8) : Option (Nat × Nat) := uvGo 0 0 l

theorem uvGo_enc (l : List UInt8) : ∀ (m i n : Nat), (0 < i → 0 < m) → i ≤ 9 → m * 128 ^ i < 2 ^ 64 → uvGo i n (uvB m ++ l) = some (n + m * 128 ^ i, i + (uvB m).length) := by
  intro m
  induction m using Nat.strongRecOn with
  | ind m ih =>
    intro i n h0 hi hm
    have p9 : (128 : Nat) ^ 9 = 9223372036854775808 := by decide
    by_cases hlt : m < 128
    · rw [uvB_lt hlt]
      have hb : ¬ ((i = 9 ∧ 1 < m.toUInt8.toNat) ∨ (0 < i ∧ m.toUInt8.toNat = 0)) := by
        rw [u8_lt (by omega)]
        rintro (⟨rfl, h⟩ | ⟨h1, h2⟩)
        · rw [p9] at hm; omega
        · have := h0 h1; omega
      show uvGo i n (m.toUInt8 :: l) = _
      rw [uvGo, if_neg hb, u8_lt (by omega), if_pos hlt]
      rfl
    · rw [uvB_ge (by omega)]
      have hc : (m % 128 + 128).toUInt8.toNat = m % 128 + 128 := u8_lt (by omega)
      have hi9 : i ≠ 9 := by rintro rfl; rw [p9] at hm; omega
      have hb : ¬ ((i = 9 ∧ 1 < (m % 128 + 128).toUInt8.toNat) ∨ (0 < i ∧ (m % 128 + 128).toUInt8.toNat = 0)) := by
        rw [hc]; omega
      show uvGo i n ((m % 128 + 128).toUInt8 :: (uvB (m / 128) ++ l)) = _
      have hs : n + (m % 128 + 128 - 128) * 128 ^ i + m / 128 * 128 ^ (i + 1) = n + m * 128 ^ i := by
        rw [Nat.pow_succ, Nat.add_sub_cancel, Nat.add_assoc]
        congr 1
        have e : m / 128 * (128 ^ i * 128) = 128 * (m / 128) * 128 ^ i := by rw [Nat.mul_comm (128 ^ i), ← Nat.mul_assoc, Nat.mul_comm 128]
        rw [e, ← Nat.add_mul]
        congr 1
        omega
      have hd : m / 128 * 128 ^ (i + 1) ≤ m * 128 ^ i := by
        have e : m / 128 * 128 ^ (i + 1) = 128 * (m / 128) * 128 ^ i := by rw [Nat.pow_succ, Nat.mul_comm (128 ^ i), ← Nat.mul_assoc, Nat.mul_comm 128]
        rw [e]
        exact Nat.mul_le_mul_right _ (by omega)
      rw [uvGo, if_neg hb, hc, if_neg (by omega), ih (m / 128) (by omega) (i + 1) _ (fun _ => by omega) (by omega) (by omega), hs]
      simp only [List.length_cons, Option.some.injEq, Prod.mk.injEq, true_and]
      omega
theorem uvR_enc {n : Nat} (h : n < 2 ^ 64) (l : List UInt8) : uvR (uvB n ++ l) = some (n, (uvB n).length) := by
  unfold uvR
  rw [uvGo_enc l n 0 0 (fun h => absurd h (by decide)) (by omega) (by simpa using h)]
  simp

theorem uvGo_dec : ∀ (l : List UInt8) (i n v k : Nat), i ≤ 9 → uvGo i n l = some (v, k) → ∃ m, v = n + m * 128 ^ i ∧ (0 < i → 0 < m) ∧ m * 128 ^ i < 2 ^ 64 ∧ k = i + (uvB m).length ∧ l = uvB m ++ l.drop (uvB m).length := by
  intro l
  induction l with
  | nil => intro i n v k _ h; cases h
  | cons c l ih =>
    intro i n v k hi h
    rw [uvGo] at h
    have hcl := c.toNat_lt
    have p9 : (128 : Nat) ^ 9 = 9223372036854775808 := by decide
    have hpow : i < 9 → (128 : Nat) ^ i * 128 ≤ 128 ^ 9 := fun hlt => by rw [← Nat.pow_succ]; exact Nat.pow_le_pow_right (by decide) hlt
    split at h
    · cases h
    · rename_i hb
      split at h
      · rename_i hc
        obtain ⟨rfl, rfl⟩ : v = n + c.toNat * 128 ^ i ∧ k = i + 1 := by simpa [eq_comm] using h
        refine ⟨c.toNat, rfl, fun h0 => by omega, ?_, by rw [uvB_lt hc]; rfl, by rw [uvB_lt hc]; simp⟩
        by_cases h9 : i = 9
        · subst h9; rw [p9]; omega
        · have h1 := hpow (by omega)
          have h2 : c.toNat * 128 ^ i ≤ 127 * 128 ^ i := Nat.mul_le_mul_right _ (by omega)
          rw [p9] at h1; omega
      · rename_i hc
        have h9 : i ≠ 9 := by rintro rfl; exact hb (Or.inl ⟨rfl, by omega⟩)
        obtain ⟨m, rfl, hm0, hm, rfl, hl⟩ := ih (i + 1) _ v k (by omega) h
        have hm1 := hm0 (by omega)
        refine ⟨c.toNat - 128 + 128 * m, ?_, fun _ => by omega, ?_, ?_, ?_⟩
        · rw [Nat.pow_succ, Nat.add_mul, Nat.add_assoc, Nat.mul_comm (128 ^ i), ← Nat.mul_assoc, Nat.mul_comm m 128]
        · -- below 2^64: the high part is, and what is below it has 7 bits less
          rw [Nat.pow_succ, Nat.mul_comm (128 ^ i), ← Nat.mul_assoc, Nat.mul_comm m 128] at hm
          obtain ⟨j, hj⟩ : ∃ j, 64 = 7 * i + j := ⟨64 - 7 * i, by omega⟩
          have hp : (128 : Nat) ^ i = 2 ^ (7 * i) := by rw [Nat.pow_mul]
          have e : (2 : Nat) ^ 64 = 2 ^ j * 128 ^ i := by rw [hp, ← Nat.pow_add, hj, Nat.add_comm]
          have hj1 : 1 ≤ j := by omega
          have hpos : 0 < (128 : Nat) ^ i := Nat.pow_pos (by decide)
          rw [e] at hm ⊢
          have hlt := Nat.lt_of_mul_lt_mul_right hm
          refine Nat.mul_lt_mul_of_pos_right ?_ hpos
          have hj7 : 7 ≤ j ∨ j < 7 := by omega
          rcases hj7 with hj7 | hj7
          · obtain ⟨q, rfl⟩ : ∃ q, j = 7 + q := ⟨j - 7, by omega⟩
            rw [Nat.pow_add] at hlt ⊢
            have : 128 * m < 128 * 2 ^ q := by simpa using hlt
            have : m < 2 ^ q := Nat.lt_of_mul_lt_mul_left this
            have : (2 : Nat) ^ 7 = 128 := by decide
            omega
          · have : (2 : Nat) ^ j ≤ 2 ^ 6 := Nat.pow_le_pow_right (by decide) (by omega)
            omega
        · have e : uvB (c.toNat - 128 + 128 * m) = (((c.toNat - 128 + 128 * m) % 128) + 128).toUInt8 :: uvB ((c.toNat - 128 + 128 * m) / 128) := uvB_ge (by omega)
          have e2 : (c.toNat - 128 + 128 * m) / 128 = m := by omega
          rw [e, e2]; simp only [List.length_cons]; omega
        · have e : uvB (c.toNat - 128 + 128 * m) = (((c.toNat - 128 + 128 * m) % 128) + 128).toUInt8 :: uvB ((c.toNat - 128 + 128 * m) / 128) := uvB_ge (by omega)
          have e2 : (c.toNat - 128 + 128 * m) / 128 = m := by omega
          have e3 : (c.toNat - 128 + 128 * m) % 128 + 128 = c.toNat := by omega
          rw [e, e2, e3]
          simp only [List.cons_append, List.length_cons, List.drop_succ_cons]
          rw [← hl]
          congr 1
          simp
theorem uvR_dec {l : List UInt8} {v k : Nat} (h : uvR l = some (v, k)) : v < 2 ^ 64 ∧ k = (uvB v).length ∧ l = uvB v ++ l.drop k := by
  obtain ⟨m, h1, _, h3, h4, h5⟩ := uvGo_dec l 0 0 v k (by omega) h
  simp only [Nat.zero_add, Nat.pow_zero, Nat.mul_one] at h1 h3 h4
  subst h1; subst h4
  exact ⟨h3, rfl, h5⟩
theorem uvR_le {l : List UInt8} {v k : Nat} (h : uvR l = some (v, k)) : 0 < k ∧ k ≤ l.length := by
  obtain ⟨_, hk, hl⟩ := uvR_dec h
  refine ⟨by rw [hk]; exact uvB_pos v, ?_⟩
  have := congrArg List.length hl
  rw [List.length_append, List.length_drop] at this
  omega
theorem uvB_inj {a b : Nat} (ha : a < 2 ^ 64) (hb : b < 2 ^ 64) {x y : List UInt8} (h : uvB a ++ x = uvB b ++ y) : a = b ∧ x = y := by
  have h1 := uvR_enc ha x
  rw [h, uvR_enc hb] at h1
  simp only [Option.some.injEq, Prod.mk.injEq] at h1
  obtain ⟨rfl, _⟩ := h1
  exact ⟨rfl, List.append_cancel_left h⟩

/-- A number with its sign, as one without. -/
def zig (a : Int) : Nat := if a < 0 then (2 * (-a) - 1).toNat else (2 * a).toNat
def zag (u : Nat) : Int := if u % 2 = 1 then -((u / 2 : Nat) : Int) - 1 else ((u / 2 : Nat) : Int)
theorem zag_zig (a : Int) : zag (zig a) = a := by unfold zag zig; split <;> split <;> omega
theorem zig_zag (u : Nat) : zig (zag u) = u := by unfold zag zig; split <;> split <;> omega
theorem zig_lt {a : Int} (h1 : -9223372036854775808 ≤ a) (h2 : a ≤ 9223372036854775807) : zig a < 2 ^ 64 := by unfold zig; split <;> omega
theorem zag_i64 {u : Nat} (h : u < 2 ^ 64) : -9223372036854775808 ≤ zag u ∧ zag u ≤ 9223372036854775807 := by unfold zag; split <;> omega

/-- What a reader has left; none: it has failed. -/
abbrev WS := Option (List UInt8)
def wU : WS → Nat × WS
  | none => (0, none)
  | some l => match uvR l with
    | none => (0, none)
    | some (n, k) => (n, some (l.drop k))
def wI (s : WS) : Int × WS := (zag (wU s).1, (wU s).2)
def wT : WS → List UInt8 × WS
  | none => ([], none)
  | some l => match uvR l with
    | none => ([], none)
    | some (n, k) => if n ≤ 65536 ∧ n ≤ l.length - k then ((l.drop k).take n, some (l.drop (k + n))) else ([], none)
/-- The bytes of a text. -/
def txB (s : List UInt8) : List UInt8 := uvB s.length ++ s
def wEnd (s : WS) : Int := if s = some [] then 0 else 10

theorem wU_enc {n : Nat} (h : n < 2 ^ 64) (l : List UInt8) : wU (some (uvB n ++ l)) = (n, some l) := by
  unfold wU; simp only [uvR_enc h, List.drop_left]
theorem wI_enc {a : Int} (h1 : -9223372036854775808 ≤ a) (h2 : a ≤ 9223372036854775807) (l : List UInt8) : wI (some (uvB (zig a) ++ l)) = (a, some l) := by
  unfold wI; rw [wU_enc (zig_lt h1 h2), zag_zig]
theorem wT_enc {s : List UInt8} (h : s.length ≤ 65536) (l : List UInt8) : wT (some (txB s ++ l)) = (s, some l) := by
  unfold wT txB
  rw [List.append_assoc]
  simp only [uvR_enc (n := s.length) (by omega)]
  have : s.length ≤ (uvB s.length ++ (s ++ l)).length - (uvB s.length).length := by simp
  simp only [this, h, true_and, if_true]
  rw [List.drop_left, ← List.drop_drop, List.drop_left]
  simp
theorem wU_dec {s : WS} {l : List UInt8} (h : (wU s).2 = some l) : s = some (uvB (wU s).1 ++ l) ∧ (wU s).1 < 2 ^ 64 := by
  unfold wU at h ⊢
  cases s with
  | none => cases h
  | some x =>
    simp only at h ⊢
    cases hx : uvR x with
    | none => rw [hx] at h; cases h
    | some p =>
      obtain ⟨n, k⟩ := p
      rw [hx] at h
      simp only [Option.some.injEq] at h
      obtain ⟨h1, h2, h3⟩ := uvR_dec hx
      exact ⟨by rw [← h]; exact congrArg some h3, h1⟩
theorem wI_dec {s : WS} {l : List UInt8} (h : (wI s).2 = some l) : s = some (uvB (zig (wI s).1) ++ l) ∧ -9223372036854775808 ≤ (wI s).1 ∧ (wI s).1 ≤ 9223372036854775807 := by
  obtain ⟨h1, h2⟩ := wU_dec (s := s) h
  unfold wI
  exact ⟨by rw [zig_zag]; exact h1, zag_i64 h2⟩
theorem wT_dec {s : WS} {l : List UInt8} (h : (wT s).2 = some l) : s = some (txB (wT s).1 ++ l) ∧ (wT s).1.length ≤ 65536 := by
  unfold wT at h ⊢
  cases s with
  | none => cases h
  | some x =>
    simp only at h ⊢
    cases hx : uvR x with
    | none => rw [hx] at h; cases h
    | some p =>
      obtain ⟨n, k⟩ := p
      rw [hx] at h
      obtain ⟨h1, h2, h3⟩ := uvR_dec hx
      have hle := uvR_le hx
      by_cases hn : n ≤ 65536 ∧ n ≤ x.length - k
      · simp only [hn, and_self, if_true, Option.some.injEq] at h ⊢
        have hlen : ((x.drop k).take n).length = n := by rw [List.length_take, List.length_drop]; omega
        refine ⟨?_, by rw [hlen]; exact hn.1⟩
        unfold txB
        rw [hlen, ← h, List.append_assoc, ← List.drop_drop, List.take_append_drop]
        exact h3
      · simp only [hn, if_false] at h
        cases h
theorem wU_none : wU none = (0, none) := rfl
theorem wI_none : wI none = (0, none) := by unfold wI; rw [wU_none]; rfl
theorem wT_none : wT none = ([], none) := rfl
theorem wU_lt (s : WS) : (wU s).1 < 2 ^ 64 := by
  unfold wU
  cases s with
  | none => exact Nat.pow_pos (by decide)
  | some x =>
    simp only
    cases hx : uvR x with
    | none => exact Nat.pow_pos (by decide)
    | some p => exact (uvR_dec hx).1
theorem wEnd_ok {s : WS} : wEnd s = 0 ↔ s = some [] := by unfold wEnd; split <;> simp_all
end Go.Proofs.YtgeljnjcpkmlmaaGreatDoor
