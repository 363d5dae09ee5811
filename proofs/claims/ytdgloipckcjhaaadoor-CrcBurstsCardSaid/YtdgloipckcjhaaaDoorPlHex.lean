/- Plain facts on hexadecimal digits. No condition. -/
namespace Go.Proofs.YtdgloipckcjhaaaDoor.Hx
/-- The byte of a hexadecimal digit. -/
def dig (d : Nat) : UInt8 := if d < 10 then UInt8.ofNat (48 + d) else UInt8.ofNat (87 + d)
/-- The digit of a byte; none of others. -/
def val (c : UInt8) : Nat := if 97 ≤ c.toNat then c.toNat - 87 else c.toNat - 48
def isHex (c : UInt8) : Bool := (48 ≤ c && c ≤ 57) || (97 ≤ c && c ≤ 102)
/-- So many digits of a number. -/
def hexK : Nat → Nat → List UInt8
  | 0, _ => []
  | k + 1, n => hexK k (n / 16) ++ [dig (n % 16)]
/-- The digits of a number without leading zeros. -/
def fmt (n : Nat) : List UInt8 := if n < 16 then [dig n] else fmt (n / 16) ++ [dig (n % 16)]
termination_by n
/-- What digits say. -/
def unhex (l : List UInt8) : Nat := l.foldl (fun a c => a * 16 + val c) 0

theorem hexK_length (k n : Nat) : (hexK k n).length = k := by
  induction k generalizing n with
  | zero => rfl
  | succ k ih => simp [hexK, ih]
theorem fmt_small {n : Nat} (h : n < 16) : fmt n = [dig n] := by rw [fmt, if_pos h]
theorem fmt_big {n : Nat} (h : ¬ n < 16) : fmt n = fmt (n / 16) ++ [dig (n % 16)] := by rw [fmt, if_neg h]
theorem hexK_zero (k : Nat) : hexK k 0 = List.replicate k 48 := by
  induction k with
  | zero => rfl
  | succ k ih =>
    rw [hexK, Nat.zero_div, ih, List.replicate_succ']
    rfl
theorem fmt_pad (k : Nat) : ∀ n, n < 16 ^ (k + 1) → (fmt n).length ≤ k + 1 ∧ List.replicate (k + 1 - (fmt n).length) 48 ++ fmt n = hexK (k + 1) n := by
  induction k with
  | zero =>
    intro n h
    have h' : n < 16 := by simpa using h
    rw [fmt_small h']
    refine ⟨by simp, ?_⟩
    show [] ++ [dig n] = hexK 0 _ ++ [dig (n % 16)]
    rw [Nat.mod_eq_of_lt h']
    rfl
  | succ k ih =>
    intro n h
    by_cases hn : n < 16
    · rw [fmt_small hn]
      refine ⟨by simp, ?_⟩
      show List.replicate (k + 1) 48 ++ [dig n] = hexK (k + 1) (n / 16) ++ [dig (n % 16)]
      rw [Nat.mod_eq_of_lt hn, Nat.div_eq_of_lt hn, hexK_zero]
    · have h2 : n / 16 < 16 ^ (k + 1) := by
        rw [Nat.div_lt_iff_lt_mul (by decide), ← Nat.pow_succ]; exact h
      obtain ⟨h3, h4⟩ := ih _ h2
      rw [fmt_big hn]
      refine ⟨by simp; omega, ?_⟩
      have e : k + 1 + 1 - ((fmt (n / 16)).length + 1) = k + 1 - (fmt (n / 16)).length := by omega
      rw [List.length_append, List.length_singleton, e, ← List.append_assoc, h4]
      rfl
theorem val_dig : ∀ d, d < 16 → val (dig d) = d := by decide
theorem dig_val (c : UInt8) (h : isHex c = true) : dig (val c) = c ∧ val c < 16 := by
  unfold isHex at h
  simp only [Bool.or_eq_true, Bool.and_eq_true, decide_eq_true_eq, UInt8.le_iff_toNat_le] at h
  have h' : 48 ≤ c.toNat ∧ c.toNat ≤ 57 ∨ 97 ≤ c.toNat ∧ c.toNat ≤ 102 := h
  have e : c = UInt8.ofNat c.toNat := by simp
  generalize c.toNat = n at h' e
  subst e
  rcases h' with ⟨h1, h2⟩ | ⟨h1, h2⟩
  · have : n = 48 ∨ n = 49 ∨ n = 50 ∨ n = 51 ∨ n = 52 ∨ n = 53 ∨ n = 54 ∨ n = 55 ∨ n = 56 ∨ n = 57 := by omega
    rcases this with rfl | rfl | rfl | rfl | rfl | rfl | rfl | rfl | rfl | rfl <;> decide
  · have : n = 97 ∨ n = 98 ∨ n = 99 ∨ n = 100 ∨ n = 101 ∨ n = 102 := by omega
    rcases this with rfl | rfl | rfl | rfl | rfl | rfl <;> decide
theorem isHex_dig : ∀ d, d < 16 → isHex (dig d) = true := by decide
theorem unhex_snoc (l : List UInt8) (c : UInt8) : unhex (l ++ [c]) = unhex l * 16 + val c := by
  unfold unhex; rw [List.foldl_append]; rfl
theorem unhex_hexK (k : Nat) : ∀ n, n < 16 ^ k → unhex (hexK k n) = n := by
  induction k with
  | zero => intro n h; have : n = 0 := by simpa using h
            subst this; rfl
  | succ k ih =>
    intro n h
    rw [hexK, unhex_snoc, ih _ (by rw [Nat.div_lt_iff_lt_mul (by decide), ← Nat.pow_succ]; exact h), val_dig _ (Nat.mod_lt _ (by decide))]
    omega
theorem hex_snoc {P : List UInt8 → Prop} (h0 : P []) (h1 : ∀ l c, P l → P (l ++ [c])) (l : List UInt8) : P l := by
  have : ∀ m : List UInt8, P m.reverse := by
    intro m
    induction m with
    | nil => exact h0
    | cons c t ih => rw [List.reverse_cons]; exact h1 _ _ ih
  have h := this l.reverse
  rwa [List.reverse_reverse] at h
theorem hexK_unhex (l : List UInt8) : l.all isHex = true → hexK l.length (unhex l) = l ∧ unhex l < 16 ^ l.length := by
  refine hex_snoc (P := fun l => l.all isHex = true → hexK l.length (unhex l) = l ∧ unhex l < 16 ^ l.length) ?_ ?_ l
  · intro _; exact ⟨rfl, by decide⟩
  · intro l c ih h
    have hl : l.all isHex = true := by simp at h ⊢; exact h.1
    have hc : isHex c = true := by simp at h; exact h.2
    obtain ⟨h1, h2⟩ := ih hl
    obtain ⟨h3, h4⟩ := dig_val c hc
    rw [unhex_snoc, List.length_append, List.length_singleton]
    refine ⟨?_, by rw [Nat.pow_succ]; omega⟩
    rw [hexK, show (unhex l * 16 + val c) / 16 = unhex l by omega, show (unhex l * 16 + val c) % 16 = val c by omega, h1, h3]
theorem hexK_all (k n : Nat) : (hexK k n).all isHex = true := by
  induction k generalizing n with
  | zero => rfl
  | succ k ih =>
    rw [hexK, List.all_append, ih]
    simp [isHex_dig _ (Nat.mod_lt n (by decide : 16 > 0))]
theorem fmt_of (t : Nat) : ∀ u, u / 16 ^ t < 16 → (∀ s, s < t → 16 ≤ u / 16 ^ s) → fmt u = hexK (t + 1) u := by
  induction t with
  | zero =>
    intro u h _
    have h' : u < 16 := by simpa using h
    rw [fmt_small h']
    show _ = hexK 0 _ ++ [dig (u % 16)]
    rw [Nat.mod_eq_of_lt h']
    rfl
  | succ t ih =>
    intro u h hs
    have h0 := hs 0 (by omega)
    rw [Nat.pow_zero, Nat.div_one] at h0
    rw [fmt_big (by omega), ih (u / 16) (by rw [Nat.div_div_eq_div_mul, ← Nat.pow_succ']; exact h) (fun s hst => by rw [Nat.div_div_eq_div_mul, ← Nat.pow_succ']; exact hs (s + 1) (by omega))]
    rfl
theorem hexK_at (k : Nat) : ∀ (u j : Nat), j < k → (hexK k u)[j]? = some (dig (u / 16 ^ (k - 1 - j) % 16)) := by
  induction k with
  | zero => intro u j h; omega
  | succ k ih =>
    intro u j h
    rw [hexK]
    by_cases hj : j < k
    · rw [List.getElem?_append_left (by rw [hexK_length]; exact hj), ih _ _ hj, Nat.div_div_eq_div_mul, ← Nat.pow_succ', show k + 1 - 1 - j = k - 1 - j + 1 by omega]
    · obtain rfl : j = k := by omega
      rw [List.getElem?_append_right (by rw [hexK_length]; omega), hexK_length]
      simp
theorem hexK_cons (k : Nat) : ∀ u, hexK (k + 1) u = dig (u / 16 ^ k % 16) :: hexK k u := by
  induction k with
  | zero => intro u; simp [hexK]
  | succ k ih =>
    intro u
    show hexK (k + 1) (u / 16) ++ [dig (u % 16)] = _
    rw [ih, Nat.div_div_eq_div_mul, ← Nat.pow_succ']
    rfl
end Go.Proofs.YtdgloipckcjhaaaDoor.Hx
