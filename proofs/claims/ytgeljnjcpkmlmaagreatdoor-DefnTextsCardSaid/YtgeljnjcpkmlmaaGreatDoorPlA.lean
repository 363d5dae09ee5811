/- Merged by program: PlWire, PlName, PlOrd, PlDefn, PlIdent, PlText, PlParse, PlDefT, PlDefS, PlWireR. -/
import Derived.Lib.Hide
import Derived.Lib.SlTrimSet
import Derived.Shelf.GgClosure.StringsIndexFunc
import Derived.Laws.RangeString
import Derived.Laws.Strings
import Derived.Laws.Cover1
import Derived.Lib.ItoaNum
import Derived.Lib.Strings
import Derived.Lib.Bytealg
import Derived.Lib.Atoi
import Derived.Lib.Split
import Derived.Lib.IndexBytes
import Derived.Lib.ParseIntB
namespace Go.Proofs.YtgeljnjcpkmlmaaGreatDoor
section

/-- The bytes of a number. -/
def uvB (n : Nat) : List UInt8 := if h : n < 128 then [n.toUInt8] else (n % 128 + 128).toUInt8 :: uvB (n / 128)
termination_by n
decreasing_by omega

theorem uvB_lt {n : Nat} (h : n < 128) : uvB n = [n.toUInt8] := by rw [uvB, dif_pos h]
theorem uvB_ge {n : Nat} (h : 128 ≤ n) : uvB n = (n % 128 + 128).toUInt8 :: uvB (n / 128) := by rw [uvB, dif_neg (by omega)]
theorem uvB_ne (n : Nat) : uvB n ≠ [] := by rw [uvB]; split <;> simp
theorem uvB_pos (n : Nat) : 0 < (uvB n).length := List.length_pos_iff.2 (uvB_ne n)
theorem u8_lt {n : Nat} (h : n < 256) : n.toUInt8.toNat = n := by simp [Nat.mod_eq_of_lt h]
theorem uvB_len (k : Nat) : ∀ n, n < 128 ^ (k + 1) → (uvB n).length ≤ k + 1 := by
  induction k with
  | zero => intro n h; rw [uvB_lt (by simpa using h)]; simp
  | succ k ih =>
    intro n h
    by_cases hn : n < 128
    · rw [uvB_lt hn]; simp
    · rw [uvB_ge (by omega)]
      have := ih (n / 128) (by rw [Nat.div_lt_iff_lt_mul (by decide), ← Nat.pow_succ]; exact h)
      simp only [List.length_cons]; omega
theorem uvB_len10 {n : Nat} (h : n < 2 ^ 64) : (uvB n).length ≤ 10 := uvB_len 9 n (by
  have : (128 : Nat) ^ (9 + 1) = 1180591620717411303424 := by decide
  omega)

/-- A number that is read: the index, what was read so far. -/
def uvGo (i n : Nat) : List UInt8 → Option (Nat × Nat)
  | [] => none
  | c :: l => if (i = 9 ∧ 1 < c.toNat) ∨ (0 < i ∧ c.toNat = 0) then none else if c.toNat < 128 then some (n + c.toNat * 128 ^ i, i + 1) else uvGo (i + 1) (n + (c.toNat - 128) * 128 ^ i) l
/-- A number at the beginning of bytes, and how many bytes it has. -/
def uvR (l : List UInt8) : Option (Nat × Nat) := uvGo 0 0 l

theorem uvGo_enc (l : List UInt8) : ∀ (m i n : Nat), (0 < i → 0 < m) → i ≤ 9 → m * 128 ^ i < 2 ^ 64 → uvGo i n (uvB m ++ l) = some (n + m * 128 ^ i, i + (uvB m).length) := by
  intro m
  induction m using Nat.strongRecOn with
  | ind m ih =>
    intro i n h0 hi hm
    have p9 : (128 : Nat) ^ 9 = 9223372036854775808 := by decide
    by_cases hlt : m < 128
    · rw [uvB_lt hlt]
      have hb : ¬ ((i = 9 ∧ 1 < m.toUInt8.toNat) ∨ (0 < i ∧ m.toUInt8.toNat = 0)) := by
        rw [u8_lt (by omega)]
        rintro (⟨rfl, h⟩ | ⟨h1, h2⟩)
        · rw [p9] at hm; omega
        · have := h0 h1; omega
      show uvGo i n (m.toUInt8 :: l) = _
      rw [uvGo, if_neg hb, u8_lt (by omega), if_pos hlt]
      rfl
    · rw [uvB_ge (by omega)]
      have hc : (m % 128 + 128).toUInt8.toNat = m % 128 + 128 := u8_lt (by omega)
      have hi9 : i ≠ 9 := by rintro rfl; rw [p9] at hm; omega
      have hb : ¬ ((i = 9 ∧ 1 < (m % 128 + 128).toUInt8.toNat) ∨ (0 < i ∧ (m % 128 + 128).toUInt8.toNat = 0)) := by
        rw [hc]; omega
      show uvGo i n ((m % 128 + 128).toUInt8 :: (uvB (m / 128) ++ l)) = _
      have hs : n + (m % 128 + 128 - 128) * 128 ^ i + m / 128 * 128 ^ (i + 1) = n + m * 128 ^ i := by
        rw [Nat.pow_succ, Nat.add_sub_cancel, Nat.add_assoc]
        congr 1
        have e : m / 128 * (128 ^ i * 128) = 128 * (m / 128) * 128 ^ i := by rw [Nat.mul_comm (128 ^ i), ← Nat.mul_assoc, Nat.mul_comm 128]
        rw [e, ← Nat.add_mul]
        congr 1
        omega
      have hd : m / 128 * 128 ^ (i + 1) ≤ m * 128 ^ i := by
        have e : m / 128 * 128 ^ (i + 1) = 128 * (m / 128) * 128 ^ i := by rw [Nat.pow_succ, Nat.mul_comm (128 ^ i), ← Nat.mul_assoc, Nat.mul_comm 128]
        rw [e]
        exact Nat.mul_le_mul_right _ (by omega)
      rw [uvGo, if_neg hb, hc, if_neg (by omega), ih (m / 128) (by omega) (i + 1) _ (fun _ => by omega) (by omega) (by omega), hs]
      simp only [List.length_cons, Option.some.injEq, Prod.mk.injEq, true_and]
      omega
theorem uvR_enc {n : Nat} (h : n < 2 ^ 64) (l : List UInt8) : uvR (uvB n ++ l) = some (n, (uvB n).length) := by
  unfold uvR
  rw [uvGo_enc l n 0 0 (fun h => absurd h (by decide)) (by omega) (by simpa using h)]
  simp

theorem uvGo_dec : ∀ (l : List UInt8) (i n v k : Nat), i ≤ 9 → uvGo i n l = some (v, k) → ∃ m, v = n + m * 128 ^ i ∧ (0 < i → 0 < m) ∧ m * 128 ^ i < 2 ^ 64 ∧ k = i + (uvB m).length ∧ l = uvB m ++ l.drop (uvB m).length := by
  intro l
  induction l with
  | nil => intro i n v k _ h; cases h
  | cons c l ih =>
    intro i n v k hi h
    rw [uvGo] at h
    have hcl := c.toNat_lt
    have p9 : (128 : Nat) ^ 9 = 9223372036854775808 := by decide
    have hpow : i < 9 → (128 : Nat) ^ i * 128 ≤ 128 ^ 9 := fun hlt => by rw [← Nat.pow_succ]; exact Nat.pow_le_pow_right (by decide) hlt
    split at h
    · cases h
    · rename_i hb
      split at h
      · rename_i hc
        obtain ⟨rfl, rfl⟩ : v = n + c.toNat * 128 ^ i ∧ k = i + 1 := by simpa [eq_comm] using h
        refine ⟨c.toNat, rfl, fun h0 => by omega, ?_, by rw [uvB_lt hc]; rfl, by rw [uvB_lt hc]; simp⟩
        by_cases h9 : i = 9
        · subst h9; rw [p9]; omega
        · have h1 := hpow (by omega)
          have h2 : c.toNat * 128 ^ i ≤ 127 * 128 ^ i := Nat.mul_le_mul_right _ (by omega)
          rw [p9] at h1; omega
      · rename_i hc
        have h9 : i ≠ 9 := by rintro rfl; exact hb (Or.inl ⟨rfl, by omega⟩)
        obtain ⟨m, rfl, hm0, hm, rfl, hl⟩ := ih (i + 1) _ v k (by omega) h
        have hm1 := hm0 (by omega)
        refine ⟨c.toNat - 128 + 128 * m, ?_, fun _ => by omega, ?_, ?_, ?_⟩
        · rw [Nat.pow_succ, Nat.add_mul, Nat.add_assoc, Nat.mul_comm (128 ^ i), ← Nat.mul_assoc, Nat.mul_comm m 128]
        · -- below 2^64: the high part is, and what is below it has 7 bits less
          rw [Nat.pow_succ, Nat.mul_comm (128 ^ i), ← Nat.mul_assoc, Nat.mul_comm m 128] at hm
          obtain ⟨j, hj⟩ : ∃ j, 64 = 7 * i + j := ⟨64 - 7 * i, by omega⟩
          have hp : (128 : Nat) ^ i = 2 ^ (7 * i) := by rw [Nat.pow_mul]
          have e : (2 : Nat) ^ 64 = 2 ^ j * 128 ^ i := by rw [hp, ← Nat.pow_add, hj, Nat.add_comm]
          have hj1 : 1 ≤ j := by omega
          have hpos : 0 < (128 : Nat) ^ i := Nat.pow_pos (by decide)
          rw [e] at hm ⊢
          have hlt := Nat.lt_of_mul_lt_mul_right hm
          refine Nat.mul_lt_mul_of_pos_right ?_ hpos
          have hj7 : 7 ≤ j ∨ j < 7 := by omega
          rcases hj7 with hj7 | hj7
          · obtain ⟨q, rfl⟩ : ∃ q, j = 7 + q := ⟨j - 7, by omega⟩
            rw [Nat.pow_add] at hlt ⊢
            have : 128 * m < 128 * 2 ^ q := by simpa using hlt
            have : m < 2 ^ q := Nat.lt_of_mul_lt_mul_left this
            have : (2 : Nat) ^ 7 = 128 := by decide
            omega
          · have : (2 : Nat) ^ j ≤ 2 ^ 6 := Nat.pow_le_pow_right (by decide) (by omega)
            omega
        · have e : uvB (c.toNat - 128 + 128 * m) = (((c.toNat - 128 + 128 * m) % 128) + 128).toUInt8 :: uvB ((c.toNat - 128 + 128 * m) / 128) := uvB_ge (by omega)
          have e2 : (c.toNat - 128 + 128 * m) / 128 = m := by omega
          rw [e, e2]; simp only [List.length_cons]; omega
        · have e : uvB (c.toNat - 128 + 128 * m) = (((c.toNat - 128 + 128 * m) % 128) + 128).toUInt8 :: uvB ((c.toNat - 128 + 128 * m) / 128) := uvB_ge (by omega)
          have e2 : (c.toNat - 128 + 128 * m) / 128 = m := by omega
          have e3 : (c.toNat - 128 + 128 * m) % 128 + 128 = c.toNat := by omega
          rw [e, e2, e3]
          simp only [List.cons_append, List.length_cons, List.drop_succ_cons]
          rw [← hl]
          congr 1
          simp
theorem uvR_dec {l : List UInt8} {v k : Nat} (h : uvR l = some (v, k)) : v < 2 ^ 64 ∧ k = (uvB v).length ∧ l = uvB v ++ l.drop k := by
  obtain ⟨m, h1, _, h3, h4, h5⟩ := uvGo_dec l 0 0 v k (by omega) h
  simp only [Nat.zero_add, Nat.pow_zero, Nat.mul_one] at h1 h3 h4
  subst h1; subst h4
  exact ⟨h3, rfl, h5⟩
theorem uvR_le {l : List UInt8} {v k : Nat} (h : uvR l = some (v, k)) : 0 < k ∧ k ≤ l.length := by
  obtain ⟨_, hk, hl⟩ := uvR_dec h
  refine ⟨by rw [hk]; exact uvB_pos v, ?_⟩
  have := congrArg List.length hl
  rw [List.length_append, List.length_drop] at this
  omega
theorem uvB_inj {a b : Nat} (ha : a < 2 ^ 64) (hb : b < 2 ^ 64) {x y : List UInt8} (h : uvB a ++ x = uvB b ++ y) : a = b ∧ x = y := by
  have h1 := uvR_enc ha x
  rw [h, uvR_enc hb] at h1
  simp only [Option.some.injEq, Prod.mk.injEq] at h1
  obtain ⟨rfl, _⟩ := h1
  exact ⟨rfl, List.append_cancel_left h⟩

/-- A number with its sign, as one without. -/
def zig (a : Int) : Nat := if a < 0 then (2 * (-a) - 1).toNat else (2 * a).toNat
def zag (u : Nat) : Int := if u % 2 = 1 then -((u / 2 : Nat) : Int) - 1 else ((u / 2 : Nat) : Int)
theorem zag_zig (a : Int) : zag (zig a) = a := by unfold zag zig; split <;> split <;> omega
theorem zig_zag (u : Nat) : zig (zag u) = u := by unfold zag zig; split <;> split <;> omega
theorem zig_lt {a : Int} (h1 : -9223372036854775808 ≤ a) (h2 : a ≤ 9223372036854775807) : zig a < 2 ^ 64 := by unfold zig; split <;> omega
theorem zag_i64 {u : Nat} (h : u < 2 ^ 64) : -9223372036854775808 ≤ zag u ∧ zag u ≤ 9223372036854775807 := by unfold zag; split <;> omega

/-- What a reader has left; none: it has failed. -/
abbrev WS := Option (List UInt8)
def wU : WS → Nat × WS
  | none => (0, none)
  | some l => match uvR l with
    | none => (0, none)
    | some (n, k) => (n, some (l.drop k))
def wI (s : WS) : Int × WS := (zag (wU s).1, (wU s).2)
def wT : WS → List UInt8 × WS
  | none => ([], none)
  | some l => match uvR l with
    | none => ([], none)
    | some (n, k) => if n ≤ 65536 ∧ n ≤ l.length - k then ((l.drop k).take n, some (l.drop (k + n))) else ([], none)
/-- The bytes of a text. -/
def txB (s : List UInt8) : List UInt8 := uvB s.length ++ s
def wEnd (s : WS) : Int := if s = some [] then 0 else 10

theorem wU_enc {n : Nat} (h : n < 2 ^ 64) (l : List UInt8) : wU (some (uvB n ++ l)) = (n, some l) := by
  unfold wU; simp only [uvR_enc h, List.drop_left]
theorem wI_enc {a : Int} (h1 : -9223372036854775808 ≤ a) (h2 : a ≤ 9223372036854775807) (l : List UInt8) : wI (some (uvB (zig a) ++ l)) = (a, some l) := by
  unfold wI; rw [wU_enc (zig_lt h1 h2), zag_zig]
theorem wT_enc {s : List UInt8} (h : s.length ≤ 65536) (l : List UInt8) : wT (some (txB s ++ l)) = (s, some l) := by
  unfold wT txB
  rw [List.append_assoc]
  simp only [uvR_enc (n := s.length) (by omega)]
  have : s.length ≤ (uvB s.length ++ (s ++ l)).length - (uvB s.length).length := by simp
  simp only [this, h, true_and, if_true]
  rw [List.drop_left, ← List.drop_drop, List.drop_left]
  simp
theorem wU_dec {s : WS} {l : List UInt8} (h : (wU s).2 = some l) : s = some (uvB (wU s).1 ++ l) ∧ (wU s).1 < 2 ^ 64 := by
  unfold wU at h ⊢
  cases s with
  | none => cases h
  | some x =>
    simp only at h ⊢
    cases hx : uvR x with
    | none => rw [hx] at h; cases h
    | some p =>
      obtain ⟨n, k⟩ := p
      rw [hx] at h
      simp only [Option.some.injEq] at h
      obtain ⟨h1, h2, h3⟩ := uvR_dec hx
      exact ⟨by rw [← h]; exact congrArg some h3, h1⟩
theorem wI_dec {s : WS} {l : List UInt8} (h : (wI s).2 = some l) : s = some (uvB (zig (wI s).1) ++ l) ∧ -9223372036854775808 ≤ (wI s).1 ∧ (wI s).1 ≤ 9223372036854775807 := by
  obtain ⟨h1, h2⟩ := wU_dec (s := s) h
  unfold wI
  exact ⟨by rw [zig_zag]; exact h1, zag_i64 h2⟩
theorem wT_dec {s : WS} {l : List UInt8} (h : (wT s).2 = some l) : s = some (txB (wT s).1 ++ l) ∧ (wT s).1.length ≤ 65536 := by
  unfold wT at h ⊢
  cases s with
  | none => cases h
  | some x =>
    simp only at h ⊢
    cases hx : uvR x with
    | none => rw [hx] at h; cases h
    | some p =>
      obtain ⟨n, k⟩ := p
      rw [hx] at h
      obtain ⟨h1, h2, h3⟩ := uvR_dec hx
      have hle := uvR_le hx
      by_cases hn : n ≤ 65536 ∧ n ≤ x.length - k
      · simp only [hn, and_self, if_true, Option.some.injEq] at h ⊢
        have hlen : ((x.drop k).take n).length = n := by rw [List.length_take, List.length_drop]; omega
        refine ⟨?_, by rw [hlen]; exact hn.1⟩
        unfold txB
        rw [hlen, ← h, List.append_assoc, ← List.drop_drop, List.take_append_drop]
        exact h3
      · simp only [hn, if_false] at h
        cases h
theorem wU_none : wU none = (0, none) := rfl
theorem wI_none : wI none = (0, none) := by unfold wI; rw [wU_none]; rfl
theorem wT_none : wT none = ([], none) := rfl
theorem wU_lt (s : WS) : (wU s).1 < 2 ^ 64 := by
  unfold wU
  cases s with
  | none => exact Nat.pow_pos (by decide)
  | some x =>
    simp only
    cases hx : uvR x with
    | none => exact Nat.pow_pos (by decide)
    | some p => exact (uvR_dec hx).1
theorem wEnd_ok {s : WS} : wEnd s = 0 ↔ s = some [] := by unfold wEnd; split <;> simp_all
end
section

/-- A byte of a name. -/
def nmB (c : UInt8) : Bool := (decide (97 ≤ c.toNat) && decide (c.toNat ≤ 122)) || (decide (48 ≤ c.toNat) && decide (c.toNat ≤ 57))
/-- A name. -/
def isName (l : List UInt8) : Bool := decide (1 ≤ l.length) && (decide (l.length ≤ 16) && l.all nmB)

def alnum : List UInt8 := [97, 98, 99, 100, 101, 102, 103, 104, 105, 106, 107, 108, 109, 110, 111, 112, 113, 114, 115, 116, 117, 118, 119, 120, 121, 122, 48, 49, 50, 51, 52, 53, 54, 55, 56, 57]

theorem u8_all (p : UInt8 → Bool) (h : (List.range 256).all (fun n => p n.toUInt8) = true) (c : UInt8) : p c = true := by
  have h1 := (List.all_eq_true.1 h) c.toNat (by simp [List.mem_range]; exact c.toNat_lt)
  simpa using h1

theorem alnum_contains (c : UInt8) : alnum.contains c = nmB c := by
  have h := u8_all (fun c => alnum.contains c == nmB c) (by decide +kernel) c
  simpa using h

theorem dropWhile_nil {α : Type} (p : α → Bool) : ∀ l : List α, (l.dropWhile p).isEmpty = l.all p
  | [] => rfl
  | a :: l => by
    by_cases h : p a = true
    · simp [List.dropWhile, h, dropWhile_nil p l]
    · simp [List.dropWhile, h]

theorem dropWhile_all {α : Type} (p : α → Bool) (l : List α) : (l.dropWhile p).all p = l.all p := by
  induction l with
  | nil => rfl
  | cons a l ih =>
    by_cases h : p a = true
    · simp [List.dropWhile, h, ih]
    · simp [List.dropWhile, h]

theorem trimS_empty (l cs : List UInt8) : (Lib.trimS l cs).isEmpty = l.all (cs.contains ·) := by
  unfold Lib.trimS Lib.trimLeftS
  rw [dropWhile_nil]
  unfold Lib.trimRightS
  rw [List.all_reverse, dropWhile_all, List.all_reverse]

theorem trim_alnum (l : List UInt8) : (Lib.trimS l alnum).isEmpty = l.all nmB := by
  rw [trimS_empty]
  congr 1
  funext c
  exact alnum_contains c

theorem nmB_le {c : UInt8} (h : nmB c = true) : c.toNat ≤ 122 := by
  unfold nmB at h
  simp at h
  omega

theorem isName_yes {l : List UInt8} {n : Nat} (hl : l.length = n) (h1 : 1 ≤ n) (h2 : n ≤ 16) (h3 : l.all nmB = true) : isName l = true := by
  unfold isName; rw [hl, h3, decide_eq_true h1, decide_eq_true h2]; rfl
theorem isName_no {l : List UInt8} {n : Nat} (hl : l.length = n) (h : ¬ (1 ≤ n ∧ n ≤ 16 ∧ l.all nmB = true)) : isName l = false := by
  unfold isName; rw [hl]
  by_cases h1 : 1 ≤ n
  · by_cases h2 : n ≤ 16
    · have h3 : l.all nmB = false := by
        cases e : l.all nmB
        · rfl
        · exact absurd ⟨h1, h2, e⟩ h
      rw [h3]; simp
    · rw [decide_eq_false h2]; simp
  · rw [decide_eq_false h1]; simp

/-- In a name no rune is above 'z'. -/
theorem idx_name (s : ByteArray) (h : s.data.toList.all nmB = true) : ∀ f pos, Lib.idxFuncFrom (fun r => decide (122 < r)) true s f pos = -1
  | 0, _ => rfl
  | f + 1, pos => by
    unfold Lib.idxFuncFrom
    by_cases hp : pos < s.size
    · have hb : (s[pos]'hp).toNat ≤ 122 := nmB_le (List.all_eq_true.1 h _ (by
        have : s[pos]'hp = s.data.toList[pos]'(by simpa using hp) := by rfl
        rw [this]; exact List.getElem_mem _))
      rw [if_pos hp, decode_ascii s pos hp (by omega)]
      rw [if_neg (by simp; omega)]
      exact idx_name s h f _
    · rw [if_neg hp]
end
section

theorem bl_irr : ∀ x : List UInt8, Op.bytesLess x x = false
  | [] => rfl
  | a :: x => by
    unfold Op.bytesLess
    rw [bl_irr x]
    simp
theorem bl_nil (x : List UInt8) : Op.bytesLess x [] = false := by cases x <;> rfl
theorem u8_tri (a b : UInt8) : a < b ∨ a = b ∨ b < a := by
  rcases Nat.lt_trichotomy a.toNat b.toNat with h | h | h
  · exact Or.inl h
  · exact Or.inr (Or.inl (UInt8.toNat_inj.1 h))
  · exact Or.inr (Or.inr h)
theorem bl_trans : ∀ {x y z : List UInt8}, Op.bytesLess x y = true → Op.bytesLess y z = true → Op.bytesLess x z = true
  | _, [], _, h, _ => by rw [bl_nil] at h; cases h
  | _, _ :: _, [], _, h => by rw [bl_nil] at h; cases h
  | [], _ :: _, _ :: _, _, _ => rfl
  | a :: x, b :: y, c :: z, h1, h2 => by
    simp only [Op.bytesLess, Bool.or_eq_true, Bool.and_eq_true, decide_eq_true_eq, beq_iff_eq] at h1 h2 ⊢
    rcases h1 with h1 | ⟨rfl, h1⟩
    · rcases h2 with h2 | ⟨rfl, h2⟩
      · exact Or.inl (UInt8.lt_trans h1 h2)
      · exact Or.inl h1
    · rcases h2 with h2 | ⟨rfl, h2⟩
      · exact Or.inl h2
      · exact Or.inr ⟨rfl, bl_trans h1 h2⟩
theorem bl_tot : ∀ {x y : List UInt8}, Op.bytesLess x y = false → Op.bytesLess y x = false → x = y
  | [], [], _, _ => rfl
  | [], _ :: _, h, _ => by cases h
  | _ :: _, [], _, h => by cases h
  | a :: x, b :: y, h1, h2 => by
    simp only [Op.bytesLess, Bool.or_eq_false_iff, Bool.and_eq_false_iff, decide_eq_false_iff_not, beq_eq_false_iff_ne] at h1 h2
    rcases u8_tri a b with h | rfl | h
    · exact absurd h h1.1
    · rw [bl_tot (h1.2.resolve_left (fun h => h rfl)) (h2.2.resolve_left (fun h => h rfl))]
    · exact absurd h h2.1

/-- How many texts of a list lie below. -/
def rk : List (List UInt8) → List UInt8 → Nat
  | [], _ => 0
  | z :: L, x => (if Op.bytesLess z x = true then 1 else 0) + rk L x
theorem rk_le {x y : List UInt8} (h : ∀ z, Op.bytesLess z x = true → Op.bytesLess z y = true) : ∀ L : List (List UInt8), rk L x ≤ rk L y
  | [] => Nat.le_refl _
  | z :: L => by
    have ih := rk_le h L
    unfold rk
    by_cases hx : Op.bytesLess z x = true
    · rw [if_pos hx, if_pos (h z hx)]; omega
    · rw [if_neg hx]; omega
theorem rk_lt {x y : List UInt8} (h : Op.bytesLess x y = true) : ∀ {L : List (List UInt8)}, x ∈ L → rk L x < rk L y
  | z :: L, hm => by
    have hle := rk_le (x := x) (y := y) (fun z hz => bl_trans hz h) L
    unfold rk
    rcases List.mem_cons.1 hm with rfl | hm
    · rw [if_pos h, if_neg (by rw [bl_irr]; exact Bool.false_ne_true)]; omega
    · have ih := rk_lt h hm
      by_cases hx : Op.bytesLess z x = true
      · rw [if_pos hx, if_pos (bl_trans hx h)]; omega
      · rw [if_neg hx]; omega
theorem rk_nil : ∀ L, rk L [] = 0
  | [] => rfl
  | z :: L => by
    unfold rk
    rw [rk_nil L, if_neg (by rw [bl_nil]; exact Bool.false_ne_true)]

/-- A numbering of texts in their order; the empty one has the number 0. -/
structure Ranks (L : List ByteArray) (f : ByteArray → Nat) : Prop where
  lt : ∀ x ∈ L, ∀ y ∈ L, Op.bytesLess x.toList y.toList = decide (f x < f y)
  eq : ∀ x ∈ L, ∀ y ∈ L, (x.toList == y.toList) = decide (f x = f y)
  em : ∀ x ∈ L, (x.toList == ([] : List UInt8)) = decide (f x = 0)
theorem ranks (L : List ByteArray) : ∃ f, Ranks L f := by
  refine ⟨fun x => rk ([] :: L.map (·.toList)) x.toList, ?_, ?_, ?_⟩
  · intro x hx y hy
    have hx' : x.toList ∈ ([] : List UInt8) :: L.map (·.toList) := List.mem_cons_of_mem _ (List.mem_map.2 ⟨x, hx, rfl⟩)
    have hy' : y.toList ∈ ([] : List UInt8) :: L.map (·.toList) := List.mem_cons_of_mem _ (List.mem_map.2 ⟨y, hy, rfl⟩)
    cases h : Op.bytesLess x.toList y.toList with
    | true => exact (decide_eq_true (rk_lt h hx')).symm
    | false =>
      refine (decide_eq_false ?_).symm
      cases h2 : Op.bytesLess y.toList x.toList with
      | true => have := rk_lt h2 hy'; omega
      | false => rw [bl_tot h h2]; omega
  · intro x hx y hy
    have hx' : x.toList ∈ ([] : List UInt8) :: L.map (·.toList) := List.mem_cons_of_mem _ (List.mem_map.2 ⟨x, hx, rfl⟩)
    have hy' : y.toList ∈ ([] : List UInt8) :: L.map (·.toList) := List.mem_cons_of_mem _ (List.mem_map.2 ⟨y, hy, rfl⟩)
    by_cases h : x.toList = y.toList
    · rw [h]; simp
    · rw [beq_eq_false_iff_ne.2 h]
      refine (decide_eq_false ?_).symm
      cases h1 : Op.bytesLess x.toList y.toList with
      | true => have := rk_lt h1 hx'; omega
      | false =>
        cases h2 : Op.bytesLess y.toList x.toList with
        | true => have := rk_lt h2 hy'; omega
        | false => exact absurd (bl_tot h1 h2) h
  · intro x hx
    by_cases h : x.toList = []
    · rw [h, rk_nil]; rfl
    · rw [beq_eq_false_iff_ne.2 h]
      refine (decide_eq_false ?_).symm
      have hl : Op.bytesLess [] x.toList = true := by
        cases hc : x.toList with
        | nil => exact absurd hc h
        | cons a l => rfl
      have := rk_lt hl (L := [] :: L.map (·.toList)) (List.mem_cons_self ..)
      omega
end
section

/-- A step: its key and its delta. -/
structure Sp where
  k : ByteArray
  v : Int
/-- A definition. -/
structure Dv where
  n : ByteArray
  r : Int
  dl : Int
  s : List Sp
def stOk (p : Sp) : Bool := isName p.k.data.toList && (decide (p.v ≠ 0) && (decide (-1152921504606846976 ≤ p.v) && decide (p.v ≤ 1152921504606846976)))
/-- Steps that are valid, with keys of their own. -/
def StepsOk (s : List Sp) : Prop := ∀ (i : Nat) p, s[i]? = some p → stOk p = true ∧ ∀ (j : Nat) q, j < i → s[j]? = some q → q.k ≠ p.k
def defOk (d : Dv) : Prop := isName d.n.data.toList = true ∧ 0 ≤ d.r ∧ d.r ≤ 20 ∧ 0 ≤ d.dl ∧ d.dl ≤ 100000 ∧ 1 ≤ d.s.length ∧ d.s.length ≤ 8 ∧ StepsOk d.s
open Classical in
/-- What Check answers. -/
noncomputable def ckD (d : Dv) : Int := if defOk d then 0 else 15
theorem ckD_yes {d : Dv} (h : defOk d) : ckD d = 0 := if_pos h
theorem ckD_no {d : Dv} (h : ¬ defOk d) : ckD d = 15 := if_neg h
theorem isName_len {l : List UInt8} (h : isName l = true) : 1 ≤ l.length ∧ l.length ≤ 16 ∧ l.all nmB = true := by
  unfold isName at h
  simpa only [Bool.and_eq_true, decide_eq_true_eq] using h
theorem stOk_parts {p : Sp} (h : stOk p = true) : isName p.k.data.toList = true ∧ p.v ≠ 0 ∧ -1152921504606846976 ≤ p.v ∧ p.v ≤ 1152921504606846976 := by
  unfold stOk at h
  simpa only [Bool.and_eq_true, decide_eq_true_eq] using h
theorem StepsOk.all {s : List Sp} (h : StepsOk s) {p : Sp} (hp : p ∈ s) : stOk p = true := by
  obtain ⟨i, hi⟩ := List.getElem?_of_mem hp
  exact (h i p hi).1
/-- The definition without anything. -/
def zeroD : Dv := ⟨⟨#[]⟩, 0, 0, []⟩
theorem zeroD_no : ¬ defOk zeroD := fun h => absurd h.1 (by decide)

/-- The bytes of a step, and of a definition. -/
def spB (p : Sp) : List UInt8 := txB p.k.data.toList ++ uvB (zig p.v)
def bytesD (d : Dv) : List UInt8 := txB d.n.data.toList ++ (uvB d.r.toNat ++ (uvB d.dl.toNat ++ (uvB d.s.length ++ d.s.flatMap spB)))

/-- Steps that are read. -/
def wSp (st : WS) : Sp × WS := (⟨⟨(wT st).1.toArray⟩, (wI (wT st).2).1⟩, (wI (wT st).2).2)
def wSps : Nat → WS → List Sp × WS
  | 0, st => ([], st)
  | n + 1, st => ((wSp st).1 :: (wSps n (wSp st).2).1, (wSps n (wSp st).2).2)
theorem wSps_succ : ∀ (n : Nat) (st : WS), wSps (n + 1) st = ((wSps n st).1 ++ [(wSp (wSps n st).2).1], (wSp (wSps n st).2).2)
  | 0, st => rfl
  | n + 1, st => by
    rw [wSps, wSps_succ n]
    rfl
theorem wSps_len : ∀ (n : Nat) (st : WS), (wSps n st).1.length = n
  | 0, _ => rfl
  | n + 1, st => by simp [wSps, wSps_len n]
theorem wSp_enc {p : Sp} (h : stOk p = true) (l : List UInt8) : wSp (some (spB p ++ l)) = (p, some l) := by
  obtain ⟨h1, _, h3, h4⟩ := stOk_parts h
  have hl := (isName_len h1).2.1
  unfold wSp spB
  rw [List.append_assoc, wT_enc (by omega)]
  dsimp only
  rw [wI_enc (by omega) (by omega)]
theorem wSps_enc : ∀ (s : List Sp) (l : List UInt8), (∀ p ∈ s, stOk p = true) → wSps s.length (some (s.flatMap spB ++ l)) = (s, some l)
  | [], l, _ => rfl
  | p :: s, l, h => by
    have h1 := wSp_enc (h p (by simp)) (s.flatMap spB ++ l)
    rw [List.flatMap_cons, List.append_assoc]
    simp only [List.length_cons, wSps]
    rw [h1]
    dsimp only
    rw [wSps_enc s l (fun q hq => h q (by simp [hq]))]
theorem wSp_dec {st : WS} {l : List UInt8} (h : (wSp st).2 = some l) : st = some (spB (wSp st).1 ++ l) := by
  have h1 := wI_dec (s := (wT st).2) (l := l) h
  have h2 := wT_dec h1.1
  refine h2.1.trans ?_
  unfold spB wSp
  simp only [List.append_assoc]
theorem wSps_dec : ∀ (n : Nat) (st : WS) (l : List UInt8), (wSps n st).2 = some l → st = some ((wSps n st).1.flatMap spB ++ l)
  | 0, st, l, h => by simpa [wSps] using h
  | n + 1, st, l, h => by
    rw [wSps] at h ⊢
    have h1 := wSps_dec n _ l h
    have h2 := wSp_dec h1
    rw [List.flatMap_cons, List.append_assoc]
    exact h2
theorem wSps_none : ∀ n, (wSps n none).2 = none
  | 0 => rfl
  | n + 1 => by
    rw [wSps]
    show (wSps n (wSp none).2).2 = none
    have : (wSp none).2 = none := by unfold wSp; rw [wT_none]; show (wI none).2 = none; rw [wI_none]
    rw [this]; exact wSps_none n

/-- A number up to the greatest Deadline; a greater one makes the reader fail. -/
def wN (st : WS) : Nat × WS := (min (wU st).1 100000, if 100000 < (wU st).1 then none else (wU st).2)
def wS8 (c : Nat) (st : WS) : WS := if 8 < c then none else st
def decD (b : List UInt8) : Dv × WS :=
  let t := wT (some b)
  let x := wN t.2
  let y := wN x.2
  let z := wN y.2
  let l := wSps (min z.1 8) (wS8 z.1 z.2)
  (⟨⟨t.1.toArray⟩, x.1, y.1, l.1⟩, l.2)
theorem wN_enc {n : Nat} (h : n ≤ 100000) (l : List UInt8) : wN (some (uvB n ++ l)) = (n, some l) := by
  unfold wN
  rw [wU_enc (by omega), Nat.min_eq_left h]
  dsimp only
  rw [if_neg (by omega)]
theorem wN_dec {st : WS} {l : List UInt8} (h : (wN st).2 = some l) : st = some (uvB (wN st).1 ++ l) ∧ (wN st).1 ≤ 100000 := by
  unfold wN at h ⊢
  dsimp only at h ⊢
  split at h
  · cases h
  · rename_i hc
    rw [Nat.min_eq_left (by omega)]
    exact ⟨(wU_dec h).1, by omega⟩
theorem bytes_toList (b : List UInt8) : (⟨b.toArray⟩ : ByteArray).data.toList = b := rfl
theorem ba_eta (b : ByteArray) : (⟨b.data.toList.toArray⟩ : ByteArray) = b := rfl
theorem decD_enc {d : Dv} (h : defOk d) (x : List UInt8) : decD (bytesD d ++ x) = (d, some x) := by
  obtain ⟨h1, h2, h3, h4, h5, h6, h7, h8⟩ := h
  have hl := (isName_len h1).2.1
  have e1 : wT (some (bytesD d ++ x)) = (d.n.data.toList, some (uvB d.r.toNat ++ (uvB d.dl.toNat ++ (uvB d.s.length ++ (d.s.flatMap spB ++ x))))) := by
    unfold bytesD
    rw [List.append_assoc, wT_enc (by omega)]
    simp only [List.append_assoc]
  have e2 := wN_enc (n := d.r.toNat) (by omega) (uvB d.dl.toNat ++ (uvB d.s.length ++ (d.s.flatMap spB ++ x)))
  have e3 := wN_enc (n := d.dl.toNat) (by omega) (uvB d.s.length ++ (d.s.flatMap spB ++ x))
  have e4 := wN_enc (n := d.s.length) (by omega) (d.s.flatMap spB ++ x)
  have e5 := wSps_enc d.s x (fun p hp => h8.all hp)
  unfold decD
  simp only [e1, e2, e3, e4]
  have e6 : wS8 d.s.length (some (d.s.flatMap spB ++ x)) = some (d.s.flatMap spB ++ x) := by unfold wS8; rw [if_neg (by omega)]
  rw [e6, Nat.min_eq_left h7, e5]
  have a1 : ((d.r.toNat : Nat) : Int) = d.r := by omega
  have a2 : ((d.dl.toNat : Nat) : Int) = d.dl := by omega
  simp only [a1, a2]
theorem decD_dec {b x : List UInt8} (h : (decD b).2 = some x) : b = bytesD (decD b).1 ++ x := by
  unfold decD at h
  dsimp only at h
  have h5 := wSps_dec _ _ _ h
  have h6 : ¬ 8 < (wN (wN (wN (wT (some b)).2).2).2).1 := fun hc => by
    unfold wS8 at h5
    rw [if_pos hc] at h5; cases h5
  have h7 : wS8 (wN (wN (wN (wT (some b)).2).2).2).1 (wN (wN (wN (wT (some b)).2).2).2).2 = (wN (wN (wN (wT (some b)).2).2).2).2 := by unfold wS8; rw [if_neg h6]
  have hm : min (wN (wN (wN (wT (some b)).2).2).2).1 8 = (wN (wN (wN (wT (some b)).2).2).2).1 := Nat.min_eq_left (by omega)
  have hd : decD b = (⟨⟨(wT (some b)).1.toArray⟩, (wN (wT (some b)).2).1, (wN (wN (wT (some b)).2).2).1, (wSps (wN (wN (wN (wT (some b)).2).2).2).1 (wN (wN (wN (wT (some b)).2).2).2).2).1⟩, (wSps (wN (wN (wN (wT (some b)).2).2).2).1 (wN (wN (wN (wT (some b)).2).2).2).2).2) := by
    unfold decD
    dsimp only
    rw [h7, hm]
  rw [h7, hm] at h5
  obtain ⟨h4, b4⟩ := wN_dec h5
  obtain ⟨h3, b3⟩ := wN_dec h4
  obtain ⟨h2, b2⟩ := wN_dec h3
  obtain ⟨h1, b1⟩ := wT_dec h2
  rw [hd]
  unfold bytesD
  simp only [Int.toNat_natCast, wSps_len, List.append_assoc]
  exact Option.some.inj h1
/-- What reading bytes answers. -/
def DecR (b : List UInt8) (d : Dv) (e : Int) : Prop := (e = 0 ∧ defOk d ∧ bytesD d = b) ∨ (e = 10 ∧ d = zeroD ∧ ∀ d0, defOk d0 → bytesD d0 ≠ b)
theorem decD_ok {b : List UInt8} (h1 : wEnd (decD b).2 = 0) (h2 : defOk (decD b).1) : DecR b (decD b).1 0 :=
  Or.inl ⟨rfl, h2, by have := decD_dec (wEnd_ok.1 h1); rw [List.append_nil] at this; exact this.symm⟩
theorem decD_bad {b : List UInt8} (h : ¬ (wEnd (decD b).2 = 0 ∧ defOk (decD b).1)) : DecR b zeroD 10 :=
  Or.inr ⟨rfl, rfl, fun d0 h0 e => h (by
    have := decD_enc h0 []
    rw [List.append_nil, e] at this
    rw [this]
    exact ⟨rfl, h0⟩)⟩
theorem DecR.same {b : List UInt8} {d d' : Dv} {e e' : Int} (h : DecR b d e) (h' : DecR b d' e') : d = d' ∧ e = e' := by
  rcases h with ⟨rfl, h1, h2⟩ | ⟨rfl, rfl, h2⟩ <;> rcases h' with ⟨rfl, h3, h4⟩ | ⟨rfl, rfl, h4⟩
  · have a := decD_enc h1 []
    have c := decD_enc h3 []
    rw [List.append_nil] at a c
    rw [h2] at a; rw [h4, a] at c
    exact ⟨(Prod.mk.inj c).1, rfl⟩
  · exact absurd h2 (h4 d h1)
  · exact absurd h4 (h2 d' h3)
  · exact ⟨rfl, rfl⟩
theorem bytesD_inj {d d' : Dv} (h : defOk d) (h' : defOk d') {x y : List UInt8} (e : bytesD d ++ x = bytesD d' ++ y) : d = d' ∧ x = y := by
  have a := decD_enc h x
  rw [e, decD_enc h' y] at a
  exact ⟨(Prod.mk.inj a).1.symm, (Option.some.inj (Prod.mk.inj a).2).symm⟩
/-- The reference's reading: numbers that are too great become 1,000,000. -/
def small (n : Nat) : Nat := min n 1000000
def refD (b : List UInt8) : Dv :=
  let t := wT (some b)
  let x := wU t.2
  let y := wU x.2
  let z := wU y.2
  ⟨⟨t.1.toArray⟩, small x.1, small y.1, (wSps (min (small z.1) 8) z.2).1⟩
theorem refD_enc {d : Dv} (h : defOk d) : refD (bytesD d) = d := by
  obtain ⟨h1, h2, h3, h4, h5, h6, h7, h8⟩ := h
  have hl := (isName_len h1).2.1
  have e1 : wT (some (bytesD d)) = (d.n.data.toList, some (uvB d.r.toNat ++ (uvB d.dl.toNat ++ (uvB d.s.length ++ (d.s.flatMap spB ++ []))))) := by
    unfold bytesD
    rw [wT_enc (by omega)]
    simp only [List.append_nil]
  have e2 := wU_enc (n := d.r.toNat) (by omega) (uvB d.dl.toNat ++ (uvB d.s.length ++ (d.s.flatMap spB ++ [])))
  have e3 := wU_enc (n := d.dl.toNat) (by omega) (uvB d.s.length ++ (d.s.flatMap spB ++ []))
  have e4 := wU_enc (n := d.s.length) (by omega) (d.s.flatMap spB ++ [])
  have e5 := wSps_enc d.s [] (fun p hp => h8.all hp)
  unfold refD
  simp only [e1, e2, e3, e4]
  have s1 : small d.r.toNat = d.r.toNat := Nat.min_eq_left (by omega)
  have s2 : small d.dl.toNat = d.dl.toNat := Nat.min_eq_left (by omega)
  have s3 : small d.s.length = d.s.length := Nat.min_eq_left (by omega)
  rw [s1, s2, s3, Nat.min_eq_left h7, e5]
  have a1 : ((d.r.toNat : Nat) : Int) = d.r := by omega
  have a2 : ((d.dl.toNat : Nat) : Int) = d.dl := by omega
  simp only [a1, a2]
theorem refD_ok {b : List UInt8} (h1 : defOk (refD b)) (h2 : bytesD (refD b) = b) : DecR b (refD b) 0 := Or.inl ⟨rfl, h1, h2⟩
theorem refD_bad {b : List UInt8} (h : ¬ (defOk (refD b) ∧ bytesD (refD b) = b)) : DecR b zeroD 10 :=
  Or.inr ⟨rfl, rfl, fun d0 h0 e => h (by rw [← e, refD_enc h0]; exact ⟨h0, rfl⟩)⟩
end
section

def effOk (a b c : Int) : Prop := 1 ≤ a ∧ a ≤ 9999 ∧ 0 ≤ b ∧ b ≤ 7 ∧ 1 ≤ c ∧ c ≤ 3
instance (a b c : Int) : Decidable (effOk a b c) := by unfold effOk; infer_instance
def ckEff (a b c : Int) : Int := if effOk a b c then 0 else 2
theorem ckEff_yes {a b c : Int} (h : effOk a b c) : ckEff a b c = 0 := if_pos h
theorem ckEff_no {a b c : Int} (h : ¬ effOk a b c) : ckEff a b c = 2 := if_neg h

/-- An item: its effect (three numbers), move, in, group. -/
def itemOk (a b c m : Int) (i : Bool) (g : Int) : Prop := (1 ≤ g ∧ g ≤ 7) ∧ ((m = 0 ∧ i = false ∧ effOk a b c) ∨ (1 ≤ m ∧ m ≤ 64 ∧ a = 0 ∧ b = 0 ∧ c = 0))
instance (a b c m : Int) (i : Bool) (g : Int) : Decidable (itemOk a b c m i g) := by unfold itemOk; infer_instance
def ckItem (a b c m : Int) (i : Bool) (g : Int) : Int := if itemOk a b c m i g then 0 else 2
theorem ckItem_yes {a b c m : Int} {i : Bool} {g : Int} (h : itemOk a b c m i g) : ckItem a b c m i g = 0 := if_pos h
theorem ckItem_no {a b c m : Int} {i : Bool} {g : Int} (h : ¬ itemOk a b c m i g) : ckItem a b c m i g = 2 := if_neg h

theorem ckItem_group {a b c m : Int} {i : Bool} {g : Int} (h : ¬ (1 ≤ g ∧ g ≤ 7)) : ckItem a b c m i g = 2 := ckItem_no fun k => h k.1
theorem ckItem_eff {a b c : Int} {g : Int} (h : 1 ≤ g) (h' : g ≤ 7) : ckItem a b c 0 false g = ckEff a b c := by
  by_cases k : effOk a b c
  · exact (ckItem_yes ⟨⟨h, h'⟩, .inl ⟨rfl, rfl, k⟩⟩).trans (ckEff_yes k).symm
  · refine (ckItem_no ?_).trans (ckEff_no k).symm
    rintro ⟨_, ⟨_, _, k'⟩ | ⟨k', _⟩⟩
    · exact k k'
    · omega
theorem ckItem_in {a b c : Int} {g : Int} : ckItem a b c 0 true g = 2 := by
  refine ckItem_no ?_
  rintro ⟨_, ⟨_, k', _⟩ | ⟨k', _⟩⟩
  · cases k'
  · omega
theorem ckItem_move {a b c m : Int} {i : Bool} {g : Int} (h0 : ¬ m = 0) (h : ¬ (1 ≤ m ∧ m ≤ 64)) : ckItem a b c m i g = 2 := by
  refine ckItem_no ?_
  rintro ⟨_, ⟨k', _⟩ | ⟨k', k2, _⟩⟩
  · exact h0 k'
  · exact h ⟨k', k2⟩
theorem ckItem_both {a b c m : Int} {i : Bool} {g : Int} (h0 : ¬ m = 0) (h : ¬ (a = 0 ∧ b = 0 ∧ c = 0)) : ckItem a b c m i g = 2 := by
  refine ckItem_no ?_
  rintro ⟨_, ⟨k', _⟩ | ⟨_, _, k'⟩⟩
  · exact h0 k'
  · exact h k'

def cmpI (a b : Int) : Int := if a < b then -1 else if b < a then 1 else 0
def ordEff (a b c x y z : Int) : Int := if a ≠ x then cmpI a x else if b ≠ y then cmpI b y else cmpI c z
end
section

/-- The letter of a phase. -/
def phL (c : Int) : UInt8 := if c = 1 then 102 else if c = 2 then 117 else 114
/-- A number from 0 on in decimal digits. -/
def dgs (a : Int) : List UInt8 := Lib.decDigits a.toNat
def effText (a b c : Int) : List UInt8 := dgs a ++ ([47] ++ (dgs b ++ ([47] ++ [phL c])))
def wayL (i : Bool) : List UInt8 := if i then [47, 105, 110] else [47, 111, 117, 116]
def itemText (a b c m : Int) (i : Bool) (g : Int) : List UInt8 := (if m = 0 then effText a b c else [109] ++ (dgs m ++ wayL i)) ++ ([64] ++ dgs g)

theorem dgs_len {a : Int} (h : a ≤ 99999) : (dgs a).length ≤ 5 := by
  unfold dgs
  rw [Lib.decDigits_length]
  have key : ∀ n : Nat, n < 100000 → Lib.nDigits n ≤ 5 := by
    intro n hn
    by_cases h0 : n < 10
    · rw [Lib.nDigits_small h0]; omega
    rw [Lib.nDigits_big h0]
    by_cases h1 : n / 10 < 10
    · rw [Lib.nDigits_small h1]; omega
    rw [Lib.nDigits_big h1]
    by_cases h2 : n / 10 / 10 < 10
    · rw [Lib.nDigits_small h2]; omega
    rw [Lib.nDigits_big h2]
    by_cases h3 : n / 10 / 10 / 10 < 10
    · rw [Lib.nDigits_small h3]; omega
    rw [Lib.nDigits_big h3, Lib.nDigits_small (by omega)]; omega
  exact key _ (by omega)
theorem dgs_one {a : Int} (h0 : 0 ≤ a) (h : a ≤ 9) : dgs a = [UInt8.ofNat (48 + a.toNat)] := Lib.decDigits_one (by omega)
end
section

def isDig (c : UInt8) : Bool := decide (48 ≤ c.toNat) && decide (c.toNat ≤ 57)
/-- The value of a row of digits. -/
def dvF (acc : Nat) (ds : List UInt8) : Nat := ds.foldl (fun a c => a * 10 + (c.toNat - 48)) acc
def dv (ds : List UInt8) : Nat := dvF 0 ds
/-- May a row of digits stand as a number? -/
def numOk (ds : List UInt8) : Bool := decide (1 ≤ ds.length) && (decide (ds.length ≤ 4) && !(decide (1 < ds.length) && decide (ds.head? = some 48)))
def lead (l : List UInt8) : List UInt8 := l.takeWhile isDig

theorem dvF_append (acc : Nat) (a b : List UInt8) : dvF acc (a ++ b) = dvF (dvF acc a) b := by simp [dvF]
theorem dv_snoc (a : List UInt8) (c : UInt8) : dv (a ++ [c]) = dv a * 10 + (c.toNat - 48) := by unfold dv; rw [dvF_append]; rfl

theorem decFrom_dvF : ∀ (ds : List UInt8) (acc : Nat), ds.all isDig = true → Lib.decFrom acc ds = some (dvF acc ds)
  | [], _, _ => rfl
  | c :: r, acc, h => by
    simp only [List.all_cons, Bool.and_eq_true] at h
    have hc : 48 ≤ c.toNat ∧ c.toNat ≤ 57 := by simpa [isDig] using h.1
    unfold Lib.decFrom Lib.digitVal
    rw [if_pos hc]
    exact decFrom_dvF r _ h.2
theorem atoi_dv {ds : List UInt8} (hne : ds ≠ []) (h : ds.all isDig = true) : Lib.atoi ds = some (dv ds : Int) := by
  cases ds with
  | nil => exact absurd rfl hne
  | cons c r =>
    have hc : 48 ≤ c.toNat ∧ c.toNat ≤ 57 := by
      simp only [List.all_cons, Bool.and_eq_true] at h
      simpa [isDig] using h.1
    have h45 : (c == 45) = false := by
      rw [beq_eq_false_iff_ne]; rintro rfl; simp at hc
    have h43 : (c == 43) = false := by
      rw [beq_eq_false_iff_ne]; rintro rfl; simp at hc
    unfold Lib.atoi
    simp only [h45, h43, Bool.false_eq_true, if_false]
    unfold Lib.decNat
    rw [if_neg (by simp), decFrom_dvF _ _ h]
    rfl

theorem digit_ofNat {k : Nat} (h : k < 10) : isDig (UInt8.ofNat (48 + k)) = true ∧ (UInt8.ofNat (48 + k)).toNat = 48 + k := by
  have e : (UInt8.ofNat (48 + k)).toNat = 48 + k := by simp; omega
  refine ⟨?_, e⟩
  unfold isDig
  rw [e]
  simp; omega
theorem ofNat_digit {c : UInt8} (h : isDig c = true) : UInt8.ofNat (48 + (c.toNat - 48)) = c := by
  have hc : 48 ≤ c.toNat ∧ c.toNat ≤ 57 := by simpa [isDig] using h
  rw [show 48 + (c.toNat - 48) = c.toNat by omega]
  simp

/-- What decDigits writes: digits, no zero ahead, of that value. -/
theorem decDigits_spec (n : Nat) : (Lib.decDigits n).all isDig = true ∧ dv (Lib.decDigits n) = n ∧ 1 ≤ (Lib.decDigits n).length ∧ ((Lib.decDigits n).head? = some 48 → n = 0) := by
  induction n using Nat.strongRecOn with
  | _ n ih =>
    by_cases h : n < 10
    · rw [Lib.decDigits_one h]
      obtain ⟨h1, h2⟩ := digit_ofNat h
      generalize UInt8.ofNat (48 + n) = c at h1 h2 ⊢
      refine ⟨by simp [h1], by simp [dv, dvF]; omega, by simp, fun h3 => ?_⟩
      simp at h3
      subst h3
      simp at h2
      omega
    · obtain ⟨i1, i2, i3, i4⟩ := ih (n / 10) (by omega)
      obtain ⟨h1, h2⟩ := digit_ofNat (show n % 10 < 10 by omega)
      rw [Lib.decDigits, dif_neg h]
      generalize UInt8.ofNat (48 + n % 10) = c at h1 h2 ⊢
      refine ⟨by simp [i1, h1], by rw [dv_snoc, i2, h2]; omega, by simp, fun h3 => ?_⟩
      have : (Lib.decDigits (n / 10)).head? = some 48 := by
        cases e : Lib.decDigits (n / 10) with
        | nil => rw [e] at i3; simp at i3
        | cons x y => rw [e] at h3; simpa using h3
      have := i4 this
      omega

/-- A row of digits without a zero ahead is what decDigits writes of its value. -/
theorem decDigits_dv : ∀ (k : Nat) (ds : List UInt8), ds.length = k + 1 → ds.all isDig = true → (1 < ds.length → ds.head? ≠ some 48) → Lib.decDigits (dv ds) = ds ∧ (ds.head? ≠ some 48 → 1 ≤ dv ds)
  | 0, ds, hl, hd, _ => by
    match ds, hl with
    | [c], _ =>
      simp only [List.all_cons, List.all_nil, Bool.and_true] at hd
      have hc : 48 ≤ c.toNat ∧ c.toNat ≤ 57 := by simpa [isDig] using hd
      have hv : dv [c] = c.toNat - 48 := by simp [dv, dvF]
      refine ⟨?_, fun hn => ?_⟩
      · rw [hv, Lib.decDigits_one (by omega), ofNat_digit hd]
      · rw [hv]
        rcases Nat.eq_or_lt_of_le hc.1 with e | e
        · exact absurd (by simp; exact UInt8.toNat_inj.1 (by simpa using e.symm)) hn
        · omega
  | k + 1, ds, hl, hd, hz => by
    obtain ⟨a, c, rfl⟩ : ∃ a c, ds = a ++ [c] := ⟨ds.dropLast, ds.getLast (by intro h; simp [h] at hl), (List.dropLast_concat_getLast _).symm⟩
    simp at hl
    simp only [List.all_append, List.all_cons, List.all_nil, Bool.and_true, Bool.and_eq_true] at hd
    have hne : a ≠ [] := by intro h; simp [h] at hl
    have hh : (a ++ [c]).head? = a.head? := by cases a with | nil => exact absurd rfl hne | cons x y => rfl
    have hz' : a.head? ≠ some 48 := by rw [← hh]; exact hz (by simp; omega)
    obtain ⟨i1, i2⟩ := decDigits_dv k a (by omega) hd.1 (fun _ => hz')
    have hp := i2 hz'
    have hc : 48 ≤ c.toNat ∧ c.toNat ≤ 57 := by simpa [isDig] using hd.2
    rw [dv_snoc]
    refine ⟨?_, fun _ => by omega⟩
    rw [Lib.decDigits, dif_neg (by omega), show (dv a * 10 + (c.toNat - 48)) / 10 = dv a by omega, show (dv a * 10 + (c.toNat - 48)) % 10 = c.toNat - 48 by omega, i1, ofNat_digit hd.2]

theorem dv_lt : ∀ (ds : List UInt8) (acc : Nat), ds.all isDig = true → dvF acc ds < (acc + 1) * 10 ^ ds.length
  | [], acc, _ => by simp [dvF]
  | c :: r, acc, h => by
    simp only [List.all_cons, Bool.and_eq_true] at h
    have hc : 48 ≤ c.toNat ∧ c.toNat ≤ 57 := by simpa [isDig] using h.1
    have := dv_lt r (acc * 10 + (c.toNat - 48)) h.2
    show dvF (acc * 10 + (c.toNat - 48)) r < _
    refine Nat.lt_of_lt_of_le this ?_
    simp only [List.length_cons, Nat.pow_succ]
    calc (acc * 10 + (c.toNat - 48) + 1) * 10 ^ r.length ≤ ((acc + 1) * 10) * 10 ^ r.length := Nat.mul_le_mul_right _ (by omega)
      _ = (acc + 1) * (10 ^ r.length * 10) := by rw [Nat.mul_assoc, Nat.mul_comm 10]

theorem numOk_dgs {n : Int} (h0 : 0 ≤ n) (h : n ≤ 9999) : numOk (dgs n) = true ∧ (dgs n).all isDig = true ∧ (dv (dgs n) : Int) = n := by
  unfold dgs
  obtain ⟨h1, h2, h3, h4⟩ := decDigits_spec n.toNat
  refine ⟨?_, h1, by rw [h2]; omega⟩
  unfold numOk
  have hlen : (Lib.decDigits n.toNat).length ≤ 4 := by
    rw [Lib.decDigits_length]
    by_cases a : n.toNat < 10
    · rw [Lib.nDigits_small a]; omega
    rw [Lib.nDigits_big a]
    by_cases b : n.toNat / 10 < 10
    · rw [Lib.nDigits_small b]; omega
    rw [Lib.nDigits_big b]
    by_cases c : n.toNat / 10 / 10 < 10
    · rw [Lib.nDigits_small c]; omega
    rw [Lib.nDigits_big c, Lib.nDigits_small (by omega)]; omega
  have hz : (decide (1 < (Lib.decDigits n.toNat).length) && decide ((Lib.decDigits n.toNat).head? = some 48)) = false := by
    by_cases e : (Lib.decDigits n.toNat).head? = some 48
    · have := h4 e
      rw [this, Lib.decDigits_one (by omega)]
      simp
    · simp [e]
  rw [hz]
  simp [h3, hlen]
theorem dgs_numOk {ds : List UInt8} (hd : ds.all isDig = true) (h : numOk ds = true) : dgs (dv ds) = ds ∧ (dv ds : Int) ≤ 9999 := by
  unfold numOk at h
  simp only [Bool.and_eq_true, decide_eq_true_eq, Bool.not_eq_true', Bool.and_eq_false_iff, decide_eq_false_iff_not] at h
  obtain ⟨h1, h2, h3⟩ := h
  refine ⟨?_, ?_⟩
  · unfold dgs
    simp only [Int.toNat_natCast]
    exact (decDigits_dv (ds.length - 1) ds (by omega) hd (fun hl he => by rcases h3 with h3 | h3; exact h3 hl; exact h3 he)).1
  · have := dv_lt ds 0 hd
    have hp : 10 ^ ds.length ≤ 10 ^ 4 := Nat.pow_le_pow_right (by omega) h2
    unfold dv
    simp at this hp
    omega
end
section

/-- A number with its sign. -/
def sgn (v : Int) : List UInt8 := if 0 < v then 43 :: dgs v else 45 :: dgs (-v)
def spW (p : Sp) : List UInt8 := p.k.data.toList ++ sgn p.v
def wordsD (d : Dv) : List (List UInt8) := d.n.data.toList :: dgs d.r :: dgs d.dl :: d.s.map spW
/-- Words with a space between each two. -/
def joinW : List (List UInt8) → List UInt8
  | [] => []
  | [a] => a
  | a :: b :: l => a ++ 32 :: joinW (b :: l)
def textD (d : Dv) : List UInt8 := joinW (wordsD d)

theorem dgs_all (a : Int) : (dgs a).all isDig = true ∧ 1 ≤ (dgs a).length := ⟨(decDigits_spec _).1, (decDigits_spec _).2.2.1⟩
theorem dgs_dv {a : Int} (h : 0 ≤ a) : (dv (dgs a) : Int) = a := by
  have := (decDigits_spec a.toNat).2.1
  unfold dgs; rw [this]; omega
theorem isDig_ne {c : UInt8} (h : isDig c = true) : c ≠ 32 ∧ c ≠ 43 ∧ c ≠ 45 := by
  unfold isDig at h
  simp only [Bool.and_eq_true, decide_eq_true_eq] at h
  refine ⟨?_, ?_, ?_⟩ <;> (rintro rfl; simp at h)
theorem nmB_ne {c : UInt8} (h : nmB c = true) : c ≠ 32 ∧ c ≠ 43 ∧ c ≠ 45 ∧ c.toNat < 128 := by
  have h2 := nmB_le h
  unfold nmB at h
  simp only [Bool.or_eq_true, Bool.and_eq_true, decide_eq_true_eq] at h
  refine ⟨?_, ?_, ?_, by omega⟩ <;> (rintro rfl; simp at h)
theorem isName_mem {l : List UInt8} (h : isName l = true) {c : UInt8} (hc : c ∈ l) : nmB c = true := List.all_eq_true.1 (isName_len h).2.2 c hc
theorem dgs_mem {a : Int} {c : UInt8} (hc : c ∈ dgs a) : isDig c = true := List.all_eq_true.1 (dgs_all a).1 c hc
theorem sgn_mem {v : Int} {c : UInt8} (hc : c ∈ sgn v) : c = 43 ∨ c = 45 ∨ isDig c = true := by
  unfold sgn at hc
  split at hc <;> (rcases List.mem_cons.1 hc with h | h)
  · exact Or.inl h
  · exact Or.inr (Or.inr (dgs_mem h))
  · exact Or.inr (Or.inl h)
  · exact Or.inr (Or.inr (dgs_mem h))
theorem isDig_lt {c : UInt8} (h : isDig c = true) : c.toNat < 128 := by
  unfold isDig at h
  simp only [Bool.and_eq_true, decide_eq_true_eq] at h
  omega
theorem spW_mem {p : Sp} (h : stOk p = true) {c : UInt8} (hc : c ∈ spW p) : c ≠ 32 ∧ c.toNat < 128 := by
  rcases List.mem_append.1 hc with h1 | h1
  · have := nmB_ne (isName_mem (stOk_parts h).1 h1); exact ⟨this.1, this.2.2.2⟩
  · rcases sgn_mem h1 with rfl | rfl | h2
    · decide
    · decide
    · exact ⟨(isDig_ne h2).1, isDig_lt h2⟩
theorem wordsD_no {d : Dv} (h : defOk d) {w : List UInt8} (hw : w ∈ wordsD d) : (32 : UInt8) ∉ w := by
  intro hc
  unfold wordsD at hw
  simp only [List.mem_cons, List.mem_map] at hw
  rcases hw with rfl | rfl | rfl | ⟨p, hp, rfl⟩
  · exact (nmB_ne (isName_mem h.1 hc)).1 rfl
  · exact (isDig_ne (dgs_mem hc)).1 rfl
  · exact (isDig_ne (dgs_mem hc)).1 rfl
  · exact (spW_mem (h.2.2.2.2.2.2.2.all hp) hc).1 rfl

theorem indexByte_skip {c : UInt8} : ∀ {w : List UInt8} (r : List UInt8), c ∉ w → Lib.indexByte (w ++ c :: r) c = w.length
  | [], r, _ => by simp [Lib.indexByte]
  | a :: w, r, h => by
    have h1 : ¬ a = c := fun e => h (by simp [e])
    have h2 := indexByte_skip (w := w) r (fun e => h (List.mem_cons_of_mem _ e))
    show Lib.indexByte (a :: (w ++ c :: r)) c = _
    unfold Lib.indexByte
    simp only [h2, beq_iff_eq, h1, List.length_cons]
    split <;> simp_all <;> omega
theorem indexByte_no {c : UInt8} : ∀ {w : List UInt8}, c ∉ w → Lib.indexByte w c = -1
  | [], _ => rfl
  | a :: w, h => by
    have h1 : ¬ a = c := fun e => h (by simp [e])
    have h2 := indexByte_no (w := w) (fun e => h (List.mem_cons_of_mem _ e))
    unfold Lib.indexByte
    simp [h1, h2]
theorem splitK_word {w : List UInt8} (h : (32 : UInt8) ∉ w) (r : List UInt8) (k : Nat) : Lib.splitK [32] 0 (k + 1) (w ++ 32 :: r) = w :: Lib.splitK [32] 0 k r := by
  have e : Lib.index (w ++ 32 :: r) [32] = w.length := by rw [Lib.index_one, indexByte_skip r h]
  have hm : ¬ ((Lib.index (w ++ 32 :: r) [32] == -1) = true) := by rw [e]; simp
  rw [Lib.splitK, if_neg hm, e]
  have : (w ++ 32 :: r).drop (w.length + 1) = r := by rw [← List.drop_drop, List.drop_left]; rfl
  simp [this]
theorem splitK_last {w : List UInt8} (h : (32 : UInt8) ∉ w) (k : Nat) : Lib.splitK [32] 0 k w = [w] := by
  cases k with
  | zero => rfl
  | succ k =>
    have e : Lib.index w [32] = -1 := by rw [Lib.index_one, indexByte_no h]
    rw [Lib.splitK, if_pos (by rw [e]; rfl)]
theorem splitK_join : ∀ (ws : List (List UInt8)) (k : Nat), ws ≠ [] → (∀ w ∈ ws, (32 : UInt8) ∉ w) → ws.length ≤ k + 1 → Lib.splitK [32] 0 k (joinW ws) = ws
  | [], _, h, _, _ => absurd rfl h
  | [a], k, _, h, _ => splitK_last (h a (by simp)) k
  | a :: b :: l, 0, _, _, hl => by simp at hl
  | a :: b :: l, k + 1, _, h, hl => by
    rw [joinW, splitK_word (h a (by simp)), splitK_join (b :: l) k (by simp) (fun w hw => h w (by simp only [List.mem_cons] at hw ⊢; exact Or.inr hw)) (by simp at hl ⊢; omega)]
theorem joinW_len : ∀ (ws : List (List UInt8)), ws.length ≤ (joinW ws).length + 1
  | [] => by simp
  | [a] => by simp
  | a :: b :: l => by
    have := joinW_len (b :: l)
    simp only [joinW, List.length_append, List.length_cons] at this ⊢
    omega
theorem wordsD_len (d : Dv) : (wordsD d).length = d.s.length + 3 := by simp [wordsD]
theorem split_text {d : Dv} (h : defOk d) : Lib.splitK [32] 0 (min 12 ((textD d).length + 1) - 1) (textD d) = wordsD d := by
  refine splitK_join _ _ (by simp [wordsD]) (fun w hw => wordsD_no h hw) ?_
  have h1 := joinW_len (wordsD d)
  have h2 := wordsD_len d
  have h3 := h.2.2.2.2.2.2.1
  unfold textD
  omega

/-- Digits, as Atoi and ParseInt take them. -/
theorem parseUint10_dv : ∀ (ds : List UInt8) (acc : Nat), ds.all isDig = true → dvF acc ds < 18446744073709551616 → Lib.parseUint10 acc ds = .ok (dvF acc ds)
  | [], _, _, _ => rfl
  | c :: r, acc, h, hv => by
    simp only [List.all_cons, Bool.and_eq_true] at h
    have hc : 48 ≤ c.toNat ∧ c.toNat ≤ 57 := by simpa [isDig] using h.1
    have hge : ∀ (l : List UInt8) (a : Nat), a ≤ dvF a l := by
      intro l
      induction l with
      | nil => intro a; exact Nat.le_refl _
      | cons x l ih => intro a; exact Nat.le_trans (by omega) (ih (a * 10 + (x.toNat - 48)))
    have e : dvF acc (c :: r) = dvF (acc * 10 + (c.toNat - 48)) r := rfl
    rw [e] at hv ⊢
    have := hge r (acc * 10 + (c.toNat - 48))
    rw [Lib.parseUint10, if_pos hc, if_neg (by omega), if_neg (by omega)]
    exact parseUint10_dv r _ h.2 hv
theorem parseUintM_dv : ∀ (ds : List UInt8) (acc : Nat), ds.all isDig = true → dvF acc ds ≤ 18446744073709551615 → Lib.parseUintM 18446744073709551615 acc ds = .ok (dvF acc ds)
  | [], _, _, _ => rfl
  | c :: r, acc, h, hv => by
    simp only [List.all_cons, Bool.and_eq_true] at h
    have hc : 48 ≤ c.toNat ∧ c.toNat ≤ 57 := by simpa [isDig] using h.1
    have hge : ∀ (l : List UInt8) (a : Nat), a ≤ dvF a l := by
      intro l
      induction l with
      | nil => intro a; exact Nat.le_refl _
      | cons x l ih => intro a; exact Nat.le_trans (by omega) (ih (a * 10 + (x.toNat - 48)))
    have e : dvF acc (c :: r) = dvF (acc * 10 + (c.toNat - 48)) r := rfl
    rw [e] at hv ⊢
    have := hge r (acc * 10 + (c.toNat - 48))
    rw [Lib.parseUintM, if_pos hc, if_neg (by omega), if_neg (by omega)]
    exact parseUintM_dv r _ h.2 hv
theorem dgs_cons (a : Int) : ∃ c r, dgs a = c :: r ∧ isDig c = true := by
  have h := dgs_all a
  cases e : dgs a with
  | nil => rw [e] at h; simp at h
  | cons c r => exact ⟨c, r, rfl, dgs_mem (a := a) (by rw [e]; simp)⟩
theorem atoiAll_dgs {a : Int} (h : 0 ≤ a) (h2 : a ≤ 9223372036854775807) : Lib.atoiAll (dgs a) = .ok a := by
  obtain ⟨c, r, e, hc⟩ := dgs_cons a
  have hd := (dgs_all a).1
  have hv := dgs_dv h
  rw [e] at hd hv ⊢
  have hc' : 48 ≤ c.toNat ∧ c.toNat ≤ 57 := by simpa [isDig] using hc
  have hp : Lib.parseMag (c :: r) = .ok (dv (c :: r)) := by
    unfold Lib.parseMag
    rw [if_neg (by simp)]
    exact parseUint10_dv _ 0 hd (by change dv (c :: r) < _; omega)
  unfold Lib.atoiAll
  dsimp only
  rw [if_neg (show ¬ (c.toNat = 43 ∨ c.toNat = 45) by omega), hp]
  dsimp only
  rw [if_neg (by omega), if_neg (by omega), if_neg (by omega), hv]
theorem parseIntB_sgn {v : Int} (h1 : -1152921504606846976 ≤ v) (h2 : v ≤ 1152921504606846976) : Lib.parseIntB 64 (sgn v) = .ok v := by
  have hne : ∀ a : Int, dgs a ≠ [] := fun a e => by have := (dgs_all a).2; rw [e] at this; simp at this
  have hu : ∀ a : Int, 0 ≤ a → a ≤ 1152921504606846976 → Lib.parseUintB 64 (dgs a) = .ok a.toNat := fun a ha hb => by
    unfold Lib.parseUintB
    rw [if_neg (hne a)]
    have hv := dgs_dv ha
    have := parseUintM_dv (dgs a) 0 (dgs_all a).1 (by change dv (dgs a) ≤ _; omega)
    have e : (2 : Nat) ^ 64 - 1 = 18446744073709551615 := by decide
    rw [e, this]
    congr 1
    change dv (dgs a) = _
    omega
  have p63 : (2 : Nat) ^ (64 - 1) = 9223372036854775808 := by decide
  have c43 : (43 : UInt8).toNat = 43 := by decide
  have c45 : (45 : UInt8).toNat = 45 := by decide
  unfold sgn
  split
  · have e := hu v (by omega) (by omega)
    unfold Lib.parseIntB
    dsimp only
    rw [if_pos (Or.inl c43), e]
    dsimp only
    rw [if_neg (by rw [p63]; omega), if_neg (by omega), if_neg (by omega)]
    congr 1; omega
  · have e := hu (-v) (by omega) (by omega)
    unfold Lib.parseIntB
    dsimp only
    rw [if_pos (Or.inr c45), e]
    dsimp only
    rw [if_neg (by omega), if_neg (by rw [p63]; omega), if_pos c45]
    congr 1; omega

/-- How a word is cut at its sign. -/
def isSg (c : UInt8) : Bool := c == 43 || c == 45
def cutAt (w : List UInt8) : Nat := (w.takeWhile (fun c => !isSg c)).length
theorem cutAt_spW {p : Sp} (h : stOk p = true) : cutAt (spW p) = p.k.data.toList.length ∧ (spW p).take p.k.data.toList.length = p.k.data.toList ∧ (spW p).drop p.k.data.toList.length = sgn p.v := by
  refine ⟨?_, by unfold spW; simp, by unfold spW; simp⟩
  unfold cutAt spW
  have hk : p.k.data.toList.all (fun c => !isSg c) = true := by
    rw [List.all_eq_true]
    intro c hc
    have := nmB_ne (isName_mem (stOk_parts h).1 hc)
    simp [isSg, this.2.1, this.2.2.1]
  obtain ⟨x, r, hx, hs⟩ : ∃ x r, sgn p.v = x :: r ∧ isSg x = true := by
    unfold sgn; split
    · exact ⟨43, _, rfl, rfl⟩
    · exact ⟨45, _, rfl, rfl⟩
  rw [hx]
  have : ∀ l : List UInt8, l.all (fun c => !isSg c) = true → (l ++ x :: r).takeWhile (fun c => !isSg c) = l := by
    intro l
    induction l with
    | nil => intro _; simp [hs]
    | cons a l ih => intro ha; simp only [List.all_cons, Bool.and_eq_true] at ha; simp [ha.1, ih ha.2]
  rw [this _ hk]

/-- What the program's steps makes of a word, if all its bytes are ASCII. -/
def pStep (w : List UInt8) : Sp :=
  if cutAt w = w.length then ⟨⟨#[]⟩, 0⟩
  else match Lib.parseIntB 64 (w.drop (cutAt w)) with
    | .ok v => ⟨⟨(w.take (cutAt w)).toArray⟩, v⟩
    | _ => ⟨⟨#[]⟩, 0⟩
theorem sgn_ne (v : Int) : sgn v ≠ [] := by unfold sgn; split <;> simp
theorem pStep_spW {p : Sp} (h : stOk p = true) : pStep (spW p) = p := by
  obtain ⟨h1, h2, h3⟩ := cutAt_spW h
  obtain ⟨_, _, h5, h6⟩ := stOk_parts h
  have hl : ¬ cutAt (spW p) = (spW p).length := by
    rw [h1]
    have : (spW p).length = p.k.data.toList.length + (sgn p.v).length := by unfold spW; simp
    have := List.length_pos_iff.2 (sgn_ne p.v)
    omega
  unfold pStep
  rw [if_neg hl, h1, h2, h3, parseIntB_sgn h5 h6]
/-- What steps makes of a word, whatever its bytes are. -/
def StepRel (w : List UInt8) (p : Sp) : Prop := (∀ c ∈ w, c.toNat < 128) → p = pStep w
def StepsRel (ws : List (List UInt8)) (l : List Sp) : Prop := l.length = ws.length ∧ ∀ (i : Nat) w p, ws[i]? = some w → l[i]? = some p → StepRel w p
theorem steps_rel {s l : List Sp} (ho : ∀ p ∈ s, stOk p = true) (h : StepsRel (s.map spW) l) : l = s := by
  apply List.ext_getElem?
  intro i
  cases hs : s[i]? with
  | none =>
    rw [List.getElem?_eq_none_iff] at hs ⊢
    have := h.1; rw [List.length_map] at this; omega
  | some p =>
    have hi := (List.getElem?_eq_some_iff.1 hs).1
    have hl : i < l.length := by have := h.1; rw [List.length_map] at this; omega
    have hq := List.getElem?_eq_getElem hl
    generalize l[i] = q at hq
    have hp := ho p (List.mem_of_getElem? hs)
    have hw : (s.map spW)[i]? = some (spW p) := by rw [List.getElem?_map, hs]; rfl
    rw [hq, h.2 i _ q hw hq (fun c hc => (spW_mem hp hc).2), pStep_spW hp]

/-- The reference's words, and its numbers. -/
def wGo (cur : List UInt8) : List UInt8 → List (List UInt8)
  | [] => [cur]
  | c :: l => if c = 32 then cur :: wGo [] l else wGo (cur ++ [c]) l
def wordsR (s : List UInt8) : List (List UInt8) := (wGo [] s).take 20
theorem wGo_word : ∀ {w : List UInt8} (cur r : List UInt8), (32 : UInt8) ∉ w → wGo cur (w ++ 32 :: r) = (cur ++ w) :: wGo [] r
  | [], cur, r, _ => by simp [wGo]
  | a :: w, cur, r, h => by
    have h1 : ¬ a = 32 := fun e => h (by simp [e])
    have h2 := wGo_word (w := w) (cur ++ [a]) r (fun e => h (List.mem_cons_of_mem _ e))
    show wGo cur (a :: (w ++ 32 :: r)) = _
    rw [wGo, if_neg h1, h2]
    simp
theorem wGo_last : ∀ {w : List UInt8} (cur : List UInt8), (32 : UInt8) ∉ w → wGo cur w = [cur ++ w]
  | [], cur, _ => by simp [wGo]
  | a :: w, cur, h => by
    have h1 : ¬ a = 32 := fun e => h (by simp [e])
    have h2 := wGo_last (w := w) (cur ++ [a]) (fun e => h (List.mem_cons_of_mem _ e))
    rw [wGo, if_neg h1, h2]
    simp
theorem wGo_join : ∀ (ws : List (List UInt8)), ws ≠ [] → (∀ w ∈ ws, (32 : UInt8) ∉ w) → wGo [] (joinW ws) = ws
  | [], h, _ => absurd rfl h
  | [a], _, h => by rw [joinW, wGo_last [] (h a (by simp))]; rfl
  | a :: b :: l, _, h => by
    rw [joinW, wGo_word [] _ (h a (by simp)), wGo_join (b :: l) (by simp) (fun w hw => h w (by simp only [List.mem_cons] at hw ⊢; exact Or.inr hw))]
    rfl
theorem wordsR_text {d : Dv} (h : defOk d) : wordsR (textD d) = wordsD d := by
  unfold wordsR textD
  rw [wGo_join _ (by simp [wordsD]) (fun w hw => wordsD_no h hw)]
  have h2 := wordsD_len d
  have h3 := h.2.2.2.2.2.2.1
  exact List.take_of_length_le (by omega)
def numGo (n : Nat) : List UInt8 → Nat
  | [] => n
  | c :: l => if n ≤ 115292150460684697 then (if isDig c then numGo (10 * n + (c.toNat - 48)) l else numGo n l) else n
def numR (l : List UInt8) : Nat := numGo 0 l
theorem numGo_dv : ∀ (ds : List UInt8) (acc : Nat), ds.all isDig = true → dvF acc ds ≤ 1152921504606846976 → numGo acc ds = dvF acc ds
  | [], _, _, _ => rfl
  | c :: r, acc, h, hv => by
    simp only [List.all_cons, Bool.and_eq_true] at h
    have hge : ∀ (l : List UInt8) (a : Nat), a ≤ dvF a l := by
      intro l
      induction l with
      | nil => intro a; exact Nat.le_refl _
      | cons x l ih => intro a; exact Nat.le_trans (by omega) (ih (a * 10 + (x.toNat - 48)))
    have e : dvF acc (c :: r) = dvF (acc * 10 + (c.toNat - 48)) r := rfl
    rw [e] at hv ⊢
    have := hge r (acc * 10 + (c.toNat - 48))
    rw [numGo, if_pos (by omega), if_pos h.1, Nat.mul_comm 10]
    exact numGo_dv r _ h.2 hv
theorem numR_dgs {a : Int} (h : 0 ≤ a) (h2 : a ≤ 1152921504606846976) : (numR (dgs a) : Int) = a := by
  have hv := dgs_dv h
  have := numGo_dv (dgs a) 0 (dgs_all a).1 (by change dv (dgs a) ≤ _; omega)
  unfold numR
  rw [this]
  exact hv
/-- What the reference makes of a word that has a sign. -/
def rStep (w : List UInt8) : Sp :=
  ⟨⟨(w.take (cutAt w)).toArray⟩, if w[cutAt w]? = some 45 then -(numR (w.drop (cutAt w + 1)) : Int) else numR (w.drop (cutAt w + 1))⟩
theorem rStep_spW {p : Sp} (h : stOk p = true) : cutAt (spW p) < (spW p).length ∧ rStep (spW p) = p := by
  obtain ⟨h1, h2, h3⟩ := cutAt_spW h
  obtain ⟨_, h4, h5, h6⟩ := stOk_parts h
  have hs := List.length_pos_iff.2 (sgn_ne p.v)
  have hl : (spW p).length = p.k.data.toList.length + (sgn p.v).length := by unfold spW; simp
  refine ⟨by omega, ?_⟩
  have hd : (spW p).drop (p.k.data.toList.length + 1) = (sgn p.v).drop 1 := by rw [← h3, List.drop_drop]
  have hg : (spW p)[p.k.data.toList.length]? = (sgn p.v)[0]? := by rw [← h3, List.getElem?_drop, Nat.add_zero]
  unfold rStep
  rw [h1, h2, hd, hg]
  obtain ⟨k, v⟩ := p
  simp only [Sp.mk.injEq, true_and]
  dsimp only at h4 h5 h6
  unfold sgn
  split
  · have := numR_dgs (a := v) (by omega) (by omega)
    simp [this]
  · have := numR_dgs (a := -v) (by omega) (by omega)
    simp [this]
/-- What reading a text answers. -/
def ParR (s : List UInt8) (d : Dv) (e : Int) : Prop := (e = 0 ∧ defOk d ∧ textD d = s) ∨ (e = 10 ∧ d = zeroD ∧ ∀ d0, defOk d0 → textD d0 ≠ s)
theorem sgn_inj {a b : Int} (ha1 : -1152921504606846976 ≤ a) (ha2 : a ≤ 1152921504606846976) (hb1 : -1152921504606846976 ≤ b) (hb2 : b ≤ 1152921504606846976) (h : sgn a = sgn b) : a = b := by
  have h1 := parseIntB_sgn ha1 ha2
  rw [h, parseIntB_sgn hb1 hb2] at h1
  injection h1 with h1
  exact h1.symm
theorem textD_inj {d d' : Dv} (h : defOk d) (h' : defOk d') (e : textD d = textD d') : d = d' := by
  have hw : wordsD d = wordsD d' := by rw [← wordsR_text h, e, wordsR_text h']
  unfold wordsD at hw
  simp only [List.cons.injEq] at hw
  obtain ⟨h1, h2, h3, h4⟩ := hw
  have e2 := atoiAll_dgs h.2.1 (by have := h.2.2.1; omega)
  rw [h2, atoiAll_dgs h'.2.1 (by have := h'.2.2.1; omega)] at e2
  have e3 := atoiAll_dgs h.2.2.2.1 (by have := h.2.2.2.2.1; omega)
  rw [h3, atoiAll_dgs h'.2.2.2.1 (by have := h'.2.2.2.2.1; omega)] at e3
  have e4 : d.s = d'.s := by
    have a : (d.s.map spW).map pStep = d.s := by
      rw [List.map_map]
      conv => rhs; rw [← List.map_id d.s]
      exact List.map_congr_left fun p hp => pStep_spW (h.2.2.2.2.2.2.2.all hp)
    have b : (d'.s.map spW).map pStep = d'.s := by
      rw [List.map_map]
      conv => rhs; rw [← List.map_id d'.s]
      exact List.map_congr_left fun p hp => pStep_spW (h'.2.2.2.2.2.2.2.all hp)
    rw [← a, h4, b]
  injection e2 with e2
  injection e3 with e3
  obtain ⟨n, r, dl, s⟩ := d
  obtain ⟨n', r', dl', s'⟩ := d'
  dsimp only at h1 e2 e3 e4
  have e1 : n = n' := by rw [← ba_eta n, h1, ba_eta]
  rw [e1, e2, e3, e4]
theorem ParR.same {b : List UInt8} {d d' : Dv} {e e' : Int} (h : ParR b d e) (h' : ParR b d' e') : d = d' ∧ e = e' := by
  rcases h with ⟨rfl, h1, h2⟩ | ⟨rfl, rfl, h2⟩ <;> rcases h' with ⟨rfl, h3, h4⟩ | ⟨rfl, rfl, h4⟩
  · exact ⟨textD_inj h1 h3 (h2.trans h4.symm), rfl⟩
  · exact absurd h2 (h4 d h1)
  · exact absurd h4 (h2 d' h3)
  · exact ⟨rfl, rfl⟩
end
section

def kLt (a b : Sp) : Bool := Op.bytesLess a.k.toList b.k.toList
theorem kLt_irr (a : Sp) : kLt a a = false := bl_irr _
theorem kLt_trans {a b c : Sp} (h : kLt a b = true) (h' : kLt b c = true) : kLt a c = true := bl_trans h h'
theorem ba_toList {a b : ByteArray} (h : a.toList = b.toList) : a = b := by
  rw [ByteArray.toList_eq, ByteArray.toList_eq] at h
  rw [← ba_eta a, h, ba_eta]
theorem kLt_tot {a b : Sp} (h : kLt a b = false) (h' : kLt b a = false) : a.k = b.k := ba_toList (bl_tot h h')
/-- Steps whose keys differ from each other. -/
def KeysD (s : List Sp) : Prop := s.Pairwise (fun a b => a.k ≠ b.k)
theorem StepsOk.keys {s : List Sp} (h : StepsOk s) : KeysD s := by
  unfold KeysD
  rw [List.pairwise_iff_getElem]
  intro i j hi hj hij
  exact (h j _ (List.getElem?_eq_getElem hj)).2 i _ hij (List.getElem?_eq_getElem hi)
theorem steps_of {s : List Sp} (h1 : ∀ p ∈ s, stOk p = true) (h2 : KeysD s) : StepsOk s := by
  unfold KeysD at h2
  rw [List.pairwise_iff_getElem] at h2
  intro i p hp
  refine ⟨h1 p (List.mem_of_getElem? hp), fun j q hji hq => ?_⟩
  obtain ⟨hi, rfl⟩ := List.getElem?_eq_some_iff.1 hp
  obtain ⟨hj, rfl⟩ := List.getElem?_eq_some_iff.1 hq
  exact h2 j i hj hi hji
theorem KeysD.perm {s l : List Sp} (h : KeysD s) (hp : l.Perm s) : KeysD l := (hp.pairwise_iff (fun {_ _} e => Ne.symm e)).2 h
theorem StepsOk.perm {s l : List Sp} (h : StepsOk s) (hp : l.Perm s) : StepsOk l :=
  steps_of (fun _ hm => h.all (hp.mem_iff.1 hm)) (h.keys.perm hp)

/-- The steps in the order of their keys. -/
def srtD (s : List Sp) : List Sp := s.mergeSort (fun x y => !kLt y x)
theorem asc_of {l : List Sp} (hk : KeysD l) (h : l.Pairwise (fun a b => kLt b a = false)) : l.Pairwise (fun a b => kLt a b = true) := by
  refine (List.Pairwise.and h hk).imp ?_
  rintro a b ⟨h1, h2⟩
  cases h3 : kLt a b with
  | true => rfl
  | false => exact absurd (kLt_tot h3 h1) h2
theorem srtD_perm (s : List Sp) : (srtD s).Perm s := List.mergeSort_perm _ _
theorem srtD_weak (s : List Sp) : (srtD s).Pairwise (fun a b => kLt b a = false) := by
  have h := List.pairwise_mergeSort (le := fun x y : Sp => !kLt y x) (fun a b c h1 h2 => by
    simp only [Bool.not_eq_eq_eq_not, Bool.not_true] at h1 h2 ⊢
    cases h3 : kLt c a with
    | false => rfl
    | true =>
      exfalso
      cases h4 : kLt a b with
      | true => have := kLt_trans h3 h4; rw [h2] at this; cases this
      | false =>
        have e := kLt_tot h4 h1
        unfold kLt at h3 h2
        rw [e, h2] at h3; cases h3) (fun a b => by
    simp only [Bool.or_eq_true, Bool.not_eq_eq_eq_not, Bool.not_true]
    cases h3 : kLt b a with
    | false => exact Or.inl rfl
    | true =>
      refine Or.inr ?_
      cases h4 : kLt a b with
      | false => rfl
      | true => have := kLt_trans h3 h4; rw [kLt_irr] at this; cases this) s
  refine List.Pairwise.imp ?_ h
  intro a b hab
  simpa using hab
theorem srtD_eq {s l : List Sp} (hk : KeysD s) (hp : l.Perm s) (h : l.Pairwise (fun a b => kLt b a = false)) : l = srtD s := by
  have h1 := asc_of (hk.perm hp) h
  have h2 := asc_of (hk.perm (srtD_perm s)) (srtD_weak s)
  exact List.Perm.eq_of_pairwise (fun a b _ _ hab hba => by have := kLt_trans hab hba; rw [kLt_irr] at this; cases this) h1 h2 (hp.trans (srtD_perm s).symm)
theorem srtD_same {s l : List Sp} (hk : KeysD s) (hp : l.Perm s) : srtD l = srtD s := srtD_eq hk ((srtD_perm l).trans hp) (srtD_weak l)
theorem srtD_asc {s : List Sp} (hk : KeysD s) {i : Nat} {a b : Sp} (ha : (srtD s)[i]? = some a) (hb : (srtD s)[i + 1]? = some b) : kLt a b = true := by
  have h := List.pairwise_iff_getElem.1 (asc_of (hk.perm (srtD_perm s)) (srtD_weak s))
  obtain ⟨hi, rfl⟩ := List.getElem?_eq_some_iff.1 ha
  obtain ⟨hj, rfl⟩ := List.getElem?_eq_some_iff.1 hb
  exact h i (i + 1) hi hj (by omega)
theorem srtD_len (s : List Sp) : (srtD s).length = s.length := (srtD_perm s).length_eq

/-- Steps that are turned. -/
def rotD (k : Nat) (s : List Sp) : List Sp := s.drop k ++ s.take k
theorem rotD_perm (k : Nat) (s : List Sp) : (rotD k s).Perm s := by
  unfold rotD
  exact List.perm_append_comm.trans (by rw [List.take_append_drop])
theorem rotD_zero (s : List Sp) : rotD 0 s = s := by simp [rotD]
theorem rotD_ne {k : Nat} {s : List Sp} (hk : KeysD s) (h0 : 0 < k) (hl : k < s.length) : rotD k s ≠ s := by
  intro e
  have h1 : (rotD k s)[0]? = s[k]? := by unfold rotD; rw [List.getElem?_append_left (by rw [List.length_drop]; omega), List.getElem?_drop, Nat.add_zero]
  rw [e] at h1
  have h2 := List.pairwise_iff_getElem.1 hk 0 k (by omega) hl h0
  rw [List.getElem?_eq_getElem (by omega), List.getElem?_eq_getElem hl] at h1
  exact h2 (by rw [Option.some.inj h1])
end
section

/-- The number that seven bits of each byte make. -/
def valR : List UInt8 → Nat
  | [] => 0
  | c :: l => c.toNat % 128 + 128 * valR l
theorem valR_app : ∀ (l m : List UInt8), valR (l ++ m) = valR l + 128 ^ l.length * valR m
  | [], m => by simp [valR]
  | c :: l, m => by
    show c.toNat % 128 + 128 * valR (l ++ m) = _
    rw [valR_app l m, List.length_cons, Nat.pow_succ, valR, Nat.mul_add, ← Nat.mul_assoc, Nat.mul_comm 128 (128 ^ l.length)]
    omega
theorem valR_take {l : List UInt8} {k : Nat} {c : UInt8} (h : l[k]? = some c) : valR (l.take (k + 1)) = valR (l.take k) + c.toNat % 128 * 128 ^ k := by
  have hk : k < l.length := (List.getElem?_eq_some_iff.1 h).1
  rw [List.take_add_one, h, valR_app]
  have : (l.take k).length = k := by rw [List.length_take]; omega
  rw [this]
  simp [valR, Nat.mul_comm]
theorem valR_uvB : ∀ n : Nat, valR (uvB n) = n := by
  intro n
  induction n using Nat.strongRecOn with
  | ind n ih =>
    by_cases h : n < 128
    · rw [uvB_lt h]; simp only [valR]; rw [u8_lt (by omega)]; omega
    · rw [uvB_ge (by omega), valR, ih (n / 128) (by omega), u8_lt (by omega)]; omega
/-- All bytes of a number but the last one are at least 128. -/
theorem uvB_shape : ∀ n : Nat, ∃ a c, uvB n = a ++ [c] ∧ c.toNat < 128 ∧ ∀ x ∈ a, 128 ≤ x.toNat := by
  intro n
  induction n using Nat.strongRecOn with
  | ind n ih =>
    by_cases h : n < 128
    · exact ⟨[], n.toUInt8, by rw [uvB_lt h]; rfl, by rw [u8_lt (by omega)]; exact h, fun x hx => by cases hx⟩
    · obtain ⟨a, c, h1, h2, h3⟩ := ih (n / 128) (by omega)
      refine ⟨(n % 128 + 128).toUInt8 :: a, c, by rw [uvB_ge (by omega), h1]; rfl, h2, fun x hx => ?_⟩
      rcases List.mem_cons.1 hx with rfl | hx
      · rw [u8_lt (by omega)]; omega
      · exact h3 x hx
/-- Where the first byte below 128 stands. -/
theorem uvR_at {l : List UInt8} {v k : Nat} (h : uvR l = some (v, k)) : ∃ c, l[k - 1]? = some c ∧ c.toNat < 128 ∧ (∀ (j : Nat) x, j < k - 1 → l[j]? = some x → 128 ≤ x.toNat) ∧ valR (l.take k) = v ∧ l.take k = uvB v ∧ 0 < k ∧ k ≤ 10 := by
  obtain ⟨h1, h2, h3⟩ := uvR_dec h
  obtain ⟨a, c, e, hc, ha⟩ := uvB_shape v
  have hk : k = a.length + 1 := by rw [h2, e]; simp
  have ht : l.take k = uvB v := by
    rw [h3, h2, List.take_left]
  have hl : l = a ++ c :: l.drop k := by
    have := h3
    rw [e, List.append_assoc] at this
    exact this
  refine ⟨c, ?_, hc, fun j x hj hx => ?_, by rw [ht, valR_uvB], ht, by omega, by rw [h2]; exact uvB_len10 h1⟩
  · rw [hl, List.getElem?_append_right (by omega), show k - 1 - a.length = 0 by omega]
    rfl
  · rw [hl, List.getElem?_append_left (by omega)] at hx
    exact ha x (List.mem_of_getElem? hx)
theorem ref_hit {l : List UInt8} {k v : Nat} {c : UInt8} (hall : ∀ (j : Nat) x, j < k → l[j]? = some x → 128 ≤ x.toNat) (hc : l[k]? = some c) (h128 : c.toNat < 128) (hv : v = valR (l.take (k + 1)) % 2 ^ 64) :
    (uvB v = l.take (k + 1) → uvR l = some (v, k + 1)) ∧ (uvB v ≠ l.take (k + 1) → uvR l = none) := by
  have hk : k < l.length := (List.getElem?_eq_some_iff.1 hc).1
  have hvl : v < 2 ^ 64 := by rw [hv]; exact Nat.mod_lt _ (Nat.pow_pos (by decide))
  refine ⟨fun h => ?_, fun h => ?_⟩
  · have := uvR_enc hvl (l.drop (k + 1))
    rw [h, List.take_append_drop, List.length_take, Nat.min_eq_left (by omega)] at this
    exact this
  · cases hu : uvR l with
    | none => rfl
    | some p =>
      exfalso
      obtain ⟨v', k'⟩ := p
      obtain ⟨c', h1, h2, h3, h4, h5, h6, _⟩ := uvR_at hu
      have e : k' = k + 1 := by
        rcases Nat.lt_trichotomy (k' - 1) k with h7 | h7 | h7
        · have := hall _ _ h7 h1; omega
        · omega
        · have := h3 k c h7 hc; omega
      subst e
      have hvv := (uvR_dec hu).1
      rw [h4, Nat.mod_eq_of_lt hvv] at hv
      rw [hv] at h
      exact h h5.symm
theorem ref_miss {l : List UInt8} {k : Nat} (hall : ∀ (j : Nat) x, j < k → l[j]? = some x → 128 ≤ x.toNat) (hk : k = l.length ∨ k = 10) : uvR l = none := by
  cases hu : uvR l with
  | none => rfl
  | some p =>
    exfalso
    obtain ⟨v', k'⟩ := p
    obtain ⟨c', h1, h2, h3, h4, h5, h6, h7⟩ := uvR_at hu
    have hlt : k' - 1 < l.length := (List.getElem?_eq_some_iff.1 h1).1
    have := hall (k' - 1) c' (by omega) h1
    omega
end
end Go.Proofs.YtgeljnjcpkmlmaaGreatDoor
