/- Plain words and laws: how texts of effects and items are read, and that just the texts of what is valid are read, as what they are the texts of. No condition. -/
import Derived.Test.YtgeljnjcpkmlmaaGreatDoorPlText
import Derived.Lib.Strings
import Derived.Lib.Bytealg
import Derived.Lib.Atoi
namespace Go.Proofs.YtgeljnjcpkmlmaaGreatDoor

def isDig (c : UInt8) : Bool := decide (48 ≤ c.toNat) && decide (c.toNat ≤ 57)
/-- The value of a row of digits. -/
def dvF (acc : Nat) (ds : List UInt8) : Nat := ds.foldl (fun a c => a * 10 + (c.toNat - 48)) acc
def dv (ds : List UInt8) : Nat := dvF 0 ds
/-- May a row of digits stand as a number? -/
def numOk (ds : List UInt8) : Bool := decide (1 ≤ ds.length) && (decide (ds.length ≤ 4) && !(decide (1 < ds.length) && decide (ds.head? = some 48)))
def lead (l : List UInt8) : List UInt8 := l.takeWhile isDig

theorem dvF_append (acc : Nat) (a b : List UInt8) : dvF acc (a ++ b) = dvF (dvF acc a) b := by simp [dvF]
theorem dv_snoc (a : List UInt8) (c : UInt8) : dv (a ++ [c]) = dv a * 10 + (c.toNat - 48) := by unfold dv; rw [dvF_append]; rfl

theorem decFrom_dvF : ∀ (ds : List UInt8) (acc : Nat), ds.all isDig = true → Lib.decFrom acc ds = some (dvF acc ds)
  | [], _, _ => rfl
  | c :: r, acc, h => by
    simp only [List.all_cons, Bool.and_eq_true] at h
    have hc : 48 ≤ c.toNat ∧ c.toNat ≤ 57 := by simpa [isDig] using h.1
    unfold Lib.decFrom Lib.digitVal
    rw [if_pos hc]
    exact decFrom_dvF r _ h.2
theorem atoi_dv {ds : List UInt8} (hne : ds ≠ []) (h : ds.all isDig = true) : Lib.atoi ds = some (dv ds : Int) := by
  cases ds with
  | nil => exact absurd rfl hne
  | cons c r =>
    have hc : 48 ≤ c.toNat ∧ c.toNat ≤ 57 := by
      simp only [List.all_cons, Bool.and_eq_true] at h
      simpa [isDig] using h.1
    have h45 : (c == 45) = false := by
      rw [beq_eq_false_iff_ne]; rintro rfl; simp at hc
    have h43 : (c == 43) = false := by
      rw [beq_eq_false_iff_ne]; rintro rfl; simp at hc
    unfold Lib.atoi
    simp only [h45, h43, Bool.false_eq_true, if_false]
    unfold Lib.decNat
    rw [if_neg (by simp), decFrom_dvF _ _ h]
    rfl

theorem digit_ofNat {k : Nat} (h : k < 10) : isDig (UInt8.ofNat (48 + k)) = true ∧ (UInt8.ofNat (48 + k)).toNat = 48 + k := by
  have e : (UInt8.ofNat (48 + k)).toNat = 48 + k := by simp; omega
  refine ⟨?_, e⟩
  unfold isDig
  rw [e]
  simp; omega
theorem ofNat_digit {c : UInt8} (h : isDig c = true) : UInt8.ofNat (48 + (c.toNat - 48)) = c := by
  have hc : 48 ≤ c.toNat ∧ c.toNat ≤ 57 := by simpa [isDig] using h
  rw [show 48 + (c.toNat - 48) = c.toNat by omega]
  simp

/-- What decDigits writes: digits, no zero ahead, of that value. -/
theorem decDigits_spec (n : Nat) : (Lib.decDigits n).all isDig = true ∧ dv (Lib.decDigits n) = n ∧ 1 ≤ (Lib.decDigits n).length ∧ ((Lib.decDigits n).head? = some 48 → n = 0) := by
  induction n using Nat.strongRecOn with
  | _ n ih =>
    by_cases h : n < 10
    · rw [Lib.decDigits_one h]
      obtain ⟨h1, h2⟩ := digit_ofNat h
      generalize UInt8.ofNat (48 + n) = c at h1 h2 ⊢
      refine ⟨by simp [h1], by simp [dv, dvF]; omega, by simp, fun h3 => ?_⟩
      simp at h3
      subst h3
      simp at h2
      omega
    · obtain ⟨i1, i2, i3, i4⟩ := ih (n / 10) (by omega)
      obtain ⟨h1, h2⟩ := digit_ofNat (show n % 10 < 10 by omega)
      rw [Lib.decDigits, dif_neg h]
      generalize UInt8.ofNat (48 + n % 10) = c at h1 h2 ⊢
      refine ⟨by simp [i1, h1], by rw [dv_snoc, i2, h2]; omega, by simp, fun h3 => ?_⟩
      have : (Lib.decDigits (n / 10)).head? = some 48 := by
        cases e : Lib.decDigits (n / 10) with
        | nil => rw [e] at i3; simp at i3
        | cons x y => rw [e] at h3; simpa using h3
      have := i4 this
      omega

/-- A row of digits without a zero ahead is what decDigits writes of its value. -/
theorem decDigits_dv : ∀ (k : Nat) (ds : List UInt8), ds.length = k + 1 → ds.all isDig = true → (1 < ds.length → ds.head? ≠ some 48) → Lib.decDigits (dv ds) = ds ∧ (ds.head? ≠ some 48 → 1 ≤ dv ds)
  | 0, ds, hl, hd, _ => by
    match ds, hl with
    | [c], _ =>
      simp only [List.all_cons, List.all_nil, Bool.and_true] at hd
      have hc : 48 ≤ c.toNat ∧ c.toNat ≤ 57 := by simpa [isDig] using hd
      have hv : dv [c] = c.toNat - 48 := by simp [dv, dvF]
      refine ⟨?_, fun hn => ?_⟩
      · rw [hv, Lib.decDigits_one (by omega), ofNat_digit hd]
      · rw [hv]
        rcases Nat.eq_or_lt_of_le hc.1 with e | e
        · exact absurd (by simp; exact UInt8.toNat_inj.1 (by simpa using e.symm)) hn
        · omega
  | k + 1, ds, hl, hd, hz => by
    obtain ⟨a, c, rfl⟩ : ∃ a c, ds = a ++ [c] := ⟨ds.dropLast, ds.getLast (by intro h; simp [h] at hl), (List.dropLast_concat_getLast _).symm⟩
    simp at hl
    simp only [List.all_append, List.all_cons, List.all_nil, Bool.and_true, Bool.and_eq_true] at hd
    have hne : a ≠ [] := by intro h; simp [h] at hl
    have hh : (a ++ [c]).head? = a.head? := by cases a with | nil => exact absurd rfl hne | cons x y => rfl
    have hz' : a.head? ≠ some 48 := by rw [← hh]; exact hz (by simp; omega)
    obtain ⟨i1, i2⟩ := decDigits_dv k a (by omega) hd.1 (fun _ => hz')
    have hp := i2 hz'
    have hc : 48 ≤ c.toNat ∧ c.toNat ≤ 57 := by simpa [isDig] using hd.2
    rw [dv_snoc]
    refine ⟨?_, fun _ => by omega⟩
    rw [Lib.decDigits, dif_neg (by omega), show (dv a * 10 + (c.toNat - 48)) / 10 = dv a by omega, show (dv a * 10 + (c.toNat - 48)) % 10 = c.toNat - 48 by omega, i1, ofNat_digit hd.2]

theorem dv_lt : ∀ (ds : List UInt8) (acc : Nat), ds.all isDig = true → dvF acc ds < (acc + 1) * 10 ^ ds.length
  | [], acc, _ => by simp [dvF]
  | c :: r, acc, h => by
    simp only [List.all_cons, Bool.and_eq_true] at h
    have hc : 48 ≤ c.toNat ∧ c.toNat ≤ 57 := by simpa [isDig] using h.1
    have := dv_lt r (acc * 10 + (c.toNat - 48)) h.2
    show dvF (acc * 10 + (c.toNat - 48)) r < _
    refine Nat.lt_of_lt_of_le this ?_
    simp only [List.length_cons, Nat.pow_succ]
    calc (acc * 10 + (c.toNat - 48) + 1) * 10 ^ r.length ≤ ((acc + 1) * 10) * 10 ^ r.length := Nat.mul_le_mul_right _ (by omega)
      _ = (acc + 1) * (10 ^ r.length * 10) := by rw [Nat.mul_assoc, Nat.mul_comm 10]

theorem numOk_dgs {n : Int} (h0 : 0 ≤ n) (h : n ≤ 9999) : numOk (dgs n) = true ∧ (dgs n).all isDig = true ∧ (dv (dgs n) : Int) = n := by
  unfold dgs
  obtain ⟨h1, h2, h3, h4⟩ := decDigits_spec n.toNat
  refine ⟨?_, h1, by rw [h2]; omega⟩
  unfold numOk
  have hlen : (Lib.decDigits n.toNat).length ≤ 4 := by
    rw [Lib.decDigits_length]
    by_cases a : n.toNat < 10
    · rw [Lib.nDigits_small a]; omega
    rw [Lib.nDigits_big a]
    by_cases b : n.toNat / 10 < 10
    · rw [Lib.nDigits_small b]; omega
    rw [Lib.nDigits_big b]
    by_cases c : n.toNat / 10 / 10 < 10
    · rw [Lib.nDigits_small c]; omega
    rw [Lib.nDigits_big c, Lib.nDigits_small (by omega)]; omega
  have hz : (decide (1 < (Lib.decDigits n.toNat).length) && decide ((Lib.decDigits n.toNat).head? = some 48)) = false := by
    by_cases e : (Lib.decDigits n.toNat).head? = some 48
    · have := h4 e
      rw [this, Lib.decDigits_one (by omega)]
      simp
    · simp [e]
  rw [hz]
  simp [h3, hlen]
theorem dgs_numOk {ds : List UInt8} (hd : ds.all isDig = true) (h : numOk ds = true) : dgs (dv ds) = ds ∧ (dv ds : Int) ≤ 9999 := by
  unfold numOk at h
  simp only [Bool.and_eq_true, decide_eq_true_eq, Bool.not_eq_true', Bool.and_eq_false_iff, decide_eq_false_iff_not] at h
  obtain ⟨h1, h2, h3⟩ := h
  refine ⟨?_, ?_⟩
  · unfold dgs
    simp only [Int.toNat_natCast]
    exact (decDigits_dv (ds.length - 1) ds (by omega) hd (fun hl he => by rcases h3 with h3 | h3; exact h3 hl; exact h3 he)).1
  · have := dv_lt ds 0 hd
    have hp : 10 ^ ds.length ≤ 10 ^ 4 := Nat.pow_le_pow_right (by omega) h2
    unfold dv
    simp at this hp
    omega
end Go.Proofs.YtgeljnjcpkmlmaaGreatDoor
