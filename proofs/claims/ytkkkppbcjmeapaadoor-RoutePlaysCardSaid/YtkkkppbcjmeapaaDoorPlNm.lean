/- The 64 names of the statements of routes, in order; the ends of a move by numbers. No condition. -/
import Derived.Test.YtkkkppbcjmeapaaDoorPlMv
import Derived.ProofKit
namespace Go.Proofs.YtkkkppbcjmeapaaDoor

/-- The key of a number. -/
def nmS (n : Nat) : ByteArray := ⟨#[UInt8.ofNat (97 + n % 64 / 4), UInt8.ofNat (48 + n % 4)]⟩
/-- The key of a number, and a 5 behind it. -/
def nm5 (n : Nat) : ByteArray := ⟨#[UInt8.ofNat (97 + n % 64 / 4), UInt8.ofNat (48 + n % 4), 53]⟩
theorem nmS_mod (n : Nat) : nmS (n % 64) = nmS n := by
  unfold nmS
  rw [show n % 64 % 64 = n % 64 by omega, show n % 64 % 4 = n % 4 by omega]
theorem toL (x : ByteArray) : x.toList = x.data.toList := ByteArray.toList_eq ..
theorem range_all {n : Nat} {p : Nat → Bool} (h : (List.range n).all p = true) {k : Nat} (hk : k < n) : p k = true := (List.all_eq_true.1 h) k (List.mem_range.2 hk)
theorem nm_lt_aux : ((List.range 64).all fun a => (List.range 64).all fun b => Op.bytesLess (nmS a).data.toList (nmS b).data.toList == decide (a < b)) = true := by kernel_rfl
theorem nm_lt {a b : Nat} (ha : a < 64) (hb : b < 64) : Op.bytesLess (nmS a).toList (nmS b).toList = decide (a < b) := by
  rw [toL, toL]
  have := range_all (range_all nm_lt_aux ha) hb
  simpa using this
theorem nm_isName_aux : ((List.range 64).all fun a => isName (nmS a).data.toList) = true := by kernel_rfl
theorem nm_isName (a : Nat) : isName (nmS a).data.toList = true := by
  rw [← nmS_mod]
  exact range_all nm_isName_aux (Nat.mod_lt _ (by decide))
theorem nm5_isName_aux : ((List.range 64).all fun a => isName (nm5 a).data.toList) = true := by kernel_rfl
theorem nm5_isName {a : Nat} (h : a < 64) : isName (nm5 a).data.toList = true := range_all nm5_isName_aux h
theorem nm5_lt_aux : ((List.range 63).all fun a => Op.bytesLess (nmS a).data.toList (nm5 a).data.toList && Op.bytesLess (nm5 a).data.toList (nmS (a + 1)).data.toList) = true := by kernel_rfl
theorem nm5_lt {a : Nat} (h : a < 63) : Op.bytesLess (nmS a).toList (nm5 a).toList = true ∧ Op.bytesLess (nm5 a).toList (nmS (a + 1)).toList = true := by
  rw [toL, toL, toL]
  have := range_all nm5_lt_aux h
  simpa [Bool.and_eq_true] using this
theorem nm_ne (a : Nat) : nmS a ≠ ⟨#[]⟩ := fun h => by
  have := nm_isName a
  rw [h] at this
  cases this
theorem nm_size (a : Nat) : (nmS a).size = 2 := rfl
theorem name_okS {x : ByteArray} (h : isName x.data.toList = true) : okS x = true := by unfold okS; rw [h]; simp
theorem nm_okS (a : Nat) : okS (nmS a) = true := name_okS (nm_isName a)
theorem em_okS : okS ⟨#[]⟩ = true := by unfold okS; rw [toL]; rfl

/-- The ends and the group of a move by numbers. -/
def spanN (a b : Nat) : Nat × Nat := if b % 64 ≠ 0 ∧ b % 64 < a % 64 then (b % 64, a % 64) else (a % 64, b % 64)
def spF (a b : Nat) : ByteArray := if (spanN a b).1 = 0 then ⟨#[]⟩ else nmS (spanN a b).1
def spT (a b : Nat) : ByteArray := if (spanN a b).2 = 0 ∨ (spanN a b).1 = (spanN a b).2 then ⟨#[]⟩ else nmS (spanN a b).2
def spG (c : Nat) : Int := 1 + ((c % 7 : Nat) : Int)
theorem spG_bd (c : Nat) : 1 ≤ spG c ∧ spG c ≤ 7 := by unfold spG; omega
theorem spanN_lt (a b : Nat) : (spanN a b).1 < 64 ∧ (spanN a b).2 < 64 ∧ ((spanN a b).2 ≠ 0 → (spanN a b).1 ≤ (spanN a b).2) := by
  unfold spanN
  split <;> simp only <;> omega
theorem sp_ok (a b : Nat) : okR (spF a b) (spT a b) = true := by
  obtain ⟨h1, h2, h3⟩ := spanN_lt a b
  have o1 : okS (spF a b) = true := by unfold spF; split; exact em_okS; exact nm_okS _
  have o2 : okS (spT a b) = true := by unfold spT; split; exact em_okS; exact nm_okS _
  unfold okR
  rw [o1, o2]
  simp only [Bool.true_and, Bool.or_eq_true]
  by_cases h : (spanN a b).2 = 0 ∨ (spanN a b).1 = (spanN a b).2
  · left; unfold spT; rw [if_pos h, toL]; rfl
  · right
    have e2 : spT a b = nmS (spanN a b).2 := by unfold spT; exact if_neg h
    rw [e2]
    by_cases h0 : (spanN a b).1 = 0
    · have e1 : spF a b = ⟨#[]⟩ := by unfold spF; exact if_pos h0
      rw [e1, toL, toL]; rfl
    · have e1 : spF a b = nmS (spanN a b).1 := by unfold spF; exact if_neg h0
      rw [e1, nm_lt h1 h2]
      simp only [decide_eq_true_eq]
      have := h3 (by omega)
      omega
theorem sp_size (a b : Nat) : (spF a b).size ≤ 2 ∧ (spT a b).size ≤ 2 := by
  constructor
  · unfold spF; split
    · decide
    · exact Nat.le_of_eq (nm_size _)
  · unfold spT; split
    · decide
    · exact Nat.le_of_eq (nm_size _)
end Go.Proofs.YtkkkppbcjmeapaaDoor
