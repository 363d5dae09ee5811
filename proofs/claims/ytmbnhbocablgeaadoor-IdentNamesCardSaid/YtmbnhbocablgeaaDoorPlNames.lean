/- Plain laws for IdentNames: letters off the alphabet make names. No condition. -/
import Derived.Test.YtmbnhbocablgeaaDoorPlName
namespace Go.Proofs.YtmbnhbocablgeaaDoor

/-- The byte that a number stands for. -/
def ltr (z : Int) : UInt8 := alnum.getD (z % 36).toNat 0
theorem ltr_all : ((List.range 36).all fun i => nmB (alnum.getD i 0)) = true := by decide +kernel
theorem ltr_nm {z : Int} : nmB (ltr z) = true := List.all_eq_true.1 ltr_all _ (List.mem_range.2 (by omega))
theorem ltrs_name {l : List Int} (h1 : 1 ≤ l.length) (h2 : l.length ≤ 16) : isName (l.map ltr) = true :=
  isName_yes (n := l.length) (by simp) h1 h2 (by simp [List.all_eq_true, ltr_nm])
theorem long_name {l : List UInt8} (h : l.length = 17) : isName l = false := isName_no h (by omega)
theorem set_name {l : List Int} {j : Nat} {c : UInt8} (h2 : l.length ≤ 16) (hj : j < l.length) : isName ((l.map ltr).set j c) = nmB c := by
  have hl : ((l.map ltr).set j c).length = l.length := by simp
  cases hc : nmB c with
  | true =>
    refine isName_yes hl (by omega) h2 ?_
    rw [List.all_eq_true]
    intro x hx
    rcases List.mem_or_eq_of_mem_set hx with h | h
    · obtain ⟨z, _, rfl⟩ := List.mem_map.1 h
      exact ltr_nm
    · rw [h]; exact hc
  | false =>
    refine isName_no hl fun h => ?_
    have := List.all_eq_true.1 h.2.2 c (by
      rw [List.mem_iff_getElem]
      exact ⟨j, by simp; omega, by simp⟩)
    rw [hc] at this
    cases this
end Go.Proofs.YtmbnhbocablgeaaDoor
