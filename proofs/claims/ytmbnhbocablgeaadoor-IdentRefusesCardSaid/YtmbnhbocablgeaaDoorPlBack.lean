/- Plain laws: how long the text of a valid effect is, and how many strokes it has. No condition. -/
import Derived.Test.YtmbnhbocablgeaaDoorPlRead
import Derived.Lib.Bytealg
namespace Go.Proofs.YtmbnhbocablgeaaDoor

theorem count_dig : ∀ (l : List UInt8), l.all isDig = true → l.count 47 = 0
  | [], _ => rfl
  | c :: l, h => by
    simp only [List.all_cons, Bool.and_eq_true] at h
    have hc : ¬ c = 47 := by
      rintro rfl
      exact absurd h.1 (by decide)
    rw [List.count_cons, count_dig l h.2]
    simp [hc]
theorem phL_ne (c : Int) : ¬ phL c = 47 := by
  unfold phL
  split
  · decide
  · split <;> decide
theorem numOk_len {ds : List UInt8} (h : numOk ds = true) : 1 ≤ ds.length ∧ ds.length ≤ 4 := by
  unfold numOk at h
  simp only [Bool.and_eq_true, decide_eq_true_eq] at h
  exact ⟨h.1, h.2.1⟩
theorem effText_shape {a b c : Int} (h : effOk a b c) : 5 ≤ (effText a b c).length ∧ (effText a b c).length ≤ 8 ∧ Lib.countByte (effText a b c) 47 = 2 := by
  obtain ⟨h1, h2, h3, h4, _, _⟩ := h
  obtain ⟨n1, d1, _⟩ := numOk_dgs (n := a) (by omega) (by omega)
  obtain ⟨n2, d2, _⟩ := numOk_dgs (n := b) (by omega) (by omega)
  have l1 := numOk_len n1
  have l2 : (dgs b).length = 1 := by rw [dgs_one h3 (by omega)]; rfl
  refine ⟨?_, ?_, ?_⟩
  · simp only [effText, List.length_append, List.length_cons, List.length_nil]; omega
  · simp only [effText, List.length_append, List.length_cons, List.length_nil]; omega
  · unfold Lib.countByte effText
    rw [List.count_append, List.count_append, List.count_append, List.count_append, count_dig _ d1, count_dig _ d2]
    have hp : List.count 47 [phL c] = 0 := by
      rw [List.count_singleton]
      simp [phL_ne c]
    rw [hp]
    decide
end Go.Proofs.YtmbnhbocablgeaaDoor
