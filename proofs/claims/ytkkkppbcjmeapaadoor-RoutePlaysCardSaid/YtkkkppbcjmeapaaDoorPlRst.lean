/- Which parts are a map: the plain law of Restore. No condition. -/
import Derived.Test.YtkkkppbcjmeapaaDoorPtLop
namespace Go.Proofs.YtkkkppbcjmeapaaDoor

/-- The end behind which a part of a list must begin. -/
def befD (a : ByteArray) (d : List Pt) (i : Nat) : ByteArray := match i with
  | 0 => a
  | j + 1 => match d[j]? with
    | some q => q.t
    | none => a
theorem befD_cons (a : ByteArray) (p : Pt) (d : List Pt) (i : Nat) (hi : i ≤ d.length) : befD a (p :: d) (i + 1) = befD p.t d i := by
  cases i with
  | zero => rfl
  | succ j =>
    simp only [befD, List.getElem?_cons_succ]
    rw [List.getElem?_eq_getElem (show j < d.length by omega)]
theorem chT_ix : ∀ (d : List Pt) (a : ByteArray), ChT a d ↔ d ≠ [] ∧ ∀ i p, d[i]? = some p → p.f = befD a d i ∧ okR p.f p.t = true ∧ (p.t = ⟨#[]⟩ ↔ i + 1 = d.length)
  | [], a => ⟨fun h => h.elim, fun h => absurd rfl h.1⟩
  | p :: d, a => by
    have ih := chT_ix d p.t
    constructor
    · rintro ⟨h1, h2, h3⟩
      refine ⟨by simp, fun i q hi => ?_⟩
      cases i with
      | zero =>
        simp only [List.getElem?_cons_zero, Option.some.injEq] at hi
        subst hi
        refine ⟨h1, h2, ?_⟩
        rcases h3 with ⟨rfl, h4⟩ | ⟨h4, h5, _⟩
        · simp [h4]
        · constructor
          · exact fun h => absurd h h5
          · intro h
            exact absurd (List.length_eq_zero_iff.1 (by simpa using h)) h4
      | succ j =>
        simp only [List.getElem?_cons_succ] at hi
        have hj := (List.getElem?_eq_some_iff.1 hi).1
        rcases h3 with ⟨rfl, _⟩ | ⟨h4, h5, h6⟩
        · simp at hi
        · obtain ⟨g1, g2, g3⟩ := (ih.1 h6).2 j q hi
          rw [befD_cons a p d j (by omega)]
          refine ⟨g1, g2, g3.trans ?_⟩
          simp only [List.length_cons]; omega
    · rintro ⟨_, h⟩
      obtain ⟨g1, g2, g3⟩ := h 0 p rfl
      refine ⟨g1, g2, ?_⟩
      by_cases hd : d = []
      · subst hd
        exact Or.inl ⟨rfl, g3.2 rfl⟩
      · refine Or.inr ⟨hd, fun e => hd (List.length_eq_zero_iff.1 (by have := g3.1 e; simpa using this.symm)), ih.2 ⟨hd, fun i q hi => ?_⟩⟩
        obtain ⟨k1, k2, k3⟩ := h (i + 1) q (by simpa using hi)
        have hj := (List.getElem?_eq_some_iff.1 hi).1
        rw [befD_cons a p d i (by omega)] at k1
        refine ⟨k1, k2, k3.trans ?_⟩
        simp only [List.length_cons]; omega
/-- One part of a list may stand in a map. -/
def RstI (d : List Pt) (i : Nat) (p : Pt) : Prop := okR p.f p.t = true ∧ p.f = befD ⟨#[]⟩ d i ∧ (p.t = ⟨#[]⟩ ↔ i + 1 = d.length) ∧ (1 ≤ p.g ∧ p.g < 8) ∧ 1 ≤ p.e ∧ p.e ≤ 2147483648
def RstOK (d : List Pt) : Prop := 1 ≤ d.length ∧ d.length ≤ 64 ∧ ∀ i p, d[i]? = some p → RstI d i p
theorem rst_says (d : List Pt) : RstOK d ↔ d.length ≤ 64 ∧ ChT ⟨#[]⟩ d ∧ ∀ p ∈ d, (1 ≤ p.g ∧ p.g < 8) ∧ 1 ≤ p.e ∧ p.e ≤ 2147483648 := by
  rw [chT_ix]
  constructor
  · rintro ⟨h0, h1, h2⟩
    refine ⟨h1, ⟨fun e => by rw [e] at h0; simp at h0, fun i p hi => ⟨(h2 i p hi).2.1, (h2 i p hi).1, (h2 i p hi).2.2.1⟩⟩, fun p hp => ?_⟩
    obtain ⟨i, hi⟩ := List.getElem?_of_mem hp
    exact ⟨(h2 i p hi).2.2.2.1, (h2 i p hi).2.2.2.2⟩
  · rintro ⟨h1, ⟨h0, h2⟩, h3⟩
    refine ⟨by have := List.length_pos_iff.2 h0; omega, h1, fun i p hi => ⟨(h2 i p hi).2.1, (h2 i p hi).1, (h2 i p hi).2.2, (h3 p (List.mem_of_getElem? hi)).1, (h3 p (List.mem_of_getElem? hi)).2⟩⟩
end Go.Proofs.YtkkkppbcjmeapaaDoor
