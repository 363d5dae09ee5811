/- Plain laws: items are got back from their numbers. No condition. -/
import Derived.Test.YtmbnhbocablgeaaDoorNumAny
namespace Go.Proofs.YtmbnhbocablgeaaDoor

theorem fromV_low {k : Int} (h1 : 1 ≤ k) (h2 : k ≤ 1679832) : (fromV k).m = 0 ∧ (fromV k).i = false ∧ effOk (fromV k).a (fromV k).b (fromV k).c ∧ 1 ≤ (fromV k).g ∧ (fromV k).g ≤ 7 := by
  unfold fromV
  rw [if_pos h2]
  refine ⟨rfl, rfl, ?_, ?_, ?_⟩
  · unfold effOk
    dsimp only
    omega
  · dsimp only; omega
  · dsimp only; omega
theorem fromV_high {k : Int} (h1 : 1679833 ≤ k) (h2 : k ≤ 1680728) : (fromV k).a = 0 ∧ (fromV k).b = 0 ∧ (fromV k).c = 0 ∧ 1 ≤ (fromV k).m ∧ (fromV k).m ≤ 64 ∧ 1 ≤ (fromV k).g ∧ (fromV k).g ≤ 7 := by
  unfold fromV
  rw [if_neg (by omega)]
  refine ⟨rfl, rfl, rfl, ?_, ?_, ?_, ?_⟩ <;> (dsimp only; omega)
theorem fromV_num {k : Int} (h1 : 1 ≤ k) (h2 : k ≤ 1680728) : itemOk (fromV k).a (fromV k).b (fromV k).c (fromV k).m (fromV k).i (fromV k).g ∧ numR (fromV k).a (fromV k).b (fromV k).c (fromV k).m (fromV k).i (fromV k).g = (k, 0) := by
  by_cases h : k ≤ 1679832
  · obtain ⟨e1, e2, e3, e4, e5⟩ := fromV_low h1 h
    refine ⟨⟨⟨e4, e5⟩, .inl ⟨e1, e2, e3⟩⟩, ?_⟩
    rw [e1, e2, numR_eff e4 e5 e3]
    unfold numEff fromV
    rw [if_pos h]
    dsimp only
    congr 1
    omega
  · obtain ⟨e1, e2, e3, e4, e5, e6, e7⟩ := fromV_high (by omega) h2
    refine ⟨⟨⟨e6, e7⟩, .inr ⟨e4, e5, e1, e2, e3⟩⟩, ?_⟩
    rw [e1, e2, e3, numR_move e6 e7 e4 e5]
    unfold numMove fromV
    rw [if_neg h]
    dsimp only
    congr 1
    by_cases h3 : (k - 1679833) / 7 % 2 = 1
    · rw [decide_eq_true h3, if_pos rfl]; omega
    · rw [decide_eq_false h3, if_neg (by simp)]; omega
end Go.Proofs.YtmbnhbocablgeaaDoor
