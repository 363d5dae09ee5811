/- What Number and FromNumber of ident and of the reference return, at every input: the same. No condition. -/
import Derived.Test.YtmbnhbocablgeaaDoorNum
import Derived.Test.YtmbnhbocablgeaaDoorParseI
namespace Go.Proofs.YtmbnhbocablgeaaDoor
open Go.RowKit

def numR (a b c m : Int) (i : Bool) (g : Int) : Int × Int := if itemOk a b c m i g then (if m = 0 then numEff a b c g else numMove m i g, 0) else (0, 2)
theorem numR_eff {a b c g : Int} (h1 : 1 ≤ g) (h2 : g ≤ 7) (h : effOk a b c) : numR a b c 0 false g = (numEff a b c g, 0) := by
  unfold numR; rw [if_pos ⟨⟨h1, h2⟩, .inl ⟨rfl, rfl, h⟩⟩, if_pos rfl]
theorem numR_move {m : Int} {i : Bool} {g : Int} (h1 : 1 ≤ g) (h2 : g ≤ 7) (h3 : 1 ≤ m) (h4 : m ≤ 64) : numR 0 0 0 m i g = (numMove m i g, 0) := by
  unfold numR; rw [if_pos ⟨⟨h1, h2⟩, .inr ⟨h3, h4, rfl, rfl, rfl⟩⟩, if_neg (by omega)]
theorem numR_no {a b c m : Int} {i : Bool} {g : Int} (h : ¬ itemOk a b c m i g) : numR a b c m i g = (0, 2) := by unfold numR; rw [if_neg h]

def fromV (n : Int) : Item6 := if n ≤ 1679832 then ⟨(n - 1) / 7 / 3 / 8 + 1, (n - 1) / 7 / 3 % 8, (n - 1) / 7 % 3 + 1, 0, false, (n - 1) % 7 + 1⟩ else ⟨0, 0, 0, (n - 1679833) / 14 + 1, decide ((n - 1679833) / 7 % 2 = 1), (n - 1) % 7 + 1⟩
def fromR (n : Int) : Item6 × Int := if 1 ≤ n ∧ n ≤ 1680728 then (fromV n, 0) else (⟨0, 0, 0, 0, false, 0⟩, 3)

theorem number_all (a b c m : Int) (i : Bool) (g : Int) (w : World) :
    Calls Tryd.prog 26 #[.agg #[.int .i64 a, .int .i64 b, .int .i64 c, .int .i64 m, .bool i, .int .i64 g]] w fun e w' => e = .returned (.tuple #[.int .i64 (numR a b c m i g).1, .int .i64 (numR a b c m i g).2]) ∧ Below w.heap.size w w' := by
  by_cases h : itemOk a b c m i g
  · obtain ⟨⟨h1, h2⟩, ⟨rfl, rfl, h3⟩ | ⟨h3, h4, rfl, rfl, rfl⟩⟩ := h
    · rw [numR_eff h1 h2 h3]; exact number_eff a b c g w h1 h2 h3
    · rw [numR_move h1 h2 h3 h4]; exact number_move m i g w h1 h2 h3 h4
  · rw [numR_no h]; exact number_no a b c m i g w h
theorem refNumber_all (a b c m : Int) (i : Bool) (g : Int) (w : World) :
    Calls Tryd.prog 27 #[.agg #[.int .i64 a, .int .i64 b, .int .i64 c, .int .i64 m, .bool i, .int .i64 g]] w fun e w' => e = .returned (.tuple #[.int .i64 (numR a b c m i g).1, .int .i64 (numR a b c m i g).2]) ∧ Below w.heap.size w w' := by
  by_cases h : itemOk a b c m i g
  · obtain ⟨⟨h1, h2⟩, ⟨rfl, rfl, h3⟩ | ⟨h3, h4, rfl, rfl, rfl⟩⟩ := h
    · rw [numR_eff h1 h2 h3]; exact refNumber_eff a b c g w h1 h2 h3
    · rw [numR_move h1 h2 h3 h4]; exact refNumber_move m i g w h1 h2 h3 h4
  · rw [numR_no h]; exact refNumber_no a b c m i g w h
theorem fromNumber_any (n : Int) (w : World) : Calls Tryd.prog 28 #[.int .i64 n] w (ItemOut (fromR n) w) := by
  by_cases h : 1 ≤ n ∧ n ≤ 1680728
  · by_cases h2 : n ≤ 1679832
    · have e : fromR n = (⟨(n - 1) / 7 / 3 / 8 + 1, (n - 1) / 7 / 3 % 8, (n - 1) / 7 % 3 + 1, 0, false, (n - 1) % 7 + 1⟩, 0) := by unfold fromR fromV; rw [if_pos h, if_pos h2]
      rw [e]; exact fromNumber_eff n w h.1 h2
    · have e : fromR n = (⟨0, 0, 0, (n - 1679833) / 14 + 1, decide ((n - 1679833) / 7 % 2 = 1), (n - 1) % 7 + 1⟩, 0) := by unfold fromR fromV; rw [if_pos h, if_neg h2]
      rw [e]; exact fromNumber_move n w (by omega) h.2
  · have e : fromR n = (⟨0, 0, 0, 0, false, 0⟩, 3) := by unfold fromR; rw [if_neg h]
    rw [e]; exact fromNumber_no n w h
theorem refFromNumber_any (n : Int) (w : World) : Calls Tryd.prog 29 #[.int .i64 n] w (ItemOut (fromR n) w) := by
  by_cases h : 1 ≤ n ∧ n ≤ 1680728
  · by_cases h2 : n ≤ 1679832
    · have e : fromR n = (⟨(n - 1) / 7 / 3 / 8 + 1, (n - 1) / 7 / 3 % 8, (n - 1) / 7 % 3 + 1, 0, false, (n - 1) % 7 + 1⟩, 0) := by unfold fromR fromV; rw [if_pos h, if_pos h2]
      rw [e]; exact refFromNumber_eff n w h.1 h2
    · have e : fromR n = (⟨0, 0, 0, (n - 1679833) / 14 + 1, decide ((n - 1679833) / 7 % 2 = 1), (n - 1) % 7 + 1⟩, 0) := by unfold fromR fromV; rw [if_pos h, if_neg h2]
      rw [e]; exact refFromNumber_move n w (by omega) h.2
  · have e : fromR n = (⟨0, 0, 0, 0, false, 0⟩, 3) := by unfold fromR; rw [if_neg h]
    rw [e]; exact refFromNumber_no n w h
end Go.Proofs.YtmbnhbocablgeaaDoor
