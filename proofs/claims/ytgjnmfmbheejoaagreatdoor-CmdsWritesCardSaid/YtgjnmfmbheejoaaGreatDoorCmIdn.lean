/- Numbers and texts of effects, items and ranges, in the words of commands. Conditions: as each theorem says. -/
import Derived.Test.YtgjnmfmbheejoaaGreatDoorIdA
import Derived.Test.YtgjnmfmbheejoaaGreatDoorRgA
import Derived.Test.YtgjnmfmbheejoaaGreatDoorDfG
import Derived.Test.YtgjnmfmbheejoaaGreatDoorPlC
namespace Go.Proofs.YtgjnmfmbheejoaaGreatDoor
open Go.RowKit Go.Shelf

def itA (x : It6) : Array Value := #[.int .i64 x.a, .int .i64 x.b, .int .i64 x.c, .int .i64 x.m, .bool x.i, .int .i64 x.g]
theorem itNumber_any (x : It6) (w : World) (h : itemOk x.a x.b x.c x.m x.i x.g) :
    Calls Tryz.prog 194 #[.agg (itA x)] w fun e w' => e = .returned (.tuple #[.int .i64 (itNum x), .int .i64 0]) ∧ Below w.heap.size w w' := by
  obtain ⟨a, b, c, m, i, g⟩ := x
  obtain ⟨⟨h1, h2⟩, ⟨h3, h4, h5⟩ | ⟨h3, h4, h5, h6, h7⟩⟩ := h
  · dsimp only at *
    subst h3; subst h4
    exact Id.number_eff a b c g w h1 h2 h5
  · dsimp only at *
    subst h5; subst h6; subst h7
    have he : itNum ⟨0, 0, 0, m, i, g⟩ = Id.numMove m i g := by unfold itNum Id.numMove; dsimp only; rw [if_neg (by omega)]
    rw [he]
    exact Id.number_move m i g w h1 h2 h3 h4
theorem refItNumber_any (x : It6) (w : World) (h : itemOk x.a x.b x.c x.m x.i x.g) :
    Calls Tryz.prog 76 #[.agg (itA x)] w fun e w' => e = .returned (.tuple #[.int .i64 (itNum x), .int .i64 0]) ∧ Below w.heap.size w w' := by
  obtain ⟨a, b, c, m, i, g⟩ := x
  obtain ⟨⟨h1, h2⟩, ⟨h3, h4, h5⟩ | ⟨h3, h4, h5, h6, h7⟩⟩ := h
  · dsimp only at *
    subst h3; subst h4
    exact Id.refNumber_eff a b c g w h1 h2 h5
  · dsimp only at *
    subst h5; subst h6; subst h7
    have he : itNum ⟨0, 0, 0, m, i, g⟩ = Id.numMove m i g := by unfold itNum Id.numMove; dsimp only; rw [if_neg (by omega)]
    rw [he]
    exact Id.refNumber_move m i g w h1 h2 h3 h4
theorem fromNum_any (n : Int) (w : World) :
    Calls Tryz.prog 196 #[.int .i64 n] w fun e w' => e = .returned (.tuple #[.agg (itA (fromN n).1), .int .i64 (fromN n).2]) ∧ Below w.heap.size w w' := by
  unfold fromN
  by_cases h : 1 ≤ n ∧ n ≤ 1680728
  · rw [if_pos h]
    by_cases h2 : n ≤ 1679832
    · rw [if_pos h2]; exact Id.fromNumber_eff n w h.1 h2
    · rw [if_neg h2]; exact Id.fromNumber_move n w (by omega) h.2
  · rw [if_neg h]; exact Id.fromNumber_no n w h
theorem refFromNum_any (n : Int) (w : World) :
    Calls Tryz.prog 57 #[.int .i64 n] w fun e w' => e = .returned (.tuple #[.agg (itA (fromN n).1), .int .i64 (fromN n).2]) ∧ Below w.heap.size w w' := by
  unfold fromN
  by_cases h : 1 ≤ n ∧ n ≤ 1680728
  · rw [if_pos h]
    by_cases h2 : n ≤ 1679832
    · rw [if_pos h2]; exact Id.refFromNumber_eff n w h.1 h2
    · rw [if_neg h2]; exact Id.refFromNumber_move n w (by omega) h.2
  · rw [if_neg h]; exact Id.refFromNumber_no n w h
theorem powE {w : World} (h : DfE w) : Id.Pow w := ⟨h.tab, h.tlt⟩
/-- The items that are read have small parts. -/
theorem fromN_z (n : Int) (h0 : 0 ≤ n) (h : n ≤ 2147483648) : -9223372036854775808 ≤ (fromN n).1.a ∧ (fromN n).1.a ≤ 9223372036854775807 ∧ -9223372036854775808 ≤ (fromN n).1.b ∧ (fromN n).1.b ≤ 9223372036854775807 ∧ -9223372036854775808 ≤ (fromN n).1.c ∧ (fromN n).1.c ≤ 9223372036854775807 ∧
    -9223372036854775808 ≤ (fromN n).1.m ∧ (fromN n).1.m ≤ 9223372036854775807 ∧ -9223372036854775808 ≤ (fromN n).1.g ∧ (fromN n).1.g ≤ 9223372036854775807 := by
  unfold fromN
  split
  · dsimp only
    split <;> (dsimp only; omega)
  · dsimp only [zeroI]; omega
end Go.Proofs.YtgjnmfmbheejoaaGreatDoor
