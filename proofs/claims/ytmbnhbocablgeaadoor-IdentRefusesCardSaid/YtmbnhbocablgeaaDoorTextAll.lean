/- What Effect and Item of ident and of the reference return, at every input: the same. Condition, for ident: the table of powers of ten lies as its initialiser lays it. -/
import Derived.Test.YtmbnhbocablgeaaDoorRefItem
namespace Go.Proofs.YtmbnhbocablgeaaDoor
open Go.RowKit

def effR (a b c : Int) : List UInt8 × Int := if effOk a b c then (effText a b c, 0) else ([], 2)
def itemW (a b c m : Int) (i : Bool) (g : Int) : List UInt8 × Int := if itemOk a b c m i g then (itemText a b c m i g, 0) else ([], 2)
theorem effR_yes {a b c : Int} (h : effOk a b c) : effR a b c = (effText a b c, 0) := if_pos h
theorem effR_no {a b c : Int} (h : ¬ effOk a b c) : effR a b c = ([], 2) := if_neg h
theorem itemW_yes {a b c m : Int} {i : Bool} {g : Int} (h : itemOk a b c m i g) : itemW a b c m i g = (itemText a b c m i g, 0) := if_pos h
theorem itemW_no {a b c m : Int} {i : Bool} {g : Int} (h : ¬ itemOk a b c m i g) : itemW a b c m i g = ([], 2) := if_neg h

theorem effect_all (a b c : Int) (w : World) (hp : Pow w) :
    Calls Tryd.prog 14 #[.agg #[.int .i64 a, .int .i64 b, .int .i64 c]] w fun e w' => e = .returned (.tuple #[.string ⟨(effR a b c).1.toArray⟩, .int .i64 (effR a b c).2]) ∧ Below w.heap.size w w' := by
  by_cases h : effOk a b c
  · rw [effR_yes h]; exact effect_yes a b c w hp h
  · rw [effR_no h]; exact effect_no a b c w h
theorem refEffect_all (a b c : Int) (w : World) :
    Calls Tryd.prog 15 #[.agg #[.int .i64 a, .int .i64 b, .int .i64 c]] w fun e w' => e = .returned (.tuple #[.string ⟨(effR a b c).1.toArray⟩, .int .i64 (effR a b c).2]) ∧ Below w.heap.size w w' := by
  by_cases h : effOk a b c
  · rw [effR_yes h]; exact refEffect_yes a b c w h
  · rw [effR_no h]; exact refEffect_no a b c w h
theorem item_all (a b c m : Int) (i : Bool) (g : Int) (w : World) (hp : Pow w) :
    Calls Tryd.prog 20 #[.agg #[.int .i64 a, .int .i64 b, .int .i64 c, .int .i64 m, .bool i, .int .i64 g]] w fun e w' => e = .returned (.tuple #[.string ⟨(itemW a b c m i g).1.toArray⟩, .int .i64 (itemW a b c m i g).2]) ∧ Below w.heap.size w w' := by
  by_cases h : itemOk a b c m i g
  · rw [itemW_yes h]
    obtain ⟨⟨h1, h2⟩, ⟨rfl, rfl, h3⟩ | ⟨h3, h4, rfl, rfl, rfl⟩⟩ := h
    · exact item_eff a b c g w hp h3 h1 h2
    · exact item_move m i g w hp h3 h4 h1 h2
  · rw [itemW_no h]; exact item_no a b c m i g w h
theorem refItem_all (a b c m : Int) (i : Bool) (g : Int) (w : World) :
    Calls Tryd.prog 21 #[.agg #[.int .i64 a, .int .i64 b, .int .i64 c, .int .i64 m, .bool i, .int .i64 g]] w fun e w' => e = .returned (.tuple #[.string ⟨(itemW a b c m i g).1.toArray⟩, .int .i64 (itemW a b c m i g).2]) ∧ Below w.heap.size w w' := by
  by_cases h : itemOk a b c m i g
  · rw [itemW_yes h]
    obtain ⟨⟨h1, h2⟩, ⟨rfl, rfl, h3⟩ | ⟨h3, h4, rfl, rfl, rfl⟩⟩ := h
    · exact refItem_eff a b c g w h3 h1 h2
    · cases i
      · exact refItem_move_no m g w h3 h4 h1 h2
      · exact refItem_move_yes m g w h3 h4 h1 h2
  · rw [itemW_no h]; exact refItem_no a b c m i g w h
end Go.Proofs.YtmbnhbocablgeaaDoor
