/- Blocks of memory that are known whole. No condition. -/
import Derived.Below
import Derived.WalkKit
import Derived.Laws.Rows
namespace Go.Proofs.YtkkkppbcjmeapaaDoor
open Go.RowKit

/-- A block that is known whole, not frozen. -/
def Whole (w : World) (b : Nat) (t : TypeId) (cs : Array Value) : Prop := w.heap[b]? = some (.cells cs t (0, 0))
section
variable {w w' : World} {b : Nat} {t : TypeId} {cs : Array Value}
theorem Whole.cell (h : Whole w b t cs) (i : Nat) : w.cell? ⟨b, i, none⟩ = cs[i]? := cell_of_row w b i cs t (0, 0) h
theorem Whole.fr (h : Whole w b t cs) (i : Nat) : w.frozen? ⟨b, i, none⟩ = false := by unfold Whole at h; simp [World.frozen?, h]
theorem Whole.lt (h : Whole w b t cs) : b < w.heap.size := by
  rcases Nat.lt_or_ge b w.heap.size with hlt | hge
  · exact hlt
  · unfold Whole at h; rw [Array.getElem?_eq_none hge] at h; cases h
theorem Whole.new (w : World) (t : TypeId) (cs : Array Value) : Whole (w.alloc (.cells cs t)) w.heap.size t cs := heap_alloc_new w _
theorem Whole.below {B : Nat} (h : Whole w b t cs) (hb : Below B w w') (hB : b < B) : Whole w' b t cs := (hb.block b hB).trans h
theorem Whole.alloc (h : Whole w b t cs) (o : Obj) : Whole (w.alloc o) b t cs := (Below.heap_alloc w o b h.lt).trans h
theorem Whole.put (h : Whole w b t cs) (i : Nat) (v : Value) : Whole (w.setCell ⟨b, i, none⟩ v) b t (cs.setIfInBounds i v) := by
  unfold Whole at h ⊢
  simp [World.setCell, Array.getElem?_modify, h]
theorem Whole.far {p : Addr} (h : Whole w b t cs) (hne : b ≠ p.block) (v : Value) : Whole (w.setCell p v) b t cs := (Below.heap_setCell w p v b hne).trans h
end
end Go.Proofs.YtkkkppbcjmeapaaDoor
