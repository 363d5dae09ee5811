/- Two ranges that a statement has boxed, kept through calls; whether a range is short. No condition. -/
import Derived.Test.YtkkkppbcjmeapaaDoorWhole
namespace Go.Proofs.YtkkkppbcjmeapaaDoor
open Go.RowKit

/-- Two ranges, boxed at n and behind it, and all that lay in w0. -/
def AB (w0 w : World) (f t g u : ByteArray) : Prop := Below w0.heap.size w0 w ∧ Whole w w0.heap.size 30 #[.string f, .string t] ∧ Whole w (w0.heap.size + 1) 30 #[.string g, .string u]
section
variable {w0 w w' : World} {f t g u : ByteArray}
theorem AB.below (h : AB w0 w f t g u) (hb : Below w.heap.size w w') : AB w0 w' f t g u := ⟨h.1.trans (hb.mono h.1.size), h.2.1.below hb h.2.1.lt, h.2.2.below hb h.2.2.lt⟩
theorem AB.alloc (h : AB w0 w f t g u) (o : Obj) : AB w0 (w.alloc o) f t g u := h.below ((Below.refl _ _).alloc (Nat.le_refl _) o)
theorem AB.c0 (h : AB w0 w f t g u) : w.cell? ⟨w0.heap.size, 0, none⟩ = some (.string f) := h.2.1.cell 0
theorem AB.c1 (h : AB w0 w f t g u) : w.cell? ⟨w0.heap.size, 1, none⟩ = some (.string t) := h.2.1.cell 1
theorem AB.c2 (h : AB w0 w f t g u) : w.cell? ⟨w0.heap.size + 1, 0, none⟩ = some (.string g) := h.2.2.cell 0
theorem AB.c3 (h : AB w0 w f t g u) : w.cell? ⟨w0.heap.size + 1, 1, none⟩ = some (.string u) := h.2.2.cell 1
theorem AB.last (h : AB w0 w f t g u) (hb : Below w.heap.size w w') : Below w0.heap.size w0 w' := h.1.trans (hb.mono h.1.size)
theorem AB.shaped {P : Program} (h : AB w0 w f t g u) (hs : w0.ShapedOpen P) : w.ShapedOpen P := hs.keptBut (h.1.frame (fun _ => False)) (fun _ h => h.elim)
end
theorem AB.start (w : World) (f t g u : ByteArray) : AB w ((w.alloc (.cells #[.string f, .string t] 30)).alloc (.cells #[.string g, .string u] 30)) f t g u := by
  have h := Whole.new (w.alloc (.cells #[.string f, .string t] 30)) 30 #[.string g, .string u]
  rw [World.size_alloc] at h
  exact ⟨((Below.refl w.heap.size w).alloc (Nat.le_refl _) _).alloc (by simp) _, (Whole.new w _ _).alloc _, h⟩

theorem AB.grown {w0 w w' : World} {f t g u : ByteArray} {row : Option Nat} (h : AB w0 w f t g u) (hg : w.grownBy w' row) (hr : ∀ k, row = some k → w0.heap.size + 2 ≤ k) : AB w0 w' f t g u := by
  have hb := (Below.refl (w0.heap.size + 2) w).grown hg h.2.2.lt hr
  exact ⟨h.1.trans (hb.mono (by omega)), h.2.1.below hb (by omega), h.2.2.below hb (by omega)⟩
theorem Whole.grownA {w w' : World} {b : Nat} {t : TypeId} {cs : Array Value} {row : Option Nat} (h : Whole w b t cs) (hg : w.grownBy w' row) (hr : ∀ k, row = some k → b < k) : Whole w' b t cs :=
  (hg.block b h.lt (fun e => absurd (hr b e.symm) (Nat.lt_irrefl b))).trans h
end Go.Proofs.YtkkkppbcjmeapaaDoor
