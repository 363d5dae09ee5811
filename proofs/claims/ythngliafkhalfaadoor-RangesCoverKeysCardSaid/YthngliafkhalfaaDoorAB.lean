/- Two ranges that a statement has boxed, kept through calls; whether a range is short. No condition. -/
import Derived.Test.YthngliafkhalfaaDoorWorks6
namespace Go.Proofs.YthngliafkhalfaaDoor
open Go.RowKit

/-- Two ranges, boxed at n and behind it, and all that lay in w0. -/
def AB (w0 w : World) (f t g u : ByteArray) : Prop := Below w0.heap.size w0 w ∧ Whole w w0.heap.size 23 #[.string f, .string t] ∧ Whole w (w0.heap.size + 1) 23 #[.string g, .string u]
section
variable {w0 w w' : World} {f t g u : ByteArray}
theorem AB.below (h : AB w0 w f t g u) (hb : Below w.heap.size w w') : AB w0 w' f t g u := ⟨h.1.trans (hb.mono h.1.size), h.2.1.below hb h.2.1.lt, h.2.2.below hb h.2.2.lt⟩
theorem AB.alloc (h : AB w0 w f t g u) (o : Obj) : AB w0 (w.alloc o) f t g u := h.below ((Below.refl _ _).alloc (Nat.le_refl _) o)
theorem AB.c0 (h : AB w0 w f t g u) : w.cell? ⟨w0.heap.size, 0, none⟩ = some (.string f) := h.2.1.cell 0
theorem AB.c1 (h : AB w0 w f t g u) : w.cell? ⟨w0.heap.size, 1, none⟩ = some (.string t) := h.2.1.cell 1
theorem AB.c2 (h : AB w0 w f t g u) : w.cell? ⟨w0.heap.size + 1, 0, none⟩ = some (.string g) := h.2.2.cell 0
theorem AB.c3 (h : AB w0 w f t g u) : w.cell? ⟨w0.heap.size + 1, 1, none⟩ = some (.string u) := h.2.2.cell 1
theorem AB.last (h : AB w0 w f t g u) (hb : Below w.heap.size w w') : Below w0.heap.size w0 w' := h.1.trans (hb.mono h.1.size)
theorem AB.shaped {P : Program} (h : AB w0 w f t g u) (hs : w0.ShapedOpen P) : w.ShapedOpen P := shaped_below hs h.1
end
theorem AB.start (w : World) (f t g u : ByteArray) : AB w ((w.alloc (.cells #[.string f, .string t] 23)).alloc (.cells #[.string g, .string u] 23)) f t g u := by
  have h := Whole.new (w.alloc (.cells #[.string f, .string t] 23)) 23 #[.string g, .string u]
  rw [World.size_alloc] at h
  exact ⟨((Below.refl w.heap.size w).alloc (Nat.le_refl _) _).alloc (by simp) _, (Whole.new w _ _).alloc _, h⟩

def sh (f t : ByteArray) : Bool := decide (f.size ≤ 100) && decide (t.size ≤ 100)
set_option maxHeartbeats 1000000 in
theorem short_any (f t : ByteArray) (w : World) :
    Calls Tryd.prog 11 #[.agg #[.string f, .string t]] w fun e w' => e = .returned (.bool (sh f t)) ∧ Below w.heap.size w w' := by
  have b1 := (Below.refl w.heap.size w).alloc (Nat.le_refl _) (.cells #[.string f, .string t] 23)
  unfold sh
  generalize hq : (decide (f.size ≤ 100) && decide (t.size ≤ 100)) = q
  have HQ := Lib.hid hq
  clear hq
  by_cases h1 : f.size ≤ 100 <;> by_cases h2 : t.size ≤ 100
  all_goals
    go_enter Tryd.func11, Tryd.ntmps11
    go_wp2
    go_ret
    exact ⟨by rw [← HQ.out]; simp [h1, h2] <;> omega, b1⟩
end Go.Proofs.YthngliafkhalfaaDoor
