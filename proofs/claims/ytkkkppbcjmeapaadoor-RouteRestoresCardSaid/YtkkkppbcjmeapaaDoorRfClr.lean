/- A slice made by the call itself is cleared: nothing else turns. No condition. -/
import Derived.Test.YtkkkppbcjmeapaaDoorRfCln
namespace Go.Proofs.YtkkkppbcjmeapaaDoor
open Go.RowKit Go.Shelf

theorem grown_put {a w : World} {g : Nat} (h : a.grownBy w (some g)) (i : Nat) (u : Value) : a.grownBy (w.setCell ⟨g, i, none⟩ u) (some g) :=
  ⟨h.os, h.tape, h.output, by simpa [World.setCell] using h.size, fun k hk hne => (Below.heap_setCell w ⟨g, i, none⟩ u k (by rintro rfl; exact hne rfl)).trans (h.block k hk hne)⟩
theorem grown_puts {a : World} {g : Nat} : ∀ (vs : List Value) (o : Nat) (w : World), a.grownBy w (some g) → a.grownBy (w.setCells g o vs) (some g)
  | [], _, _, h => h
  | v :: r, o, _, h => grown_puts r (o + 1) _ (grown_put h o v)
theorem below_puts {B g : Nat} {w0 : World} (hg : B ≤ g) : ∀ (vs : List Value) (o : Nat) (W : World), Below B w0 W → Below B w0 (W.setCells g o vs)
  | [], _, _, h => h
  | v :: r, o, _, h => below_puts hg r (o + 1) _ (h.setCell (p := ⟨g, o, none⟩) hg v)
/-- 'clear' on a slice of rows. -/
theorem run_clear_rows (w : World) (t e ty : TypeId) (z : Value) (size : Nat) (ht : Tryd.prog.underlying t = some (.slice e)) (hv : ∀ w, (zeroValue e).run Tryd.prog w = .ok z w) (hz : z.cells.size = size) (h1 : ∀ u ∈ z.cells.toList, u.oneCell' = true) (g n c : Nat) (cur : Array Value) (hn : 0 < n) (hw : Whole w g e cur) (hs : n * size ≤ cur.size) :
    ∃ L : List Value, (Builtin.clear_ #[t] ty #[.slice (some ⟨g, 0, none⟩) n c]).run Tryd.prog w = .ok (.tuple #[]) (w.setCells g 0 L) := by
  refine ⟨(Builtin.zeroCells z.cells n).toList, ?_⟩
  have hl : (Builtin.zeroCells z.cells n).toList.length = n * size := by rw [Array.length_toList, size_zeroCells, hz]
  have hst := run_storeCells_cells (P := Tryd.prog) g 0 (Builtin.zeroCells z.cells n).toList 0 w (fun j hj => by
      rw [Nat.zero_add, hw.cell, Array.getElem?_eq_getElem (by omega)]; rfl) (fun j _ => by rw [Nat.zero_add]; exact hw.fr j) (fun u hu => by
      have hu' : u ∈ Builtin.zeroCells z.cells n := by simpa using hu
      unfold Builtin.zeroCells at hu'
      obtain ⟨i, hi, rfl⟩ := Array.mem_map.1 hu'
      have hi2 : i < n * z.cells.size := by simpa using hi
      have hp : 0 < z.cells.size := by
        rcases Nat.eq_zero_or_pos z.cells.size with e | e
        · rw [e] at hi2; omega
        · exact e
      have hm := Nat.mod_lt i hp
      rw [getElem!_pos z.cells _ hm]
      exact h1 _ (by simp))
  obtain ⟨m, rfl⟩ : ∃ m, n = m + 1 := ⟨n - 1, by omega⟩
  simp only [Nat.add_zero] at hst
  simp [Builtin.clear_, run_underlying ht, hv, hst]
theorem Cln.clearR {B : Nat} {w : World} {v : Value} {n : Nat} (h : Cln B w 30 v n 2) (hn : 0 < n) : ∃ g c L, v = .slice (some ⟨g, 0, none⟩) n c ∧ B ≤ g ∧ ∀ ty, (Builtin.clear_ #[45] ty #[v]).run Tryd.prog w = .ok (.tuple #[]) (w.setCells g 0 L) := by
  obtain ⟨g, c, cur, rfl, hB, hw, hs⟩ := h (by omega)
  obtain ⟨L, hL⟩ := run_clear_rows w 45 30 0 (.agg #[.string ⟨#[]⟩, .string ⟨#[]⟩]) 2 Tryd.underlying45 Tryd.zeroValue30 rfl (by simp [Value.cells, Value.oneCell']) g n c cur hn hw hs
  exact ⟨g, c, L, rfl, hB, fun ty => hL⟩
theorem Cln.clearI {B : Nat} {w : World} {v : Value} {n : Nat} (h : Cln B w 3 v n 1) (hn : 0 < n) : ∃ g c L, v = .slice (some ⟨g, 0, none⟩) n c ∧ B ≤ g ∧ ∀ ty, (Builtin.clear_ #[47] ty #[v]).run Tryd.prog w = .ok (.tuple #[]) (w.setCells g 0 L) := by
  obtain ⟨g, c, cur, rfl, hB, hw, hs⟩ := h (by omega)
  obtain ⟨L, hL⟩ := run_clear_rows w 47 3 0 (.int .i64 0) 1 Tryd.underlying47 Tryd.zeroValue3 rfl (by simp [Value.cells, Value.oneCell']) g n c cur hn hw hs
  exact ⟨g, c, L, rfl, hB, fun ty => hL⟩
end Go.Proofs.YtkkkppbcjmeapaaDoor
