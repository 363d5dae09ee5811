/- A list of steps, of ranges or of numbers, given as an argument, as memory holds it. No condition. -/
import Derived.Test.YtkkkppbcjmeapaaDoorRtD
import Derived.Test.YtkkkppbcjmeapaaDoorFrame31M
namespace Go.Proofs.YtkkkppbcjmeapaaDoor
open Go.ChangeShapes Go.WideShapes Go.ChangeAt Go.RowKit Go.Deep

section
variable {H : Type} {enc : TypeId × Value → H} {w : World} {base : Nat} {spare : Nat → Bool} {held : Bool}
theorem add_z (a : Addr) : a.add 0 = a := by unfold Addr.add; simp
theorem cells4 {b : Nat} {a : Addr} {cs : List Value} (h : w.cells? b a 4 = some cs) : ∃ x y z u, cs = [x, y, z, u] ∧ w.cell? a = some x ∧ w.cell? (a.add 1) = some y ∧ w.cell? (a.add 2) = some z ∧ w.cell? (a.add 3) = some u := by
  obtain ⟨_, hl, hc⟩ := World.cells?_some h
  match cs, hl with
  | [x, y, z, u], _ => exact ⟨x, y, z, u, rfl, by have := hc 0 (by decide); rw [add_z] at this; exact this, hc 1 (by decide), hc 2 (by decide), hc 3 (by decide)⟩
theorem cells2 {b : Nat} {a : Addr} {cs : List Value} (h : w.cells? b a 2 = some cs) : ∃ x y, cs = [x, y] ∧ w.cell? a = some x ∧ w.cell? (a.add 1) = some y := by
  obtain ⟨_, hl, hc⟩ := World.cells?_some h
  match cs, hl with
  | [x, y], _ => exact ⟨x, y, rfl, by have := hc 0 (by decide); rw [add_z] at this; exact this, hc 1 (by decide)⟩
theorem cells1 {b : Nat} {a : Addr} {cs : List Value} (h : w.cells? b a 1 = some cs) : ∃ x, cs = [x] ∧ w.cell? a = some x := by
  obtain ⟨_, hl, hc⟩ := World.cells?_some h
  match cs, hl with
  | [x], _ => exact ⟨x, rfl, by have := hc 0 (by decide); rw [add_z] at this; exact this⟩
set_option maxRecDepth 100000 in
theorem open_rngD {fuel : Nat} {x y : Value} {q : DataW H × List MemPlace} (h : DataW.trod enc Tryd.prog w base spare held fuel 30 [x, y] = some q) :
    ∃ a b : ByteArray, a.size ≤ 9223372036854775807 ∧ b.size ≤ 9223372036854775807 ∧ x = .string a ∧ y = .string b := by
  obtain ⟨y0, y1, n, _, _, h0, h1⟩ := trod_struct2 Tryd.underlying30 h
  obtain ⟨a, ha, _, wa⟩ := DataW.trod_string Tryd.underlying9 h0
  obtain ⟨b, hb, _, wb⟩ := DataW.trod_string Tryd.underlying9 h1
  unfold maxLen at wa wb
  have hs : Tryd.prog.cellsOf 9 = 1 := by kernel_rfl
  rw [hs] at ha hb
  exact ⟨a, b, by omega, by omega, by simpa using ha, by simpa using hb⟩
set_option maxRecDepth 100000 in
theorem open_step {fuel : Nat} {x y z u : Value} {q : DataW H × List MemPlace} (h : DataW.trod enc Tryd.prog w base spare held fuel 68 [x, y, z, u] = some q) :
    ∃ (a b : ByteArray) (g : Int) (c : Bool), a.size ≤ 9223372036854775807 ∧ b.size ≤ 9223372036854775807 ∧ x = .string a ∧ y = .string b ∧ z = .int .i64 g ∧ u = .bool c := by
  obtain ⟨y0, y1, y2, n, _, _, h0, h1, h2⟩ := trod_struct3 Tryd.underlying68 h
  have hr : Tryd.prog.cellsOf 30 = 2 := by kernel_rfl
  have hi : Tryd.prog.cellsOf 3 = 1 := by kernel_rfl
  have hb : Tryd.prog.cellsOf 4 = 1 := by kernel_rfl
  rw [hr] at h0
  obtain ⟨a, b, wa, wb, ha, hb'⟩ := open_rngD (x := x) (y := y) (by simpa using h0)
  obtain ⟨g, hg, _, _⟩ := DataW.trod_int Tryd.underlying3 h1
  obtain ⟨c, hc, _⟩ := DataW.trod_bool Tryd.underlying4 h2
  rw [hi] at hg
  rw [hb] at hc
  exact ⟨a, b, g, c, wa, wb, ha, hb', by simpa using hg, by simpa using hc⟩
set_option maxRecDepth 100000 in
theorem open_steps {fuel : Nat} {cs : List Value} {x : DataW H × List MemPlace} (h : DataW.trod enc Tryd.prog w base spare held fuel 62 cs = some x) :
    ∃ (a : Option Addr) (len cap : Nat) (l : List ((ByteArray × ByteArray) × Int × Bool)), cs = [.slice a len cap] ∧ len ≤ 9223372036854775807 ∧ l.length = len ∧ SlS w a l := by
  have hc : Tryd.prog.cellsOf 68 = 4 := by kernel_rfl
  rcases DataW.trod_slice Tryd.underlying62 h with ⟨rfl, _⟩ | ⟨a, len, cap, elems, rest, n, _, rfl, rfl, hb, hl, hm, hlen, hel, _, _⟩
  · exact ⟨none, 0, 0, [], rfl, by omega, rfl, fun i p hi => by simp at hi⟩
  · rw [hc] at hel
    unfold maxLen at hm
    have each : ∀ i, i < len → ∃ m : (ByteArray × ByteArray) × Int × Bool, m.1.1.size ≤ 9223372036854775807 ∧ m.1.2.size ≤ 9223372036854775807 ∧ w.cell? (a.add (i * 4)) = some (.string m.1.1) ∧ w.cell? ((a.add (i * 4)).add 1) = some (.string m.1.2) ∧ w.cell? ((a.add (i * 4)).add 2) = some (.int .i64 m.2.1) ∧ w.cell? ((a.add (i * 4)).add 3) = some (.bool m.2.2) := fun i hi => by
      have h1 := hel i hi
      rw [List.getElem?_eq_getElem (by omega), Option.bind_eq_some_iff] at h1
      obtain ⟨cs', hcs, hy⟩ := h1
      obtain ⟨x, y, z, u, rfl, c0, c1, c2, c3⟩ := cells4 hcs
      obtain ⟨p, q, g, c, hp, hq, rfl, rfl, rfl, rfl⟩ := open_step hy
      exact ⟨((p, q), g, c), hp, hq, c0, c1, c2, c3⟩
    obtain ⟨f, hf⟩ := choose_lt each
    refine ⟨some a, len, cap, (List.range len).map f, rfl, by omega, by simp, fun i p hi => ?_⟩
    simp only [List.getElem?_map, Option.map_eq_some_iff] at hi
    obtain ⟨j, hj, rfl⟩ := hi
    obtain ⟨hj1, hj2⟩ := List.getElem?_eq_some_iff.1 hj
    simp only [List.getElem_range] at hj2
    subst hj2
    obtain ⟨h1, h2, h3, h4, h5, h6⟩ := hf i (by simpa using hj1)
    rw [add_s] at h4 h5 h6
    exact ⟨h1, h2, a, rfl, h3, h4, h5, h6⟩
set_option maxRecDepth 100000 in
theorem open_slS {W : World} {r : Reach} {b : Nat} {v : Value} (h : Value.okWide Tryd.prog W r b 62 v) : ∃ a n c, v = .slice a n c := by
  simp only [Value.okWide, Cell.okWide, Tryd.underlying62] at h
  cases v <;> simp_all [Cell.ok]
end
end Go.Proofs.YtkkkppbcjmeapaaDoor
