/- A list of moves, given as an argument, as memory holds it. No condition. -/
import Derived.Test.YtkkkppbcjmeapaaDoorPtLop
import Derived.Test.YtkkkppbcjmeapaaDoorFrame31
import Derived.Deep.Strs
namespace Go.Proofs.YtkkkppbcjmeapaaDoor
open Go.ChangeShapes Go.WideShapes Go.ChangeAt Go.RowKit Go.Deep

section
variable {H : Type} {enc : TypeId × Value → H} {w : World} {base : Nat} {spare : Nat → Bool} {held : Bool}
theorem cells3 {b : Nat} {a : Addr} {cs : List Value} (h : w.cells? b a 3 = some cs) : ∃ x y z, cs = [x, y, z] ∧ w.cell? a = some x ∧ w.cell? (a.add 1) = some y ∧ w.cell? (a.add 2) = some z := by
  obtain ⟨_, hl, hc⟩ := World.cells?_some h
  match cs, hl with
  | [x, y, z], _ => exact ⟨x, y, z, rfl, by have := hc 0 (by decide); rw [show a.add 0 = a by unfold Addr.add; simp] at this; exact this, hc 1 (by decide), hc 2 (by decide)⟩
theorem u8_wf {n : Int} (h : (Lit.int .u8 n).wf = true) : 0 ≤ n ∧ n < 256 := by
  simp only [Lit.wf, Bool.and_eq_true, decide_eq_true_eq] at h
  have e1 : IntKind.u8.min = 0 := by decide
  have e2 : IntKind.u8.max = 255 := by decide
  omega
set_option maxRecDepth 100000 in
theorem open_move {fuel : Nat} {x y z : Value} {q : DataW H × List MemPlace} (h : DataW.trod enc Tryd.prog w base spare held fuel 24 [x, y, z] = some q) :
    ∃ a b c : Nat, a < 256 ∧ b < 256 ∧ c < 256 ∧ x = .int .u8 (a : Int) ∧ y = .int .u8 (b : Int) ∧ z = .int .u8 (c : Int) := by
  obtain ⟨y0, y1, y2, n, _, _, h0, h1, h2⟩ := trod_struct3 Tryd.underlying24 h
  obtain ⟨a, ha, _, wa⟩ := DataW.trod_int Tryd.underlying5 h0
  obtain ⟨b, hb, _, wb⟩ := DataW.trod_int Tryd.underlying5 h1
  obtain ⟨c, hc, _, wc⟩ := DataW.trod_int Tryd.underlying5 h2
  have wa := u8_wf wa
  have wb := u8_wf wb
  have wc := u8_wf wc
  have hs : Tryd.prog.cellsOf 5 = 1 := by kernel_rfl
  rw [hs] at ha hb hc
  obtain ⟨a, rfl⟩ := Int.eq_ofNat_of_zero_le wa.1
  obtain ⟨b, rfl⟩ := Int.eq_ofNat_of_zero_le wb.1
  obtain ⟨c, rfl⟩ := Int.eq_ofNat_of_zero_le wc.1
  refine ⟨a, b, c, by omega, by omega, by omega, ?_, ?_, ?_⟩
  · simpa using ha
  · simpa using hb
  · simpa using hc
theorem cell_u8P {P : Program} {W : World} {r : Reach} {b : Nat} {t : TypeId} {v : Value} (ht : P.underlying t = some (.int .u8)) (h : Cell.okWide P W r b t v) : ∃ n : Nat, v = .int .u8 (n : Int) ∧ n < 256 := by
  simp only [Cell.okWide, ht] at h
  have hv : ∃ n : Int, v = .int .u8 n ∧ IntKind.u8.has n := by cases v <;> simp_all [Cell.ok]
  obtain ⟨n, rfl, h1⟩ := hv
  have e1 : IntKind.u8.min = 0 := by decide
  have e2 : IntKind.u8.max = 255 := by decide
  unfold IntKind.has at h1
  rw [e1, e2] at h1
  obtain ⟨n, rfl⟩ := Int.eq_ofNat_of_zero_le h1.1
  exact ⟨n, rfl, by omega⟩
set_option maxRecDepth 100000 in
theorem open_mv {W : World} {r : Reach} {b : Nat} {v : Value} (h : Value.okWide Tryd.prog W r b 24 v) :
    ∃ x y z : Nat, v = .agg #[.int .u8 (x : Int), .int .u8 (y : Int), .int .u8 (z : Int)] ∧ x < 256 ∧ y < 256 ∧ z < 256 := by
  obtain ⟨cs, rfl, hsz, hc⟩ := row_cellsF (ts := [5, 5, 5]) Tryd.underlying24 (by kernel_rfl) (by kernel_rfl) h
  obtain ⟨l⟩ := cs
  match l, hsz with
  | [c0, c1, c2], _ =>
    obtain ⟨x, rfl, hx⟩ := cell_u8P Tryd.underlying5 (hc 0 (by decide) c0 rfl)
    obtain ⟨y, rfl, hy⟩ := cell_u8P Tryd.underlying5 (hc 1 (by decide) c1 rfl)
    obtain ⟨z, rfl, hz⟩ := cell_u8P Tryd.underlying5 (hc 2 (by decide) c2 rfl)
    exact ⟨x, y, z, rfl, hx, hy, hz⟩
set_option maxRecDepth 100000 in
theorem open_sl {W : World} {r : Reach} {b : Nat} {v : Value} (h : Value.okWide Tryd.prog W r b 22 v) : ∃ a n c, v = .slice a n c := by
  simp only [Value.okWide, Cell.okWide, Tryd.underlying22] at h
  cases v <;> simp_all [Cell.ok]
set_option maxRecDepth 100000 in
theorem open_moves {fuel : Nat} {cs : List Value} {x : DataW H × List MemPlace} (h : DataW.trod enc Tryd.prog w base spare held fuel 22 cs = some x) :
    ∃ (a : Option Addr) (len cap : Nat) (l : List (Nat × Nat × Nat)), cs = [.slice a len cap] ∧ len ≤ cap ∧ l.length = len ∧ SlM w a l := by
  have hc : Tryd.prog.cellsOf 24 = 3 := by kernel_rfl
  rcases DataW.trod_slice Tryd.underlying22 h with ⟨rfl, _⟩ | ⟨a, len, cap, elems, rest, n, _, rfl, rfl, hb, hl, hm, hlen, hel, _, _⟩
  · exact ⟨none, 0, 0, [], rfl, Nat.le_refl _, rfl, fun i p hi => by simp at hi⟩
  · rw [hc] at hel
    have each : ∀ i, i < len → ∃ m : Nat × Nat × Nat, m.1 < 256 ∧ m.2.1 < 256 ∧ m.2.2 < 256 ∧ w.cell? (a.add (i * 3)) = some (.int .u8 (m.1 : Int)) ∧ w.cell? ((a.add (i * 3)).add 1) = some (.int .u8 (m.2.1 : Int)) ∧ w.cell? ((a.add (i * 3)).add 2) = some (.int .u8 (m.2.2 : Int)) := fun i hi => by
      have h1 := hel i hi
      rw [List.getElem?_eq_getElem (by omega), Option.bind_eq_some_iff] at h1
      obtain ⟨cs', hcs, hy⟩ := h1
      obtain ⟨x, y, z, rfl, c0, c1, c2⟩ := cells3 hcs
      obtain ⟨p, q, r, hp, hq, hr, rfl, rfl, rfl⟩ := open_move hy
      exact ⟨(p, q, r), hp, hq, hr, c0, c1, c2⟩
    obtain ⟨f, hf⟩ := choose_lt each
    refine ⟨some a, len, cap, (List.range len).map f, rfl, hl, by simp, fun i p hi => ?_⟩
    simp only [List.getElem?_map, Option.map_eq_some_iff] at hi
    obtain ⟨j, hj, rfl⟩ := hi
    obtain ⟨hj1, hj2⟩ := List.getElem?_eq_some_iff.1 hj
    simp only [List.getElem_range] at hj2
    subst hj2
    obtain ⟨h1, h2, h3, h4, h5, h6⟩ := hf i (by simpa using hj1)
    exact ⟨h1, h2, h3, a, rfl, h4, h5, h6⟩
end
end Go.Proofs.YtkkkppbcjmeapaaDoor
