/- A definition given as an argument, as memory holds it. No condition. -/
import Derived.Test.YtojodekmmkemgaaGreatDoorFrame41E
import Derived.Deep.Strs
namespace Go.Proofs.YtojodekmmkemgaaGreatDoor
open Go.ChangeShapes Go.WideShapes Go.ChangeAt Go.RowKit Go.Deep

section
variable {H : Type} {enc : TypeId × Value → H} {w : World} {base : Nat} {spare : Nat → Bool} {held : Bool}
theorem add_z (a : Addr) : a.add 0 = a := by unfold Addr.add; simp
theorem add_n {a : Addr} (h : a.spot = none) (j : Nat) : a.add j = ⟨a.block, a.off + j, none⟩ := by
  obtain ⟨b, o, s⟩ := a
  dsimp only at h
  subst h
  unfold Addr.add
  split
  · rename_i e; subst e; rfl
  · rfl
theorem cells2 {b : Nat} {a : Addr} {cs : List Value} (h : w.cells? b a 2 = some cs) : ∃ x y, cs = [x, y] ∧ w.cell? a = some x ∧ w.cell? (a.add 1) = some y := by
  obtain ⟨_, hl, hc⟩ := World.cells?_some h
  match cs, hl with
  | [x, y], _ => exact ⟨x, y, rfl, by have := hc 0 (by decide); rw [add_z] at this; exact this, hc 1 (by decide)⟩
theorem i64_wf {n : Int} (h : (Lit.int .i64 n).wf = true) : -9223372036854775808 ≤ n ∧ n ≤ 9223372036854775807 := by
  simp only [Lit.wf, Bool.and_eq_true, decide_eq_true_eq] at h
  have e1 : IntKind.i64.min = -9223372036854775808 := by decide
  have e2 : IntKind.i64.max = 9223372036854775807 := by decide
  omega
instance : Inhabited Sp := ⟨⟨⟨#[]⟩, 0⟩⟩
set_option maxRecDepth 100000 in
theorem open_stepD {fuel : Nat} {x y : Value} {q : DataW H × List MemPlace} (h : DataW.trod enc Tryz.prog w base spare held fuel 71 [x, y] = some q) :
    ∃ p : Sp, SpZ p ∧ x = .string p.k ∧ y = .int .i64 p.v := by
  obtain ⟨y0, y1, n, _, _, h0, h1⟩ := trod_struct2 Tryz.underlying71 h
  obtain ⟨a, ha, _, wa⟩ := DataW.trod_string Tryz.underlying9 h0
  obtain ⟨b, hb, _, wb⟩ := DataW.trod_int Tryz.underlying2 h1
  unfold maxLen at wa
  have hs : Tryz.prog.cellsOf 9 = 1 := by kernel_rfl
  have hi : Tryz.prog.cellsOf 2 = 1 := by kernel_rfl
  rw [hs] at ha
  rw [hi] at hb
  exact ⟨⟨a, b⟩, ⟨by show a.size ≤ _; omega, (i64_wf wb).1, (i64_wf wb).2⟩, by simpa using ha, by simpa using hb⟩
set_option maxRecDepth 100000 in
theorem open_stepsD {fuel : Nat} {cs : List Value} {x : DataW H × List MemPlace} (h : DataW.trod enc Tryz.prog w base spare held fuel 30 cs = some x) :
    ∃ (A : Option Addr) (n c : Nat) (s : List Sp), cs = [.slice A n c] ∧ n ≤ c ∧ n ≤ 9223372036854775807 ∧ s.length = n ∧ (∀ (i : Nat) p, s[i]? = some p → SpZ p) ∧ SlD w A s := by
  have hc : Tryz.prog.cellsOf 71 = 2 := by kernel_rfl
  rcases DataW.trod_slice Tryz.underlying30 h with ⟨rfl, _⟩ | ⟨a, len, cap, elems, rest, n, _, rfl, rfl, hb, hl, hm, hlen, hel, _, _⟩
  · exact ⟨none, 0, 0, [], rfl, Nat.le_refl _, by omega, rfl, fun i p hi => by simp at hi, fun i p hi => by simp at hi⟩
  · rw [hc] at hel
    unfold maxLen at hm
    have each : ∀ i, i < len → ∃ p : Sp, SpZ p ∧ w.cell? (a.add (i * 2)) = some (.string p.k) ∧ w.cell? ((a.add (i * 2)).add 1) = some (.int .i64 p.v) := fun i hi => by
      have h1 := hel i hi
      rw [List.getElem?_eq_getElem (by omega), Option.bind_eq_some_iff] at h1
      obtain ⟨cs', hcs, hy⟩ := h1
      obtain ⟨x, y, rfl, c0, c1⟩ := cells2 hcs
      obtain ⟨p, hp, rfl, rfl⟩ := open_stepD hy
      exact ⟨p, hp, c0, c1⟩
    obtain ⟨f, hf⟩ := choose_lt each
    have at_ : ∀ (i : Nat) p, ((List.range len).map f)[i]? = some p → i < len ∧ p = f i := fun i p hi => by
      simp only [List.getElem?_map, Option.map_eq_some_iff] at hi
      obtain ⟨j, hj, rfl⟩ := hi
      obtain ⟨hj1, hj2⟩ := List.getElem?_eq_some_iff.1 hj
      simp only [List.getElem_range] at hj2
      subst hj2
      exact ⟨by simpa using hj1, rfl⟩
    refine ⟨some a, len, cap, (List.range len).map f, rfl, hl, by omega, by simp, fun i p hi => ?_, fun i p hi => ?_⟩
    · obtain ⟨h1, rfl⟩ := at_ i p hi
      exact (hf i h1).1
    · obtain ⟨h1, rfl⟩ := at_ i p hi
      have hsp : a.spot = none := by
        have := World.cell?_spot (hf 0 (by omega)).2.1
        rw [Nat.zero_mul, add_z] at this; exact this
      obtain ⟨_, c0, c1⟩ := hf i h1
      rw [add_n hsp] at c0 c1
      refine ⟨a.block, a.off, ?_, c0, ?_⟩
      · obtain ⟨b, o, s⟩ := a
        dsimp only at hsp
        subst hsp; rfl
      · rw [add_n rfl] at c1
        exact c1
set_option maxRecDepth 100000 in
theorem open_def4 {W : World} {r : Reach} {b : Nat} {v : Value} (h : Value.okWide Tryz.prog W r b 32 v) : ∃ x y z u : Value, v = .agg #[x, y, z, u] := by
  obtain ⟨cs, rfl, hsz, hc⟩ := row_cells (ts := [9, 3, 3, 30]) Tryz.underlying32 (by kernel_rfl) (by kernel_rfl) h
  obtain ⟨l⟩ := cs
  match l, hsz with
  | [c0, c1, c2, c3], _ => exact ⟨c0, c1, c2, c3, rfl⟩
set_option maxRecDepth 100000 in
/-- The definition of an argument. -/
theorem open_def {fuel : Nat} {W : World} {r : Reach} {b : Nat} {v : Value} {q : DataW H × List MemPlace} (ho : Value.okWide Tryz.prog W r b 32 v) (h : DataW.trod enc Tryz.prog w base spare held fuel 32 v.cells.toList = some q) :
    ∃ (d : Dv) (A : Option Addr) (n c : Nat), v = dV d A n c ∧ d.s.length = n ∧ n ≤ c ∧ n ≤ 9223372036854775807 ∧ DefZ d ∧ SlD w A d.s := by
  obtain ⟨x, y, z, u, rfl⟩ := open_def4 ho
  obtain ⟨y0, y1, y2, y3, m, _, _, h0, h1, h2, h3⟩ := Joins.trod_struct4 Tryz.underlying32 h
  have hs : Tryz.prog.cellsOf 9 = 1 := by kernel_rfl
  have hi : Tryz.prog.cellsOf 3 = 1 := by kernel_rfl
  have hl : Tryz.prog.cellsOf 30 = 1 := by kernel_rfl
  obtain ⟨a, ha, _, wa⟩ := DataW.trod_string Tryz.underlying9 h0
  obtain ⟨e, he, _, we⟩ := DataW.trod_int Tryz.underlying3 h1
  obtain ⟨f, hf, _, wf⟩ := DataW.trod_int Tryz.underlying3 h2
  obtain ⟨A, n, c, s, hcs, g1, g2, g3, g4, g5⟩ := open_stepsD h3
  unfold maxLen at wa
  rw [hs] at ha
  rw [hi] at he hf
  rw [hl] at hcs
  have ex : x = .string a := by simpa [Value.cells] using ha
  have ey : y = .int .i64 e := by simpa [Value.cells] using he
  have ez : z = .int .i64 f := by simpa [Value.cells] using hf
  have eu : u = .slice A n c := by simpa [Value.cells] using hcs
  subst ex ey ez eu
  exact ⟨⟨a, e, f, s⟩, A, n, c, rfl, g3, g1, g2, ⟨by show a.size ≤ _; omega, i64_wf we, i64_wf wf, g4⟩, g5⟩
end
end Go.Proofs.YtojodekmmkemgaaGreatDoor
