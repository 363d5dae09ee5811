/- A command given as an argument, as memory holds it. No condition. -/
import Derived.Test.YtgjnmfmbheejoaaGreatDoorFrameD
import Derived.Test.YtgjnmfmbheejoaaGreatDoorCmRow
import Derived.Test.YtgjnmfmbheejoaaGreatDoorCmLit
namespace Go.Proofs.YtgjnmfmbheejoaaGreatDoor
open Go.ChangeShapes Go.WideShapes Go.ChangeAt Go.RowKit Go.Deep

section
variable {H : Type} {enc : TypeId × Value → H} {w : World} {base : Nat} {spare : Nat → Bool} {held : Bool}
set_option maxRecDepth 100000 in
theorem open_cmdSteps {fuel : Nat} {cs : List Value} {q : DataW H × List MemPlace} (h : DataW.trod enc Tryz.prog w base spare held fuel 36 cs = some q) :
    ∃ (A : Option Addr) (n c : Nat) (s : List Sp), (cs.drop 15).take 1 = [.slice A n c] ∧ n ≤ c ∧ n ≤ 9223372036854775807 ∧ s.length = n ∧ (∀ (i : Nat) p, s[i]? = some p → SpZ p) ∧ SlD w A s := by
  obtain ⟨xs, m, _, _, hl, hlen, hf⟩ := DataW.trod_struct Tryz.underlying36 h
  have h9 : DataW.trod enc Tryz.prog w base spare held m 31 ((cs.drop 12).take (Tryz.prog.cellsOf 31)) = xs[9]? := hf 9 _ rfl
  have hx : 9 < xs.length := by rw [hlen]; decide
  rw [List.getElem?_eq_getElem hx] at h9
  obtain ⟨y0, y1, y2, y3, m2, _, _, _, _, _, h3⟩ := Joins.trod_struct4 Tryz.underlying31 h9
  have hd : Tryz.prog.cellsOf 31 = 4 := by kernel_rfl
  have hs : Tryz.prog.cellsOf 29 = 1 := by kernel_rfl
  have h3 : DataW.trod enc Tryz.prog w base spare held m2 29 ((((cs.drop 12).take (Tryz.prog.cellsOf 31)).drop 3).take (Tryz.prog.cellsOf 29)) = some y3 := h3
  obtain ⟨A, n, c, s, hcs, g⟩ := open_stepsD h3
  rw [hd, hs] at hcs
  refine ⟨A, n, c, s, ?_, g⟩
  rw [← hcs, List.drop_take, List.drop_drop, List.take_take]
  rfl
set_option maxRecDepth 100000 in
set_option maxHeartbeats 2000000 in
/-- The command of an argument. -/
theorem open_cmd {fuel : Nat} {W : World} {r : Reach} {b : Nat} {v : Value} {q : DataW H × List MemPlace} (ho : Value.okWide Tryz.prog W r b 36 v) (h : DataW.trod enc Tryz.prog w base spare held fuel 36 v.cells.toList = some q) :
    ∃ (c : Cv) (A : Option Addr) (n m : Nat), v = .agg (cA c A n m) ∧ CmdWk w c A n m := by
  obtain ⟨cs, rfl, hsz, hc⟩ := row_cells (ts := [3, 3, 3, 3, 3, 3, 9, 2, 3, 9, 9, 3, 9, 3, 3, 29, 3, 3, 3, 3, 4, 3, 34, 9]) Tryz.underlying36 (by kernel_rfl) (by kernel_rfl) ho
  obtain ⟨l⟩ := cs
  match l, hsz with
  | [c0, c1, c2, c3, c4, c5, c6, c7, c8, c9, c10, c11, c12, c13, c14, c15, c16, c17, c18, c19, c20, c21, c22, c23], _ =>
    obtain ⟨x0, rfl, a0, b0⟩ := cell_intP Tryz.underlying3 (hc 0 (by decide) c0 rfl)
    obtain ⟨x1, rfl, a1, b1⟩ := cell_intP Tryz.underlying3 (hc 1 (by decide) c1 rfl)
    obtain ⟨x2, rfl, a2, b2⟩ := cell_intP Tryz.underlying3 (hc 2 (by decide) c2 rfl)
    obtain ⟨x3, rfl, a3, b3⟩ := cell_intP Tryz.underlying3 (hc 3 (by decide) c3 rfl)
    obtain ⟨x4, rfl, a4, b4⟩ := cell_intP Tryz.underlying3 (hc 4 (by decide) c4 rfl)
    obtain ⟨x5, rfl, a5, b5⟩ := cell_intP Tryz.underlying3 (hc 5 (by decide) c5 rfl)
    obtain ⟨x6, rfl, a6⟩ := cell_strP Tryz.underlying9 (hc 6 (by decide) c6 rfl)
    obtain ⟨x7, rfl, a7, b7⟩ := cell_intP Tryz.underlying2 (hc 7 (by decide) c7 rfl)
    obtain ⟨x8, rfl, a8, b8⟩ := cell_intP Tryz.underlying3 (hc 8 (by decide) c8 rfl)
    obtain ⟨x9, rfl, a9⟩ := cell_strP Tryz.underlying9 (hc 9 (by decide) c9 rfl)
    obtain ⟨x10, rfl, a10⟩ := cell_strP Tryz.underlying9 (hc 10 (by decide) c10 rfl)
    obtain ⟨x11, rfl, a11, b11⟩ := cell_intP Tryz.underlying3 (hc 11 (by decide) c11 rfl)
    obtain ⟨x12, rfl, a12⟩ := cell_strP Tryz.underlying9 (hc 12 (by decide) c12 rfl)
    obtain ⟨x13, rfl, a13, b13⟩ := cell_intP Tryz.underlying3 (hc 13 (by decide) c13 rfl)
    obtain ⟨x14, rfl, a14, b14⟩ := cell_intP Tryz.underlying3 (hc 14 (by decide) c14 rfl)
    obtain ⟨x16, rfl, a16, b16⟩ := cell_intP Tryz.underlying3 (hc 16 (by decide) c16 rfl)
    obtain ⟨x17, rfl, a17, b17⟩ := cell_intP Tryz.underlying3 (hc 17 (by decide) c17 rfl)
    obtain ⟨x18, rfl, a18, b18⟩ := cell_intP Tryz.underlying3 (hc 18 (by decide) c18 rfl)
    obtain ⟨x19, rfl, a19, b19⟩ := cell_intP Tryz.underlying3 (hc 19 (by decide) c19 rfl)
    obtain ⟨x20, rfl⟩ := cell_boolP Tryz.underlying4 (hc 20 (by decide) c20 rfl)
    obtain ⟨x21, rfl, a21, b21⟩ := cell_intP Tryz.underlying3 (hc 21 (by decide) c21 rfl)
    obtain ⟨x22, rfl, a22, b22⟩ := cell_intP Tryz.underlying34 (hc 22 (by decide) c22 rfl)
    obtain ⟨x23, rfl, a23⟩ := cell_strP Tryz.underlying9 (hc 23 (by decide) c23 rfl)
    obtain ⟨A, n, c, s, hcs, g1, g2, g3, g4, g5⟩ := open_cmdSteps h
    have e15 : c15 = .slice A n c := by
      have : [c15] = [Value.slice A n c] := hcs
      exact (List.cons.inj this).1
    subst e15
    refine ⟨⟨x0, x1, x2, x3, x4, x5, x6, x7, x8, x9, x10, x11, ⟨x12, x13, x14, s⟩, ⟨x16, x17, x18, x19, x20, x21⟩, x22, x23⟩, A, n, c, rfl, ?_⟩
    exact ⟨g3, g1, g2, ⟨⟨a0, b0⟩, ⟨a1, b1⟩, ⟨a2, b2⟩, ⟨a3, b3⟩, ⟨a4, b4⟩, ⟨a5, b5⟩, ⟨a7, b7⟩, ⟨a8, b8⟩, ⟨a11, b11⟩, ⟨a16, b16⟩, ⟨a17, b17⟩, ⟨a18, b18⟩, ⟨a19, b19⟩, ⟨a21, b21⟩, ⟨a22, b22⟩, a6, a9, a10, a23⟩, ⟨a12, ⟨a13, b13⟩, ⟨a14, b14⟩, g4⟩, g5⟩
end
end Go.Proofs.YtgjnmfmbheejoaaGreatDoor
