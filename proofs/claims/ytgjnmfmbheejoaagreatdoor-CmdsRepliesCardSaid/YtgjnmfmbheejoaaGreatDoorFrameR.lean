/- A reply given as an argument. No condition. -/
import Derived.Test.YtgjnmfmbheejoaaGreatDoorFrame33
import Derived.Deep.Strs
namespace Go.Proofs.YtgjnmfmbheejoaaGreatDoor
open Go.ChangeShapes Go.WideShapes Go.ChangeAt Go.RowKit Go.Deep

section
variable {H : Type} {enc : TypeId × Value → H} {w : World} {base : Nat} {spare : Nat → Bool} {held : Bool}
set_option maxRecDepth 100000 in
theorem open_reply3 {W : World} {r : Reach} {b : Nat} {v : Value} (h : Value.okWide Tryz.prog W r b 40 v) : ∃ x y z : Value, v = .agg #[x, y, z] := by
  obtain ⟨cs, rfl, hsz, hc⟩ := row_cells (ts := [34, 2, 9]) Tryz.underlying40 (by kernel_rfl) (by kernel_rfl) h
  obtain ⟨l⟩ := cs
  match l, hsz with
  | [c0, c1, c2], _ => exact ⟨c0, c1, c2, rfl⟩
set_option maxRecDepth 100000 in
/-- The reply of an argument. -/
theorem open_reply {fuel : Nat} {W : World} {r : Reach} {b : Nat} {v : Value} {q : DataW H × List MemPlace} (ho : Value.okWide Tryz.prog W r b 40 v) (h : DataW.trod enc Tryz.prog w base spare held fuel 40 v.cells.toList = some q) :
    ∃ (re rn : Int) (rd : ByteArray), v = .agg #[.int .i64 re, .int .i64 rn, .string rd] ∧ rd.size ≤ 9223372036854775807 := by
  obtain ⟨x, y, z, rfl⟩ := open_reply3 ho
  obtain ⟨y0, y1, y2, m, _, _, h0, h1, h2⟩ := trod_struct3 Tryz.underlying40 h
  have hs : Tryz.prog.cellsOf 9 = 1 := by kernel_rfl
  have hi : Tryz.prog.cellsOf 2 = 1 := by kernel_rfl
  have he : Tryz.prog.cellsOf 34 = 1 := by kernel_rfl
  obtain ⟨a, ha, _, _⟩ := DataW.trod_int Tryz.underlying34 h0
  obtain ⟨c, hc, _, _⟩ := DataW.trod_int Tryz.underlying2 h1
  obtain ⟨d, hd, _, wd⟩ := DataW.trod_string Tryz.underlying9 h2
  unfold maxLen at wd
  rw [he] at ha
  rw [hi] at hc
  rw [hs] at hd
  have ex : x = .int .i64 a := by simpa [Value.cells] using ha
  have ey : y = .int .i64 c := by simpa [Value.cells] using hc
  have ez : z = .string d := by simpa [Value.cells] using hd
  subst ex ey ez
  exact ⟨a, c, d, rfl, by omega⟩
end
end Go.Proofs.YtgjnmfmbheejoaaGreatDoor
