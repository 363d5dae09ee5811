/- The frame of statements on commands: their listed variables, and a world for the witness. No condition. -/
import Derived.Test.YtgjnmfmbheejoaaGreatDoorFrameB
namespace Go.Proofs.YtgjnmfmbheejoaaGreatDoor
open Go.ChangeShapes Go.WideShapes Go.ChangeAt Go.RowKit

abbrev laidL : List (String × DataW Unit) := Rows.cmdsAnswersRow.laid
theorem laid_plain (W : World) : laidMetH Tryz.prog laidL W = laidMet Tryz.prog laidL W := MakeChecks.laidMetH_plain _ _ _ (by kernel_rfl)
theorem env_of {W : World} (h : laidMetH Tryz.prog laidL W) (hs : W.ShapedOpen Tryz.prog) : DfE W := env_gen (laid_plain W) (List.Mem.tail _ (List.Mem.tail _ (List.Mem.head _))) h hs
/-- A world for the witness. -/
noncomputable def laidWorld (os : Os) : World := World.laidAll Tryz.prog os laidL
theorem laid_met (os : Os) (args : Array Value) : laidMetH Tryz.prog laidL ((laidWorld os).forCall (fun _ _ => 0) ⟨#[], args, []⟩).memory := by
  rw [laid_plain]
  exact laidMet_laidAll args (by kernel_rfl) (by kernel_rfl)
end Go.Proofs.YtgjnmfmbheejoaaGreatDoor
