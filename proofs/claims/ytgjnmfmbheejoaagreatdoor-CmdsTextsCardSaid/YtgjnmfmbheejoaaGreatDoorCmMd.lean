/- The command that numbers make. Condition: the table of kinds lies in memory. -/
import Derived.Test.YtgjnmfmbheejoaaGreatDoorCmMd0
import Derived.Test.YtgjnmfmbheejoaaGreatDoorCmMd1
import Derived.Test.YtgjnmfmbheejoaaGreatDoorCmMd2
import Derived.Test.YtgjnmfmbheejoaaGreatDoorCmMd3
import Derived.Test.YtgjnmfmbheejoaaGreatDoorCmMd4
import Derived.Test.YtgjnmfmbheejoaaGreatDoorCmMd5
import Derived.Test.YtgjnmfmbheejoaaGreatDoorCmMd6
import Derived.Test.YtgjnmfmbheejoaaGreatDoorCmMd7
import Derived.Test.YtgjnmfmbheejoaaGreatDoorCmMd8
import Derived.Test.YtgjnmfmbheejoaaGreatDoorCmMd9a
import Derived.Test.YtgjnmfmbheejoaaGreatDoorCmMd9b
import Derived.Test.YtgjnmfmbheejoaaGreatDoorCmMd9c
namespace Go.Proofs.YtgjnmfmbheejoaaGreatDoor
open Go.RowKit Go.Shelf

theorem made_any (x : Nv) (hz : NvZ x) (w : World) (hK : KndE w) :
    Calls Tryz.prog 36 #[.agg (nA x)] w fun e w' => MadeR x w w' e := by
  have h10 : x.kind % 10 = 0 ∨ x.kind % 10 = 1 ∨ x.kind % 10 = 2 ∨ x.kind % 10 = 3 ∨ x.kind % 10 = 4 ∨ x.kind % 10 = 5 ∨ x.kind % 10 = 6 ∨ x.kind % 10 = 7 ∨ x.kind % 10 = 8 ∨ x.kind % 10 = 9 := by omega
  rcases h10 with h | h | h | h | h | h | h | h | h | h
  · exact made_0 x hz h w hK
  · exact made_1 x hz h w hK
  · exact made_2 x hz h w hK
  · exact made_3 x hz h w hK
  · exact made_4 x hz h w hK
  · exact made_5 x hz h w hK
  · exact made_6 x hz h w hK
  · exact made_7 x hz h w hK
  · exact made_8 x hz h w hK
  · by_cases h1 : x.key < 128
    · exact made_9a x hz h h1 w hK
    · by_cases h2 : x.step < 128
      · exact made_9c x hz h ⟨by omega, h2⟩ w hK
      · exact made_9b x hz h ⟨by omega, by omega⟩ w hK
end Go.Proofs.YtgjnmfmbheejoaaGreatDoor
