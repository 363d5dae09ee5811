/- The operation that numbers make. Condition: the numbers lie as their types say. -/
import Derived.Test.YtojodekmmkemgaaGreatDoorScMd2
import Derived.Test.YtojodekmmkemgaaGreatDoorScMd3
import Derived.Test.YtojodekmmkemgaaGreatDoorScMd4
import Derived.Test.YtojodekmmkemgaaGreatDoorScMd5
import Derived.Test.YtojodekmmkemgaaGreatDoorScMd6
import Derived.Test.YtojodekmmkemgaaGreatDoorScMd7
namespace Go.Proofs.YtojodekmmkemgaaGreatDoor
open Go.RowKit Go.Shelf

theorem made_any (x : No) (w : World) (hz : NoZ x) : Calls Tryz.prog 11 #[.agg (nAo x)] w fun e w' => MdO x w e w' := by
  have h12 : kO x = 1 ∨ kO x = 2 ∨ kO x = 3 ∨ kO x = 4 ∨ kO x = 5 ∨ kO x = 6 ∨ kO x = 7 ∨ kO x = 8 ∨ kO x = 9 ∨ kO x = 10 ∨ kO x = 11 ∨ kO x = 12 := by unfold kO; omega
  rcases h12 with h | h | h | h | h | h | h | h | h | h | h | h
  · exact made_1 x w hz h
  · exact made_2 x w hz h
  · exact made_3 x w hz h
  · exact made_0 x w hz (.inl h)
  · exact made_0 x w hz (.inr (.inl h))
  · exact made_6 x w hz h
  · exact made_0 x w hz (.inr (.inr h))
  · exact made_8 x w hz h
  · exact made_9 x w hz h
  · exact made_10 x w hz h
  · exact made_11 x w hz h
  · exact made_12 x w hz h
end Go.Proofs.YtojodekmmkemgaaGreatDoor
