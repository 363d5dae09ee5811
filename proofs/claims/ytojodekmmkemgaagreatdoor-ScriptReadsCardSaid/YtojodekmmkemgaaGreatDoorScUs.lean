/- What an operation's kind uses, by the reference. Condition: sizes as a machine's integers can say. -/
import Derived.Test.YtojodekmmkemgaaGreatDoorScUsA
import Derived.Test.YtojodekmmkemgaaGreatDoorScUsB
import Derived.Test.YtojodekmmkemgaaGreatDoorScUsC
import Derived.Test.YtojodekmmkemgaaGreatDoorScUsD
namespace Go.Proofs.YtojodekmmkemgaaGreatDoor
open Go.RowKit Go.Shelf

theorem used_any (o : Ov) (A : Option Addr) (n m : Nat) (w : World) (h : OpIn w o A n m) :
    Calls Tryz.prog 63 #[.agg (oA o A n m)] w fun e w' => AloR o w w' e := by
  by_cases hr : 1 ≤ o.k ∧ o.k ≤ 12
  · have h12 : o.k = 1 ∨ o.k = 2 ∨ o.k = 3 ∨ o.k = 4 ∨ o.k = 5 ∨ o.k = 6 ∨ o.k = 7 ∨ o.k = 8 ∨ o.k = 9 ∨ o.k = 10 ∨ o.k = 11 ∨ o.k = 12 := by omega
    rcases h12 with hk | hk | hk | hk | hk | hk | hk | hk | hk | hk | hk | hk
    · exact used_1 o A n m w h hk
    · exact used_2 o A n m w h hk
    · exact used_3 o A n m w h hk
    · exact used_4 o A n m w h hk
    · exact used_5 o A n m w h hk
    · exact used_6 o A n m w h hk
    · exact used_7 o A n m w h hk
    · exact used_8 o A n m w h hk
    · exact used_9 o A n m w h hk
    · exact used_10 o A n m w h hk
    · exact used_11 o A n m w h hk
    · exact used_12 o A n m w h hk
  · exact used_0 o A n m w h hr
end Go.Proofs.YtojodekmmkemgaaGreatDoor
