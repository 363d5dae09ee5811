/- What ParseItem of ident returns, at every text. Condition: the text is no longer than 1,000,000 bytes. -/
import Derived.Test.YtmbnhbocablgeaaDoorParseM
namespace Go.Proofs.YtmbnhbocablgeaaDoor
open Go.RowKit

theorem parseItem_any (s : ByteArray) (w : World) (hs : s.size ≤ 1000000) :
    Calls Tryd.prog 22 #[.string s] w (ItemOut (pItemR s.data.toList) w) := by
  by_cases hp : Lib.hasPrefix s.data.toList [109] = true
  · by_cases hi : Lib.hasPrefix (rNum (Lib.trimPrefix s.data.toList [109], true)).1 inL = true
    · generalize h2 : rWord inL (rNum (Lib.trimPrefix s.data.toList [109], true)) = r
      obtain ⟨l2, k2⟩ := r
      cases k2
      · exact parseItem_m_true_bad s w _ l2 hs hp rfl hi h2
      · by_cases hpos : 0 < rNumV (Lib.trimPrefix s.data.toList [109])
        · exact parseItem_m_true_yes s w _ l2 hs hp rfl hi h2 hpos
        · exact parseItem_m_true_no s w _ l2 hs hp rfl hi h2 hpos
    · have hi : Lib.hasPrefix (rNum (Lib.trimPrefix s.data.toList [109], true)).1 inL = false := by simpa using hi
      generalize h2 : rNeed outL (rNum (Lib.trimPrefix s.data.toList [109], true)) = r
      obtain ⟨l2, k2⟩ := r
      cases k2
      · exact parseItem_m_false_bad s w _ l2 hs hp rfl hi h2
      · by_cases hpos : 0 < rNumV (Lib.trimPrefix s.data.toList [109])
        · exact parseItem_m_false_yes s w _ l2 hs hp rfl hi h2 hpos
        · exact parseItem_m_false_no s w _ l2 hs hp rfl hi h2 hpos
  · exact parseItem_eff s w hs (by simpa using hp)
end Go.Proofs.YtmbnhbocablgeaaDoor
