/-
  DERIVED. GIVEN WITH THE SEED: THE CARDS: each row of YtdgloipckcjhaaaDoorRows.lean that lists a variable, with what it lists TIED to the program's text (the seventh form; the later family's looks); each row that meets fmt, with fmt's text TOLD by the authors' own Lean function (tested against real Go, not proved from fmt's source: count such statements apart). THE CARD IS WHAT COUNTS. Prove the row's statement (the work); the ties are given (YtdgloipckcjhaaaDoorTie.lean); close each card by the builder's one call (the guide's Derived/Test/ToyasCard.lean, 'card_holds'). Laid BY PROGRAM, IN A SANDBOX (cutbox-door.mjs). By AI agents, Wed Nov 11 2026. No macro, syntax, notation, axiom, sorry.
-/
import Derived.Test.YtdgloipckcjhaaaDoorRows
import GoSem.ClaimSeven
namespace Go.Proofs.YtdgloipckcjhaaaDoor
namespace Rows

/-- THE TIED CARD OF 'skaldlaw02.CrcJoins'. -/
def crcJoinsCard : Claim7 := { stood := { row := crcJoinsRow, standIns := [], harness := (true, "7262fc28395f124ebb0f5963a498777f3985dc8d6b729efcc51f3a873d3b00ee"), looks := true }, kinds := [], alts := [], laidByText := true, laidKinds := [.data, .data, .data, .data, .sentinel, .sentinel, .data, .pinned], laidTests := true, laidLooks := .later }
def CrcJoinsCardSaid : Prop := Claim7.holds Tryd.pinned (.plain (OpenSpec.ofChange crcJoinsSpec)) crcJoinsCard

/-- THE TIED CARD OF 'skaldlaw02.CrcTexts'. -/
def crcTextsCard : Claim7 := { stood := { row := crcTextsRow, standIns := [], harness := (true, "7262fc28395f124ebb0f5963a498777f3985dc8d6b729efcc51f3a873d3b00ee"), looks := true }, kinds := [], alts := [], laidByText := true, laidKinds := [.data, .data, .data, .data, .sentinel, .sentinel, .data, .pinned], laidTests := true, laidLooks := .later }
def CrcTextsCardSaid : Prop := Claim7.holds Tryd.pinned (.plain (OpenSpec.ofChange crcTextsSpec)) crcTextsCard

/-- THE TIED CARD OF 'skaldlaw02.CrcParts'. -/
def crcPartsCard : Claim7 := { stood := { row := crcPartsRow, standIns := [], harness := (true, "7262fc28395f124ebb0f5963a498777f3985dc8d6b729efcc51f3a873d3b00ee"), looks := true }, kinds := [], alts := [], laidByText := true, laidKinds := [.data, .data, .data, .data, .sentinel, .sentinel, .data, .pinned], laidTests := true, laidLooks := .later }
def CrcPartsCardSaid : Prop := Claim7.holds Tryd.pinned (.plain (OpenSpec.ofChange crcPartsSpec)) crcPartsCard

/-- THE TIED CARD OF 'skaldlaw02.CrcThree'. -/
def crcThreeCard : Claim7 := { stood := { row := crcThreeRow, standIns := [], harness := (true, "7262fc28395f124ebb0f5963a498777f3985dc8d6b729efcc51f3a873d3b00ee"), looks := true }, kinds := [], alts := [], laidByText := true, laidKinds := [.data, .data, .data, .data, .sentinel, .sentinel, .data, .pinned], laidTests := true, laidLooks := .later }
def CrcThreeCardSaid : Prop := Claim7.holds Tryd.pinned (.plain (OpenSpec.ofChange crcThreeSpec)) crcThreeCard

/-- THE TIED CARD OF 'skaldlaw02.CrcOrder'. -/
def crcOrderCard : Claim7 := { stood := { row := crcOrderRow, standIns := [], harness := (true, "7262fc28395f124ebb0f5963a498777f3985dc8d6b729efcc51f3a873d3b00ee"), looks := true }, kinds := [], alts := [], laidByText := true, laidKinds := [.data, .data, .data, .data, .sentinel, .sentinel, .data, .pinned], laidTests := true, laidLooks := .later }
def CrcOrderCardSaid : Prop := Claim7.holds Tryd.pinned (.plain (OpenSpec.ofChange crcOrderSpec)) crcOrderCard

/-- THE TIED CARD OF 'skaldlaw02.CrcRefuses'. -/
def crcRefusesCard : Claim7 := { stood := { row := crcRefusesRow, standIns := [], harness := (true, "7262fc28395f124ebb0f5963a498777f3985dc8d6b729efcc51f3a873d3b00ee"), looks := true }, kinds := [], alts := [], laidByText := true, laidKinds := [.data, .data, .data, .data, .sentinel, .sentinel, .data, .pinned], laidTests := true, laidLooks := .later }
def CrcRefusesCardSaid : Prop := Claim7.holds Tryd.pinned (.plain (OpenSpec.ofChange crcRefusesSpec)) crcRefusesCard

/-- THE TIED CARD OF 'skaldlaw02.CrcTables'. -/
def crcTablesCard : Claim7 := { stood := { row := crcTablesRow, standIns := [], harness := (true, "7262fc28395f124ebb0f5963a498777f3985dc8d6b729efcc51f3a873d3b00ee"), looks := true }, kinds := [], alts := [], laidByText := true, laidKinds := [.data, .data, .data, .data, .sentinel, .sentinel, .data, .pinned], laidTests := true, laidLooks := .later }
def CrcTablesCardSaid : Prop := Claim7.holds Tryd.pinned (.plain (OpenSpec.ofChange crcTablesSpec)) crcTablesCard

/-- THE TIED CARD OF 'skaldlaw02.CrcBack'. -/
def crcBackCard : Claim7 := { stood := { row := crcBackRow, standIns := [], harness := (true, "7262fc28395f124ebb0f5963a498777f3985dc8d6b729efcc51f3a873d3b00ee"), looks := true }, kinds := [], alts := [], laidByText := true, laidKinds := [.data, .data, .data, .data, .sentinel, .sentinel, .data, .pinned], laidTests := true, laidLooks := .later }
def CrcBackCardSaid : Prop := Claim7.holds Tryd.pinned (.plain (OpenSpec.ofChange crcBackSpec)) crcBackCard

/-- THE TIED CARD OF 'skaldlaw02.CrcSums'. -/
def crcSumsCard : Claim7 := { stood := { row := crcSumsRow, standIns := [], harness := (true, "7262fc28395f124ebb0f5963a498777f3985dc8d6b729efcc51f3a873d3b00ee"), looks := true }, kinds := [], alts := [], laidByText := true, laidKinds := [.data, .data, .data, .data, .sentinel, .sentinel, .data, .pinned], laidTests := true, laidLooks := .later }
def CrcSumsCardSaid : Prop := Claim7.holds Tryd.pinned (.plain (OpenSpec.ofChange crcSumsSpec)) crcSumsCard

/-- THE TIED CARD OF 'skaldlaw02.CrcBursts'. -/
def crcBurstsCard : Claim7 := { stood := { row := crcBurstsRow, standIns := [], harness := (true, "7262fc28395f124ebb0f5963a498777f3985dc8d6b729efcc51f3a873d3b00ee"), looks := true }, kinds := [], alts := [], laidByText := true, laidKinds := [.data, .data, .data, .data, .sentinel, .sentinel, .data, .pinned], laidTests := true, laidLooks := .later }
def CrcBurstsCardSaid : Prop := Claim7.holds Tryd.pinned (.plain (OpenSpec.ofChange crcBurstsSpec)) crcBurstsCard

/-- THE SECOND FORM's CARD OF 'skaldlaw02.CrcJoins'. -/
def crcJoinsUptoCard : Claim7 := { stood := { row := crcJoinsUptoRow, standIns := [], harness := (true, "7262fc28395f124ebb0f5963a498777f3985dc8d6b729efcc51f3a873d3b00ee"), looks := true }, kinds := [], alts := [], laidByText := true, laidKinds := [.data, .data, .data, .data, .sentinel, .sentinel, .data, .pinned], laidTests := true, laidLooks := .later }
def CrcJoinsUptoCardSaid : Prop := Claim7.holds Tryd.pinned (.plain (OpenSpec.upto crcJoinsSpec)) crcJoinsUptoCard

/-- THE SECOND FORM's CARD OF 'skaldlaw02.CrcTexts'. -/
def crcTextsUptoCard : Claim7 := { stood := { row := crcTextsUptoRow, standIns := [], harness := (true, "7262fc28395f124ebb0f5963a498777f3985dc8d6b729efcc51f3a873d3b00ee"), looks := true }, kinds := [], alts := [], laidByText := true, laidKinds := [.data, .data, .data, .data, .sentinel, .sentinel, .data, .pinned], laidTests := true, laidLooks := .later }
def CrcTextsUptoCardSaid : Prop := Claim7.holds Tryd.pinned (.plain (OpenSpec.upto crcTextsSpec)) crcTextsUptoCard

/-- THE SECOND FORM's CARD OF 'skaldlaw02.CrcParts'. -/
def crcPartsUptoCard : Claim7 := { stood := { row := crcPartsUptoRow, standIns := [], harness := (true, "7262fc28395f124ebb0f5963a498777f3985dc8d6b729efcc51f3a873d3b00ee"), looks := true }, kinds := [], alts := [], laidByText := true, laidKinds := [.data, .data, .data, .data, .sentinel, .sentinel, .data, .pinned], laidTests := true, laidLooks := .later }
def CrcPartsUptoCardSaid : Prop := Claim7.holds Tryd.pinned (.plain (OpenSpec.upto crcPartsSpec)) crcPartsUptoCard

/-- THE SECOND FORM's CARD OF 'skaldlaw02.CrcThree'. -/
def crcThreeUptoCard : Claim7 := { stood := { row := crcThreeUptoRow, standIns := [], harness := (true, "7262fc28395f124ebb0f5963a498777f3985dc8d6b729efcc51f3a873d3b00ee"), looks := true }, kinds := [], alts := [], laidByText := true, laidKinds := [.data, .data, .data, .data, .sentinel, .sentinel, .data, .pinned], laidTests := true, laidLooks := .later }
def CrcThreeUptoCardSaid : Prop := Claim7.holds Tryd.pinned (.plain (OpenSpec.upto crcThreeSpec)) crcThreeUptoCard

/-- THE SECOND FORM's CARD OF 'skaldlaw02.CrcOrder'. -/
def crcOrderUptoCard : Claim7 := { stood := { row := crcOrderUptoRow, standIns := [], harness := (true, "7262fc28395f124ebb0f5963a498777f3985dc8d6b729efcc51f3a873d3b00ee"), looks := true }, kinds := [], alts := [], laidByText := true, laidKinds := [.data, .data, .data, .data, .sentinel, .sentinel, .data, .pinned], laidTests := true, laidLooks := .later }
def CrcOrderUptoCardSaid : Prop := Claim7.holds Tryd.pinned (.plain (OpenSpec.upto crcOrderSpec)) crcOrderUptoCard

/-- THE SECOND FORM's CARD OF 'skaldlaw02.CrcRefuses'. -/
def crcRefusesUptoCard : Claim7 := { stood := { row := crcRefusesUptoRow, standIns := [], harness := (true, "7262fc28395f124ebb0f5963a498777f3985dc8d6b729efcc51f3a873d3b00ee"), looks := true }, kinds := [], alts := [], laidByText := true, laidKinds := [.data, .data, .data, .data, .sentinel, .sentinel, .data, .pinned], laidTests := true, laidLooks := .later }
def CrcRefusesUptoCardSaid : Prop := Claim7.holds Tryd.pinned (.plain (OpenSpec.upto crcRefusesSpec)) crcRefusesUptoCard

/-- THE SECOND FORM's CARD OF 'skaldlaw02.CrcTables'. -/
def crcTablesUptoCard : Claim7 := { stood := { row := crcTablesUptoRow, standIns := [], harness := (true, "7262fc28395f124ebb0f5963a498777f3985dc8d6b729efcc51f3a873d3b00ee"), looks := true }, kinds := [], alts := [], laidByText := true, laidKinds := [.data, .data, .data, .data, .sentinel, .sentinel, .data, .pinned], laidTests := true, laidLooks := .later }
def CrcTablesUptoCardSaid : Prop := Claim7.holds Tryd.pinned (.plain (OpenSpec.upto crcTablesSpec)) crcTablesUptoCard

/-- THE SECOND FORM's CARD OF 'skaldlaw02.CrcBack'. -/
def crcBackUptoCard : Claim7 := { stood := { row := crcBackUptoRow, standIns := [], harness := (true, "7262fc28395f124ebb0f5963a498777f3985dc8d6b729efcc51f3a873d3b00ee"), looks := true }, kinds := [], alts := [], laidByText := true, laidKinds := [.data, .data, .data, .data, .sentinel, .sentinel, .data, .pinned], laidTests := true, laidLooks := .later }
def CrcBackUptoCardSaid : Prop := Claim7.holds Tryd.pinned (.plain (OpenSpec.upto crcBackSpec)) crcBackUptoCard

/-- THE SECOND FORM's CARD OF 'skaldlaw02.CrcSums'. -/
def crcSumsUptoCard : Claim7 := { stood := { row := crcSumsUptoRow, standIns := [], harness := (true, "7262fc28395f124ebb0f5963a498777f3985dc8d6b729efcc51f3a873d3b00ee"), looks := true }, kinds := [], alts := [], laidByText := true, laidKinds := [.data, .data, .data, .data, .sentinel, .sentinel, .data, .pinned], laidTests := true, laidLooks := .later }
def CrcSumsUptoCardSaid : Prop := Claim7.holds Tryd.pinned (.plain (OpenSpec.upto crcSumsSpec)) crcSumsUptoCard

/-- THE SECOND FORM's CARD OF 'skaldlaw02.CrcBursts'. -/
def crcBurstsUptoCard : Claim7 := { stood := { row := crcBurstsUptoRow, standIns := [], harness := (true, "7262fc28395f124ebb0f5963a498777f3985dc8d6b729efcc51f3a873d3b00ee"), looks := true }, kinds := [], alts := [], laidByText := true, laidKinds := [.data, .data, .data, .data, .sentinel, .sentinel, .data, .pinned], laidTests := true, laidLooks := .later }
def CrcBurstsUptoCardSaid : Prop := Claim7.holds Tryd.pinned (.plain (OpenSpec.upto crcBurstsSpec)) crcBurstsUptoCard
end Rows
end Go.Proofs.YtdgloipckcjhaaaDoor
