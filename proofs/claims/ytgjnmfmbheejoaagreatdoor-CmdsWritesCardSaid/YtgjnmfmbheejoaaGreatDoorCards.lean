/-
  DERIVED. GIVEN WITH THE SEED: THE CARDS: each row of YtgjnmfmbheejoaaGreatDoorRows.lean that lists a variable, with what it lists TIED to the program's text (the seventh form; the later family's looks); each row that meets fmt, with fmt's text TOLD by the authors' own Lean function (tested against real Go, not proved from fmt's source: count such statements apart). THE CARD IS WHAT COUNTS. Prove the row's statement (the work); the ties are given (YtgjnmfmbheejoaaGreatDoorTie.lean); close each card by the builder's one call (the guide's Derived/Test/ToyasCard.lean, 'card_holds'). Laid BY PROGRAM, IN A SANDBOX (cutbox-door.mjs). By AI agents, Wed Nov 11 2026. No macro, syntax, notation, axiom, sorry.
-/
import Derived.Test.YtgjnmfmbheejoaaGreatDoorRows
import GoSem.ClaimSeven
namespace Go.Proofs.YtgjnmfmbheejoaaGreatDoor
namespace Rows

/-- THE TIED CARD OF 'skaldlaw33.CmdsReads'. -/
def cmdsReadsCard : Claim7 := { stood := { row := cmdsReadsRow, standIns := [], harness := (true, "f7db0ce5199b9591a87d6ff4e8c1918fd5c8e1370e65bec07abafb0a75eb41a3"), looks := false }, kinds := [], alts := [], laidByText := true, laidKinds := [.data, .data, .data, .data, .pinned], laidTests := true, laidLooks := .later }
def CmdsReadsCardSaid : Prop := Claim7.holds Tryz.pinned (.plain (OpenSpec.ofChange cmdsReadsSpec)) cmdsReadsCard

/-- THE TIED CARD OF 'skaldlaw33.CmdsReplies'. -/
def cmdsRepliesCard : Claim7 := { stood := { row := cmdsRepliesRow, standIns := [], harness := (true, "f7db0ce5199b9591a87d6ff4e8c1918fd5c8e1370e65bec07abafb0a75eb41a3"), looks := false }, kinds := [], alts := [], laidByText := true, laidKinds := [.data, .data, .data, .data, .pinned], laidTests := true, laidLooks := .later }
def CmdsRepliesCardSaid : Prop := Claim7.holds Tryz.pinned (.plain (OpenSpec.ofChange cmdsRepliesSpec)) cmdsRepliesCard

/-- THE TIED CARD OF 'skaldlaw33.CmdsWrites'. -/
def cmdsWritesCard : Claim7 := { stood := { row := cmdsWritesRow, standIns := [], harness := (true, "f7db0ce5199b9591a87d6ff4e8c1918fd5c8e1370e65bec07abafb0a75eb41a3"), looks := false }, kinds := [], alts := [], laidByText := true, laidKinds := [.data, .data, .data, .data, .pinned], laidTests := true, laidLooks := .later }
def CmdsWritesCardSaid : Prop := Claim7.holds Tryz.pinned (.plain (OpenSpec.ofChange cmdsWritesSpec)) cmdsWritesCard

/-- THE TIED CARD OF 'skaldlaw33.CmdsBack'. -/
def cmdsBackCard : Claim7 := { stood := { row := cmdsBackRow, standIns := [], harness := (true, "f7db0ce5199b9591a87d6ff4e8c1918fd5c8e1370e65bec07abafb0a75eb41a3"), looks := false }, kinds := [], alts := [], laidByText := true, laidKinds := [.data, .data, .data, .data, .data, .pinned], laidTests := true, laidLooks := .later }
def CmdsBackCardSaid : Prop := Claim7.holds Tryz.pinned (.plain (OpenSpec.ofChange cmdsBackSpec)) cmdsBackCard

/-- THE TIED CARD OF 'skaldlaw33.CmdsDiffer'. -/
def cmdsDifferCard : Claim7 := { stood := { row := cmdsDifferRow, standIns := [], harness := (true, "f7db0ce5199b9591a87d6ff4e8c1918fd5c8e1370e65bec07abafb0a75eb41a3"), looks := false }, kinds := [], alts := [], laidByText := true, laidKinds := [.data, .data, .data, .data, .data, .pinned], laidTests := true, laidLooks := .later }
def CmdsDifferCardSaid : Prop := Claim7.holds Tryz.pinned (.plain (OpenSpec.ofChange cmdsDifferSpec)) cmdsDifferCard

/-- THE TIED CARD OF 'skaldlaw33.CmdsFields'. -/
def cmdsFieldsCard : Claim7 := { stood := { row := cmdsFieldsRow, standIns := [], harness := (true, "f7db0ce5199b9591a87d6ff4e8c1918fd5c8e1370e65bec07abafb0a75eb41a3"), looks := false }, kinds := [], alts := [], laidByText := true, laidKinds := [.data, .data, .data, .data, .data, .pinned], laidTests := true, laidLooks := .later }
def CmdsFieldsCardSaid : Prop := Claim7.holds Tryz.pinned (.plain (OpenSpec.ofChange cmdsFieldsSpec)) cmdsFieldsCard

/-- THE TIED CARD OF 'skaldlaw33.CmdsAnswers'. -/
def cmdsAnswersCard : Claim7 := { stood := { row := cmdsAnswersRow, standIns := [], harness := (true, "f7db0ce5199b9591a87d6ff4e8c1918fd5c8e1370e65bec07abafb0a75eb41a3"), looks := false }, kinds := [], alts := [], laidByText := true, laidKinds := [.data, .data, .data, .data, .pinned], laidTests := true, laidLooks := .later }
def CmdsAnswersCardSaid : Prop := Claim7.holds Tryz.pinned (.plain (OpenSpec.ofChange cmdsAnswersSpec)) cmdsAnswersCard

/-- THE TIED CARD OF 'skaldlaw33.CmdsLong'. -/
def cmdsLongCard : Claim7 := { stood := { row := cmdsLongRow, standIns := [], harness := (true, "f7db0ce5199b9591a87d6ff4e8c1918fd5c8e1370e65bec07abafb0a75eb41a3"), looks := false }, kinds := [], alts := [], laidByText := true, laidKinds := [.data, .data, .data, .data, .pinned], laidTests := true, laidLooks := .later }
def CmdsLongCardSaid : Prop := Claim7.holds Tryz.pinned (.plain (OpenSpec.ofChange cmdsLongSpec)) cmdsLongCard

/-- THE TIED CARD OF 'skaldlaw33.CmdsTexts'. -/
def cmdsTextsCard : Claim7 := { stood := { row := cmdsTextsRow, standIns := [], harness := (true, "f7db0ce5199b9591a87d6ff4e8c1918fd5c8e1370e65bec07abafb0a75eb41a3"), looks := false }, kinds := [], alts := [], laidByText := true, laidKinds := [.data, .data, .data, .data, .listed, .data, .data, .pinned], laidTests := true, laidLooks := .later }
def CmdsTextsCardSaid : Prop := Claim7.holds Tryz.pinned (.plain (OpenSpec.ofChange cmdsTextsSpec)) cmdsTextsCard

/-- THE SECOND FORM's CARD OF 'skaldlaw33.CmdsReads'. -/
def cmdsReadsUptoCard : Claim7 := { stood := { row := cmdsReadsUptoRow, standIns := [], harness := (true, "f7db0ce5199b9591a87d6ff4e8c1918fd5c8e1370e65bec07abafb0a75eb41a3"), looks := false }, kinds := [], alts := [], laidByText := true, laidKinds := [.data, .data, .data, .data, .pinned], laidTests := true, laidLooks := .later }
def CmdsReadsUptoCardSaid : Prop := Claim7.holds Tryz.pinned (.plain (OpenSpec.upto cmdsReadsSpec)) cmdsReadsUptoCard

/-- THE SECOND FORM's CARD OF 'skaldlaw33.CmdsReplies'. -/
def cmdsRepliesUptoCard : Claim7 := { stood := { row := cmdsRepliesUptoRow, standIns := [], harness := (true, "f7db0ce5199b9591a87d6ff4e8c1918fd5c8e1370e65bec07abafb0a75eb41a3"), looks := false }, kinds := [], alts := [], laidByText := true, laidKinds := [.data, .data, .data, .data, .pinned], laidTests := true, laidLooks := .later }
def CmdsRepliesUptoCardSaid : Prop := Claim7.holds Tryz.pinned (.plain (OpenSpec.upto cmdsRepliesSpec)) cmdsRepliesUptoCard

/-- THE SECOND FORM's CARD OF 'skaldlaw33.CmdsWrites'. -/
def cmdsWritesUptoCard : Claim7 := { stood := { row := cmdsWritesUptoRow, standIns := [], harness := (true, "f7db0ce5199b9591a87d6ff4e8c1918fd5c8e1370e65bec07abafb0a75eb41a3"), looks := false }, kinds := [], alts := [], laidByText := true, laidKinds := [.data, .data, .data, .data, .pinned], laidTests := true, laidLooks := .later }
def CmdsWritesUptoCardSaid : Prop := Claim7.holds Tryz.pinned (.plain (OpenSpec.upto cmdsWritesSpec)) cmdsWritesUptoCard

/-- THE SECOND FORM's CARD OF 'skaldlaw33.CmdsBack'. -/
def cmdsBackUptoCard : Claim7 := { stood := { row := cmdsBackUptoRow, standIns := [], harness := (true, "f7db0ce5199b9591a87d6ff4e8c1918fd5c8e1370e65bec07abafb0a75eb41a3"), looks := false }, kinds := [], alts := [], laidByText := true, laidKinds := [.data, .data, .data, .data, .data, .pinned], laidTests := true, laidLooks := .later }
def CmdsBackUptoCardSaid : Prop := Claim7.holds Tryz.pinned (.plain (OpenSpec.upto cmdsBackSpec)) cmdsBackUptoCard

/-- THE SECOND FORM's CARD OF 'skaldlaw33.CmdsDiffer'. -/
def cmdsDifferUptoCard : Claim7 := { stood := { row := cmdsDifferUptoRow, standIns := [], harness := (true, "f7db0ce5199b9591a87d6ff4e8c1918fd5c8e1370e65bec07abafb0a75eb41a3"), looks := false }, kinds := [], alts := [], laidByText := true, laidKinds := [.data, .data, .data, .data, .data, .pinned], laidTests := true, laidLooks := .later }
def CmdsDifferUptoCardSaid : Prop := Claim7.holds Tryz.pinned (.plain (OpenSpec.upto cmdsDifferSpec)) cmdsDifferUptoCard

/-- THE SECOND FORM's CARD OF 'skaldlaw33.CmdsFields'. -/
def cmdsFieldsUptoCard : Claim7 := { stood := { row := cmdsFieldsUptoRow, standIns := [], harness := (true, "f7db0ce5199b9591a87d6ff4e8c1918fd5c8e1370e65bec07abafb0a75eb41a3"), looks := false }, kinds := [], alts := [], laidByText := true, laidKinds := [.data, .data, .data, .data, .data, .pinned], laidTests := true, laidLooks := .later }
def CmdsFieldsUptoCardSaid : Prop := Claim7.holds Tryz.pinned (.plain (OpenSpec.upto cmdsFieldsSpec)) cmdsFieldsUptoCard

/-- THE SECOND FORM's CARD OF 'skaldlaw33.CmdsAnswers'. -/
def cmdsAnswersUptoCard : Claim7 := { stood := { row := cmdsAnswersUptoRow, standIns := [], harness := (true, "f7db0ce5199b9591a87d6ff4e8c1918fd5c8e1370e65bec07abafb0a75eb41a3"), looks := false }, kinds := [], alts := [], laidByText := true, laidKinds := [.data, .data, .data, .data, .pinned], laidTests := true, laidLooks := .later }
def CmdsAnswersUptoCardSaid : Prop := Claim7.holds Tryz.pinned (.plain (OpenSpec.upto cmdsAnswersSpec)) cmdsAnswersUptoCard

/-- THE SECOND FORM's CARD OF 'skaldlaw33.CmdsLong'. -/
def cmdsLongUptoCard : Claim7 := { stood := { row := cmdsLongUptoRow, standIns := [], harness := (true, "f7db0ce5199b9591a87d6ff4e8c1918fd5c8e1370e65bec07abafb0a75eb41a3"), looks := false }, kinds := [], alts := [], laidByText := true, laidKinds := [.data, .data, .data, .data, .pinned], laidTests := true, laidLooks := .later }
def CmdsLongUptoCardSaid : Prop := Claim7.holds Tryz.pinned (.plain (OpenSpec.upto cmdsLongSpec)) cmdsLongUptoCard

/-- THE SECOND FORM's CARD OF 'skaldlaw33.CmdsTexts'. -/
def cmdsTextsUptoCard : Claim7 := { stood := { row := cmdsTextsUptoRow, standIns := [], harness := (true, "f7db0ce5199b9591a87d6ff4e8c1918fd5c8e1370e65bec07abafb0a75eb41a3"), looks := false }, kinds := [], alts := [], laidByText := true, laidKinds := [.data, .data, .data, .data, .listed, .data, .data, .pinned], laidTests := true, laidLooks := .later }
def CmdsTextsUptoCardSaid : Prop := Claim7.holds Tryz.pinned (.plain (OpenSpec.upto cmdsTextsSpec)) cmdsTextsUptoCard
end Rows
end Go.Proofs.YtgjnmfmbheejoaaGreatDoor
