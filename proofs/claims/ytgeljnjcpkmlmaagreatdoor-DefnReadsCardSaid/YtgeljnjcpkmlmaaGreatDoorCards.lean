/-
  DERIVED. GIVEN WITH THE SEED: THE CARDS: each row of YtgeljnjcpkmlmaaGreatDoorRows.lean that lists a variable, with what it lists TIED to the program's text (the seventh form; the later family's looks); each row that meets fmt, with fmt's text TOLD by the authors' own Lean function (tested against real Go, not proved from fmt's source: count such statements apart). THE CARD IS WHAT COUNTS. Prove the row's statement (the work); the ties are given (YtgeljnjcpkmlmaaGreatDoorTie.lean); close each card by the builder's one call (the guide's Derived/Test/ToyasCard.lean, 'card_holds'). Laid BY PROGRAM, IN A SANDBOX (cutbox-door.mjs). By AI agents, Wed Nov 11 2026. No macro, syntax, notation, axiom, sorry.
-/
import Derived.Test.YtgeljnjcpkmlmaaGreatDoorRows
import GoSem.ClaimSeven
namespace Go.Proofs.YtgeljnjcpkmlmaaGreatDoor
namespace Rows

/-- THE TIED CARD OF 'skaldlaw26.DefnLists'. -/
def defnListsCard : Claim7 := { stood := { row := defnListsRow, standIns := [], harness := (true, "73684498a1a23434ff48c732acc4340a457a52a75e46e7f5807a66c035dd285b"), looks := true }, kinds := [], alts := [], laidByText := true, laidKinds := [.data, .data, .data, .data, .sentinel, .sentinel, .pinned], laidTests := true, laidLooks := .later }
def DefnListsCardSaid : Prop := Claim7.holds Tryz.pinned (.plain (OpenSpec.ofChange defnListsSpec)) defnListsCard

/-- THE TIED CARD OF 'skaldlaw26.DefnWrites'. -/
def defnWritesCard : Claim7 := { stood := { row := defnWritesRow, standIns := [], harness := (true, "73684498a1a23434ff48c732acc4340a457a52a75e46e7f5807a66c035dd285b"), looks := true }, kinds := [], alts := [], laidByText := true, laidKinds := [.data, .data, .data, .data, .sentinel, .sentinel, .pinned], laidTests := true, laidLooks := .later }
def DefnWritesCardSaid : Prop := Claim7.holds Tryz.pinned (.plain (OpenSpec.ofChange defnWritesSpec)) defnWritesCard

/-- THE TIED CARD OF 'skaldlaw26.DefnTexts'. -/
def defnTextsCard : Claim7 := { stood := { row := defnTextsRow, standIns := [], harness := (true, "73684498a1a23434ff48c732acc4340a457a52a75e46e7f5807a66c035dd285b"), looks := true }, kinds := [], alts := [], laidByText := true, laidKinds := [.data, .data, .data, .data, .sentinel, .sentinel, .pinned], laidTests := true, laidLooks := .later }
def DefnTextsCardSaid : Prop := Claim7.holds Tryz.pinned (.plain (OpenSpec.ofChange defnTextsSpec)) defnTextsCard

/-- THE TIED CARD OF 'skaldlaw26.DefnReads'. -/
def defnReadsCard : Claim7 := { stood := { row := defnReadsRow, standIns := [], harness := (true, "73684498a1a23434ff48c732acc4340a457a52a75e46e7f5807a66c035dd285b"), looks := true }, kinds := [], alts := [], laidByText := true, laidKinds := [.data, .data, .data, .data, .sentinel, .sentinel, .pinned], laidTests := true, laidLooks := .later }
def DefnReadsCardSaid : Prop := Claim7.holds Tryz.pinned (.plain (OpenSpec.ofChange defnReadsSpec)) defnReadsCard

/-- THE TIED CARD OF 'skaldlaw26.DefnBack'. -/
def defnBackCard : Claim7 := { stood := { row := defnBackRow, standIns := [], harness := (true, "73684498a1a23434ff48c732acc4340a457a52a75e46e7f5807a66c035dd285b"), looks := true }, kinds := [], alts := [], laidByText := true, laidKinds := [.data, .data, .data, .data, .sentinel, .sentinel, .pinned], laidTests := true, laidLooks := .later }
def DefnBackCardSaid : Prop := Claim7.holds Tryz.pinned (.plain (OpenSpec.ofChange defnBackSpec)) defnBackCard

/-- THE TIED CARD OF 'skaldlaw26.DefnBytes'. -/
def defnBytesCard : Claim7 := { stood := { row := defnBytesRow, standIns := [], harness := (true, "73684498a1a23434ff48c732acc4340a457a52a75e46e7f5807a66c035dd285b"), looks := true }, kinds := [], alts := [], laidByText := true, laidKinds := [.data, .data, .data, .data, .sentinel, .sentinel, .pinned], laidTests := true, laidLooks := .later }
def DefnBytesCardSaid : Prop := Claim7.holds Tryz.pinned (.plain (OpenSpec.ofChange defnBytesSpec)) defnBytesCard

/-- THE TIED CARD OF 'skaldlaw26.DefnFlaws'. -/
def defnFlawsCard : Claim7 := { stood := { row := defnFlawsRow, standIns := [], harness := (true, "73684498a1a23434ff48c732acc4340a457a52a75e46e7f5807a66c035dd285b"), looks := true }, kinds := [], alts := [], laidByText := true, laidKinds := [.data, .data, .data, .data, .sentinel, .sentinel, .pinned], laidTests := true, laidLooks := .later }
def DefnFlawsCardSaid : Prop := Claim7.holds Tryz.pinned (.plain (OpenSpec.ofChange defnFlawsSpec)) defnFlawsCard

/-- THE TIED CARD OF 'skaldlaw26.DefnOrder'. -/
def defnOrderCard : Claim7 := { stood := { row := defnOrderRow, standIns := [], harness := (true, "73684498a1a23434ff48c732acc4340a457a52a75e46e7f5807a66c035dd285b"), looks := true }, kinds := [], alts := [], laidByText := true, laidKinds := [.data, .data, .data, .data, .sentinel, .sentinel, .pinned], laidTests := true, laidLooks := .later }
def DefnOrderCardSaid : Prop := Claim7.holds Tryz.pinned (.plain (OpenSpec.ofChange defnOrderSpec)) defnOrderCard

/-- THE SECOND FORM's CARD OF 'skaldlaw26.DefnLists'. -/
def defnListsUptoCard : Claim7 := { stood := { row := defnListsUptoRow, standIns := [], harness := (true, "73684498a1a23434ff48c732acc4340a457a52a75e46e7f5807a66c035dd285b"), looks := true }, kinds := [], alts := [], laidByText := true, laidKinds := [.data, .data, .data, .data, .sentinel, .sentinel, .pinned], laidTests := true, laidLooks := .later }
def DefnListsUptoCardSaid : Prop := Claim7.holds Tryz.pinned (.plain (OpenSpec.upto defnListsSpec)) defnListsUptoCard

/-- THE SECOND FORM's CARD OF 'skaldlaw26.DefnWrites'. -/
def defnWritesUptoCard : Claim7 := { stood := { row := defnWritesUptoRow, standIns := [], harness := (true, "73684498a1a23434ff48c732acc4340a457a52a75e46e7f5807a66c035dd285b"), looks := true }, kinds := [], alts := [], laidByText := true, laidKinds := [.data, .data, .data, .data, .sentinel, .sentinel, .pinned], laidTests := true, laidLooks := .later }
def DefnWritesUptoCardSaid : Prop := Claim7.holds Tryz.pinned (.plain (OpenSpec.upto defnWritesSpec)) defnWritesUptoCard

/-- THE SECOND FORM's CARD OF 'skaldlaw26.DefnTexts'. -/
def defnTextsUptoCard : Claim7 := { stood := { row := defnTextsUptoRow, standIns := [], harness := (true, "73684498a1a23434ff48c732acc4340a457a52a75e46e7f5807a66c035dd285b"), looks := true }, kinds := [], alts := [], laidByText := true, laidKinds := [.data, .data, .data, .data, .sentinel, .sentinel, .pinned], laidTests := true, laidLooks := .later }
def DefnTextsUptoCardSaid : Prop := Claim7.holds Tryz.pinned (.plain (OpenSpec.upto defnTextsSpec)) defnTextsUptoCard

/-- THE SECOND FORM's CARD OF 'skaldlaw26.DefnReads'. -/
def defnReadsUptoCard : Claim7 := { stood := { row := defnReadsUptoRow, standIns := [], harness := (true, "73684498a1a23434ff48c732acc4340a457a52a75e46e7f5807a66c035dd285b"), looks := true }, kinds := [], alts := [], laidByText := true, laidKinds := [.data, .data, .data, .data, .sentinel, .sentinel, .pinned], laidTests := true, laidLooks := .later }
def DefnReadsUptoCardSaid : Prop := Claim7.holds Tryz.pinned (.plain (OpenSpec.upto defnReadsSpec)) defnReadsUptoCard

/-- THE SECOND FORM's CARD OF 'skaldlaw26.DefnBack'. -/
def defnBackUptoCard : Claim7 := { stood := { row := defnBackUptoRow, standIns := [], harness := (true, "73684498a1a23434ff48c732acc4340a457a52a75e46e7f5807a66c035dd285b"), looks := true }, kinds := [], alts := [], laidByText := true, laidKinds := [.data, .data, .data, .data, .sentinel, .sentinel, .pinned], laidTests := true, laidLooks := .later }
def DefnBackUptoCardSaid : Prop := Claim7.holds Tryz.pinned (.plain (OpenSpec.upto defnBackSpec)) defnBackUptoCard

/-- THE SECOND FORM's CARD OF 'skaldlaw26.DefnBytes'. -/
def defnBytesUptoCard : Claim7 := { stood := { row := defnBytesUptoRow, standIns := [], harness := (true, "73684498a1a23434ff48c732acc4340a457a52a75e46e7f5807a66c035dd285b"), looks := true }, kinds := [], alts := [], laidByText := true, laidKinds := [.data, .data, .data, .data, .sentinel, .sentinel, .pinned], laidTests := true, laidLooks := .later }
def DefnBytesUptoCardSaid : Prop := Claim7.holds Tryz.pinned (.plain (OpenSpec.upto defnBytesSpec)) defnBytesUptoCard

/-- THE SECOND FORM's CARD OF 'skaldlaw26.DefnFlaws'. -/
def defnFlawsUptoCard : Claim7 := { stood := { row := defnFlawsUptoRow, standIns := [], harness := (true, "73684498a1a23434ff48c732acc4340a457a52a75e46e7f5807a66c035dd285b"), looks := true }, kinds := [], alts := [], laidByText := true, laidKinds := [.data, .data, .data, .data, .sentinel, .sentinel, .pinned], laidTests := true, laidLooks := .later }
def DefnFlawsUptoCardSaid : Prop := Claim7.holds Tryz.pinned (.plain (OpenSpec.upto defnFlawsSpec)) defnFlawsUptoCard

/-- THE SECOND FORM's CARD OF 'skaldlaw26.DefnOrder'. -/
def defnOrderUptoCard : Claim7 := { stood := { row := defnOrderUptoRow, standIns := [], harness := (true, "73684498a1a23434ff48c732acc4340a457a52a75e46e7f5807a66c035dd285b"), looks := true }, kinds := [], alts := [], laidByText := true, laidKinds := [.data, .data, .data, .data, .sentinel, .sentinel, .pinned], laidTests := true, laidLooks := .later }
def DefnOrderUptoCardSaid : Prop := Claim7.holds Tryz.pinned (.plain (OpenSpec.upto defnOrderSpec)) defnOrderUptoCard
end Rows
end Go.Proofs.YtgeljnjcpkmlmaaGreatDoor
