/-
  DERIVED. GIVEN WITH THE SEED: THE CARDS: each row of YthngliafkhalfaaDoorRows.lean that lists a variable, with what it lists TIED to the program's text (the seventh form; the later family's looks); each row that meets fmt, with fmt's text TOLD by the authors' own Lean function (tested against real Go, not proved from fmt's source: count such statements apart). THE CARD IS WHAT COUNTS. Prove the row's statement (the work); the ties are given (YthngliafkhalfaaDoorTie.lean); close each card by the builder's one call (the guide's Derived/Test/ToyasCard.lean, 'card_holds'). Laid BY PROGRAM, IN A SANDBOX (cutbox-door.mjs). By AI agents, Wed Nov 11 2026. No macro, syntax, notation, axiom, sorry.
-/
import Derived.Test.YthngliafkhalfaaDoorRows
import GoSem.ClaimSeven
namespace Go.Proofs.YthngliafkhalfaaDoor
namespace Rows

/-- THE TIED CARD OF 'skaldlaw06.RangesKeys'. -/
def rangesKeysCard : Claim7 := { stood := { row := rangesKeysRow, standIns := [], harness := (true, "0af95d43fb5b3d5ed2ea31ceffd20ac7506918985e57ed16c998ab4f66e8dddb"), looks := false }, kinds := [], alts := [], laidByText := true, laidKinds := [.data, .pinned], laidTests := true, laidLooks := .later }
def RangesKeysCardSaid : Prop := Claim7.holds Tryd.pinned (.plain (OpenSpec.ofChange rangesKeysSpec)) rangesKeysCard

/-- THE TIED CARD OF 'skaldlaw06.RangesParts'. -/
def rangesPartsCard : Claim7 := { stood := { row := rangesPartsRow, standIns := [], harness := (true, "0af95d43fb5b3d5ed2ea31ceffd20ac7506918985e57ed16c998ab4f66e8dddb"), looks := false }, kinds := [], alts := [], laidByText := true, laidKinds := [.data, .pinned], laidTests := true, laidLooks := .later }
def RangesPartsCardSaid : Prop := Claim7.holds Tryd.pinned (.plain (OpenSpec.ofChange rangesPartsSpec)) rangesPartsCard

/-- THE TIED CARD OF 'skaldlaw06.RangesCoverKeys'. -/
def rangesCoverKeysCard : Claim7 := { stood := { row := rangesCoverKeysRow, standIns := [], harness := (true, "0af95d43fb5b3d5ed2ea31ceffd20ac7506918985e57ed16c998ab4f66e8dddb"), looks := false }, kinds := [], alts := [], laidByText := true, laidKinds := [.data, .pinned], laidTests := true, laidLooks := .later }
def RangesCoverKeysCardSaid : Prop := Claim7.holds Tryd.pinned (.plain (OpenSpec.ofChange rangesCoverKeysSpec)) rangesCoverKeysCard

/-- THE TIED CARD OF 'skaldlaw06.RangesTexts'. -/
def rangesTextsCard : Claim7 := { stood := { row := rangesTextsRow, standIns := [], harness := (true, "0af95d43fb5b3d5ed2ea31ceffd20ac7506918985e57ed16c998ab4f66e8dddb"), looks := false }, kinds := [], alts := [], laidByText := true, laidKinds := [.data, .pinned], laidTests := true, laidLooks := .later }
def RangesTextsCardSaid : Prop := Claim7.holds Tryd.pinned (.plain (OpenSpec.ofChange rangesTextsSpec)) rangesTextsCard

/-- THE TIED CARD OF 'skaldlaw06.RangesBack'. -/
def rangesBackCard : Claim7 := { stood := { row := rangesBackRow, standIns := [], harness := (true, "0af95d43fb5b3d5ed2ea31ceffd20ac7506918985e57ed16c998ab4f66e8dddb"), looks := false }, kinds := [], alts := [], laidByText := true, laidKinds := [.data, .pinned], laidTests := true, laidLooks := .later }
def RangesBackCardSaid : Prop := Claim7.holds Tryd.pinned (.plain (OpenSpec.ofChange rangesBackSpec)) rangesBackCard

/-- THE TIED CARD OF 'skaldlaw06.RangesPairs'. -/
def rangesPairsCard : Claim7 := { stood := { row := rangesPairsRow, standIns := [], harness := (true, "0af95d43fb5b3d5ed2ea31ceffd20ac7506918985e57ed16c998ab4f66e8dddb"), looks := false }, kinds := [], alts := [], laidByText := true, laidKinds := [.data, .pinned], laidTests := true, laidLooks := .later }
def RangesPairsCardSaid : Prop := Claim7.holds Tryd.pinned (.plain (OpenSpec.ofChange rangesPairsSpec)) rangesPairsCard

/-- THE TIED CARD OF 'skaldlaw06.RangesOrder'. -/
def rangesOrderCard : Claim7 := { stood := { row := rangesOrderRow, standIns := [], harness := (true, "0af95d43fb5b3d5ed2ea31ceffd20ac7506918985e57ed16c998ab4f66e8dddb"), looks := false }, kinds := [], alts := [], laidByText := true, laidKinds := [.data, .pinned], laidTests := true, laidLooks := .later }
def RangesOrderCardSaid : Prop := Claim7.holds Tryd.pinned (.plain (OpenSpec.ofChange rangesOrderSpec)) rangesOrderCard

/-- THE TIED CARD OF 'skaldlaw06.RangesSelf'. -/
def rangesSelfCard : Claim7 := { stood := { row := rangesSelfRow, standIns := [], harness := (true, "0af95d43fb5b3d5ed2ea31ceffd20ac7506918985e57ed16c998ab4f66e8dddb"), looks := false }, kinds := [], alts := [], laidByText := true, laidKinds := [.data, .pinned], laidTests := true, laidLooks := .later }
def RangesSelfCardSaid : Prop := Claim7.holds Tryd.pinned (.plain (OpenSpec.ofChange rangesSelfSpec)) rangesSelfCard

/-- THE SECOND FORM's CARD OF 'skaldlaw06.RangesKeys'. -/
def rangesKeysUptoCard : Claim7 := { stood := { row := rangesKeysUptoRow, standIns := [], harness := (true, "0af95d43fb5b3d5ed2ea31ceffd20ac7506918985e57ed16c998ab4f66e8dddb"), looks := false }, kinds := [], alts := [], laidByText := true, laidKinds := [.data, .pinned], laidTests := true, laidLooks := .later }
def RangesKeysUptoCardSaid : Prop := Claim7.holds Tryd.pinned (.plain (OpenSpec.upto rangesKeysSpec)) rangesKeysUptoCard

/-- THE SECOND FORM's CARD OF 'skaldlaw06.RangesParts'. -/
def rangesPartsUptoCard : Claim7 := { stood := { row := rangesPartsUptoRow, standIns := [], harness := (true, "0af95d43fb5b3d5ed2ea31ceffd20ac7506918985e57ed16c998ab4f66e8dddb"), looks := false }, kinds := [], alts := [], laidByText := true, laidKinds := [.data, .pinned], laidTests := true, laidLooks := .later }
def RangesPartsUptoCardSaid : Prop := Claim7.holds Tryd.pinned (.plain (OpenSpec.upto rangesPartsSpec)) rangesPartsUptoCard

/-- THE SECOND FORM's CARD OF 'skaldlaw06.RangesCoverKeys'. -/
def rangesCoverKeysUptoCard : Claim7 := { stood := { row := rangesCoverKeysUptoRow, standIns := [], harness := (true, "0af95d43fb5b3d5ed2ea31ceffd20ac7506918985e57ed16c998ab4f66e8dddb"), looks := false }, kinds := [], alts := [], laidByText := true, laidKinds := [.data, .pinned], laidTests := true, laidLooks := .later }
def RangesCoverKeysUptoCardSaid : Prop := Claim7.holds Tryd.pinned (.plain (OpenSpec.upto rangesCoverKeysSpec)) rangesCoverKeysUptoCard

/-- THE SECOND FORM's CARD OF 'skaldlaw06.RangesTexts'. -/
def rangesTextsUptoCard : Claim7 := { stood := { row := rangesTextsUptoRow, standIns := [], harness := (true, "0af95d43fb5b3d5ed2ea31ceffd20ac7506918985e57ed16c998ab4f66e8dddb"), looks := false }, kinds := [], alts := [], laidByText := true, laidKinds := [.data, .pinned], laidTests := true, laidLooks := .later }
def RangesTextsUptoCardSaid : Prop := Claim7.holds Tryd.pinned (.plain (OpenSpec.upto rangesTextsSpec)) rangesTextsUptoCard

/-- THE SECOND FORM's CARD OF 'skaldlaw06.RangesBack'. -/
def rangesBackUptoCard : Claim7 := { stood := { row := rangesBackUptoRow, standIns := [], harness := (true, "0af95d43fb5b3d5ed2ea31ceffd20ac7506918985e57ed16c998ab4f66e8dddb"), looks := false }, kinds := [], alts := [], laidByText := true, laidKinds := [.data, .pinned], laidTests := true, laidLooks := .later }
def RangesBackUptoCardSaid : Prop := Claim7.holds Tryd.pinned (.plain (OpenSpec.upto rangesBackSpec)) rangesBackUptoCard

/-- THE SECOND FORM's CARD OF 'skaldlaw06.RangesPairs'. -/
def rangesPairsUptoCard : Claim7 := { stood := { row := rangesPairsUptoRow, standIns := [], harness := (true, "0af95d43fb5b3d5ed2ea31ceffd20ac7506918985e57ed16c998ab4f66e8dddb"), looks := false }, kinds := [], alts := [], laidByText := true, laidKinds := [.data, .pinned], laidTests := true, laidLooks := .later }
def RangesPairsUptoCardSaid : Prop := Claim7.holds Tryd.pinned (.plain (OpenSpec.upto rangesPairsSpec)) rangesPairsUptoCard

/-- THE SECOND FORM's CARD OF 'skaldlaw06.RangesOrder'. -/
def rangesOrderUptoCard : Claim7 := { stood := { row := rangesOrderUptoRow, standIns := [], harness := (true, "0af95d43fb5b3d5ed2ea31ceffd20ac7506918985e57ed16c998ab4f66e8dddb"), looks := false }, kinds := [], alts := [], laidByText := true, laidKinds := [.data, .pinned], laidTests := true, laidLooks := .later }
def RangesOrderUptoCardSaid : Prop := Claim7.holds Tryd.pinned (.plain (OpenSpec.upto rangesOrderSpec)) rangesOrderUptoCard

/-- THE SECOND FORM's CARD OF 'skaldlaw06.RangesSelf'. -/
def rangesSelfUptoCard : Claim7 := { stood := { row := rangesSelfUptoRow, standIns := [], harness := (true, "0af95d43fb5b3d5ed2ea31ceffd20ac7506918985e57ed16c998ab4f66e8dddb"), looks := false }, kinds := [], alts := [], laidByText := true, laidKinds := [.data, .pinned], laidTests := true, laidLooks := .later }
def RangesSelfUptoCardSaid : Prop := Claim7.holds Tryd.pinned (.plain (OpenSpec.upto rangesSelfSpec)) rangesSelfUptoCard
end Rows
end Go.Proofs.YthngliafkhalfaaDoor
