/-
  DERIVED. GIVEN WITH THE SEED: THE CARDS: each row of YtmbnhbocablgeaaDoorRows.lean that lists a variable, with what it lists TIED to the program's text (the seventh form; the later family's looks); each row that meets fmt, with fmt's text TOLD by the authors' own Lean function (tested against real Go, not proved from fmt's source: count such statements apart). THE CARD IS WHAT COUNTS. Prove the row's statement (the work); the ties are given (YtmbnhbocablgeaaDoorTie.lean); close each card by the builder's one call (the guide's Derived/Test/ToyasCard.lean, 'card_holds'). Laid BY PROGRAM, IN A SANDBOX (cutbox-door.mjs). By AI agents, Wed Nov 11 2026. No macro, syntax, notation, axiom, sorry.
-/
import Derived.Test.YtmbnhbocablgeaaDoorRows
import GoSem.ClaimSeven
namespace Go.Proofs.YtmbnhbocablgeaaDoor
namespace Rows

/-- THE TIED CARD OF 'skaldlaw05.IdentEffects'. -/
def identEffectsCard : Claim7 := { stood := { row := identEffectsRow, standIns := [], harness := (true, "3be2e759085e69c2b0e432e222dd569a75de4b8c34fc39e92222926f2245c223"), looks := true }, kinds := [], alts := [], laidByText := true, laidKinds := [.data, .data, .data, .data, .sentinel, .sentinel, .pinned], laidTests := true, laidLooks := .later }
def IdentEffectsCardSaid : Prop := Claim7.holds Tryd.pinned (.plain (OpenSpec.ofChange identEffectsSpec)) identEffectsCard

/-- THE TIED CARD OF 'skaldlaw05.IdentItems'. -/
def identItemsCard : Claim7 := { stood := { row := identItemsRow, standIns := [], harness := (true, "3be2e759085e69c2b0e432e222dd569a75de4b8c34fc39e92222926f2245c223"), looks := true }, kinds := [], alts := [], laidByText := true, laidKinds := [.data, .data, .data, .data, .sentinel, .sentinel, .pinned], laidTests := true, laidLooks := .later }
def IdentItemsCardSaid : Prop := Claim7.holds Tryd.pinned (.plain (OpenSpec.ofChange identItemsSpec)) identItemsCard

/-- THE TIED CARD OF 'skaldlaw05.IdentNumbers'. -/
def identNumbersCard : Claim7 := { stood := { row := identNumbersRow, standIns := [], harness := (true, "3be2e759085e69c2b0e432e222dd569a75de4b8c34fc39e92222926f2245c223"), looks := true }, kinds := [], alts := [], laidByText := true, laidKinds := [.data, .data, .data, .data, .sentinel, .sentinel, .pinned], laidTests := true, laidLooks := .later }
def IdentNumbersCardSaid : Prop := Claim7.holds Tryd.pinned (.plain (OpenSpec.ofChange identNumbersSpec)) identNumbersCard

/-- THE TIED CARD OF 'skaldlaw05.IdentOrders'. -/
def identOrdersCard : Claim7 := { stood := { row := identOrdersRow, standIns := [], harness := (true, "3be2e759085e69c2b0e432e222dd569a75de4b8c34fc39e92222926f2245c223"), looks := true }, kinds := [], alts := [], laidByText := true, laidKinds := [.data, .data, .data, .data, .sentinel, .sentinel, .pinned], laidTests := true, laidLooks := .later }
def IdentOrdersCardSaid : Prop := Claim7.holds Tryd.pinned (.plain (OpenSpec.ofChange identOrdersSpec)) identOrdersCard

/-- THE TIED CARD OF 'skaldlaw05.IdentCounts'. -/
def identCountsCard : Claim7 := { stood := { row := identCountsRow, standIns := [], harness := (true, "3be2e759085e69c2b0e432e222dd569a75de4b8c34fc39e92222926f2245c223"), looks := true }, kinds := [], alts := [], laidByText := true, laidKinds := [.data, .data, .data, .data, .sentinel, .sentinel, .pinned], laidTests := true, laidLooks := .later }
def IdentCountsCardSaid : Prop := Claim7.holds Tryd.pinned (.plain (OpenSpec.ofChange identCountsSpec)) identCountsCard

/-- THE TIED CARD OF 'skaldlaw05.IdentSorts'. -/
def identSortsCard : Claim7 := { stood := { row := identSortsRow, standIns := [], harness := (true, "3be2e759085e69c2b0e432e222dd569a75de4b8c34fc39e92222926f2245c223"), looks := true }, kinds := [], alts := [], laidByText := true, laidKinds := [.data, .data, .data, .data, .sentinel, .sentinel, .pinned], laidTests := true, laidLooks := .later }
def IdentSortsCardSaid : Prop := Claim7.holds Tryd.pinned (.plain (OpenSpec.ofChange identSortsSpec)) identSortsCard

/-- THE TIED CARD OF 'skaldlaw05.IdentRefuses'. -/
def identRefusesCard : Claim7 := { stood := { row := identRefusesRow, standIns := [], harness := (true, "3be2e759085e69c2b0e432e222dd569a75de4b8c34fc39e92222926f2245c223"), looks := true }, kinds := [], alts := [], laidByText := true, laidKinds := [.data, .data, .data, .data, .sentinel, .sentinel, .pinned], laidTests := true, laidLooks := .later }
def IdentRefusesCardSaid : Prop := Claim7.holds Tryd.pinned (.plain (OpenSpec.ofChange identRefusesSpec)) identRefusesCard

/-- THE TIED CARD OF 'skaldlaw05.IdentItemBack'. -/
def identItemBackCard : Claim7 := { stood := { row := identItemBackRow, standIns := [], harness := (true, "3be2e759085e69c2b0e432e222dd569a75de4b8c34fc39e92222926f2245c223"), looks := true }, kinds := [], alts := [], laidByText := true, laidKinds := [.data, .data, .data, .data, .sentinel, .sentinel, .pinned], laidTests := true, laidLooks := .later }
def IdentItemBackCardSaid : Prop := Claim7.holds Tryd.pinned (.plain (OpenSpec.ofChange identItemBackSpec)) identItemBackCard

/-- THE TIED CARD OF 'skaldlaw05.IdentBack'. -/
def identBackCard : Claim7 := { stood := { row := identBackRow, standIns := [], harness := (true, "3be2e759085e69c2b0e432e222dd569a75de4b8c34fc39e92222926f2245c223"), looks := true }, kinds := [], alts := [], laidByText := true, laidKinds := [.data, .data, .data, .data, .sentinel, .sentinel, .pinned], laidTests := true, laidLooks := .later }
def IdentBackCardSaid : Prop := Claim7.holds Tryd.pinned (.plain (OpenSpec.ofChange identBackSpec)) identBackCard

/-- THE TIED CARD OF 'skaldlaw05.IdentNames'. -/
def identNamesCard : Claim7 := { stood := { row := identNamesRow, standIns := [], harness := (true, "3be2e759085e69c2b0e432e222dd569a75de4b8c34fc39e92222926f2245c223"), looks := true }, kinds := [], alts := [], laidByText := true, laidKinds := [.data, .data, .data, .data, .sentinel, .sentinel, .pinned], laidTests := true, laidLooks := .later }
def IdentNamesCardSaid : Prop := Claim7.holds Tryd.pinned (.plain (OpenSpec.ofChange identNamesSpec)) identNamesCard

/-- THE SECOND FORM's CARD OF 'skaldlaw05.IdentEffects'. -/
def identEffectsUptoCard : Claim7 := { stood := { row := identEffectsUptoRow, standIns := [], harness := (true, "3be2e759085e69c2b0e432e222dd569a75de4b8c34fc39e92222926f2245c223"), looks := true }, kinds := [], alts := [], laidByText := true, laidKinds := [.data, .data, .data, .data, .sentinel, .sentinel, .pinned], laidTests := true, laidLooks := .later }
def IdentEffectsUptoCardSaid : Prop := Claim7.holds Tryd.pinned (.plain (OpenSpec.upto identEffectsSpec)) identEffectsUptoCard

/-- THE SECOND FORM's CARD OF 'skaldlaw05.IdentItems'. -/
def identItemsUptoCard : Claim7 := { stood := { row := identItemsUptoRow, standIns := [], harness := (true, "3be2e759085e69c2b0e432e222dd569a75de4b8c34fc39e92222926f2245c223"), looks := true }, kinds := [], alts := [], laidByText := true, laidKinds := [.data, .data, .data, .data, .sentinel, .sentinel, .pinned], laidTests := true, laidLooks := .later }
def IdentItemsUptoCardSaid : Prop := Claim7.holds Tryd.pinned (.plain (OpenSpec.upto identItemsSpec)) identItemsUptoCard

/-- THE SECOND FORM's CARD OF 'skaldlaw05.IdentNumbers'. -/
def identNumbersUptoCard : Claim7 := { stood := { row := identNumbersUptoRow, standIns := [], harness := (true, "3be2e759085e69c2b0e432e222dd569a75de4b8c34fc39e92222926f2245c223"), looks := true }, kinds := [], alts := [], laidByText := true, laidKinds := [.data, .data, .data, .data, .sentinel, .sentinel, .pinned], laidTests := true, laidLooks := .later }
def IdentNumbersUptoCardSaid : Prop := Claim7.holds Tryd.pinned (.plain (OpenSpec.upto identNumbersSpec)) identNumbersUptoCard

/-- THE SECOND FORM's CARD OF 'skaldlaw05.IdentOrders'. -/
def identOrdersUptoCard : Claim7 := { stood := { row := identOrdersUptoRow, standIns := [], harness := (true, "3be2e759085e69c2b0e432e222dd569a75de4b8c34fc39e92222926f2245c223"), looks := true }, kinds := [], alts := [], laidByText := true, laidKinds := [.data, .data, .data, .data, .sentinel, .sentinel, .pinned], laidTests := true, laidLooks := .later }
def IdentOrdersUptoCardSaid : Prop := Claim7.holds Tryd.pinned (.plain (OpenSpec.upto identOrdersSpec)) identOrdersUptoCard

/-- THE SECOND FORM's CARD OF 'skaldlaw05.IdentCounts'. -/
def identCountsUptoCard : Claim7 := { stood := { row := identCountsUptoRow, standIns := [], harness := (true, "3be2e759085e69c2b0e432e222dd569a75de4b8c34fc39e92222926f2245c223"), looks := true }, kinds := [], alts := [], laidByText := true, laidKinds := [.data, .data, .data, .data, .sentinel, .sentinel, .pinned], laidTests := true, laidLooks := .later }
def IdentCountsUptoCardSaid : Prop := Claim7.holds Tryd.pinned (.plain (OpenSpec.upto identCountsSpec)) identCountsUptoCard

/-- THE SECOND FORM's CARD OF 'skaldlaw05.IdentSorts'. -/
def identSortsUptoCard : Claim7 := { stood := { row := identSortsUptoRow, standIns := [], harness := (true, "3be2e759085e69c2b0e432e222dd569a75de4b8c34fc39e92222926f2245c223"), looks := true }, kinds := [], alts := [], laidByText := true, laidKinds := [.data, .data, .data, .data, .sentinel, .sentinel, .pinned], laidTests := true, laidLooks := .later }
def IdentSortsUptoCardSaid : Prop := Claim7.holds Tryd.pinned (.plain (OpenSpec.upto identSortsSpec)) identSortsUptoCard

/-- THE SECOND FORM's CARD OF 'skaldlaw05.IdentRefuses'. -/
def identRefusesUptoCard : Claim7 := { stood := { row := identRefusesUptoRow, standIns := [], harness := (true, "3be2e759085e69c2b0e432e222dd569a75de4b8c34fc39e92222926f2245c223"), looks := true }, kinds := [], alts := [], laidByText := true, laidKinds := [.data, .data, .data, .data, .sentinel, .sentinel, .pinned], laidTests := true, laidLooks := .later }
def IdentRefusesUptoCardSaid : Prop := Claim7.holds Tryd.pinned (.plain (OpenSpec.upto identRefusesSpec)) identRefusesUptoCard

/-- THE SECOND FORM's CARD OF 'skaldlaw05.IdentItemBack'. -/
def identItemBackUptoCard : Claim7 := { stood := { row := identItemBackUptoRow, standIns := [], harness := (true, "3be2e759085e69c2b0e432e222dd569a75de4b8c34fc39e92222926f2245c223"), looks := true }, kinds := [], alts := [], laidByText := true, laidKinds := [.data, .data, .data, .data, .sentinel, .sentinel, .pinned], laidTests := true, laidLooks := .later }
def IdentItemBackUptoCardSaid : Prop := Claim7.holds Tryd.pinned (.plain (OpenSpec.upto identItemBackSpec)) identItemBackUptoCard

/-- THE SECOND FORM's CARD OF 'skaldlaw05.IdentBack'. -/
def identBackUptoCard : Claim7 := { stood := { row := identBackUptoRow, standIns := [], harness := (true, "3be2e759085e69c2b0e432e222dd569a75de4b8c34fc39e92222926f2245c223"), looks := true }, kinds := [], alts := [], laidByText := true, laidKinds := [.data, .data, .data, .data, .sentinel, .sentinel, .pinned], laidTests := true, laidLooks := .later }
def IdentBackUptoCardSaid : Prop := Claim7.holds Tryd.pinned (.plain (OpenSpec.upto identBackSpec)) identBackUptoCard

/-- THE SECOND FORM's CARD OF 'skaldlaw05.IdentNames'. -/
def identNamesUptoCard : Claim7 := { stood := { row := identNamesUptoRow, standIns := [], harness := (true, "3be2e759085e69c2b0e432e222dd569a75de4b8c34fc39e92222926f2245c223"), looks := true }, kinds := [], alts := [], laidByText := true, laidKinds := [.data, .data, .data, .data, .sentinel, .sentinel, .pinned], laidTests := true, laidLooks := .later }
def IdentNamesUptoCardSaid : Prop := Claim7.holds Tryd.pinned (.plain (OpenSpec.upto identNamesSpec)) identNamesUptoCard
end Rows
end Go.Proofs.YtmbnhbocablgeaaDoor
