/-
  DERIVED. GIVEN WITH THE SEED: THE CARDS: each row of YtkkkppbcjmeapaaDoorRows.lean that lists a variable, with what it lists TIED to the program's text (the seventh form; the later family's looks); each row that meets fmt, with fmt's text TOLD by the authors' own Lean function (tested against real Go, not proved from fmt's source: count such statements apart). THE CARD IS WHAT COUNTS. Prove the row's statement (the work); the ties are given (YtkkkppbcjmeapaaDoorTie.lean); close each card by the builder's one call (the guide's Derived/Test/ToyasCard.lean, 'card_holds'). Laid BY PROGRAM, IN A SANDBOX (cutbox-door.mjs). By AI agents, Wed Nov 11 2026. No macro, syntax, notation, axiom, sorry.
-/
import Derived.Test.YtkkkppbcjmeapaaDoorRows
import GoSem.ClaimSeven
namespace Go.Proofs.YtkkkppbcjmeapaaDoor
namespace Rows

/-- THE TIED CARD OF 'skaldlaw31.RouteOwners'. -/
def routeOwnersCard : Claim7 := { stood := { row := routeOwnersRow, standIns := [], harness := (true, "1cb167fce9e7ecf63703c1913d2b639a62b31d4bb5ef048cc2e25a053f53d364"), looks := false }, kinds := [], alts := [], laidByText := true, laidKinds := [.data, .pinned], laidTests := true, laidLooks := .later }
def RouteOwnersCardSaid : Prop := Claim7.holds Tryd.pinned (.plain (OpenSpec.ofChange routeOwnersSpec)) routeOwnersCard

/-- THE TIED CARD OF 'skaldlaw31.RouteFull'. -/
def routeFullCard : Claim7 := { stood := { row := routeFullRow, standIns := [], harness := (true, "1cb167fce9e7ecf63703c1913d2b639a62b31d4bb5ef048cc2e25a053f53d364"), looks := false }, kinds := [], alts := [], laidByText := true, laidKinds := [.data, .pinned], laidTests := true, laidLooks := .later }
def RouteFullCardSaid : Prop := Claim7.holds Tryd.pinned (.plain (OpenSpec.ofChange routeFullSpec)) routeFullCard

/-- THE TIED CARD OF 'skaldlaw31.RouteMoves'. -/
def routeMovesCard : Claim7 := { stood := { row := routeMovesRow, standIns := [], harness := (true, "1cb167fce9e7ecf63703c1913d2b639a62b31d4bb5ef048cc2e25a053f53d364"), looks := false }, kinds := [], alts := [], laidByText := true, laidKinds := [.data, .pinned], laidTests := true, laidLooks := .later }
def RouteMovesCardSaid : Prop := Claim7.holds Tryd.pinned (.plain (OpenSpec.ofChange routeMovesSpec)) routeMovesCard

/-- THE TIED CARD OF 'skaldlaw31.RouteStays'. -/
def routeStaysCard : Claim7 := { stood := { row := routeStaysRow, standIns := [], harness := (true, "1cb167fce9e7ecf63703c1913d2b639a62b31d4bb5ef048cc2e25a053f53d364"), looks := false }, kinds := [], alts := [], laidByText := true, laidKinds := [.data, .pinned], laidTests := true, laidLooks := .later }
def RouteStaysCardSaid : Prop := Claim7.holds Tryd.pinned (.plain (OpenSpec.ofChange routeStaysSpec)) routeStaysCard

/-- THE TIED CARD OF 'skaldlaw31.RouteAgain'. -/
def routeAgainCard : Claim7 := { stood := { row := routeAgainRow, standIns := [], harness := (true, "1cb167fce9e7ecf63703c1913d2b639a62b31d4bb5ef048cc2e25a053f53d364"), looks := false }, kinds := [], alts := [], laidByText := true, laidKinds := [.data, .pinned], laidTests := true, laidLooks := .later }
def RouteAgainCardSaid : Prop := Claim7.holds Tryd.pinned (.plain (OpenSpec.ofChange routeAgainSpec)) routeAgainCard

/-- THE TIED CARD OF 'skaldlaw31.RoutePlays'. -/
def routePlaysCard : Claim7 := { stood := { row := routePlaysRow, standIns := [], harness := (true, "1cb167fce9e7ecf63703c1913d2b639a62b31d4bb5ef048cc2e25a053f53d364"), looks := false }, kinds := [], alts := [], laidByText := true, laidKinds := [.data, .pinned], laidTests := true, laidLooks := .later }
def RoutePlaysCardSaid : Prop := Claim7.holds Tryd.pinned (.plain (OpenSpec.ofChange routePlaysSpec)) routePlaysCard

/-- THE TIED CARD OF 'skaldlaw31.RouteNil'. -/
def routeNilCard : Claim7 := { stood := { row := routeNilRow, standIns := [], harness := (true, "1cb167fce9e7ecf63703c1913d2b639a62b31d4bb5ef048cc2e25a053f53d364"), looks := false }, kinds := [], alts := [], laidByText := true, laidKinds := [.data, .pinned], laidTests := true, laidLooks := .later }
def RouteNilCardSaid : Prop := Claim7.holds Tryd.pinned (.plain (OpenSpec.ofChange routeNilSpec)) routeNilCard

/-- THE TIED CARD OF 'skaldlaw31.RouteRestores'. -/
def routeRestoresCard : Claim7 := { stood := { row := routeRestoresRow, standIns := [], harness := (true, "1cb167fce9e7ecf63703c1913d2b639a62b31d4bb5ef048cc2e25a053f53d364"), looks := false }, kinds := [], alts := [], laidByText := true, laidKinds := [.data, .pinned], laidTests := true, laidLooks := .later }
def RouteRestoresCardSaid : Prop := Claim7.holds Tryd.pinned (.plain (OpenSpec.ofChange routeRestoresSpec)) routeRestoresCard

/-- THE TIED CARD OF 'skaldlaw31.RouteOnce'. -/
def routeOnceCard : Claim7 := { stood := { row := routeOnceRow, standIns := [], harness := (true, "1cb167fce9e7ecf63703c1913d2b639a62b31d4bb5ef048cc2e25a053f53d364"), looks := false }, kinds := [], alts := [], laidByText := true, laidKinds := [.data, .pinned], laidTests := true, laidLooks := .later }
def RouteOnceCardSaid : Prop := Claim7.holds Tryd.pinned (.plain (OpenSpec.ofChange routeOnceSpec)) routeOnceCard

/-- THE SECOND FORM's CARD OF 'skaldlaw31.RouteOwners'. -/
def routeOwnersUptoCard : Claim7 := { stood := { row := routeOwnersUptoRow, standIns := [], harness := (true, "1cb167fce9e7ecf63703c1913d2b639a62b31d4bb5ef048cc2e25a053f53d364"), looks := false }, kinds := [], alts := [], laidByText := true, laidKinds := [.data, .pinned], laidTests := true, laidLooks := .later }
def RouteOwnersUptoCardSaid : Prop := Claim7.holds Tryd.pinned (.plain (OpenSpec.upto routeOwnersSpec)) routeOwnersUptoCard

/-- THE SECOND FORM's CARD OF 'skaldlaw31.RouteFull'. -/
def routeFullUptoCard : Claim7 := { stood := { row := routeFullUptoRow, standIns := [], harness := (true, "1cb167fce9e7ecf63703c1913d2b639a62b31d4bb5ef048cc2e25a053f53d364"), looks := false }, kinds := [], alts := [], laidByText := true, laidKinds := [.data, .pinned], laidTests := true, laidLooks := .later }
def RouteFullUptoCardSaid : Prop := Claim7.holds Tryd.pinned (.plain (OpenSpec.upto routeFullSpec)) routeFullUptoCard

/-- THE SECOND FORM's CARD OF 'skaldlaw31.RouteMoves'. -/
def routeMovesUptoCard : Claim7 := { stood := { row := routeMovesUptoRow, standIns := [], harness := (true, "1cb167fce9e7ecf63703c1913d2b639a62b31d4bb5ef048cc2e25a053f53d364"), looks := false }, kinds := [], alts := [], laidByText := true, laidKinds := [.data, .pinned], laidTests := true, laidLooks := .later }
def RouteMovesUptoCardSaid : Prop := Claim7.holds Tryd.pinned (.plain (OpenSpec.upto routeMovesSpec)) routeMovesUptoCard

/-- THE SECOND FORM's CARD OF 'skaldlaw31.RouteStays'. -/
def routeStaysUptoCard : Claim7 := { stood := { row := routeStaysUptoRow, standIns := [], harness := (true, "1cb167fce9e7ecf63703c1913d2b639a62b31d4bb5ef048cc2e25a053f53d364"), looks := false }, kinds := [], alts := [], laidByText := true, laidKinds := [.data, .pinned], laidTests := true, laidLooks := .later }
def RouteStaysUptoCardSaid : Prop := Claim7.holds Tryd.pinned (.plain (OpenSpec.upto routeStaysSpec)) routeStaysUptoCard

/-- THE SECOND FORM's CARD OF 'skaldlaw31.RouteAgain'. -/
def routeAgainUptoCard : Claim7 := { stood := { row := routeAgainUptoRow, standIns := [], harness := (true, "1cb167fce9e7ecf63703c1913d2b639a62b31d4bb5ef048cc2e25a053f53d364"), looks := false }, kinds := [], alts := [], laidByText := true, laidKinds := [.data, .pinned], laidTests := true, laidLooks := .later }
def RouteAgainUptoCardSaid : Prop := Claim7.holds Tryd.pinned (.plain (OpenSpec.upto routeAgainSpec)) routeAgainUptoCard

/-- THE SECOND FORM's CARD OF 'skaldlaw31.RoutePlays'. -/
def routePlaysUptoCard : Claim7 := { stood := { row := routePlaysUptoRow, standIns := [], harness := (true, "1cb167fce9e7ecf63703c1913d2b639a62b31d4bb5ef048cc2e25a053f53d364"), looks := false }, kinds := [], alts := [], laidByText := true, laidKinds := [.data, .pinned], laidTests := true, laidLooks := .later }
def RoutePlaysUptoCardSaid : Prop := Claim7.holds Tryd.pinned (.plain (OpenSpec.upto routePlaysSpec)) routePlaysUptoCard

/-- THE SECOND FORM's CARD OF 'skaldlaw31.RouteNil'. -/
def routeNilUptoCard : Claim7 := { stood := { row := routeNilUptoRow, standIns := [], harness := (true, "1cb167fce9e7ecf63703c1913d2b639a62b31d4bb5ef048cc2e25a053f53d364"), looks := false }, kinds := [], alts := [], laidByText := true, laidKinds := [.data, .pinned], laidTests := true, laidLooks := .later }
def RouteNilUptoCardSaid : Prop := Claim7.holds Tryd.pinned (.plain (OpenSpec.upto routeNilSpec)) routeNilUptoCard

/-- THE SECOND FORM's CARD OF 'skaldlaw31.RouteRestores'. -/
def routeRestoresUptoCard : Claim7 := { stood := { row := routeRestoresUptoRow, standIns := [], harness := (true, "1cb167fce9e7ecf63703c1913d2b639a62b31d4bb5ef048cc2e25a053f53d364"), looks := false }, kinds := [], alts := [], laidByText := true, laidKinds := [.data, .pinned], laidTests := true, laidLooks := .later }
def RouteRestoresUptoCardSaid : Prop := Claim7.holds Tryd.pinned (.plain (OpenSpec.upto routeRestoresSpec)) routeRestoresUptoCard

/-- THE SECOND FORM's CARD OF 'skaldlaw31.RouteOnce'. -/
def routeOnceUptoCard : Claim7 := { stood := { row := routeOnceUptoRow, standIns := [], harness := (true, "1cb167fce9e7ecf63703c1913d2b639a62b31d4bb5ef048cc2e25a053f53d364"), looks := false }, kinds := [], alts := [], laidByText := true, laidKinds := [.data, .pinned], laidTests := true, laidLooks := .later }
def RouteOnceUptoCardSaid : Prop := Claim7.holds Tryd.pinned (.plain (OpenSpec.upto routeOnceSpec)) routeOnceUptoCard
end Rows
end Go.Proofs.YtkkkppbcjmeapaaDoor
