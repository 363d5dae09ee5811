/-
  NARROWER THAN 'FOR EVERY INPUT', by the rows' own cells (each row's printed sentence says how): RouteOwners: laid · RouteFull: laid · RouteMoves: laid · RouteStays: laid · RouteAgain: laid · RoutePlays: laid · RouteNil: laid · RouteRestores: laid · RouteOnce: laid.
  DERIVED. THE GIVEN ROWS OF THIS SEAT. 9 by the template 'for every input the law returns true; each argument reads behind the call as it read before'; 0 by the template 'total and deterministic' (their statements: YtkkkppbcjmeapaaDoorTotals.lean).
  GIVEN WITH THE SEED: the statements are not yours to turn. If you find one false, say at which input.
  Laid BY PROGRAM, IN A SANDBOX (cutbox-rows.mjs): the forced cells as the released guide's own fill.sh prints them over the translation 20a4264781fd80fc… (all of the seat's roots in one cut). By AI agents, Wed Nov 11 2026. No macro, syntax, notation, axiom, sorry.
-/
import Derived.Test.YtkkkppbcjmeapaaDoorChecked
import GoSem.PinnedTables
import GoSem.Claim
import GoSem.ClaimJoined
import GoSem.ClaimMapViews
import Derived.JoinedTies
import Derived.KernelRfl
namespace Go.Proofs.YtkkkppbcjmeapaaDoor
/- THE CELL 'sum', in the pinned program and in every row, IS THE sha256 OF THE DUMP (.gsa) THAT YtkkkppbcjmeapaaDoorProg.lean LOADS. Nothing in Lean hashes anything: it is a label: what it is worth is what the hold of that sum in a sandbox is worth. -/
noncomputable def Tryd.pinned : Pinned := { name := "ytkkkppbcjmeapaadoor", sum := "20a4264781fd80fc8056a96263724b33301c5d8437539905f687e707e1e23359", checked := Tryd.checked }
namespace Rows
def none {H : Type} : Left H := { results := [], args := [] }

/- WHAT THE LISTED PACKAGE-LEVEL VARIABLES READ AS WHEN THE CALL BEGINS. Each datum BY PROGRAM (the guide's laid-datum.mjs) off the statement by which the dump's own 'gosem.cut.vars' lays the variable. In a bare row this is a premise. The card (YtkkkppbcjmeapaaDoorCards.lean) ties it to the program's text. -/
def laid_unicode_utf8_acceptRanges {H : Type} : DataW H := .agg [.agg [.lit (.int .u8 128), .lit (.int .u8 191)], .agg [.lit (.int .u8 160), .lit (.int .u8 191)], .agg [.lit (.int .u8 128), .lit (.int .u8 159)], .agg [.lit (.int .u8 144), .lit (.int .u8 191)], .agg [.lit (.int .u8 128), .lit (.int .u8 143)], .agg [.lit (.int .u8 0), .lit (.int .u8 0)], .agg [.lit (.int .u8 0), .lit (.int .u8 0)], .agg [.lit (.int .u8 0), .lit (.int .u8 0)], .agg [.lit (.int .u8 0), .lit (.int .u8 0)], .agg [.lit (.int .u8 0), .lit (.int .u8 0)], .agg [.lit (.int .u8 0), .lit (.int .u8 0)], .agg [.lit (.int .u8 0), .lit (.int .u8 0)], .agg [.lit (.int .u8 0), .lit (.int .u8 0)], .agg [.lit (.int .u8 0), .lit (.int .u8 0)], .agg [.lit (.int .u8 0), .lit (.int .u8 0)], .agg [.lit (.int .u8 0), .lit (.int .u8 0)]]
/-- One of Go's own tables, pinned by name: the form's constant. -/
def laid_unicode_utf8_first : DataW Unit := Go.Pinned.utf8First

/-- 'skaldlaw31.RouteOwners': WHATEVER THE INPUT: true; the input reads as it did. -/
def routeOwnersSpec : ChangeSpec := { name := "routeOwners", fn := fun _ => fun
  | [d1, d2, d3] => { results := [.lit (.bool true)], args := [d1, d2, d3] }
  | _ => none }
def routeOwnersRow : OpenClaim := { program := "ytkkkppbcjmeapaadoor", sum := "20a4264781fd80fc8056a96263724b33301c5d8437539905f687e707e1e23359", func := "skald/skaldlaw31.RouteOwners", spec := "routeOwners", inPlace := ["internal/bytealg.IndexByteString", "internal/bytealg.IndexString"], unfollowed := true, recurses := true, named := ["unicode/utf8.first", "unicode/utf8.acceptRanges", "internal/bytealg.MaxLen"], apart := false, laid := [("unicode/utf8.acceptRanges", laid_unicode_utf8_acceptRanges), ("unicode/utf8.first", laid_unicode_utf8_first)] }
def RouteOwnersSaid : Prop := routeOwnersRow.holds Tryd.pinned (OpenSpec.ofChange routeOwnersSpec)

/-- ITS FALSE NEIGHBOUR: 'it returns false'. Refute it at one input. -/
def routeOwnersWrong : ChangeSpec := { name := "routeOwners", fn := fun _ => fun
  | [d1, d2, d3] => { results := [.lit (.bool false)], args := [d1, d2, d3] }
  | _ => none }
def RouteOwnersWrongFalsely : Prop := routeOwnersRow.holds Tryd.pinned (OpenSpec.ofChange routeOwnersWrong)

/-- 'skaldlaw31.RouteFull': WHATEVER THE INPUT: true; the input reads as it did. -/
def routeFullSpec : ChangeSpec := { name := "routeFull", fn := fun _ => fun
  | [d1, d2] => { results := [.lit (.bool true)], args := [d1, d2] }
  | _ => none }
def routeFullRow : OpenClaim := { program := "ytkkkppbcjmeapaadoor", sum := "20a4264781fd80fc8056a96263724b33301c5d8437539905f687e707e1e23359", func := "skald/skaldlaw31.RouteFull", spec := "routeFull", inPlace := ["internal/bytealg.IndexByteString", "internal/bytealg.IndexString"], unfollowed := true, recurses := true, named := ["unicode/utf8.first", "unicode/utf8.acceptRanges", "internal/bytealg.MaxLen"], apart := false, laid := [("unicode/utf8.acceptRanges", laid_unicode_utf8_acceptRanges), ("unicode/utf8.first", laid_unicode_utf8_first)] }
def RouteFullSaid : Prop := routeFullRow.holds Tryd.pinned (OpenSpec.ofChange routeFullSpec)

/-- ITS FALSE NEIGHBOUR: 'it returns false'. Refute it at one input. -/
def routeFullWrong : ChangeSpec := { name := "routeFull", fn := fun _ => fun
  | [d1, d2] => { results := [.lit (.bool false)], args := [d1, d2] }
  | _ => none }
def RouteFullWrongFalsely : Prop := routeFullRow.holds Tryd.pinned (OpenSpec.ofChange routeFullWrong)

/-- 'skaldlaw31.RouteMoves': WHATEVER THE INPUT: true; the input reads as it did. -/
def routeMovesSpec : ChangeSpec := { name := "routeMoves", fn := fun _ => fun
  | [d1, d2] => { results := [.lit (.bool true)], args := [d1, d2] }
  | _ => none }
def routeMovesRow : OpenClaim := { program := "ytkkkppbcjmeapaadoor", sum := "20a4264781fd80fc8056a96263724b33301c5d8437539905f687e707e1e23359", func := "skald/skaldlaw31.RouteMoves", spec := "routeMoves", inPlace := ["internal/bytealg.IndexByteString", "internal/bytealg.IndexString"], unfollowed := true, recurses := true, named := ["unicode/utf8.first", "unicode/utf8.acceptRanges", "internal/bytealg.MaxLen"], apart := false, laid := [("unicode/utf8.acceptRanges", laid_unicode_utf8_acceptRanges), ("unicode/utf8.first", laid_unicode_utf8_first)] }
def RouteMovesSaid : Prop := routeMovesRow.holds Tryd.pinned (OpenSpec.ofChange routeMovesSpec)

/-- ITS FALSE NEIGHBOUR: 'it returns false'. Refute it at one input. -/
def routeMovesWrong : ChangeSpec := { name := "routeMoves", fn := fun _ => fun
  | [d1, d2] => { results := [.lit (.bool false)], args := [d1, d2] }
  | _ => none }
def RouteMovesWrongFalsely : Prop := routeMovesRow.holds Tryd.pinned (OpenSpec.ofChange routeMovesWrong)

/-- 'skaldlaw31.RouteStays': WHATEVER THE INPUT: true; the input reads as it did. -/
def routeStaysSpec : ChangeSpec := { name := "routeStays", fn := fun _ => fun
  | [d1, d2] => { results := [.lit (.bool true)], args := [d1, d2] }
  | _ => none }
def routeStaysRow : OpenClaim := { program := "ytkkkppbcjmeapaadoor", sum := "20a4264781fd80fc8056a96263724b33301c5d8437539905f687e707e1e23359", func := "skald/skaldlaw31.RouteStays", spec := "routeStays", inPlace := ["internal/bytealg.IndexByteString", "internal/bytealg.IndexString"], unfollowed := true, recurses := true, named := ["unicode/utf8.first", "unicode/utf8.acceptRanges", "internal/bytealg.MaxLen"], apart := false, laid := [("unicode/utf8.acceptRanges", laid_unicode_utf8_acceptRanges), ("unicode/utf8.first", laid_unicode_utf8_first)] }
def RouteStaysSaid : Prop := routeStaysRow.holds Tryd.pinned (OpenSpec.ofChange routeStaysSpec)

/-- ITS FALSE NEIGHBOUR: 'it returns false'. Refute it at one input. -/
def routeStaysWrong : ChangeSpec := { name := "routeStays", fn := fun _ => fun
  | [d1, d2] => { results := [.lit (.bool false)], args := [d1, d2] }
  | _ => none }
def RouteStaysWrongFalsely : Prop := routeStaysRow.holds Tryd.pinned (OpenSpec.ofChange routeStaysWrong)

/-- 'skaldlaw31.RouteAgain': WHATEVER THE INPUT: true; the input reads as it did. -/
def routeAgainSpec : ChangeSpec := { name := "routeAgain", fn := fun _ => fun
  | [d1, d2] => { results := [.lit (.bool true)], args := [d1, d2] }
  | _ => none }
def routeAgainRow : OpenClaim := { program := "ytkkkppbcjmeapaadoor", sum := "20a4264781fd80fc8056a96263724b33301c5d8437539905f687e707e1e23359", func := "skald/skaldlaw31.RouteAgain", spec := "routeAgain", inPlace := ["internal/bytealg.IndexByteString", "internal/bytealg.IndexString"], unfollowed := true, recurses := true, named := ["unicode/utf8.first", "unicode/utf8.acceptRanges", "internal/bytealg.MaxLen"], apart := false, laid := [("unicode/utf8.acceptRanges", laid_unicode_utf8_acceptRanges), ("unicode/utf8.first", laid_unicode_utf8_first)] }
def RouteAgainSaid : Prop := routeAgainRow.holds Tryd.pinned (OpenSpec.ofChange routeAgainSpec)

/-- ITS FALSE NEIGHBOUR: 'it returns false'. Refute it at one input. -/
def routeAgainWrong : ChangeSpec := { name := "routeAgain", fn := fun _ => fun
  | [d1, d2] => { results := [.lit (.bool false)], args := [d1, d2] }
  | _ => none }
def RouteAgainWrongFalsely : Prop := routeAgainRow.holds Tryd.pinned (OpenSpec.ofChange routeAgainWrong)

/-- 'skaldlaw31.RoutePlays': WHATEVER THE INPUT: true; the input reads as it did. -/
def routePlaysSpec : ChangeSpec := { name := "routePlays", fn := fun _ => fun
  | [d1, d2, d3] => { results := [.lit (.bool true)], args := [d1, d2, d3] }
  | _ => none }
def routePlaysRow : OpenClaim := { program := "ytkkkppbcjmeapaadoor", sum := "20a4264781fd80fc8056a96263724b33301c5d8437539905f687e707e1e23359", func := "skald/skaldlaw31.RoutePlays", spec := "routePlays", inPlace := ["internal/bytealg.IndexByteString", "internal/bytealg.IndexString"], unfollowed := true, recurses := true, named := ["unicode/utf8.first", "unicode/utf8.acceptRanges", "internal/bytealg.MaxLen"], apart := false, laid := [("unicode/utf8.acceptRanges", laid_unicode_utf8_acceptRanges), ("unicode/utf8.first", laid_unicode_utf8_first)] }
def RoutePlaysSaid : Prop := routePlaysRow.holds Tryd.pinned (OpenSpec.ofChange routePlaysSpec)

/-- ITS FALSE NEIGHBOUR: 'it returns false'. Refute it at one input. -/
def routePlaysWrong : ChangeSpec := { name := "routePlays", fn := fun _ => fun
  | [d1, d2, d3] => { results := [.lit (.bool false)], args := [d1, d2, d3] }
  | _ => none }
def RoutePlaysWrongFalsely : Prop := routePlaysRow.holds Tryd.pinned (OpenSpec.ofChange routePlaysWrong)

/-- 'skaldlaw31.RouteNil': WHATEVER THE INPUT: true; the input reads as it did. -/
def routeNilSpec : ChangeSpec := { name := "routeNil", fn := fun _ => fun
  | [d1, d2, d3] => { results := [.lit (.bool true)], args := [d1, d2, d3] }
  | _ => none }
def routeNilRow : OpenClaim := { program := "ytkkkppbcjmeapaadoor", sum := "20a4264781fd80fc8056a96263724b33301c5d8437539905f687e707e1e23359", func := "skald/skaldlaw31.RouteNil", spec := "routeNil", inPlace := ["internal/bytealg.IndexByteString", "internal/bytealg.IndexString"], unfollowed := true, recurses := true, named := ["unicode/utf8.first", "unicode/utf8.acceptRanges", "internal/bytealg.MaxLen"], apart := false, laid := [("unicode/utf8.acceptRanges", laid_unicode_utf8_acceptRanges), ("unicode/utf8.first", laid_unicode_utf8_first)] }
def RouteNilSaid : Prop := routeNilRow.holds Tryd.pinned (OpenSpec.ofChange routeNilSpec)

/-- ITS FALSE NEIGHBOUR: 'it returns false'. Refute it at one input. -/
def routeNilWrong : ChangeSpec := { name := "routeNil", fn := fun _ => fun
  | [d1, d2, d3] => { results := [.lit (.bool false)], args := [d1, d2, d3] }
  | _ => none }
def RouteNilWrongFalsely : Prop := routeNilRow.holds Tryd.pinned (OpenSpec.ofChange routeNilWrong)

/-- 'skaldlaw31.RouteRestores': WHATEVER THE INPUT: true; the input reads as it did. -/
def routeRestoresSpec : ChangeSpec := { name := "routeRestores", fn := fun _ => fun
  | [d1, d2, d3, d4] => { results := [.lit (.bool true)], args := [d1, d2, d3, d4] }
  | _ => none }
def routeRestoresRow : OpenClaim := { program := "ytkkkppbcjmeapaadoor", sum := "20a4264781fd80fc8056a96263724b33301c5d8437539905f687e707e1e23359", func := "skald/skaldlaw31.RouteRestores", spec := "routeRestores", inPlace := ["internal/bytealg.IndexByteString", "internal/bytealg.IndexString"], unfollowed := true, recurses := true, named := ["unicode/utf8.first", "unicode/utf8.acceptRanges", "internal/bytealg.MaxLen"], apart := false, laid := [("unicode/utf8.acceptRanges", laid_unicode_utf8_acceptRanges), ("unicode/utf8.first", laid_unicode_utf8_first)] }
def RouteRestoresSaid : Prop := routeRestoresRow.holds Tryd.pinned (OpenSpec.ofChange routeRestoresSpec)

/-- ITS FALSE NEIGHBOUR: 'it returns false'. Refute it at one input. -/
def routeRestoresWrong : ChangeSpec := { name := "routeRestores", fn := fun _ => fun
  | [d1, d2, d3, d4] => { results := [.lit (.bool false)], args := [d1, d2, d3, d4] }
  | _ => none }
def RouteRestoresWrongFalsely : Prop := routeRestoresRow.holds Tryd.pinned (OpenSpec.ofChange routeRestoresWrong)

/-- 'skaldlaw31.RouteOnce': WHATEVER THE INPUT: true; the input reads as it did. -/
def routeOnceSpec : ChangeSpec := { name := "routeOnce", fn := fun _ => fun
  | [d] => { results := [.lit (.bool true)], args := [d] }
  | _ => none }
def routeOnceRow : OpenClaim := { program := "ytkkkppbcjmeapaadoor", sum := "20a4264781fd80fc8056a96263724b33301c5d8437539905f687e707e1e23359", func := "skald/skaldlaw31.RouteOnce", spec := "routeOnce", inPlace := ["internal/bytealg.IndexByteString", "internal/bytealg.IndexString"], unfollowed := true, recurses := true, named := ["unicode/utf8.first", "unicode/utf8.acceptRanges", "internal/bytealg.MaxLen"], apart := false, laid := [("unicode/utf8.acceptRanges", laid_unicode_utf8_acceptRanges), ("unicode/utf8.first", laid_unicode_utf8_first)] }
def RouteOnceSaid : Prop := routeOnceRow.holds Tryd.pinned (OpenSpec.ofChange routeOnceSpec)

/-- ITS FALSE NEIGHBOUR: 'it returns false'. Refute it at one input. -/
def routeOnceWrong : ChangeSpec := { name := "routeOnce", fn := fun _ => fun
  | [d] => { results := [.lit (.bool false)], args := [d] }
  | _ => none }
def RouteOnceWrongFalsely : Prop := routeOnceRow.holds Tryd.pinned (OpenSpec.ofChange routeOnceWrong)

/- THE SECOND FORM. 'bulk': how many values and letters a reading holds, each counted each time it is reached (what is shared counts as often as it is met; a slice's spare places count too). A statement '..UptoSaid' is the law's where the arguments, and the package variables that the reading takes, are together of bulk at most 1048576: NARROWER than '..Said'. Prove '..Said' where nothing that the law and all that it calls make is longer than what came in: it says more and counts as full. Else prove '..UptoSaid'. A law counts once. -/
mutual
def uptoBulk {H : Type} : DataW H → Nat
  | .lit (.string bytes) => bytes.length + 1
  | .lit _ => 1
  | .nil => 1
  | .ptr d => uptoBulk d + 1
  | .slice elems spare => uptoBulkAll elems + uptoBulkAll spare + 1
  | .agg parts => uptoBulkAll parts + 1
  | .iface _ d => uptoBulk d + 1
  | .map entries => uptoBulkEntries entries + 1
  | .held _ => 1
def uptoBulkAll {H : Type} : List (DataW H) → Nat
  | [] => 0
  | d :: r => uptoBulk d + uptoBulkAll r
def uptoBulkEntries {H : Type} : List (Lit × DataW H) → Nat
  | [] => 0
  | x :: r => uptoBulkEntry x + uptoBulkEntries r
def uptoBulkEntry {H : Type} : Lit × DataW H → Nat
  | (.string bytes, d) => bytes.length + uptoBulk d + 1
  | (_, d) => uptoBulk d + 1
 end
def uptoSmall : (H : Type) → List (DataW H) → Bool := fun _ ds => decide (uptoBulkAll ds ≤ 1048576)
def OpenSpec.upto (s : _root_.Go.ChangeSpec) : _root_.Go.OpenSpec := { _root_.Go.OpenSpec.ofChange s with cond := some uptoSmall }

/-- 'skaldlaw31.RouteOwners', WHERE WHAT IT READS IS OF BULK AT MOST 1048576: true; the input reads as it did. -/
def routeOwnersUptoRow : OpenClaim := { program := "ytkkkppbcjmeapaadoor", sum := "20a4264781fd80fc8056a96263724b33301c5d8437539905f687e707e1e23359", func := "skald/skaldlaw31.RouteOwners", spec := "routeOwners", inPlace := ["internal/bytealg.IndexByteString", "internal/bytealg.IndexString"], unfollowed := true, recurses := true, named := ["unicode/utf8.first", "unicode/utf8.acceptRanges", "internal/bytealg.MaxLen"], apart := false, laid := [("unicode/utf8.acceptRanges", laid_unicode_utf8_acceptRanges), ("unicode/utf8.first", laid_unicode_utf8_first)], narrowed := true }
def RouteOwnersUptoSaid : Prop := routeOwnersUptoRow.holds Tryd.pinned (OpenSpec.upto routeOwnersSpec)

/-- 'skaldlaw31.RouteFull', WHERE WHAT IT READS IS OF BULK AT MOST 1048576: true; the input reads as it did. -/
def routeFullUptoRow : OpenClaim := { program := "ytkkkppbcjmeapaadoor", sum := "20a4264781fd80fc8056a96263724b33301c5d8437539905f687e707e1e23359", func := "skald/skaldlaw31.RouteFull", spec := "routeFull", inPlace := ["internal/bytealg.IndexByteString", "internal/bytealg.IndexString"], unfollowed := true, recurses := true, named := ["unicode/utf8.first", "unicode/utf8.acceptRanges", "internal/bytealg.MaxLen"], apart := false, laid := [("unicode/utf8.acceptRanges", laid_unicode_utf8_acceptRanges), ("unicode/utf8.first", laid_unicode_utf8_first)], narrowed := true }
def RouteFullUptoSaid : Prop := routeFullUptoRow.holds Tryd.pinned (OpenSpec.upto routeFullSpec)

/-- 'skaldlaw31.RouteMoves', WHERE WHAT IT READS IS OF BULK AT MOST 1048576: true; the input reads as it did. -/
def routeMovesUptoRow : OpenClaim := { program := "ytkkkppbcjmeapaadoor", sum := "20a4264781fd80fc8056a96263724b33301c5d8437539905f687e707e1e23359", func := "skald/skaldlaw31.RouteMoves", spec := "routeMoves", inPlace := ["internal/bytealg.IndexByteString", "internal/bytealg.IndexString"], unfollowed := true, recurses := true, named := ["unicode/utf8.first", "unicode/utf8.acceptRanges", "internal/bytealg.MaxLen"], apart := false, laid := [("unicode/utf8.acceptRanges", laid_unicode_utf8_acceptRanges), ("unicode/utf8.first", laid_unicode_utf8_first)], narrowed := true }
def RouteMovesUptoSaid : Prop := routeMovesUptoRow.holds Tryd.pinned (OpenSpec.upto routeMovesSpec)

/-- 'skaldlaw31.RouteStays', WHERE WHAT IT READS IS OF BULK AT MOST 1048576: true; the input reads as it did. -/
def routeStaysUptoRow : OpenClaim := { program := "ytkkkppbcjmeapaadoor", sum := "20a4264781fd80fc8056a96263724b33301c5d8437539905f687e707e1e23359", func := "skald/skaldlaw31.RouteStays", spec := "routeStays", inPlace := ["internal/bytealg.IndexByteString", "internal/bytealg.IndexString"], unfollowed := true, recurses := true, named := ["unicode/utf8.first", "unicode/utf8.acceptRanges", "internal/bytealg.MaxLen"], apart := false, laid := [("unicode/utf8.acceptRanges", laid_unicode_utf8_acceptRanges), ("unicode/utf8.first", laid_unicode_utf8_first)], narrowed := true }
def RouteStaysUptoSaid : Prop := routeStaysUptoRow.holds Tryd.pinned (OpenSpec.upto routeStaysSpec)

/-- 'skaldlaw31.RouteAgain', WHERE WHAT IT READS IS OF BULK AT MOST 1048576: true; the input reads as it did. -/
def routeAgainUptoRow : OpenClaim := { program := "ytkkkppbcjmeapaadoor", sum := "20a4264781fd80fc8056a96263724b33301c5d8437539905f687e707e1e23359", func := "skald/skaldlaw31.RouteAgain", spec := "routeAgain", inPlace := ["internal/bytealg.IndexByteString", "internal/bytealg.IndexString"], unfollowed := true, recurses := true, named := ["unicode/utf8.first", "unicode/utf8.acceptRanges", "internal/bytealg.MaxLen"], apart := false, laid := [("unicode/utf8.acceptRanges", laid_unicode_utf8_acceptRanges), ("unicode/utf8.first", laid_unicode_utf8_first)], narrowed := true }
def RouteAgainUptoSaid : Prop := routeAgainUptoRow.holds Tryd.pinned (OpenSpec.upto routeAgainSpec)

/-- 'skaldlaw31.RoutePlays', WHERE WHAT IT READS IS OF BULK AT MOST 1048576: true; the input reads as it did. -/
def routePlaysUptoRow : OpenClaim := { program := "ytkkkppbcjmeapaadoor", sum := "20a4264781fd80fc8056a96263724b33301c5d8437539905f687e707e1e23359", func := "skald/skaldlaw31.RoutePlays", spec := "routePlays", inPlace := ["internal/bytealg.IndexByteString", "internal/bytealg.IndexString"], unfollowed := true, recurses := true, named := ["unicode/utf8.first", "unicode/utf8.acceptRanges", "internal/bytealg.MaxLen"], apart := false, laid := [("unicode/utf8.acceptRanges", laid_unicode_utf8_acceptRanges), ("unicode/utf8.first", laid_unicode_utf8_first)], narrowed := true }
def RoutePlaysUptoSaid : Prop := routePlaysUptoRow.holds Tryd.pinned (OpenSpec.upto routePlaysSpec)

/-- 'skaldlaw31.RouteNil', WHERE WHAT IT READS IS OF BULK AT MOST 1048576: true; the input reads as it did. -/
def routeNilUptoRow : OpenClaim := { program := "ytkkkppbcjmeapaadoor", sum := "20a4264781fd80fc8056a96263724b33301c5d8437539905f687e707e1e23359", func := "skald/skaldlaw31.RouteNil", spec := "routeNil", inPlace := ["internal/bytealg.IndexByteString", "internal/bytealg.IndexString"], unfollowed := true, recurses := true, named := ["unicode/utf8.first", "unicode/utf8.acceptRanges", "internal/bytealg.MaxLen"], apart := false, laid := [("unicode/utf8.acceptRanges", laid_unicode_utf8_acceptRanges), ("unicode/utf8.first", laid_unicode_utf8_first)], narrowed := true }
def RouteNilUptoSaid : Prop := routeNilUptoRow.holds Tryd.pinned (OpenSpec.upto routeNilSpec)

/-- 'skaldlaw31.RouteRestores', WHERE WHAT IT READS IS OF BULK AT MOST 1048576: true; the input reads as it did. -/
def routeRestoresUptoRow : OpenClaim := { program := "ytkkkppbcjmeapaadoor", sum := "20a4264781fd80fc8056a96263724b33301c5d8437539905f687e707e1e23359", func := "skald/skaldlaw31.RouteRestores", spec := "routeRestores", inPlace := ["internal/bytealg.IndexByteString", "internal/bytealg.IndexString"], unfollowed := true, recurses := true, named := ["unicode/utf8.first", "unicode/utf8.acceptRanges", "internal/bytealg.MaxLen"], apart := false, laid := [("unicode/utf8.acceptRanges", laid_unicode_utf8_acceptRanges), ("unicode/utf8.first", laid_unicode_utf8_first)], narrowed := true }
def RouteRestoresUptoSaid : Prop := routeRestoresUptoRow.holds Tryd.pinned (OpenSpec.upto routeRestoresSpec)

/-- 'skaldlaw31.RouteOnce', WHERE WHAT IT READS IS OF BULK AT MOST 1048576: true; the input reads as it did. -/
def routeOnceUptoRow : OpenClaim := { program := "ytkkkppbcjmeapaadoor", sum := "20a4264781fd80fc8056a96263724b33301c5d8437539905f687e707e1e23359", func := "skald/skaldlaw31.RouteOnce", spec := "routeOnce", inPlace := ["internal/bytealg.IndexByteString", "internal/bytealg.IndexString"], unfollowed := true, recurses := true, named := ["unicode/utf8.first", "unicode/utf8.acceptRanges", "internal/bytealg.MaxLen"], apart := false, laid := [("unicode/utf8.acceptRanges", laid_unicode_utf8_acceptRanges), ("unicode/utf8.first", laid_unicode_utf8_first)], narrowed := true }
def RouteOnceUptoSaid : Prop := routeOnceUptoRow.holds Tryd.pinned (OpenSpec.upto routeOnceSpec)

end Rows
end Go.Proofs.YtkkkppbcjmeapaaDoor
