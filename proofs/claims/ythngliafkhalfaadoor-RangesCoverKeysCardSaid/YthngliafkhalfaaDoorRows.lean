/-
  NARROWER THAN 'FOR EVERY INPUT', by the rows' own cells (each row's printed sentence says how): RangesKeys: laid · RangesParts: laid · RangesCoverKeys: laid · RangesTexts: laid · RangesBack: laid · RangesPairs: laid · RangesOrder: laid · RangesSelf: laid.
  DERIVED. THE GIVEN ROWS OF THIS SEAT. 8 by the template 'for every input the law returns true; each argument reads behind the call as it read before'; 0 by the template 'total and deterministic' (their statements: YthngliafkhalfaaDoorTotals.lean).
  GIVEN WITH THE SEED: the statements are not yours to turn. If you find one false, say at which input.
  Laid BY PROGRAM, IN A SANDBOX (cutbox-rows.mjs): the forced cells as the released guide's own fill.sh prints them over the translation eb1af10b1303cf0b… (all of the seat's roots in one cut). By AI agents, Wed Nov 11 2026. No macro, syntax, notation, axiom, sorry.
-/
import Derived.Test.YthngliafkhalfaaDoorChecked
import GoSem.PinnedTables
import GoSem.Claim
import GoSem.ClaimJoined
import GoSem.ClaimMapViews
import Derived.JoinedTies
import Derived.KernelRfl
namespace Go.Proofs.YthngliafkhalfaaDoor
/- THE CELL 'sum', in the pinned program and in every row, IS THE sha256 OF THE DUMP (.gsa) THAT YthngliafkhalfaaDoorProg.lean LOADS. Nothing in Lean hashes anything: it is a label: what it is worth is what the hold of that sum in a sandbox is worth. -/
noncomputable def Tryd.pinned : Pinned := { name := "ythngliafkhalfaadoor", sum := "eb1af10b1303cf0bb51d3ec3847596dc4347b8fd7581854838378371950632c5", checked := Tryd.checked }
namespace Rows
def none {H : Type} : Left H := { results := [], args := [] }

/- WHAT THE LISTED PACKAGE-LEVEL VARIABLES READ AS WHEN THE CALL BEGINS. Each datum BY PROGRAM (the guide's laid-datum.mjs) off the statement by which the dump's own 'gosem.cut.vars' lays the variable. In a bare row this is a premise. The card (YthngliafkhalfaaDoorCards.lean) ties it to the program's text. -/
def laid_unicode_utf8_acceptRanges {H : Type} : DataW H := .agg [.agg [.lit (.int .u8 128), .lit (.int .u8 191)], .agg [.lit (.int .u8 160), .lit (.int .u8 191)], .agg [.lit (.int .u8 128), .lit (.int .u8 159)], .agg [.lit (.int .u8 144), .lit (.int .u8 191)], .agg [.lit (.int .u8 128), .lit (.int .u8 143)], .agg [.lit (.int .u8 0), .lit (.int .u8 0)], .agg [.lit (.int .u8 0), .lit (.int .u8 0)], .agg [.lit (.int .u8 0), .lit (.int .u8 0)], .agg [.lit (.int .u8 0), .lit (.int .u8 0)], .agg [.lit (.int .u8 0), .lit (.int .u8 0)], .agg [.lit (.int .u8 0), .lit (.int .u8 0)], .agg [.lit (.int .u8 0), .lit (.int .u8 0)], .agg [.lit (.int .u8 0), .lit (.int .u8 0)], .agg [.lit (.int .u8 0), .lit (.int .u8 0)], .agg [.lit (.int .u8 0), .lit (.int .u8 0)], .agg [.lit (.int .u8 0), .lit (.int .u8 0)]]
/-- One of Go's own tables, pinned by name: the form's constant. -/
def laid_unicode_utf8_first : DataW Unit := Go.Pinned.utf8First

/-- 'skaldlaw06.RangesKeys': WHATEVER THE INPUT: true; the input reads as it did. -/
def rangesKeysSpec : ChangeSpec := { name := "rangesKeys", fn := fun _ => fun
  | [d1, d2, d3] => { results := [.lit (.bool true)], args := [d1, d2, d3] }
  | _ => none }
def rangesKeysRow : OpenClaim := { program := "ythngliafkhalfaadoor", sum := "eb1af10b1303cf0bb51d3ec3847596dc4347b8fd7581854838378371950632c5", func := "skald/skaldlaw06.RangesKeys", spec := "rangesKeys", inPlace := ["internal/bytealg.IndexByteString", "internal/bytealg.IndexString"], unfollowed := true, recurses := true, named := ["unicode/utf8.first", "unicode/utf8.acceptRanges", "internal/bytealg.MaxLen"], apart := false, laid := [("unicode/utf8.acceptRanges", laid_unicode_utf8_acceptRanges), ("unicode/utf8.first", laid_unicode_utf8_first)] }
def RangesKeysSaid : Prop := rangesKeysRow.holds Tryd.pinned (OpenSpec.ofChange rangesKeysSpec)

/-- ITS FALSE NEIGHBOUR: 'it returns false'. Refute it at one input. -/
def rangesKeysWrong : ChangeSpec := { name := "rangesKeys", fn := fun _ => fun
  | [d1, d2, d3] => { results := [.lit (.bool false)], args := [d1, d2, d3] }
  | _ => none }
def RangesKeysWrongFalsely : Prop := rangesKeysRow.holds Tryd.pinned (OpenSpec.ofChange rangesKeysWrong)

/-- 'skaldlaw06.RangesParts': WHATEVER THE INPUT: true; the input reads as it did. -/
def rangesPartsSpec : ChangeSpec := { name := "rangesParts", fn := fun _ => fun
  | [d1, d2] => { results := [.lit (.bool true)], args := [d1, d2] }
  | _ => none }
def rangesPartsRow : OpenClaim := { program := "ythngliafkhalfaadoor", sum := "eb1af10b1303cf0bb51d3ec3847596dc4347b8fd7581854838378371950632c5", func := "skald/skaldlaw06.RangesParts", spec := "rangesParts", inPlace := ["internal/bytealg.IndexByteString", "internal/bytealg.IndexString"], unfollowed := true, recurses := true, named := ["unicode/utf8.first", "unicode/utf8.acceptRanges", "internal/bytealg.MaxLen"], apart := false, laid := [("unicode/utf8.acceptRanges", laid_unicode_utf8_acceptRanges), ("unicode/utf8.first", laid_unicode_utf8_first)] }
def RangesPartsSaid : Prop := rangesPartsRow.holds Tryd.pinned (OpenSpec.ofChange rangesPartsSpec)

/-- ITS FALSE NEIGHBOUR: 'it returns false'. Refute it at one input. -/
def rangesPartsWrong : ChangeSpec := { name := "rangesParts", fn := fun _ => fun
  | [d1, d2] => { results := [.lit (.bool false)], args := [d1, d2] }
  | _ => none }
def RangesPartsWrongFalsely : Prop := rangesPartsRow.holds Tryd.pinned (OpenSpec.ofChange rangesPartsWrong)

/-- 'skaldlaw06.RangesCoverKeys': WHATEVER THE INPUT: true; the input reads as it did. -/
def rangesCoverKeysSpec : ChangeSpec := { name := "rangesCoverKeys", fn := fun _ => fun
  | [d1, d2, d3] => { results := [.lit (.bool true)], args := [d1, d2, d3] }
  | _ => none }
def rangesCoverKeysRow : OpenClaim := { program := "ythngliafkhalfaadoor", sum := "eb1af10b1303cf0bb51d3ec3847596dc4347b8fd7581854838378371950632c5", func := "skald/skaldlaw06.RangesCoverKeys", spec := "rangesCoverKeys", inPlace := ["internal/bytealg.IndexByteString", "internal/bytealg.IndexString"], unfollowed := true, recurses := true, named := ["unicode/utf8.first", "unicode/utf8.acceptRanges", "internal/bytealg.MaxLen"], apart := false, laid := [("unicode/utf8.acceptRanges", laid_unicode_utf8_acceptRanges), ("unicode/utf8.first", laid_unicode_utf8_first)] }
def RangesCoverKeysSaid : Prop := rangesCoverKeysRow.holds Tryd.pinned (OpenSpec.ofChange rangesCoverKeysSpec)

/-- ITS FALSE NEIGHBOUR: 'it returns false'. Refute it at one input. -/
def rangesCoverKeysWrong : ChangeSpec := { name := "rangesCoverKeys", fn := fun _ => fun
  | [d1, d2, d3] => { results := [.lit (.bool false)], args := [d1, d2, d3] }
  | _ => none }
def RangesCoverKeysWrongFalsely : Prop := rangesCoverKeysRow.holds Tryd.pinned (OpenSpec.ofChange rangesCoverKeysWrong)

/-- 'skaldlaw06.RangesTexts': WHATEVER THE INPUT: true; the input reads as it did. -/
def rangesTextsSpec : ChangeSpec := { name := "rangesTexts", fn := fun _ => fun
  | [d1, d2, d3] => { results := [.lit (.bool true)], args := [d1, d2, d3] }
  | _ => none }
def rangesTextsRow : OpenClaim := { program := "ythngliafkhalfaadoor", sum := "eb1af10b1303cf0bb51d3ec3847596dc4347b8fd7581854838378371950632c5", func := "skald/skaldlaw06.RangesTexts", spec := "rangesTexts", inPlace := ["internal/bytealg.IndexByteString", "internal/bytealg.IndexString"], unfollowed := true, recurses := true, named := ["unicode/utf8.first", "unicode/utf8.acceptRanges", "internal/bytealg.MaxLen"], apart := false, laid := [("unicode/utf8.acceptRanges", laid_unicode_utf8_acceptRanges), ("unicode/utf8.first", laid_unicode_utf8_first)] }
def RangesTextsSaid : Prop := rangesTextsRow.holds Tryd.pinned (OpenSpec.ofChange rangesTextsSpec)

/-- ITS FALSE NEIGHBOUR: 'it returns false'. Refute it at one input. -/
def rangesTextsWrong : ChangeSpec := { name := "rangesTexts", fn := fun _ => fun
  | [d1, d2, d3] => { results := [.lit (.bool false)], args := [d1, d2, d3] }
  | _ => none }
def RangesTextsWrongFalsely : Prop := rangesTextsRow.holds Tryd.pinned (OpenSpec.ofChange rangesTextsWrong)

/-- 'skaldlaw06.RangesBack': WHATEVER THE INPUT: true; the input reads as it did. -/
def rangesBackSpec : ChangeSpec := { name := "rangesBack", fn := fun _ => fun
  | [d1, d2] => { results := [.lit (.bool true)], args := [d1, d2] }
  | _ => none }
def rangesBackRow : OpenClaim := { program := "ythngliafkhalfaadoor", sum := "eb1af10b1303cf0bb51d3ec3847596dc4347b8fd7581854838378371950632c5", func := "skald/skaldlaw06.RangesBack", spec := "rangesBack", inPlace := ["internal/bytealg.IndexByteString", "internal/bytealg.IndexString"], unfollowed := true, recurses := true, named := ["unicode/utf8.first", "unicode/utf8.acceptRanges", "internal/bytealg.MaxLen"], apart := false, laid := [("unicode/utf8.acceptRanges", laid_unicode_utf8_acceptRanges), ("unicode/utf8.first", laid_unicode_utf8_first)] }
def RangesBackSaid : Prop := rangesBackRow.holds Tryd.pinned (OpenSpec.ofChange rangesBackSpec)

/-- ITS FALSE NEIGHBOUR: 'it returns false'. Refute it at one input. -/
def rangesBackWrong : ChangeSpec := { name := "rangesBack", fn := fun _ => fun
  | [d1, d2] => { results := [.lit (.bool false)], args := [d1, d2] }
  | _ => none }
def RangesBackWrongFalsely : Prop := rangesBackRow.holds Tryd.pinned (OpenSpec.ofChange rangesBackWrong)

/-- 'skaldlaw06.RangesPairs': WHATEVER THE INPUT: true; the input reads as it did. -/
def rangesPairsSpec : ChangeSpec := { name := "rangesPairs", fn := fun _ => fun
  | [d1, d2] => { results := [.lit (.bool true)], args := [d1, d2] }
  | _ => none }
def rangesPairsRow : OpenClaim := { program := "ythngliafkhalfaadoor", sum := "eb1af10b1303cf0bb51d3ec3847596dc4347b8fd7581854838378371950632c5", func := "skald/skaldlaw06.RangesPairs", spec := "rangesPairs", inPlace := ["internal/bytealg.IndexByteString", "internal/bytealg.IndexString"], unfollowed := true, recurses := true, named := ["unicode/utf8.first", "unicode/utf8.acceptRanges", "internal/bytealg.MaxLen"], apart := false, laid := [("unicode/utf8.acceptRanges", laid_unicode_utf8_acceptRanges), ("unicode/utf8.first", laid_unicode_utf8_first)] }
def RangesPairsSaid : Prop := rangesPairsRow.holds Tryd.pinned (OpenSpec.ofChange rangesPairsSpec)

/-- ITS FALSE NEIGHBOUR: 'it returns false'. Refute it at one input. -/
def rangesPairsWrong : ChangeSpec := { name := "rangesPairs", fn := fun _ => fun
  | [d1, d2] => { results := [.lit (.bool false)], args := [d1, d2] }
  | _ => none }
def RangesPairsWrongFalsely : Prop := rangesPairsRow.holds Tryd.pinned (OpenSpec.ofChange rangesPairsWrong)

/-- 'skaldlaw06.RangesOrder': WHATEVER THE INPUT: true; the input reads as it did. -/
def rangesOrderSpec : ChangeSpec := { name := "rangesOrder", fn := fun _ => fun
  | [d1, d2, d3, d4] => { results := [.lit (.bool true)], args := [d1, d2, d3, d4] }
  | _ => none }
def rangesOrderRow : OpenClaim := { program := "ythngliafkhalfaadoor", sum := "eb1af10b1303cf0bb51d3ec3847596dc4347b8fd7581854838378371950632c5", func := "skald/skaldlaw06.RangesOrder", spec := "rangesOrder", inPlace := ["internal/bytealg.IndexByteString", "internal/bytealg.IndexString"], unfollowed := true, recurses := true, named := ["unicode/utf8.first", "unicode/utf8.acceptRanges", "internal/bytealg.MaxLen"], apart := false, laid := [("unicode/utf8.acceptRanges", laid_unicode_utf8_acceptRanges), ("unicode/utf8.first", laid_unicode_utf8_first)] }
def RangesOrderSaid : Prop := rangesOrderRow.holds Tryd.pinned (OpenSpec.ofChange rangesOrderSpec)

/-- ITS FALSE NEIGHBOUR: 'it returns false'. Refute it at one input. -/
def rangesOrderWrong : ChangeSpec := { name := "rangesOrder", fn := fun _ => fun
  | [d1, d2, d3, d4] => { results := [.lit (.bool false)], args := [d1, d2, d3, d4] }
  | _ => none }
def RangesOrderWrongFalsely : Prop := rangesOrderRow.holds Tryd.pinned (OpenSpec.ofChange rangesOrderWrong)

/-- 'skaldlaw06.RangesSelf': WHATEVER THE INPUT: true; the input reads as it did. -/
def rangesSelfSpec : ChangeSpec := { name := "rangesSelf", fn := fun _ => fun
  | [d] => { results := [.lit (.bool true)], args := [d] }
  | _ => none }
def rangesSelfRow : OpenClaim := { program := "ythngliafkhalfaadoor", sum := "eb1af10b1303cf0bb51d3ec3847596dc4347b8fd7581854838378371950632c5", func := "skald/skaldlaw06.RangesSelf", spec := "rangesSelf", inPlace := ["internal/bytealg.IndexByteString", "internal/bytealg.IndexString"], unfollowed := true, recurses := true, named := ["unicode/utf8.first", "unicode/utf8.acceptRanges", "internal/bytealg.MaxLen"], apart := false, laid := [("unicode/utf8.acceptRanges", laid_unicode_utf8_acceptRanges), ("unicode/utf8.first", laid_unicode_utf8_first)] }
def RangesSelfSaid : Prop := rangesSelfRow.holds Tryd.pinned (OpenSpec.ofChange rangesSelfSpec)

/-- ITS FALSE NEIGHBOUR: 'it returns false'. Refute it at one input. -/
def rangesSelfWrong : ChangeSpec := { name := "rangesSelf", fn := fun _ => fun
  | [d] => { results := [.lit (.bool false)], args := [d] }
  | _ => none }
def RangesSelfWrongFalsely : Prop := rangesSelfRow.holds Tryd.pinned (OpenSpec.ofChange rangesSelfWrong)

/- THE SECOND FORM. 'bulk': how many values and letters a reading holds, each counted each time it is reached (what is shared counts as often as it is met; a slice's spare places count too). A statement '..UptoSaid' is the law's where the arguments, and the package variables that the reading takes, are together of bulk at most 1048576: NARROWER than '..Said'. Prove '..Said' where nothing that the law and all that it calls make is longer than what came in: it says more and counts as full. Else prove '..UptoSaid'. A law counts once. -/
mutual
def uptoBulk {H : Type} : DataW H → Nat
  | .lit (.string bytes) => bytes.length + 1
  | .lit _ => 1
  | .nil => 1
  | .ptr d => uptoBulk d + 1
  | .slice elems spare => uptoBulkAll elems + uptoBulkAll spare + 1
  | .agg parts => uptoBulkAll parts + 1
  | .iface _ d => uptoBulk d + 1
  | .map entries => uptoBulkEntries entries + 1
  | .held _ => 1
def uptoBulkAll {H : Type} : List (DataW H) → Nat
  | [] => 0
  | d :: r => uptoBulk d + uptoBulkAll r
def uptoBulkEntries {H : Type} : List (Lit × DataW H) → Nat
  | [] => 0
  | x :: r => uptoBulkEntry x + uptoBulkEntries r
def uptoBulkEntry {H : Type} : Lit × DataW H → Nat
  | (.string bytes, d) => bytes.length + uptoBulk d + 1
  | (_, d) => uptoBulk d + 1
 end
def uptoSmall : (H : Type) → List (DataW H) → Bool := fun _ ds => decide (uptoBulkAll ds ≤ 1048576)
def OpenSpec.upto (s : _root_.Go.ChangeSpec) : _root_.Go.OpenSpec := { _root_.Go.OpenSpec.ofChange s with cond := some uptoSmall }

/-- 'skaldlaw06.RangesKeys', WHERE WHAT IT READS IS OF BULK AT MOST 1048576: true; the input reads as it did. -/
def rangesKeysUptoRow : OpenClaim := { program := "ythngliafkhalfaadoor", sum := "eb1af10b1303cf0bb51d3ec3847596dc4347b8fd7581854838378371950632c5", func := "skald/skaldlaw06.RangesKeys", spec := "rangesKeys", inPlace := ["internal/bytealg.IndexByteString", "internal/bytealg.IndexString"], unfollowed := true, recurses := true, named := ["unicode/utf8.first", "unicode/utf8.acceptRanges", "internal/bytealg.MaxLen"], apart := false, laid := [("unicode/utf8.acceptRanges", laid_unicode_utf8_acceptRanges), ("unicode/utf8.first", laid_unicode_utf8_first)], narrowed := true }
def RangesKeysUptoSaid : Prop := rangesKeysUptoRow.holds Tryd.pinned (OpenSpec.upto rangesKeysSpec)

/-- 'skaldlaw06.RangesParts', WHERE WHAT IT READS IS OF BULK AT MOST 1048576: true; the input reads as it did. -/
def rangesPartsUptoRow : OpenClaim := { program := "ythngliafkhalfaadoor", sum := "eb1af10b1303cf0bb51d3ec3847596dc4347b8fd7581854838378371950632c5", func := "skald/skaldlaw06.RangesParts", spec := "rangesParts", inPlace := ["internal/bytealg.IndexByteString", "internal/bytealg.IndexString"], unfollowed := true, recurses := true, named := ["unicode/utf8.first", "unicode/utf8.acceptRanges", "internal/bytealg.MaxLen"], apart := false, laid := [("unicode/utf8.acceptRanges", laid_unicode_utf8_acceptRanges), ("unicode/utf8.first", laid_unicode_utf8_first)], narrowed := true }
def RangesPartsUptoSaid : Prop := rangesPartsUptoRow.holds Tryd.pinned (OpenSpec.upto rangesPartsSpec)

/-- 'skaldlaw06.RangesCoverKeys', WHERE WHAT IT READS IS OF BULK AT MOST 1048576: true; the input reads as it did. -/
def rangesCoverKeysUptoRow : OpenClaim := { program := "ythngliafkhalfaadoor", sum := "eb1af10b1303cf0bb51d3ec3847596dc4347b8fd7581854838378371950632c5", func := "skald/skaldlaw06.RangesCoverKeys", spec := "rangesCoverKeys", inPlace := ["internal/bytealg.IndexByteString", "internal/bytealg.IndexString"], unfollowed := true, recurses := true, named := ["unicode/utf8.first", "unicode/utf8.acceptRanges", "internal/bytealg.MaxLen"], apart := false, laid := [("unicode/utf8.acceptRanges", laid_unicode_utf8_acceptRanges), ("unicode/utf8.first", laid_unicode_utf8_first)], narrowed := true }
def RangesCoverKeysUptoSaid : Prop := rangesCoverKeysUptoRow.holds Tryd.pinned (OpenSpec.upto rangesCoverKeysSpec)

/-- 'skaldlaw06.RangesTexts', WHERE WHAT IT READS IS OF BULK AT MOST 1048576: true; the input reads as it did. -/
def rangesTextsUptoRow : OpenClaim := { program := "ythngliafkhalfaadoor", sum := "eb1af10b1303cf0bb51d3ec3847596dc4347b8fd7581854838378371950632c5", func := "skald/skaldlaw06.RangesTexts", spec := "rangesTexts", inPlace := ["internal/bytealg.IndexByteString", "internal/bytealg.IndexString"], unfollowed := true, recurses := true, named := ["unicode/utf8.first", "unicode/utf8.acceptRanges", "internal/bytealg.MaxLen"], apart := false, laid := [("unicode/utf8.acceptRanges", laid_unicode_utf8_acceptRanges), ("unicode/utf8.first", laid_unicode_utf8_first)], narrowed := true }
def RangesTextsUptoSaid : Prop := rangesTextsUptoRow.holds Tryd.pinned (OpenSpec.upto rangesTextsSpec)

/-- 'skaldlaw06.RangesBack', WHERE WHAT IT READS IS OF BULK AT MOST 1048576: true; the input reads as it did. -/
def rangesBackUptoRow : OpenClaim := { program := "ythngliafkhalfaadoor", sum := "eb1af10b1303cf0bb51d3ec3847596dc4347b8fd7581854838378371950632c5", func := "skald/skaldlaw06.RangesBack", spec := "rangesBack", inPlace := ["internal/bytealg.IndexByteString", "internal/bytealg.IndexString"], unfollowed := true, recurses := true, named := ["unicode/utf8.first", "unicode/utf8.acceptRanges", "internal/bytealg.MaxLen"], apart := false, laid := [("unicode/utf8.acceptRanges", laid_unicode_utf8_acceptRanges), ("unicode/utf8.first", laid_unicode_utf8_first)], narrowed := true }
def RangesBackUptoSaid : Prop := rangesBackUptoRow.holds Tryd.pinned (OpenSpec.upto rangesBackSpec)

/-- 'skaldlaw06.RangesPairs', WHERE WHAT IT READS IS OF BULK AT MOST 1048576: true; the input reads as it did. -/
def rangesPairsUptoRow : OpenClaim := { program := "ythngliafkhalfaadoor", sum := "eb1af10b1303cf0bb51d3ec3847596dc4347b8fd7581854838378371950632c5", func := "skald/skaldlaw06.RangesPairs", spec := "rangesPairs", inPlace := ["internal/bytealg.IndexByteString", "internal/bytealg.IndexString"], unfollowed := true, recurses := true, named := ["unicode/utf8.first", "unicode/utf8.acceptRanges", "internal/bytealg.MaxLen"], apart := false, laid := [("unicode/utf8.acceptRanges", laid_unicode_utf8_acceptRanges), ("unicode/utf8.first", laid_unicode_utf8_first)], narrowed := true }
def RangesPairsUptoSaid : Prop := rangesPairsUptoRow.holds Tryd.pinned (OpenSpec.upto rangesPairsSpec)

/-- 'skaldlaw06.RangesOrder', WHERE WHAT IT READS IS OF BULK AT MOST 1048576: true; the input reads as it did. -/
def rangesOrderUptoRow : OpenClaim := { program := "ythngliafkhalfaadoor", sum := "eb1af10b1303cf0bb51d3ec3847596dc4347b8fd7581854838378371950632c5", func := "skald/skaldlaw06.RangesOrder", spec := "rangesOrder", inPlace := ["internal/bytealg.IndexByteString", "internal/bytealg.IndexString"], unfollowed := true, recurses := true, named := ["unicode/utf8.first", "unicode/utf8.acceptRanges", "internal/bytealg.MaxLen"], apart := false, laid := [("unicode/utf8.acceptRanges", laid_unicode_utf8_acceptRanges), ("unicode/utf8.first", laid_unicode_utf8_first)], narrowed := true }
def RangesOrderUptoSaid : Prop := rangesOrderUptoRow.holds Tryd.pinned (OpenSpec.upto rangesOrderSpec)

/-- 'skaldlaw06.RangesSelf', WHERE WHAT IT READS IS OF BULK AT MOST 1048576: true; the input reads as it did. -/
def rangesSelfUptoRow : OpenClaim := { program := "ythngliafkhalfaadoor", sum := "eb1af10b1303cf0bb51d3ec3847596dc4347b8fd7581854838378371950632c5", func := "skald/skaldlaw06.RangesSelf", spec := "rangesSelf", inPlace := ["internal/bytealg.IndexByteString", "internal/bytealg.IndexString"], unfollowed := true, recurses := true, named := ["unicode/utf8.first", "unicode/utf8.acceptRanges", "internal/bytealg.MaxLen"], apart := false, laid := [("unicode/utf8.acceptRanges", laid_unicode_utf8_acceptRanges), ("unicode/utf8.first", laid_unicode_utf8_first)], narrowed := true }
def RangesSelfUptoSaid : Prop := rangesSelfUptoRow.holds Tryd.pinned (OpenSpec.upto rangesSelfSpec)

end Rows
end Go.Proofs.YthngliafkhalfaaDoor
