/-
  NARROWER THAN 'FOR EVERY INPUT', by the rows' own cells (each row's printed sentence says how): FnExactFirstBehind: laid · FnExactFirstNotAhead: laid · FnExactIsGood: laid · FnExactIsAhead: laid · FnExactIsNeverBehind: laid · FnExactHeightsOf: laid · FnExactRunsOfPath: laid · FnExactReturnsOf: laid · FnExactTiesOf: laid · FnExactRatioRotations: laid · FnExactCutAtReturns: laid · FnExactTreeOfPath: laid.
  DERIVED. THE GIVEN ROWS OF THIS SEAT. 12 by the template 'for every input the law returns true; each argument reads behind the call as it read before'; 0 by the template 'total and deterministic' (their statements: YtdidmodedgiijaaDoorTotals.lean).
  GIVEN WITH THE SEED: the statements are not yours to turn. If you find one false, say at which input.
  Laid BY PROGRAM, IN A SANDBOX (cutbox-rows.mjs): the forced cells as the released guide's own fill.sh prints them over the translation 17739a5b8087b650… (all of the seat's roots in one cut). By AI agents, Wed Nov 11 2026. No macro, syntax, notation, axiom, sorry.
-/
import Derived.Test.YtdidmodedgiijaaDoorChecked
import GoSem.PinnedTables
import GoSem.Claim
import GoSem.ClaimJoined
import GoSem.ClaimMapViews
import Derived.JoinedTies
import Derived.KernelRfl
namespace Go.Proofs.YtdidmodedgiijaaDoor
/- THE CELL 'sum', in the pinned program and in every row, IS THE sha256 OF THE DUMP (.gsa) THAT YtdidmodedgiijaaDoorProg.lean LOADS. Nothing in Lean hashes anything: it is a label: what it is worth is what the hold of that sum in a sandbox is worth. -/
noncomputable def Tryd.pinned : Pinned := { name := "ytdidmodedgiijaadoor", sum := "17739a5b8087b650aadbdced23b5ae3920613d1d850a9d3ce7d6fe32b6f8b493", checked := Tryd.checked }
namespace Rows
def none {H : Type} : Left H := { results := [], args := [] }

/- WHAT THE LISTED PACKAGE-LEVEL VARIABLES READ AS WHEN THE CALL BEGINS. Each datum BY PROGRAM (the guide's laid-datum.mjs) off the statement by which the dump's own 'gosem.cut.vars' lays the variable. In a bare row this is a premise. The card (YtdidmodedgiijaaDoorCards.lean) ties it to the program's text. -/
def laid_unicode_utf8_acceptRanges {H : Type} : DataW H := .agg [.agg [.lit (.int .u8 128), .lit (.int .u8 191)], .agg [.lit (.int .u8 160), .lit (.int .u8 191)], .agg [.lit (.int .u8 128), .lit (.int .u8 159)], .agg [.lit (.int .u8 144), .lit (.int .u8 191)], .agg [.lit (.int .u8 128), .lit (.int .u8 143)], .agg [.lit (.int .u8 0), .lit (.int .u8 0)], .agg [.lit (.int .u8 0), .lit (.int .u8 0)], .agg [.lit (.int .u8 0), .lit (.int .u8 0)], .agg [.lit (.int .u8 0), .lit (.int .u8 0)], .agg [.lit (.int .u8 0), .lit (.int .u8 0)], .agg [.lit (.int .u8 0), .lit (.int .u8 0)], .agg [.lit (.int .u8 0), .lit (.int .u8 0)], .agg [.lit (.int .u8 0), .lit (.int .u8 0)], .agg [.lit (.int .u8 0), .lit (.int .u8 0)], .agg [.lit (.int .u8 0), .lit (.int .u8 0)], .agg [.lit (.int .u8 0), .lit (.int .u8 0)]]
/-- One of Go's own tables, pinned by name: the form's constant. -/
def laid_unicode_utf8_first : DataW Unit := Go.Pinned.utf8First

/-- 'laws.FnExactFirstBehind': WHATEVER THE INPUT: true; the input reads as it did. -/
def fnExactFirstBehindSpec : ChangeSpec := { name := "fnExactFirstBehind", fn := fun _ => fun
  | [d1, d2] => { results := [.lit (.bool true)], args := [d1, d2] }
  | _ => none }
def fnExactFirstBehindRow : OpenClaim := { program := "ytdidmodedgiijaadoor", sum := "17739a5b8087b650aadbdced23b5ae3920613d1d850a9d3ce7d6fe32b6f8b493", func := "loop.example/g01218/laws.FnExactFirstBehind", spec := "fnExactFirstBehind", inPlace := ["internal/bytealg.IndexByteString", "internal/bytealg.IndexString"], unfollowed := true, recurses := true, named := ["unicode/utf8.first", "unicode/utf8.acceptRanges", "internal/bytealg.MaxLen"], apart := false, laid := [("unicode/utf8.acceptRanges", laid_unicode_utf8_acceptRanges), ("unicode/utf8.first", laid_unicode_utf8_first)] }
def FnExactFirstBehindSaid : Prop := fnExactFirstBehindRow.holds Tryd.pinned (OpenSpec.ofChange fnExactFirstBehindSpec)

/-- ITS FALSE NEIGHBOUR: 'it returns false'. Refute it at one input. -/
def fnExactFirstBehindWrong : ChangeSpec := { name := "fnExactFirstBehind", fn := fun _ => fun
  | [d1, d2] => { results := [.lit (.bool false)], args := [d1, d2] }
  | _ => none }
def FnExactFirstBehindWrongFalsely : Prop := fnExactFirstBehindRow.holds Tryd.pinned (OpenSpec.ofChange fnExactFirstBehindWrong)

/-- 'laws.FnExactFirstNotAhead': WHATEVER THE INPUT: true; the input reads as it did. -/
def fnExactFirstNotAheadSpec : ChangeSpec := { name := "fnExactFirstNotAhead", fn := fun _ => fun
  | [d1, d2] => { results := [.lit (.bool true)], args := [d1, d2] }
  | _ => none }
def fnExactFirstNotAheadRow : OpenClaim := { program := "ytdidmodedgiijaadoor", sum := "17739a5b8087b650aadbdced23b5ae3920613d1d850a9d3ce7d6fe32b6f8b493", func := "loop.example/g01218/laws.FnExactFirstNotAhead", spec := "fnExactFirstNotAhead", inPlace := ["internal/bytealg.IndexByteString", "internal/bytealg.IndexString"], unfollowed := true, recurses := true, named := ["unicode/utf8.first", "unicode/utf8.acceptRanges", "internal/bytealg.MaxLen"], apart := false, laid := [("unicode/utf8.acceptRanges", laid_unicode_utf8_acceptRanges), ("unicode/utf8.first", laid_unicode_utf8_first)] }
def FnExactFirstNotAheadSaid : Prop := fnExactFirstNotAheadRow.holds Tryd.pinned (OpenSpec.ofChange fnExactFirstNotAheadSpec)

/-- ITS FALSE NEIGHBOUR: 'it returns false'. Refute it at one input. -/
def fnExactFirstNotAheadWrong : ChangeSpec := { name := "fnExactFirstNotAhead", fn := fun _ => fun
  | [d1, d2] => { results := [.lit (.bool false)], args := [d1, d2] }
  | _ => none }
def FnExactFirstNotAheadWrongFalsely : Prop := fnExactFirstNotAheadRow.holds Tryd.pinned (OpenSpec.ofChange fnExactFirstNotAheadWrong)

/-- 'laws.FnExactIsGood': WHATEVER THE INPUT: true; the input reads as it did. -/
def fnExactIsGoodSpec : ChangeSpec := { name := "fnExactIsGood", fn := fun _ => fun
  | [d] => { results := [.lit (.bool true)], args := [d] }
  | _ => none }
def fnExactIsGoodRow : OpenClaim := { program := "ytdidmodedgiijaadoor", sum := "17739a5b8087b650aadbdced23b5ae3920613d1d850a9d3ce7d6fe32b6f8b493", func := "loop.example/g01218/laws.FnExactIsGood", spec := "fnExactIsGood", inPlace := ["internal/bytealg.IndexByteString", "internal/bytealg.IndexString"], named := ["unicode/utf8.first", "unicode/utf8.acceptRanges", "internal/bytealg.MaxLen"], apart := false, laid := [("unicode/utf8.acceptRanges", laid_unicode_utf8_acceptRanges), ("unicode/utf8.first", laid_unicode_utf8_first)] }
def FnExactIsGoodSaid : Prop := fnExactIsGoodRow.holds Tryd.pinned (OpenSpec.ofChange fnExactIsGoodSpec)

/-- ITS FALSE NEIGHBOUR: 'it returns false'. Refute it at one input. -/
def fnExactIsGoodWrong : ChangeSpec := { name := "fnExactIsGood", fn := fun _ => fun
  | [d] => { results := [.lit (.bool false)], args := [d] }
  | _ => none }
def FnExactIsGoodWrongFalsely : Prop := fnExactIsGoodRow.holds Tryd.pinned (OpenSpec.ofChange fnExactIsGoodWrong)

/-- 'laws.FnExactIsAhead': WHATEVER THE INPUT: true; the input reads as it did. -/
def fnExactIsAheadSpec : ChangeSpec := { name := "fnExactIsAhead", fn := fun _ => fun
  | [d1, d2] => { results := [.lit (.bool true)], args := [d1, d2] }
  | _ => none }
def fnExactIsAheadRow : OpenClaim := { program := "ytdidmodedgiijaadoor", sum := "17739a5b8087b650aadbdced23b5ae3920613d1d850a9d3ce7d6fe32b6f8b493", func := "loop.example/g01218/laws.FnExactIsAhead", spec := "fnExactIsAhead", inPlace := ["internal/bytealg.IndexByteString", "internal/bytealg.IndexString"], unfollowed := true, recurses := true, named := ["unicode/utf8.first", "unicode/utf8.acceptRanges", "internal/bytealg.MaxLen"], apart := false, laid := [("unicode/utf8.acceptRanges", laid_unicode_utf8_acceptRanges), ("unicode/utf8.first", laid_unicode_utf8_first)] }
def FnExactIsAheadSaid : Prop := fnExactIsAheadRow.holds Tryd.pinned (OpenSpec.ofChange fnExactIsAheadSpec)

/-- ITS FALSE NEIGHBOUR: 'it returns false'. Refute it at one input. -/
def fnExactIsAheadWrong : ChangeSpec := { name := "fnExactIsAhead", fn := fun _ => fun
  | [d1, d2] => { results := [.lit (.bool false)], args := [d1, d2] }
  | _ => none }
def FnExactIsAheadWrongFalsely : Prop := fnExactIsAheadRow.holds Tryd.pinned (OpenSpec.ofChange fnExactIsAheadWrong)

/-- 'laws.FnExactIsNeverBehind': WHATEVER THE INPUT: true; the input reads as it did. -/
def fnExactIsNeverBehindSpec : ChangeSpec := { name := "fnExactIsNeverBehind", fn := fun _ => fun
  | [d1, d2] => { results := [.lit (.bool true)], args := [d1, d2] }
  | _ => none }
def fnExactIsNeverBehindRow : OpenClaim := { program := "ytdidmodedgiijaadoor", sum := "17739a5b8087b650aadbdced23b5ae3920613d1d850a9d3ce7d6fe32b6f8b493", func := "loop.example/g01218/laws.FnExactIsNeverBehind", spec := "fnExactIsNeverBehind", inPlace := ["internal/bytealg.IndexByteString", "internal/bytealg.IndexString"], named := ["unicode/utf8.first", "unicode/utf8.acceptRanges", "internal/bytealg.MaxLen"], apart := false, laid := [("unicode/utf8.acceptRanges", laid_unicode_utf8_acceptRanges), ("unicode/utf8.first", laid_unicode_utf8_first)] }
def FnExactIsNeverBehindSaid : Prop := fnExactIsNeverBehindRow.holds Tryd.pinned (OpenSpec.ofChange fnExactIsNeverBehindSpec)

/-- ITS FALSE NEIGHBOUR: 'it returns false'. Refute it at one input. -/
def fnExactIsNeverBehindWrong : ChangeSpec := { name := "fnExactIsNeverBehind", fn := fun _ => fun
  | [d1, d2] => { results := [.lit (.bool false)], args := [d1, d2] }
  | _ => none }
def FnExactIsNeverBehindWrongFalsely : Prop := fnExactIsNeverBehindRow.holds Tryd.pinned (OpenSpec.ofChange fnExactIsNeverBehindWrong)

/-- 'laws.FnExactHeightsOf': WHATEVER THE INPUT: true; the input reads as it did. -/
def fnExactHeightsOfSpec : ChangeSpec := { name := "fnExactHeightsOf", fn := fun _ => fun
  | [d] => { results := [.lit (.bool true)], args := [d] }
  | _ => none }
def fnExactHeightsOfRow : OpenClaim := { program := "ytdidmodedgiijaadoor", sum := "17739a5b8087b650aadbdced23b5ae3920613d1d850a9d3ce7d6fe32b6f8b493", func := "loop.example/g01218/laws.FnExactHeightsOf", spec := "fnExactHeightsOf", inPlace := ["internal/bytealg.IndexByteString", "internal/bytealg.IndexString"], named := ["unicode/utf8.first", "unicode/utf8.acceptRanges", "internal/bytealg.MaxLen"], apart := false, laid := [("unicode/utf8.acceptRanges", laid_unicode_utf8_acceptRanges), ("unicode/utf8.first", laid_unicode_utf8_first)] }
def FnExactHeightsOfSaid : Prop := fnExactHeightsOfRow.holds Tryd.pinned (OpenSpec.ofChange fnExactHeightsOfSpec)

/-- ITS FALSE NEIGHBOUR: 'it returns false'. Refute it at one input. -/
def fnExactHeightsOfWrong : ChangeSpec := { name := "fnExactHeightsOf", fn := fun _ => fun
  | [d] => { results := [.lit (.bool false)], args := [d] }
  | _ => none }
def FnExactHeightsOfWrongFalsely : Prop := fnExactHeightsOfRow.holds Tryd.pinned (OpenSpec.ofChange fnExactHeightsOfWrong)

/-- 'laws.FnExactRunsOfPath': WHATEVER THE INPUT: true; the input reads as it did. -/
def fnExactRunsOfPathSpec : ChangeSpec := { name := "fnExactRunsOfPath", fn := fun _ => fun
  | [d] => { results := [.lit (.bool true)], args := [d] }
  | _ => none }
def fnExactRunsOfPathRow : OpenClaim := { program := "ytdidmodedgiijaadoor", sum := "17739a5b8087b650aadbdced23b5ae3920613d1d850a9d3ce7d6fe32b6f8b493", func := "loop.example/g01218/laws.FnExactRunsOfPath", spec := "fnExactRunsOfPath", inPlace := ["internal/bytealg.IndexByteString", "internal/bytealg.IndexString"], named := ["unicode/utf8.first", "unicode/utf8.acceptRanges", "internal/bytealg.MaxLen"], apart := false, laid := [("unicode/utf8.acceptRanges", laid_unicode_utf8_acceptRanges), ("unicode/utf8.first", laid_unicode_utf8_first)] }
def FnExactRunsOfPathSaid : Prop := fnExactRunsOfPathRow.holds Tryd.pinned (OpenSpec.ofChange fnExactRunsOfPathSpec)

/-- ITS FALSE NEIGHBOUR: 'it returns false'. Refute it at one input. -/
def fnExactRunsOfPathWrong : ChangeSpec := { name := "fnExactRunsOfPath", fn := fun _ => fun
  | [d] => { results := [.lit (.bool false)], args := [d] }
  | _ => none }
def FnExactRunsOfPathWrongFalsely : Prop := fnExactRunsOfPathRow.holds Tryd.pinned (OpenSpec.ofChange fnExactRunsOfPathWrong)

/-- 'laws.FnExactReturnsOf': WHATEVER THE INPUT: true; the input reads as it did. -/
def fnExactReturnsOfSpec : ChangeSpec := { name := "fnExactReturnsOf", fn := fun _ => fun
  | [d] => { results := [.lit (.bool true)], args := [d] }
  | _ => none }
def fnExactReturnsOfRow : OpenClaim := { program := "ytdidmodedgiijaadoor", sum := "17739a5b8087b650aadbdced23b5ae3920613d1d850a9d3ce7d6fe32b6f8b493", func := "loop.example/g01218/laws.FnExactReturnsOf", spec := "fnExactReturnsOf", inPlace := ["internal/bytealg.IndexByteString", "internal/bytealg.IndexString"], named := ["unicode/utf8.first", "unicode/utf8.acceptRanges", "internal/bytealg.MaxLen"], apart := false, laid := [("unicode/utf8.acceptRanges", laid_unicode_utf8_acceptRanges), ("unicode/utf8.first", laid_unicode_utf8_first)] }
def FnExactReturnsOfSaid : Prop := fnExactReturnsOfRow.holds Tryd.pinned (OpenSpec.ofChange fnExactReturnsOfSpec)

/-- ITS FALSE NEIGHBOUR: 'it returns false'. Refute it at one input. -/
def fnExactReturnsOfWrong : ChangeSpec := { name := "fnExactReturnsOf", fn := fun _ => fun
  | [d] => { results := [.lit (.bool false)], args := [d] }
  | _ => none }
def FnExactReturnsOfWrongFalsely : Prop := fnExactReturnsOfRow.holds Tryd.pinned (OpenSpec.ofChange fnExactReturnsOfWrong)

/-- 'laws.FnExactTiesOf': WHATEVER THE INPUT: true; the input reads as it did. -/
def fnExactTiesOfSpec : ChangeSpec := { name := "fnExactTiesOf", fn := fun _ => fun
  | [d1, d2] => { results := [.lit (.bool true)], args := [d1, d2] }
  | _ => none }
def fnExactTiesOfRow : OpenClaim := { program := "ytdidmodedgiijaadoor", sum := "17739a5b8087b650aadbdced23b5ae3920613d1d850a9d3ce7d6fe32b6f8b493", func := "loop.example/g01218/laws.FnExactTiesOf", spec := "fnExactTiesOf", inPlace := ["internal/bytealg.IndexByteString", "internal/bytealg.IndexString"], named := ["unicode/utf8.first", "unicode/utf8.acceptRanges", "internal/bytealg.MaxLen"], apart := false, laid := [("unicode/utf8.acceptRanges", laid_unicode_utf8_acceptRanges), ("unicode/utf8.first", laid_unicode_utf8_first)] }
def FnExactTiesOfSaid : Prop := fnExactTiesOfRow.holds Tryd.pinned (OpenSpec.ofChange fnExactTiesOfSpec)

/-- ITS FALSE NEIGHBOUR: 'it returns false'. Refute it at one input. -/
def fnExactTiesOfWrong : ChangeSpec := { name := "fnExactTiesOf", fn := fun _ => fun
  | [d1, d2] => { results := [.lit (.bool false)], args := [d1, d2] }
  | _ => none }
def FnExactTiesOfWrongFalsely : Prop := fnExactTiesOfRow.holds Tryd.pinned (OpenSpec.ofChange fnExactTiesOfWrong)

/-- 'laws.FnExactRatioRotations': WHATEVER THE INPUT: true; the input reads as it did. -/
def fnExactRatioRotationsSpec : ChangeSpec := { name := "fnExactRatioRotations", fn := fun _ => fun
  | [d1, d2] => { results := [.lit (.bool true)], args := [d1, d2] }
  | _ => none }
def fnExactRatioRotationsRow : OpenClaim := { program := "ytdidmodedgiijaadoor", sum := "17739a5b8087b650aadbdced23b5ae3920613d1d850a9d3ce7d6fe32b6f8b493", func := "loop.example/g01218/laws.FnExactRatioRotations", spec := "fnExactRatioRotations", inPlace := ["internal/bytealg.IndexByteString", "internal/bytealg.IndexString"], unfollowed := true, recurses := true, named := ["unicode/utf8.first", "unicode/utf8.acceptRanges", "internal/bytealg.MaxLen"], apart := false, laid := [("unicode/utf8.acceptRanges", laid_unicode_utf8_acceptRanges), ("unicode/utf8.first", laid_unicode_utf8_first)] }
def FnExactRatioRotationsSaid : Prop := fnExactRatioRotationsRow.holds Tryd.pinned (OpenSpec.ofChange fnExactRatioRotationsSpec)

/-- ITS FALSE NEIGHBOUR: 'it returns false'. Refute it at one input. -/
def fnExactRatioRotationsWrong : ChangeSpec := { name := "fnExactRatioRotations", fn := fun _ => fun
  | [d1, d2] => { results := [.lit (.bool false)], args := [d1, d2] }
  | _ => none }
def FnExactRatioRotationsWrongFalsely : Prop := fnExactRatioRotationsRow.holds Tryd.pinned (OpenSpec.ofChange fnExactRatioRotationsWrong)

/-- 'laws.FnExactCutAtReturns': WHATEVER THE INPUT: true; the input reads as it did. -/
def fnExactCutAtReturnsSpec : ChangeSpec := { name := "fnExactCutAtReturns", fn := fun _ => fun
  | [d] => { results := [.lit (.bool true)], args := [d] }
  | _ => none }
def fnExactCutAtReturnsRow : OpenClaim := { program := "ytdidmodedgiijaadoor", sum := "17739a5b8087b650aadbdced23b5ae3920613d1d850a9d3ce7d6fe32b6f8b493", func := "loop.example/g01218/laws.FnExactCutAtReturns", spec := "fnExactCutAtReturns", inPlace := ["internal/bytealg.IndexByteString", "internal/bytealg.IndexString"], named := ["unicode/utf8.first", "unicode/utf8.acceptRanges", "internal/bytealg.MaxLen"], apart := false, laid := [("unicode/utf8.acceptRanges", laid_unicode_utf8_acceptRanges), ("unicode/utf8.first", laid_unicode_utf8_first)] }
def FnExactCutAtReturnsSaid : Prop := fnExactCutAtReturnsRow.holds Tryd.pinned (OpenSpec.ofChange fnExactCutAtReturnsSpec)

/-- ITS FALSE NEIGHBOUR: 'it returns false'. Refute it at one input. -/
def fnExactCutAtReturnsWrong : ChangeSpec := { name := "fnExactCutAtReturns", fn := fun _ => fun
  | [d] => { results := [.lit (.bool false)], args := [d] }
  | _ => none }
def FnExactCutAtReturnsWrongFalsely : Prop := fnExactCutAtReturnsRow.holds Tryd.pinned (OpenSpec.ofChange fnExactCutAtReturnsWrong)

/-- 'laws.FnExactTreeOfPath': WHATEVER THE INPUT: true; the input reads as it did. -/
def fnExactTreeOfPathSpec : ChangeSpec := { name := "fnExactTreeOfPath", fn := fun _ => fun
  | [d] => { results := [.lit (.bool true)], args := [d] }
  | _ => none }
def fnExactTreeOfPathRow : OpenClaim := { program := "ytdidmodedgiijaadoor", sum := "17739a5b8087b650aadbdced23b5ae3920613d1d850a9d3ce7d6fe32b6f8b493", func := "loop.example/g01218/laws.FnExactTreeOfPath", spec := "fnExactTreeOfPath", inPlace := ["internal/bytealg.IndexByteString", "internal/bytealg.IndexString"], recurses := true, named := ["unicode/utf8.first", "unicode/utf8.acceptRanges", "internal/bytealg.MaxLen"], apart := false, laid := [("unicode/utf8.acceptRanges", laid_unicode_utf8_acceptRanges), ("unicode/utf8.first", laid_unicode_utf8_first)] }
def FnExactTreeOfPathSaid : Prop := fnExactTreeOfPathRow.holds Tryd.pinned (OpenSpec.ofChange fnExactTreeOfPathSpec)

/-- ITS FALSE NEIGHBOUR: 'it returns false'. Refute it at one input. -/
def fnExactTreeOfPathWrong : ChangeSpec := { name := "fnExactTreeOfPath", fn := fun _ => fun
  | [d] => { results := [.lit (.bool false)], args := [d] }
  | _ => none }
def FnExactTreeOfPathWrongFalsely : Prop := fnExactTreeOfPathRow.holds Tryd.pinned (OpenSpec.ofChange fnExactTreeOfPathWrong)

/- THE SECOND FORM. 'bulk': how many values and letters a reading holds, each counted each time it is reached (what is shared counts as often as it is met; a slice's spare places count too). A statement '..UptoSaid' is the law's where the arguments, and the package variables that the reading takes, are together of bulk at most 1048576: NARROWER than '..Said'. Prove '..Said' where nothing that the law and all that it calls make is longer than what came in: it says more and counts as full. Else prove '..UptoSaid'. A law counts once. -/
mutual
def uptoBulk {H : Type} : DataW H → Nat
  | .lit (.string bytes) => bytes.length + 1
  | .lit _ => 1
  | .nil => 1
  | .ptr d => uptoBulk d + 1
  | .slice elems spare => uptoBulkAll elems + uptoBulkAll spare + 1
  | .agg parts => uptoBulkAll parts + 1
  | .iface _ d => uptoBulk d + 1
  | .map entries => uptoBulkEntries entries + 1
  | .held _ => 1
def uptoBulkAll {H : Type} : List (DataW H) → Nat
  | [] => 0
  | d :: r => uptoBulk d + uptoBulkAll r
def uptoBulkEntries {H : Type} : List (Lit × DataW H) → Nat
  | [] => 0
  | x :: r => uptoBulkEntry x + uptoBulkEntries r
def uptoBulkEntry {H : Type} : Lit × DataW H → Nat
  | (.string bytes, d) => bytes.length + uptoBulk d + 1
  | (_, d) => uptoBulk d + 1
 end
def uptoSmall : (H : Type) → List (DataW H) → Bool := fun _ ds => decide (uptoBulkAll ds ≤ 1048576)
def OpenSpec.upto (s : _root_.Go.ChangeSpec) : _root_.Go.OpenSpec := { _root_.Go.OpenSpec.ofChange s with cond := some uptoSmall }

/-- 'laws.FnExactFirstBehind', WHERE WHAT IT READS IS OF BULK AT MOST 1048576: true; the input reads as it did. -/
def fnExactFirstBehindUptoRow : OpenClaim := { program := "ytdidmodedgiijaadoor", sum := "17739a5b8087b650aadbdced23b5ae3920613d1d850a9d3ce7d6fe32b6f8b493", func := "loop.example/g01218/laws.FnExactFirstBehind", spec := "fnExactFirstBehind", inPlace := ["internal/bytealg.IndexByteString", "internal/bytealg.IndexString"], unfollowed := true, recurses := true, named := ["unicode/utf8.first", "unicode/utf8.acceptRanges", "internal/bytealg.MaxLen"], apart := false, laid := [("unicode/utf8.acceptRanges", laid_unicode_utf8_acceptRanges), ("unicode/utf8.first", laid_unicode_utf8_first)], narrowed := true }
def FnExactFirstBehindUptoSaid : Prop := fnExactFirstBehindUptoRow.holds Tryd.pinned (OpenSpec.upto fnExactFirstBehindSpec)

/-- 'laws.FnExactFirstNotAhead', WHERE WHAT IT READS IS OF BULK AT MOST 1048576: true; the input reads as it did. -/
def fnExactFirstNotAheadUptoRow : OpenClaim := { program := "ytdidmodedgiijaadoor", sum := "17739a5b8087b650aadbdced23b5ae3920613d1d850a9d3ce7d6fe32b6f8b493", func := "loop.example/g01218/laws.FnExactFirstNotAhead", spec := "fnExactFirstNotAhead", inPlace := ["internal/bytealg.IndexByteString", "internal/bytealg.IndexString"], unfollowed := true, recurses := true, named := ["unicode/utf8.first", "unicode/utf8.acceptRanges", "internal/bytealg.MaxLen"], apart := false, laid := [("unicode/utf8.acceptRanges", laid_unicode_utf8_acceptRanges), ("unicode/utf8.first", laid_unicode_utf8_first)], narrowed := true }
def FnExactFirstNotAheadUptoSaid : Prop := fnExactFirstNotAheadUptoRow.holds Tryd.pinned (OpenSpec.upto fnExactFirstNotAheadSpec)

/-- 'laws.FnExactIsGood', WHERE WHAT IT READS IS OF BULK AT MOST 1048576: true; the input reads as it did. -/
def fnExactIsGoodUptoRow : OpenClaim := { program := "ytdidmodedgiijaadoor", sum := "17739a5b8087b650aadbdced23b5ae3920613d1d850a9d3ce7d6fe32b6f8b493", func := "loop.example/g01218/laws.FnExactIsGood", spec := "fnExactIsGood", inPlace := ["internal/bytealg.IndexByteString", "internal/bytealg.IndexString"], named := ["unicode/utf8.first", "unicode/utf8.acceptRanges", "internal/bytealg.MaxLen"], apart := false, laid := [("unicode/utf8.acceptRanges", laid_unicode_utf8_acceptRanges), ("unicode/utf8.first", laid_unicode_utf8_first)], narrowed := true }
def FnExactIsGoodUptoSaid : Prop := fnExactIsGoodUptoRow.holds Tryd.pinned (OpenSpec.upto fnExactIsGoodSpec)

/-- 'laws.FnExactIsAhead', WHERE WHAT IT READS IS OF BULK AT MOST 1048576: true; the input reads as it did. -/
def fnExactIsAheadUptoRow : OpenClaim := { program := "ytdidmodedgiijaadoor", sum := "17739a5b8087b650aadbdced23b5ae3920613d1d850a9d3ce7d6fe32b6f8b493", func := "loop.example/g01218/laws.FnExactIsAhead", spec := "fnExactIsAhead", inPlace := ["internal/bytealg.IndexByteString", "internal/bytealg.IndexString"], unfollowed := true, recurses := true, named := ["unicode/utf8.first", "unicode/utf8.acceptRanges", "internal/bytealg.MaxLen"], apart := false, laid := [("unicode/utf8.acceptRanges", laid_unicode_utf8_acceptRanges), ("unicode/utf8.first", laid_unicode_utf8_first)], narrowed := true }
def FnExactIsAheadUptoSaid : Prop := fnExactIsAheadUptoRow.holds Tryd.pinned (OpenSpec.upto fnExactIsAheadSpec)

/-- 'laws.FnExactIsNeverBehind', WHERE WHAT IT READS IS OF BULK AT MOST 1048576: true; the input reads as it did. -/
def fnExactIsNeverBehindUptoRow : OpenClaim := { program := "ytdidmodedgiijaadoor", sum := "17739a5b8087b650aadbdced23b5ae3920613d1d850a9d3ce7d6fe32b6f8b493", func := "loop.example/g01218/laws.FnExactIsNeverBehind", spec := "fnExactIsNeverBehind", inPlace := ["internal/bytealg.IndexByteString", "internal/bytealg.IndexString"], named := ["unicode/utf8.first", "unicode/utf8.acceptRanges", "internal/bytealg.MaxLen"], apart := false, laid := [("unicode/utf8.acceptRanges", laid_unicode_utf8_acceptRanges), ("unicode/utf8.first", laid_unicode_utf8_first)], narrowed := true }
def FnExactIsNeverBehindUptoSaid : Prop := fnExactIsNeverBehindUptoRow.holds Tryd.pinned (OpenSpec.upto fnExactIsNeverBehindSpec)

/-- 'laws.FnExactHeightsOf', WHERE WHAT IT READS IS OF BULK AT MOST 1048576: true; the input reads as it did. -/
def fnExactHeightsOfUptoRow : OpenClaim := { program := "ytdidmodedgiijaadoor", sum := "17739a5b8087b650aadbdced23b5ae3920613d1d850a9d3ce7d6fe32b6f8b493", func := "loop.example/g01218/laws.FnExactHeightsOf", spec := "fnExactHeightsOf", inPlace := ["internal/bytealg.IndexByteString", "internal/bytealg.IndexString"], named := ["unicode/utf8.first", "unicode/utf8.acceptRanges", "internal/bytealg.MaxLen"], apart := false, laid := [("unicode/utf8.acceptRanges", laid_unicode_utf8_acceptRanges), ("unicode/utf8.first", laid_unicode_utf8_first)], narrowed := true }
def FnExactHeightsOfUptoSaid : Prop := fnExactHeightsOfUptoRow.holds Tryd.pinned (OpenSpec.upto fnExactHeightsOfSpec)

/-- 'laws.FnExactRunsOfPath', WHERE WHAT IT READS IS OF BULK AT MOST 1048576: true; the input reads as it did. -/
def fnExactRunsOfPathUptoRow : OpenClaim := { program := "ytdidmodedgiijaadoor", sum := "17739a5b8087b650aadbdced23b5ae3920613d1d850a9d3ce7d6fe32b6f8b493", func := "loop.example/g01218/laws.FnExactRunsOfPath", spec := "fnExactRunsOfPath", inPlace := ["internal/bytealg.IndexByteString", "internal/bytealg.IndexString"], named := ["unicode/utf8.first", "unicode/utf8.acceptRanges", "internal/bytealg.MaxLen"], apart := false, laid := [("unicode/utf8.acceptRanges", laid_unicode_utf8_acceptRanges), ("unicode/utf8.first", laid_unicode_utf8_first)], narrowed := true }
def FnExactRunsOfPathUptoSaid : Prop := fnExactRunsOfPathUptoRow.holds Tryd.pinned (OpenSpec.upto fnExactRunsOfPathSpec)

/-- 'laws.FnExactReturnsOf', WHERE WHAT IT READS IS OF BULK AT MOST 1048576: true; the input reads as it did. -/
def fnExactReturnsOfUptoRow : OpenClaim := { program := "ytdidmodedgiijaadoor", sum := "17739a5b8087b650aadbdced23b5ae3920613d1d850a9d3ce7d6fe32b6f8b493", func := "loop.example/g01218/laws.FnExactReturnsOf", spec := "fnExactReturnsOf", inPlace := ["internal/bytealg.IndexByteString", "internal/bytealg.IndexString"], named := ["unicode/utf8.first", "unicode/utf8.acceptRanges", "internal/bytealg.MaxLen"], apart := false, laid := [("unicode/utf8.acceptRanges", laid_unicode_utf8_acceptRanges), ("unicode/utf8.first", laid_unicode_utf8_first)], narrowed := true }
def FnExactReturnsOfUptoSaid : Prop := fnExactReturnsOfUptoRow.holds Tryd.pinned (OpenSpec.upto fnExactReturnsOfSpec)

/-- 'laws.FnExactTiesOf', WHERE WHAT IT READS IS OF BULK AT MOST 1048576: true; the input reads as it did. -/
def fnExactTiesOfUptoRow : OpenClaim := { program := "ytdidmodedgiijaadoor", sum := "17739a5b8087b650aadbdced23b5ae3920613d1d850a9d3ce7d6fe32b6f8b493", func := "loop.example/g01218/laws.FnExactTiesOf", spec := "fnExactTiesOf", inPlace := ["internal/bytealg.IndexByteString", "internal/bytealg.IndexString"], named := ["unicode/utf8.first", "unicode/utf8.acceptRanges", "internal/bytealg.MaxLen"], apart := false, laid := [("unicode/utf8.acceptRanges", laid_unicode_utf8_acceptRanges), ("unicode/utf8.first", laid_unicode_utf8_first)], narrowed := true }
def FnExactTiesOfUptoSaid : Prop := fnExactTiesOfUptoRow.holds Tryd.pinned (OpenSpec.upto fnExactTiesOfSpec)

/-- 'laws.FnExactRatioRotations', WHERE WHAT IT READS IS OF BULK AT MOST 1048576: true; the input reads as it did. -/
def fnExactRatioRotationsUptoRow : OpenClaim := { program := "ytdidmodedgiijaadoor", sum := "17739a5b8087b650aadbdced23b5ae3920613d1d850a9d3ce7d6fe32b6f8b493", func := "loop.example/g01218/laws.FnExactRatioRotations", spec := "fnExactRatioRotations", inPlace := ["internal/bytealg.IndexByteString", "internal/bytealg.IndexString"], unfollowed := true, recurses := true, named := ["unicode/utf8.first", "unicode/utf8.acceptRanges", "internal/bytealg.MaxLen"], apart := false, laid := [("unicode/utf8.acceptRanges", laid_unicode_utf8_acceptRanges), ("unicode/utf8.first", laid_unicode_utf8_first)], narrowed := true }
def FnExactRatioRotationsUptoSaid : Prop := fnExactRatioRotationsUptoRow.holds Tryd.pinned (OpenSpec.upto fnExactRatioRotationsSpec)

/-- 'laws.FnExactCutAtReturns', WHERE WHAT IT READS IS OF BULK AT MOST 1048576: true; the input reads as it did. -/
def fnExactCutAtReturnsUptoRow : OpenClaim := { program := "ytdidmodedgiijaadoor", sum := "17739a5b8087b650aadbdced23b5ae3920613d1d850a9d3ce7d6fe32b6f8b493", func := "loop.example/g01218/laws.FnExactCutAtReturns", spec := "fnExactCutAtReturns", inPlace := ["internal/bytealg.IndexByteString", "internal/bytealg.IndexString"], named := ["unicode/utf8.first", "unicode/utf8.acceptRanges", "internal/bytealg.MaxLen"], apart := false, laid := [("unicode/utf8.acceptRanges", laid_unicode_utf8_acceptRanges), ("unicode/utf8.first", laid_unicode_utf8_first)], narrowed := true }
def FnExactCutAtReturnsUptoSaid : Prop := fnExactCutAtReturnsUptoRow.holds Tryd.pinned (OpenSpec.upto fnExactCutAtReturnsSpec)

/-- 'laws.FnExactTreeOfPath', WHERE WHAT IT READS IS OF BULK AT MOST 1048576: true; the input reads as it did. -/
def fnExactTreeOfPathUptoRow : OpenClaim := { program := "ytdidmodedgiijaadoor", sum := "17739a5b8087b650aadbdced23b5ae3920613d1d850a9d3ce7d6fe32b6f8b493", func := "loop.example/g01218/laws.FnExactTreeOfPath", spec := "fnExactTreeOfPath", inPlace := ["internal/bytealg.IndexByteString", "internal/bytealg.IndexString"], recurses := true, named := ["unicode/utf8.first", "unicode/utf8.acceptRanges", "internal/bytealg.MaxLen"], apart := false, laid := [("unicode/utf8.acceptRanges", laid_unicode_utf8_acceptRanges), ("unicode/utf8.first", laid_unicode_utf8_first)], narrowed := true }
def FnExactTreeOfPathUptoSaid : Prop := fnExactTreeOfPathUptoRow.holds Tryd.pinned (OpenSpec.upto fnExactTreeOfPathSpec)

end Rows
end Go.Proofs.YtdidmodedgiijaaDoor
