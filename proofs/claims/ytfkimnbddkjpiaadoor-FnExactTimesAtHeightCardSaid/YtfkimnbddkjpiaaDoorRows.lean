/-
  NARROWER THAN 'FOR EVERY INPUT', by the rows' own cells (each row's printed sentence says how): FnExactIsPath: laid · FnExactJoinPaths: laid · FnExactLiftPath: laid · FnExactWithFirstVote: laid · FnExactEndHeight: laid · FnExactIsClosedPath: laid · FnExactAreaOfPath: laid · FnExactTimesAtHeight: laid · FnExactHighestOf: laid · FnExactPeaksOf: laid · FnExactLeadsOf: laid · FnExactLowestOf: laid.
  DERIVED. THE GIVEN ROWS OF THIS SEAT. 12 by the template 'for every input the law returns true; each argument reads behind the call as it read before'; 0 by the template 'total and deterministic' (their statements: YtfkimnbddkjpiaaDoorTotals.lean).
  GIVEN WITH THE SEED: the statements are not yours to turn. If you find one false, say at which input.
  Laid BY PROGRAM, IN A SANDBOX (cutbox-rows.mjs): the forced cells as the released guide's own fill.sh prints them over the translation 9b43331850cf99ed… (all of the seat's roots in one cut). By AI agents, Wed Nov 11 2026. No macro, syntax, notation, axiom, sorry.
-/
import Derived.Test.YtfkimnbddkjpiaaDoorChecked
import GoSem.PinnedTables
import GoSem.Claim
import GoSem.ClaimJoined
import GoSem.ClaimMapViews
import Derived.JoinedTies
import Derived.KernelRfl
namespace Go.Proofs.YtfkimnbddkjpiaaDoor
/- THE CELL 'sum', in the pinned program and in every row, IS THE sha256 OF THE DUMP (.gsa) THAT YtfkimnbddkjpiaaDoorProg.lean LOADS. Nothing in Lean hashes anything: it is a label: what it is worth is what the hold of that sum in a sandbox is worth. -/
noncomputable def Tryd.pinned : Pinned := { name := "ytfkimnbddkjpiaadoor", sum := "9b43331850cf99edcef9f7262d551c3a2e8191285725516b5694622f4e79ddd8", checked := Tryd.checked }
namespace Rows
def none {H : Type} : Left H := { results := [], args := [] }

/- WHAT THE LISTED PACKAGE-LEVEL VARIABLES READ AS WHEN THE CALL BEGINS. Each datum BY PROGRAM (the guide's laid-datum.mjs) off the statement by which the dump's own 'gosem.cut.vars' lays the variable. In a bare row this is a premise. The card (YtfkimnbddkjpiaaDoorCards.lean) ties it to the program's text. -/
def laid_unicode_utf8_acceptRanges {H : Type} : DataW H := .agg [.agg [.lit (.int .u8 128), .lit (.int .u8 191)], .agg [.lit (.int .u8 160), .lit (.int .u8 191)], .agg [.lit (.int .u8 128), .lit (.int .u8 159)], .agg [.lit (.int .u8 144), .lit (.int .u8 191)], .agg [.lit (.int .u8 128), .lit (.int .u8 143)], .agg [.lit (.int .u8 0), .lit (.int .u8 0)], .agg [.lit (.int .u8 0), .lit (.int .u8 0)], .agg [.lit (.int .u8 0), .lit (.int .u8 0)], .agg [.lit (.int .u8 0), .lit (.int .u8 0)], .agg [.lit (.int .u8 0), .lit (.int .u8 0)], .agg [.lit (.int .u8 0), .lit (.int .u8 0)], .agg [.lit (.int .u8 0), .lit (.int .u8 0)], .agg [.lit (.int .u8 0), .lit (.int .u8 0)], .agg [.lit (.int .u8 0), .lit (.int .u8 0)], .agg [.lit (.int .u8 0), .lit (.int .u8 0)], .agg [.lit (.int .u8 0), .lit (.int .u8 0)]]
/-- One of Go's own tables, pinned by name: the form's constant. -/
def laid_unicode_utf8_first : DataW Unit := Go.Pinned.utf8First

/-- 'laws.FnExactIsPath': WHATEVER THE INPUT: true; the input reads as it did. -/
def fnExactIsPathSpec : ChangeSpec := { name := "fnExactIsPath", fn := fun _ => fun
  | [d] => { results := [.lit (.bool true)], args := [d] }
  | _ => none }
def fnExactIsPathRow : OpenClaim := { program := "ytfkimnbddkjpiaadoor", sum := "9b43331850cf99edcef9f7262d551c3a2e8191285725516b5694622f4e79ddd8", func := "loop.example/g01218/laws.FnExactIsPath", spec := "fnExactIsPath", inPlace := ["internal/bytealg.IndexByteString", "internal/bytealg.IndexString"], named := ["unicode/utf8.first", "unicode/utf8.acceptRanges", "internal/bytealg.MaxLen"], apart := false, laid := [("unicode/utf8.acceptRanges", laid_unicode_utf8_acceptRanges), ("unicode/utf8.first", laid_unicode_utf8_first)] }
def FnExactIsPathSaid : Prop := fnExactIsPathRow.holds Tryd.pinned (OpenSpec.ofChange fnExactIsPathSpec)

/-- ITS FALSE NEIGHBOUR: 'it returns false'. Refute it at one input. -/
def fnExactIsPathWrong : ChangeSpec := { name := "fnExactIsPath", fn := fun _ => fun
  | [d] => { results := [.lit (.bool false)], args := [d] }
  | _ => none }
def FnExactIsPathWrongFalsely : Prop := fnExactIsPathRow.holds Tryd.pinned (OpenSpec.ofChange fnExactIsPathWrong)

/-- 'laws.FnExactJoinPaths': WHATEVER THE INPUT: true; the input reads as it did. -/
def fnExactJoinPathsSpec : ChangeSpec := { name := "fnExactJoinPaths", fn := fun _ => fun
  | [d1, d2] => { results := [.lit (.bool true)], args := [d1, d2] }
  | _ => none }
def fnExactJoinPathsRow : OpenClaim := { program := "ytfkimnbddkjpiaadoor", sum := "9b43331850cf99edcef9f7262d551c3a2e8191285725516b5694622f4e79ddd8", func := "loop.example/g01218/laws.FnExactJoinPaths", spec := "fnExactJoinPaths", inPlace := ["internal/bytealg.IndexByteString", "internal/bytealg.IndexString"], named := ["unicode/utf8.first", "unicode/utf8.acceptRanges", "internal/bytealg.MaxLen"], apart := false, laid := [("unicode/utf8.acceptRanges", laid_unicode_utf8_acceptRanges), ("unicode/utf8.first", laid_unicode_utf8_first)] }
def FnExactJoinPathsSaid : Prop := fnExactJoinPathsRow.holds Tryd.pinned (OpenSpec.ofChange fnExactJoinPathsSpec)

/-- ITS FALSE NEIGHBOUR: 'it returns false'. Refute it at one input. -/
def fnExactJoinPathsWrong : ChangeSpec := { name := "fnExactJoinPaths", fn := fun _ => fun
  | [d1, d2] => { results := [.lit (.bool false)], args := [d1, d2] }
  | _ => none }
def FnExactJoinPathsWrongFalsely : Prop := fnExactJoinPathsRow.holds Tryd.pinned (OpenSpec.ofChange fnExactJoinPathsWrong)

/-- 'laws.FnExactLiftPath': WHATEVER THE INPUT: true; the input reads as it did. -/
def fnExactLiftPathSpec : ChangeSpec := { name := "fnExactLiftPath", fn := fun _ => fun
  | [d] => { results := [.lit (.bool true)], args := [d] }
  | _ => none }
def fnExactLiftPathRow : OpenClaim := { program := "ytfkimnbddkjpiaadoor", sum := "9b43331850cf99edcef9f7262d551c3a2e8191285725516b5694622f4e79ddd8", func := "loop.example/g01218/laws.FnExactLiftPath", spec := "fnExactLiftPath", inPlace := ["internal/bytealg.IndexByteString", "internal/bytealg.IndexString"], named := ["unicode/utf8.first", "unicode/utf8.acceptRanges", "internal/bytealg.MaxLen"], apart := false, laid := [("unicode/utf8.acceptRanges", laid_unicode_utf8_acceptRanges), ("unicode/utf8.first", laid_unicode_utf8_first)] }
def FnExactLiftPathSaid : Prop := fnExactLiftPathRow.holds Tryd.pinned (OpenSpec.ofChange fnExactLiftPathSpec)

/-- ITS FALSE NEIGHBOUR: 'it returns false'. Refute it at one input. -/
def fnExactLiftPathWrong : ChangeSpec := { name := "fnExactLiftPath", fn := fun _ => fun
  | [d] => { results := [.lit (.bool false)], args := [d] }
  | _ => none }
def FnExactLiftPathWrongFalsely : Prop := fnExactLiftPathRow.holds Tryd.pinned (OpenSpec.ofChange fnExactLiftPathWrong)

/-- 'laws.FnExactWithFirstVote': WHATEVER THE INPUT: true; the input reads as it did. -/
def fnExactWithFirstVoteSpec : ChangeSpec := { name := "fnExactWithFirstVote", fn := fun _ => fun
  | [d] => { results := [.lit (.bool true)], args := [d] }
  | _ => none }
def fnExactWithFirstVoteRow : OpenClaim := { program := "ytfkimnbddkjpiaadoor", sum := "9b43331850cf99edcef9f7262d551c3a2e8191285725516b5694622f4e79ddd8", func := "loop.example/g01218/laws.FnExactWithFirstVote", spec := "fnExactWithFirstVote", inPlace := ["internal/bytealg.IndexByteString", "internal/bytealg.IndexString"], named := ["unicode/utf8.first", "unicode/utf8.acceptRanges", "internal/bytealg.MaxLen"], apart := false, laid := [("unicode/utf8.acceptRanges", laid_unicode_utf8_acceptRanges), ("unicode/utf8.first", laid_unicode_utf8_first)] }
def FnExactWithFirstVoteSaid : Prop := fnExactWithFirstVoteRow.holds Tryd.pinned (OpenSpec.ofChange fnExactWithFirstVoteSpec)

/-- ITS FALSE NEIGHBOUR: 'it returns false'. Refute it at one input. -/
def fnExactWithFirstVoteWrong : ChangeSpec := { name := "fnExactWithFirstVote", fn := fun _ => fun
  | [d] => { results := [.lit (.bool false)], args := [d] }
  | _ => none }
def FnExactWithFirstVoteWrongFalsely : Prop := fnExactWithFirstVoteRow.holds Tryd.pinned (OpenSpec.ofChange fnExactWithFirstVoteWrong)

/-- 'laws.FnExactEndHeight': WHATEVER THE INPUT: true; the input reads as it did. -/
def fnExactEndHeightSpec : ChangeSpec := { name := "fnExactEndHeight", fn := fun _ => fun
  | [d] => { results := [.lit (.bool true)], args := [d] }
  | _ => none }
def fnExactEndHeightRow : OpenClaim := { program := "ytfkimnbddkjpiaadoor", sum := "9b43331850cf99edcef9f7262d551c3a2e8191285725516b5694622f4e79ddd8", func := "loop.example/g01218/laws.FnExactEndHeight", spec := "fnExactEndHeight", inPlace := ["internal/bytealg.IndexByteString", "internal/bytealg.IndexString"], named := ["unicode/utf8.first", "unicode/utf8.acceptRanges", "internal/bytealg.MaxLen"], apart := false, laid := [("unicode/utf8.acceptRanges", laid_unicode_utf8_acceptRanges), ("unicode/utf8.first", laid_unicode_utf8_first)] }
def FnExactEndHeightSaid : Prop := fnExactEndHeightRow.holds Tryd.pinned (OpenSpec.ofChange fnExactEndHeightSpec)

/-- ITS FALSE NEIGHBOUR: 'it returns false'. Refute it at one input. -/
def fnExactEndHeightWrong : ChangeSpec := { name := "fnExactEndHeight", fn := fun _ => fun
  | [d] => { results := [.lit (.bool false)], args := [d] }
  | _ => none }
def FnExactEndHeightWrongFalsely : Prop := fnExactEndHeightRow.holds Tryd.pinned (OpenSpec.ofChange fnExactEndHeightWrong)

/-- 'laws.FnExactIsClosedPath': WHATEVER THE INPUT: true; the input reads as it did. -/
def fnExactIsClosedPathSpec : ChangeSpec := { name := "fnExactIsClosedPath", fn := fun _ => fun
  | [d] => { results := [.lit (.bool true)], args := [d] }
  | _ => none }
def fnExactIsClosedPathRow : OpenClaim := { program := "ytfkimnbddkjpiaadoor", sum := "9b43331850cf99edcef9f7262d551c3a2e8191285725516b5694622f4e79ddd8", func := "loop.example/g01218/laws.FnExactIsClosedPath", spec := "fnExactIsClosedPath", inPlace := ["internal/bytealg.IndexByteString", "internal/bytealg.IndexString"], named := ["unicode/utf8.first", "unicode/utf8.acceptRanges", "internal/bytealg.MaxLen"], apart := false, laid := [("unicode/utf8.acceptRanges", laid_unicode_utf8_acceptRanges), ("unicode/utf8.first", laid_unicode_utf8_first)] }
def FnExactIsClosedPathSaid : Prop := fnExactIsClosedPathRow.holds Tryd.pinned (OpenSpec.ofChange fnExactIsClosedPathSpec)

/-- ITS FALSE NEIGHBOUR: 'it returns false'. Refute it at one input. -/
def fnExactIsClosedPathWrong : ChangeSpec := { name := "fnExactIsClosedPath", fn := fun _ => fun
  | [d] => { results := [.lit (.bool false)], args := [d] }
  | _ => none }
def FnExactIsClosedPathWrongFalsely : Prop := fnExactIsClosedPathRow.holds Tryd.pinned (OpenSpec.ofChange fnExactIsClosedPathWrong)

/-- 'laws.FnExactAreaOfPath': WHATEVER THE INPUT: true; the input reads as it did. -/
def fnExactAreaOfPathSpec : ChangeSpec := { name := "fnExactAreaOfPath", fn := fun _ => fun
  | [d] => { results := [.lit (.bool true)], args := [d] }
  | _ => none }
def fnExactAreaOfPathRow : OpenClaim := { program := "ytfkimnbddkjpiaadoor", sum := "9b43331850cf99edcef9f7262d551c3a2e8191285725516b5694622f4e79ddd8", func := "loop.example/g01218/laws.FnExactAreaOfPath", spec := "fnExactAreaOfPath", inPlace := ["internal/bytealg.IndexByteString", "internal/bytealg.IndexString"], named := ["unicode/utf8.first", "unicode/utf8.acceptRanges", "internal/bytealg.MaxLen"], apart := false, laid := [("unicode/utf8.acceptRanges", laid_unicode_utf8_acceptRanges), ("unicode/utf8.first", laid_unicode_utf8_first)] }
def FnExactAreaOfPathSaid : Prop := fnExactAreaOfPathRow.holds Tryd.pinned (OpenSpec.ofChange fnExactAreaOfPathSpec)

/-- ITS FALSE NEIGHBOUR: 'it returns false'. Refute it at one input. -/
def fnExactAreaOfPathWrong : ChangeSpec := { name := "fnExactAreaOfPath", fn := fun _ => fun
  | [d] => { results := [.lit (.bool false)], args := [d] }
  | _ => none }
def FnExactAreaOfPathWrongFalsely : Prop := fnExactAreaOfPathRow.holds Tryd.pinned (OpenSpec.ofChange fnExactAreaOfPathWrong)

/-- 'laws.FnExactTimesAtHeight': WHATEVER THE INPUT: true; the input reads as it did. -/
def fnExactTimesAtHeightSpec : ChangeSpec := { name := "fnExactTimesAtHeight", fn := fun _ => fun
  | [d1, d2] => { results := [.lit (.bool true)], args := [d1, d2] }
  | _ => none }
def fnExactTimesAtHeightRow : OpenClaim := { program := "ytfkimnbddkjpiaadoor", sum := "9b43331850cf99edcef9f7262d551c3a2e8191285725516b5694622f4e79ddd8", func := "loop.example/g01218/laws.FnExactTimesAtHeight", spec := "fnExactTimesAtHeight", inPlace := ["internal/bytealg.IndexByteString", "internal/bytealg.IndexString"], named := ["unicode/utf8.first", "unicode/utf8.acceptRanges", "internal/bytealg.MaxLen"], apart := false, laid := [("unicode/utf8.acceptRanges", laid_unicode_utf8_acceptRanges), ("unicode/utf8.first", laid_unicode_utf8_first)] }
def FnExactTimesAtHeightSaid : Prop := fnExactTimesAtHeightRow.holds Tryd.pinned (OpenSpec.ofChange fnExactTimesAtHeightSpec)

/-- ITS FALSE NEIGHBOUR: 'it returns false'. Refute it at one input. -/
def fnExactTimesAtHeightWrong : ChangeSpec := { name := "fnExactTimesAtHeight", fn := fun _ => fun
  | [d1, d2] => { results := [.lit (.bool false)], args := [d1, d2] }
  | _ => none }
def FnExactTimesAtHeightWrongFalsely : Prop := fnExactTimesAtHeightRow.holds Tryd.pinned (OpenSpec.ofChange fnExactTimesAtHeightWrong)

/-- 'laws.FnExactHighestOf': WHATEVER THE INPUT: true; the input reads as it did. -/
def fnExactHighestOfSpec : ChangeSpec := { name := "fnExactHighestOf", fn := fun _ => fun
  | [d] => { results := [.lit (.bool true)], args := [d] }
  | _ => none }
def fnExactHighestOfRow : OpenClaim := { program := "ytfkimnbddkjpiaadoor", sum := "9b43331850cf99edcef9f7262d551c3a2e8191285725516b5694622f4e79ddd8", func := "loop.example/g01218/laws.FnExactHighestOf", spec := "fnExactHighestOf", inPlace := ["internal/bytealg.IndexByteString", "internal/bytealg.IndexString"], named := ["unicode/utf8.first", "unicode/utf8.acceptRanges", "internal/bytealg.MaxLen"], apart := false, laid := [("unicode/utf8.acceptRanges", laid_unicode_utf8_acceptRanges), ("unicode/utf8.first", laid_unicode_utf8_first)] }
def FnExactHighestOfSaid : Prop := fnExactHighestOfRow.holds Tryd.pinned (OpenSpec.ofChange fnExactHighestOfSpec)

/-- ITS FALSE NEIGHBOUR: 'it returns false'. Refute it at one input. -/
def fnExactHighestOfWrong : ChangeSpec := { name := "fnExactHighestOf", fn := fun _ => fun
  | [d] => { results := [.lit (.bool false)], args := [d] }
  | _ => none }
def FnExactHighestOfWrongFalsely : Prop := fnExactHighestOfRow.holds Tryd.pinned (OpenSpec.ofChange fnExactHighestOfWrong)

/-- 'laws.FnExactPeaksOf': WHATEVER THE INPUT: true; the input reads as it did. -/
def fnExactPeaksOfSpec : ChangeSpec := { name := "fnExactPeaksOf", fn := fun _ => fun
  | [d] => { results := [.lit (.bool true)], args := [d] }
  | _ => none }
def fnExactPeaksOfRow : OpenClaim := { program := "ytfkimnbddkjpiaadoor", sum := "9b43331850cf99edcef9f7262d551c3a2e8191285725516b5694622f4e79ddd8", func := "loop.example/g01218/laws.FnExactPeaksOf", spec := "fnExactPeaksOf", inPlace := ["internal/bytealg.IndexByteString", "internal/bytealg.IndexString"], named := ["unicode/utf8.first", "unicode/utf8.acceptRanges", "internal/bytealg.MaxLen"], apart := false, laid := [("unicode/utf8.acceptRanges", laid_unicode_utf8_acceptRanges), ("unicode/utf8.first", laid_unicode_utf8_first)] }
def FnExactPeaksOfSaid : Prop := fnExactPeaksOfRow.holds Tryd.pinned (OpenSpec.ofChange fnExactPeaksOfSpec)

/-- ITS FALSE NEIGHBOUR: 'it returns false'. Refute it at one input. -/
def fnExactPeaksOfWrong : ChangeSpec := { name := "fnExactPeaksOf", fn := fun _ => fun
  | [d] => { results := [.lit (.bool false)], args := [d] }
  | _ => none }
def FnExactPeaksOfWrongFalsely : Prop := fnExactPeaksOfRow.holds Tryd.pinned (OpenSpec.ofChange fnExactPeaksOfWrong)

/-- 'laws.FnExactLeadsOf': WHATEVER THE INPUT: true; the input reads as it did. -/
def fnExactLeadsOfSpec : ChangeSpec := { name := "fnExactLeadsOf", fn := fun _ => fun
  | [d] => { results := [.lit (.bool true)], args := [d] }
  | _ => none }
def fnExactLeadsOfRow : OpenClaim := { program := "ytfkimnbddkjpiaadoor", sum := "9b43331850cf99edcef9f7262d551c3a2e8191285725516b5694622f4e79ddd8", func := "loop.example/g01218/laws.FnExactLeadsOf", spec := "fnExactLeadsOf", inPlace := ["internal/bytealg.IndexByteString", "internal/bytealg.IndexString"], named := ["unicode/utf8.first", "unicode/utf8.acceptRanges", "internal/bytealg.MaxLen"], apart := false, laid := [("unicode/utf8.acceptRanges", laid_unicode_utf8_acceptRanges), ("unicode/utf8.first", laid_unicode_utf8_first)] }
def FnExactLeadsOfSaid : Prop := fnExactLeadsOfRow.holds Tryd.pinned (OpenSpec.ofChange fnExactLeadsOfSpec)

/-- ITS FALSE NEIGHBOUR: 'it returns false'. Refute it at one input. -/
def fnExactLeadsOfWrong : ChangeSpec := { name := "fnExactLeadsOf", fn := fun _ => fun
  | [d] => { results := [.lit (.bool false)], args := [d] }
  | _ => none }
def FnExactLeadsOfWrongFalsely : Prop := fnExactLeadsOfRow.holds Tryd.pinned (OpenSpec.ofChange fnExactLeadsOfWrong)

/-- 'laws.FnExactLowestOf': WHATEVER THE INPUT: true; the input reads as it did. -/
def fnExactLowestOfSpec : ChangeSpec := { name := "fnExactLowestOf", fn := fun _ => fun
  | [d] => { results := [.lit (.bool true)], args := [d] }
  | _ => none }
def fnExactLowestOfRow : OpenClaim := { program := "ytfkimnbddkjpiaadoor", sum := "9b43331850cf99edcef9f7262d551c3a2e8191285725516b5694622f4e79ddd8", func := "loop.example/g01218/laws.FnExactLowestOf", spec := "fnExactLowestOf", inPlace := ["internal/bytealg.IndexByteString", "internal/bytealg.IndexString"], named := ["unicode/utf8.first", "unicode/utf8.acceptRanges", "internal/bytealg.MaxLen"], apart := false, laid := [("unicode/utf8.acceptRanges", laid_unicode_utf8_acceptRanges), ("unicode/utf8.first", laid_unicode_utf8_first)] }
def FnExactLowestOfSaid : Prop := fnExactLowestOfRow.holds Tryd.pinned (OpenSpec.ofChange fnExactLowestOfSpec)

/-- ITS FALSE NEIGHBOUR: 'it returns false'. Refute it at one input. -/
def fnExactLowestOfWrong : ChangeSpec := { name := "fnExactLowestOf", fn := fun _ => fun
  | [d] => { results := [.lit (.bool false)], args := [d] }
  | _ => none }
def FnExactLowestOfWrongFalsely : Prop := fnExactLowestOfRow.holds Tryd.pinned (OpenSpec.ofChange fnExactLowestOfWrong)

/- THE SECOND FORM. 'bulk': how many values and letters a reading holds, each counted each time it is reached (what is shared counts as often as it is met; a slice's spare places count too). A statement '..UptoSaid' is the law's where the arguments, and the package variables that the reading takes, are together of bulk at most 1048576: NARROWER than '..Said'. Prove '..Said' where nothing that the law and all that it calls make is longer than what came in: it says more and counts as full. Else prove '..UptoSaid'. A law counts once. -/
mutual
def uptoBulk {H : Type} : DataW H → Nat
  | .lit (.string bytes) => bytes.length + 1
  | .lit _ => 1
  | .nil => 1
  | .ptr d => uptoBulk d + 1
  | .slice elems spare => uptoBulkAll elems + uptoBulkAll spare + 1
  | .agg parts => uptoBulkAll parts + 1
  | .iface _ d => uptoBulk d + 1
  | .map entries => uptoBulkEntries entries + 1
  | .held _ => 1
def uptoBulkAll {H : Type} : List (DataW H) → Nat
  | [] => 0
  | d :: r => uptoBulk d + uptoBulkAll r
def uptoBulkEntries {H : Type} : List (Lit × DataW H) → Nat
  | [] => 0
  | x :: r => uptoBulkEntry x + uptoBulkEntries r
def uptoBulkEntry {H : Type} : Lit × DataW H → Nat
  | (.string bytes, d) => bytes.length + uptoBulk d + 1
  | (_, d) => uptoBulk d + 1
 end
def uptoSmall : (H : Type) → List (DataW H) → Bool := fun _ ds => decide (uptoBulkAll ds ≤ 1048576)
def OpenSpec.upto (s : _root_.Go.ChangeSpec) : _root_.Go.OpenSpec := { _root_.Go.OpenSpec.ofChange s with cond := some uptoSmall }

/-- 'laws.FnExactIsPath', WHERE WHAT IT READS IS OF BULK AT MOST 1048576: true; the input reads as it did. -/
def fnExactIsPathUptoRow : OpenClaim := { program := "ytfkimnbddkjpiaadoor", sum := "9b43331850cf99edcef9f7262d551c3a2e8191285725516b5694622f4e79ddd8", func := "loop.example/g01218/laws.FnExactIsPath", spec := "fnExactIsPath", inPlace := ["internal/bytealg.IndexByteString", "internal/bytealg.IndexString"], named := ["unicode/utf8.first", "unicode/utf8.acceptRanges", "internal/bytealg.MaxLen"], apart := false, laid := [("unicode/utf8.acceptRanges", laid_unicode_utf8_acceptRanges), ("unicode/utf8.first", laid_unicode_utf8_first)], narrowed := true }
def FnExactIsPathUptoSaid : Prop := fnExactIsPathUptoRow.holds Tryd.pinned (OpenSpec.upto fnExactIsPathSpec)

/-- 'laws.FnExactJoinPaths', WHERE WHAT IT READS IS OF BULK AT MOST 1048576: true; the input reads as it did. -/
def fnExactJoinPathsUptoRow : OpenClaim := { program := "ytfkimnbddkjpiaadoor", sum := "9b43331850cf99edcef9f7262d551c3a2e8191285725516b5694622f4e79ddd8", func := "loop.example/g01218/laws.FnExactJoinPaths", spec := "fnExactJoinPaths", inPlace := ["internal/bytealg.IndexByteString", "internal/bytealg.IndexString"], named := ["unicode/utf8.first", "unicode/utf8.acceptRanges", "internal/bytealg.MaxLen"], apart := false, laid := [("unicode/utf8.acceptRanges", laid_unicode_utf8_acceptRanges), ("unicode/utf8.first", laid_unicode_utf8_first)], narrowed := true }
def FnExactJoinPathsUptoSaid : Prop := fnExactJoinPathsUptoRow.holds Tryd.pinned (OpenSpec.upto fnExactJoinPathsSpec)

/-- 'laws.FnExactLiftPath', WHERE WHAT IT READS IS OF BULK AT MOST 1048576: true; the input reads as it did. -/
def fnExactLiftPathUptoRow : OpenClaim := { program := "ytfkimnbddkjpiaadoor", sum := "9b43331850cf99edcef9f7262d551c3a2e8191285725516b5694622f4e79ddd8", func := "loop.example/g01218/laws.FnExactLiftPath", spec := "fnExactLiftPath", inPlace := ["internal/bytealg.IndexByteString", "internal/bytealg.IndexString"], named := ["unicode/utf8.first", "unicode/utf8.acceptRanges", "internal/bytealg.MaxLen"], apart := false, laid := [("unicode/utf8.acceptRanges", laid_unicode_utf8_acceptRanges), ("unicode/utf8.first", laid_unicode_utf8_first)], narrowed := true }
def FnExactLiftPathUptoSaid : Prop := fnExactLiftPathUptoRow.holds Tryd.pinned (OpenSpec.upto fnExactLiftPathSpec)

/-- 'laws.FnExactWithFirstVote', WHERE WHAT IT READS IS OF BULK AT MOST 1048576: true; the input reads as it did. -/
def fnExactWithFirstVoteUptoRow : OpenClaim := { program := "ytfkimnbddkjpiaadoor", sum := "9b43331850cf99edcef9f7262d551c3a2e8191285725516b5694622f4e79ddd8", func := "loop.example/g01218/laws.FnExactWithFirstVote", spec := "fnExactWithFirstVote", inPlace := ["internal/bytealg.IndexByteString", "internal/bytealg.IndexString"], named := ["unicode/utf8.first", "unicode/utf8.acceptRanges", "internal/bytealg.MaxLen"], apart := false, laid := [("unicode/utf8.acceptRanges", laid_unicode_utf8_acceptRanges), ("unicode/utf8.first", laid_unicode_utf8_first)], narrowed := true }
def FnExactWithFirstVoteUptoSaid : Prop := fnExactWithFirstVoteUptoRow.holds Tryd.pinned (OpenSpec.upto fnExactWithFirstVoteSpec)

/-- 'laws.FnExactEndHeight', WHERE WHAT IT READS IS OF BULK AT MOST 1048576: true; the input reads as it did. -/
def fnExactEndHeightUptoRow : OpenClaim := { program := "ytfkimnbddkjpiaadoor", sum := "9b43331850cf99edcef9f7262d551c3a2e8191285725516b5694622f4e79ddd8", func := "loop.example/g01218/laws.FnExactEndHeight", spec := "fnExactEndHeight", inPlace := ["internal/bytealg.IndexByteString", "internal/bytealg.IndexString"], named := ["unicode/utf8.first", "unicode/utf8.acceptRanges", "internal/bytealg.MaxLen"], apart := false, laid := [("unicode/utf8.acceptRanges", laid_unicode_utf8_acceptRanges), ("unicode/utf8.first", laid_unicode_utf8_first)], narrowed := true }
def FnExactEndHeightUptoSaid : Prop := fnExactEndHeightUptoRow.holds Tryd.pinned (OpenSpec.upto fnExactEndHeightSpec)

/-- 'laws.FnExactIsClosedPath', WHERE WHAT IT READS IS OF BULK AT MOST 1048576: true; the input reads as it did. -/
def fnExactIsClosedPathUptoRow : OpenClaim := { program := "ytfkimnbddkjpiaadoor", sum := "9b43331850cf99edcef9f7262d551c3a2e8191285725516b5694622f4e79ddd8", func := "loop.example/g01218/laws.FnExactIsClosedPath", spec := "fnExactIsClosedPath", inPlace := ["internal/bytealg.IndexByteString", "internal/bytealg.IndexString"], named := ["unicode/utf8.first", "unicode/utf8.acceptRanges", "internal/bytealg.MaxLen"], apart := false, laid := [("unicode/utf8.acceptRanges", laid_unicode_utf8_acceptRanges), ("unicode/utf8.first", laid_unicode_utf8_first)], narrowed := true }
def FnExactIsClosedPathUptoSaid : Prop := fnExactIsClosedPathUptoRow.holds Tryd.pinned (OpenSpec.upto fnExactIsClosedPathSpec)

/-- 'laws.FnExactAreaOfPath', WHERE WHAT IT READS IS OF BULK AT MOST 1048576: true; the input reads as it did. -/
def fnExactAreaOfPathUptoRow : OpenClaim := { program := "ytfkimnbddkjpiaadoor", sum := "9b43331850cf99edcef9f7262d551c3a2e8191285725516b5694622f4e79ddd8", func := "loop.example/g01218/laws.FnExactAreaOfPath", spec := "fnExactAreaOfPath", inPlace := ["internal/bytealg.IndexByteString", "internal/bytealg.IndexString"], named := ["unicode/utf8.first", "unicode/utf8.acceptRanges", "internal/bytealg.MaxLen"], apart := false, laid := [("unicode/utf8.acceptRanges", laid_unicode_utf8_acceptRanges), ("unicode/utf8.first", laid_unicode_utf8_first)], narrowed := true }
def FnExactAreaOfPathUptoSaid : Prop := fnExactAreaOfPathUptoRow.holds Tryd.pinned (OpenSpec.upto fnExactAreaOfPathSpec)

/-- 'laws.FnExactTimesAtHeight', WHERE WHAT IT READS IS OF BULK AT MOST 1048576: true; the input reads as it did. -/
def fnExactTimesAtHeightUptoRow : OpenClaim := { program := "ytfkimnbddkjpiaadoor", sum := "9b43331850cf99edcef9f7262d551c3a2e8191285725516b5694622f4e79ddd8", func := "loop.example/g01218/laws.FnExactTimesAtHeight", spec := "fnExactTimesAtHeight", inPlace := ["internal/bytealg.IndexByteString", "internal/bytealg.IndexString"], named := ["unicode/utf8.first", "unicode/utf8.acceptRanges", "internal/bytealg.MaxLen"], apart := false, laid := [("unicode/utf8.acceptRanges", laid_unicode_utf8_acceptRanges), ("unicode/utf8.first", laid_unicode_utf8_first)], narrowed := true }
def FnExactTimesAtHeightUptoSaid : Prop := fnExactTimesAtHeightUptoRow.holds Tryd.pinned (OpenSpec.upto fnExactTimesAtHeightSpec)

/-- 'laws.FnExactHighestOf', WHERE WHAT IT READS IS OF BULK AT MOST 1048576: true; the input reads as it did. -/
def fnExactHighestOfUptoRow : OpenClaim := { program := "ytfkimnbddkjpiaadoor", sum := "9b43331850cf99edcef9f7262d551c3a2e8191285725516b5694622f4e79ddd8", func := "loop.example/g01218/laws.FnExactHighestOf", spec := "fnExactHighestOf", inPlace := ["internal/bytealg.IndexByteString", "internal/bytealg.IndexString"], named := ["unicode/utf8.first", "unicode/utf8.acceptRanges", "internal/bytealg.MaxLen"], apart := false, laid := [("unicode/utf8.acceptRanges", laid_unicode_utf8_acceptRanges), ("unicode/utf8.first", laid_unicode_utf8_first)], narrowed := true }
def FnExactHighestOfUptoSaid : Prop := fnExactHighestOfUptoRow.holds Tryd.pinned (OpenSpec.upto fnExactHighestOfSpec)

/-- 'laws.FnExactPeaksOf', WHERE WHAT IT READS IS OF BULK AT MOST 1048576: true; the input reads as it did. -/
def fnExactPeaksOfUptoRow : OpenClaim := { program := "ytfkimnbddkjpiaadoor", sum := "9b43331850cf99edcef9f7262d551c3a2e8191285725516b5694622f4e79ddd8", func := "loop.example/g01218/laws.FnExactPeaksOf", spec := "fnExactPeaksOf", inPlace := ["internal/bytealg.IndexByteString", "internal/bytealg.IndexString"], named := ["unicode/utf8.first", "unicode/utf8.acceptRanges", "internal/bytealg.MaxLen"], apart := false, laid := [("unicode/utf8.acceptRanges", laid_unicode_utf8_acceptRanges), ("unicode/utf8.first", laid_unicode_utf8_first)], narrowed := true }
def FnExactPeaksOfUptoSaid : Prop := fnExactPeaksOfUptoRow.holds Tryd.pinned (OpenSpec.upto fnExactPeaksOfSpec)

/-- 'laws.FnExactLeadsOf', WHERE WHAT IT READS IS OF BULK AT MOST 1048576: true; the input reads as it did. -/
def fnExactLeadsOfUptoRow : OpenClaim := { program := "ytfkimnbddkjpiaadoor", sum := "9b43331850cf99edcef9f7262d551c3a2e8191285725516b5694622f4e79ddd8", func := "loop.example/g01218/laws.FnExactLeadsOf", spec := "fnExactLeadsOf", inPlace := ["internal/bytealg.IndexByteString", "internal/bytealg.IndexString"], named := ["unicode/utf8.first", "unicode/utf8.acceptRanges", "internal/bytealg.MaxLen"], apart := false, laid := [("unicode/utf8.acceptRanges", laid_unicode_utf8_acceptRanges), ("unicode/utf8.first", laid_unicode_utf8_first)], narrowed := true }
def FnExactLeadsOfUptoSaid : Prop := fnExactLeadsOfUptoRow.holds Tryd.pinned (OpenSpec.upto fnExactLeadsOfSpec)

/-- 'laws.FnExactLowestOf', WHERE WHAT IT READS IS OF BULK AT MOST 1048576: true; the input reads as it did. -/
def fnExactLowestOfUptoRow : OpenClaim := { program := "ytfkimnbddkjpiaadoor", sum := "9b43331850cf99edcef9f7262d551c3a2e8191285725516b5694622f4e79ddd8", func := "loop.example/g01218/laws.FnExactLowestOf", spec := "fnExactLowestOf", inPlace := ["internal/bytealg.IndexByteString", "internal/bytealg.IndexString"], named := ["unicode/utf8.first", "unicode/utf8.acceptRanges", "internal/bytealg.MaxLen"], apart := false, laid := [("unicode/utf8.acceptRanges", laid_unicode_utf8_acceptRanges), ("unicode/utf8.first", laid_unicode_utf8_first)], narrowed := true }
def FnExactLowestOfUptoSaid : Prop := fnExactLowestOfUptoRow.holds Tryd.pinned (OpenSpec.upto fnExactLowestOfSpec)

end Rows
end Go.Proofs.YtfkimnbddkjpiaaDoor
