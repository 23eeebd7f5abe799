/-
  No cell of these rows narrows 'for every input' (looked for: loops, veiled, ifaces, maps, wideKeys, modest, calm, conditions, laid).
  DERIVED. THE GIVEN ROWS OF THIS SEAT. 11 by the template 'for every input the law returns true; each argument reads behind the call as it read before'; 0 by the template 'total and deterministic' (their statements: YthhnpklgodaipaaTotals.lean).
  GIVEN WITH THE SEED: the statements are not yours to turn. If you find one false, say at which input.
  Laid BY PROGRAM, IN A SANDBOX (cutbox-rows.mjs): the forced cells as the released guide's own fill.sh prints them over the translation 0ac70f78a99469f2… (all of the seat's roots in one cut). By AI agents, Wed Nov 11 2026. No macro, syntax, notation, axiom, sorry.
-/
import Derived.Test.YthhnpklgodaipaaChecked
import GoSem.Claim
import GoSem.ClaimJoined
import GoSem.ClaimMapViews
import Derived.JoinedTies
import Derived.KernelRfl
namespace Go.Proofs.Ythhnpklgodaipaa
/- THE CELL 'sum', in the pinned program and in every row, IS THE sha256 OF THE DUMP (.gsa) THAT YthhnpklgodaipaaProg.lean LOADS. Nothing in Lean hashes anything: it is a label: what it is worth is what the hold of that sum in a sandbox is worth. -/
noncomputable def Try.pinned : Pinned := { name := "ythhnpklgodaipaa", sum := "0ac70f78a99469f241956a77206a8d616aacd97bb954816e2e005717c124cfd8", checked := Try.checked }
namespace Rows
def none {H : Type} : Left H := { results := [], args := [] }

/-- 'laws.FnExactConstants': WHATEVER THE INPUT: true; the input reads as it did. -/
def fnExactConstantsSpec : ChangeSpec := { name := "fnExactConstants", fn := fun _ => fun
  | [] => { results := [.lit (.bool true)], args := [] }
  | _ => none }
def fnExactConstantsRow : OpenClaim := { program := "ythhnpklgodaipaa", sum := "0ac70f78a99469f241956a77206a8d616aacd97bb954816e2e005717c124cfd8", func := "loop.example/g01218/laws.FnExactConstants", spec := "fnExactConstants", apart := false }
def FnExactConstantsSaid : Prop := fnExactConstantsRow.holds Try.pinned (OpenSpec.ofChange fnExactConstantsSpec)

/-- ITS FALSE NEIGHBOUR: 'it returns false'. Refute it at one input. -/
def fnExactConstantsWrong : ChangeSpec := { name := "fnExactConstants", fn := fun _ => fun
  | [] => { results := [.lit (.bool false)], args := [] }
  | _ => none }
def FnExactConstantsWrongFalsely : Prop := fnExactConstantsRow.holds Try.pinned (OpenSpec.ofChange fnExactConstantsWrong)

/-- 'laws.FnExactIsDegrees': WHATEVER THE INPUT: true; the input reads as it did. -/
def fnExactIsDegreesSpec : ChangeSpec := { name := "fnExactIsDegrees", fn := fun _ => fun
  | [d] => { results := [.lit (.bool true)], args := [d] }
  | _ => none }
def fnExactIsDegreesRow : OpenClaim := { program := "ythhnpklgodaipaa", sum := "0ac70f78a99469f241956a77206a8d616aacd97bb954816e2e005717c124cfd8", func := "loop.example/g01218/laws.FnExactIsDegrees", spec := "fnExactIsDegrees", unfollowed := true, recurses := true, apart := false }
def FnExactIsDegreesSaid : Prop := fnExactIsDegreesRow.holds Try.pinned (OpenSpec.ofChange fnExactIsDegreesSpec)

/-- ITS FALSE NEIGHBOUR: 'it returns false'. Refute it at one input. -/
def fnExactIsDegreesWrong : ChangeSpec := { name := "fnExactIsDegrees", fn := fun _ => fun
  | [d] => { results := [.lit (.bool false)], args := [d] }
  | _ => none }
def FnExactIsDegreesWrongFalsely : Prop := fnExactIsDegreesRow.holds Try.pinned (OpenSpec.ofChange fnExactIsDegreesWrong)

/-- 'laws.FnExactCountPaths': WHATEVER THE INPUT: true; the input reads as it did. -/
def fnExactCountPathsSpec : ChangeSpec := { name := "fnExactCountPaths", fn := fun _ => fun
  | [d1, d2] => { results := [.lit (.bool true)], args := [d1, d2] }
  | _ => none }
def fnExactCountPathsRow : OpenClaim := { program := "ythhnpklgodaipaa", sum := "0ac70f78a99469f241956a77206a8d616aacd97bb954816e2e005717c124cfd8", func := "loop.example/g01218/laws.FnExactCountPaths", spec := "fnExactCountPaths", apart := false }
def FnExactCountPathsSaid : Prop := fnExactCountPathsRow.holds Try.pinned (OpenSpec.ofChange fnExactCountPathsSpec)

/-- ITS FALSE NEIGHBOUR: 'it returns false'. Refute it at one input. -/
def fnExactCountPathsWrong : ChangeSpec := { name := "fnExactCountPaths", fn := fun _ => fun
  | [d1, d2] => { results := [.lit (.bool false)], args := [d1, d2] }
  | _ => none }
def FnExactCountPathsWrongFalsely : Prop := fnExactCountPathsRow.holds Try.pinned (OpenSpec.ofChange fnExactCountPathsWrong)

/-- 'laws.FnExactCountNeverBehind': WHATEVER THE INPUT: true; the input reads as it did. -/
def fnExactCountNeverBehindSpec : ChangeSpec := { name := "fnExactCountNeverBehind", fn := fun _ => fun
  | [d1, d2, d3] => { results := [.lit (.bool true)], args := [d1, d2, d3] }
  | _ => none }
def fnExactCountNeverBehindRow : OpenClaim := { program := "ythhnpklgodaipaa", sum := "0ac70f78a99469f241956a77206a8d616aacd97bb954816e2e005717c124cfd8", func := "loop.example/g01218/laws.FnExactCountNeverBehind", spec := "fnExactCountNeverBehind", apart := false }
def FnExactCountNeverBehindSaid : Prop := fnExactCountNeverBehindRow.holds Try.pinned (OpenSpec.ofChange fnExactCountNeverBehindSpec)

/-- ITS FALSE NEIGHBOUR: 'it returns false'. Refute it at one input. -/
def fnExactCountNeverBehindWrong : ChangeSpec := { name := "fnExactCountNeverBehind", fn := fun _ => fun
  | [d1, d2, d3] => { results := [.lit (.bool false)], args := [d1, d2, d3] }
  | _ => none }
def FnExactCountNeverBehindWrongFalsely : Prop := fnExactCountNeverBehindRow.holds Try.pinned (OpenSpec.ofChange fnExactCountNeverBehindWrong)

/-- 'laws.FnExactCountFirstPassage': WHATEVER THE INPUT: true; the input reads as it did. -/
def fnExactCountFirstPassageSpec : ChangeSpec := { name := "fnExactCountFirstPassage", fn := fun _ => fun
  | [d1, d2] => { results := [.lit (.bool true)], args := [d1, d2] }
  | _ => none }
def fnExactCountFirstPassageRow : OpenClaim := { program := "ythhnpklgodaipaa", sum := "0ac70f78a99469f241956a77206a8d616aacd97bb954816e2e005717c124cfd8", func := "loop.example/g01218/laws.FnExactCountFirstPassage", spec := "fnExactCountFirstPassage", apart := false }
def FnExactCountFirstPassageSaid : Prop := fnExactCountFirstPassageRow.holds Try.pinned (OpenSpec.ofChange fnExactCountFirstPassageSpec)

/-- ITS FALSE NEIGHBOUR: 'it returns false'. Refute it at one input. -/
def fnExactCountFirstPassageWrong : ChangeSpec := { name := "fnExactCountFirstPassage", fn := fun _ => fun
  | [d1, d2] => { results := [.lit (.bool false)], args := [d1, d2] }
  | _ => none }
def FnExactCountFirstPassageWrongFalsely : Prop := fnExactCountFirstPassageRow.holds Try.pinned (OpenSpec.ofChange fnExactCountFirstPassageWrong)

/-- 'laws.FnExactCountAhead': WHATEVER THE INPUT: true; the input reads as it did. -/
def fnExactCountAheadSpec : ChangeSpec := { name := "fnExactCountAhead", fn := fun _ => fun
  | [d1, d2, d3] => { results := [.lit (.bool true)], args := [d1, d2, d3] }
  | _ => none }
def fnExactCountAheadRow : OpenClaim := { program := "ythhnpklgodaipaa", sum := "0ac70f78a99469f241956a77206a8d616aacd97bb954816e2e005717c124cfd8", func := "loop.example/g01218/laws.FnExactCountAhead", spec := "fnExactCountAhead", apart := false }
def FnExactCountAheadSaid : Prop := fnExactCountAheadRow.holds Try.pinned (OpenSpec.ofChange fnExactCountAheadSpec)

/-- ITS FALSE NEIGHBOUR: 'it returns false'. Refute it at one input. -/
def fnExactCountAheadWrong : ChangeSpec := { name := "fnExactCountAhead", fn := fun _ => fun
  | [d1, d2, d3] => { results := [.lit (.bool false)], args := [d1, d2, d3] }
  | _ => none }
def FnExactCountAheadWrongFalsely : Prop := fnExactCountAheadRow.holds Try.pinned (OpenSpec.ofChange fnExactCountAheadWrong)

/-- 'laws.FnExactCountWithTies': WHATEVER THE INPUT: true; the input reads as it did. -/
def fnExactCountWithTiesSpec : ChangeSpec := { name := "fnExactCountWithTies", fn := fun _ => fun
  | [d1, d2] => { results := [.lit (.bool true)], args := [d1, d2] }
  | _ => none }
def fnExactCountWithTiesRow : OpenClaim := { program := "ythhnpklgodaipaa", sum := "0ac70f78a99469f241956a77206a8d616aacd97bb954816e2e005717c124cfd8", func := "loop.example/g01218/laws.FnExactCountWithTies", spec := "fnExactCountWithTies", apart := false }
def FnExactCountWithTiesSaid : Prop := fnExactCountWithTiesRow.holds Try.pinned (OpenSpec.ofChange fnExactCountWithTiesSpec)

/-- ITS FALSE NEIGHBOUR: 'it returns false'. Refute it at one input. -/
def fnExactCountWithTiesWrong : ChangeSpec := { name := "fnExactCountWithTies", fn := fun _ => fun
  | [d1, d2] => { results := [.lit (.bool false)], args := [d1, d2] }
  | _ => none }
def FnExactCountWithTiesWrongFalsely : Prop := fnExactCountWithTiesRow.holds Try.pinned (OpenSpec.ofChange fnExactCountWithTiesWrong)

/-- 'laws.FnExactExcessOf': WHATEVER THE INPUT: true; the input reads as it did. -/
def fnExactExcessOfSpec : ChangeSpec := { name := "fnExactExcessOf", fn := fun _ => fun
  | [d] => { results := [.lit (.bool true)], args := [d] }
  | _ => none }
def fnExactExcessOfRow : OpenClaim := { program := "ythhnpklgodaipaa", sum := "0ac70f78a99469f241956a77206a8d616aacd97bb954816e2e005717c124cfd8", func := "loop.example/g01218/laws.FnExactExcessOf", spec := "fnExactExcessOf", unfollowed := true, recurses := true, apart := false }
def FnExactExcessOfSaid : Prop := fnExactExcessOfRow.holds Try.pinned (OpenSpec.ofChange fnExactExcessOfSpec)

/-- ITS FALSE NEIGHBOUR: 'it returns false'. Refute it at one input. -/
def fnExactExcessOfWrong : ChangeSpec := { name := "fnExactExcessOf", fn := fun _ => fun
  | [d] => { results := [.lit (.bool false)], args := [d] }
  | _ => none }
def FnExactExcessOfWrongFalsely : Prop := fnExactExcessOfRow.holds Try.pinned (OpenSpec.ofChange fnExactExcessOfWrong)

/-- 'laws.FnExactCountAbove': WHATEVER THE INPUT: true; the input reads as it did. -/
def fnExactCountAboveSpec : ChangeSpec := { name := "fnExactCountAbove", fn := fun _ => fun
  | [d1, d2, d3] => { results := [.lit (.bool true)], args := [d1, d2, d3] }
  | _ => none }
def fnExactCountAboveRow : OpenClaim := { program := "ythhnpklgodaipaa", sum := "0ac70f78a99469f241956a77206a8d616aacd97bb954816e2e005717c124cfd8", func := "loop.example/g01218/laws.FnExactCountAbove", spec := "fnExactCountAbove", apart := false }
def FnExactCountAboveSaid : Prop := fnExactCountAboveRow.holds Try.pinned (OpenSpec.ofChange fnExactCountAboveSpec)

/-- ITS FALSE NEIGHBOUR: 'it returns false'. Refute it at one input. -/
def fnExactCountAboveWrong : ChangeSpec := { name := "fnExactCountAbove", fn := fun _ => fun
  | [d1, d2, d3] => { results := [.lit (.bool false)], args := [d1, d2, d3] }
  | _ => none }
def FnExactCountAboveWrongFalsely : Prop := fnExactCountAboveRow.holds Try.pinned (OpenSpec.ofChange fnExactCountAboveWrong)

/-- 'laws.FnExactCountHighest': WHATEVER THE INPUT: true; the input reads as it did. -/
def fnExactCountHighestSpec : ChangeSpec := { name := "fnExactCountHighest", fn := fun _ => fun
  | [d1, d2, d3] => { results := [.lit (.bool true)], args := [d1, d2, d3] }
  | _ => none }
def fnExactCountHighestRow : OpenClaim := { program := "ythhnpklgodaipaa", sum := "0ac70f78a99469f241956a77206a8d616aacd97bb954816e2e005717c124cfd8", func := "loop.example/g01218/laws.FnExactCountHighest", spec := "fnExactCountHighest", apart := false }
def FnExactCountHighestSaid : Prop := fnExactCountHighestRow.holds Try.pinned (OpenSpec.ofChange fnExactCountHighestSpec)

/-- ITS FALSE NEIGHBOUR: 'it returns false'. Refute it at one input. -/
def fnExactCountHighestWrong : ChangeSpec := { name := "fnExactCountHighest", fn := fun _ => fun
  | [d1, d2, d3] => { results := [.lit (.bool false)], args := [d1, d2, d3] }
  | _ => none }
def FnExactCountHighestWrongFalsely : Prop := fnExactCountHighestRow.holds Try.pinned (OpenSpec.ofChange fnExactCountHighestWrong)

/-- 'laws.FnExactCountTouching': WHATEVER THE INPUT: true; the input reads as it did. -/
def fnExactCountTouchingSpec : ChangeSpec := { name := "fnExactCountTouching", fn := fun _ => fun
  | [d1, d2, d3] => { results := [.lit (.bool true)], args := [d1, d2, d3] }
  | _ => none }
def fnExactCountTouchingRow : OpenClaim := { program := "ythhnpklgodaipaa", sum := "0ac70f78a99469f241956a77206a8d616aacd97bb954816e2e005717c124cfd8", func := "loop.example/g01218/laws.FnExactCountTouching", spec := "fnExactCountTouching", apart := false }
def FnExactCountTouchingSaid : Prop := fnExactCountTouchingRow.holds Try.pinned (OpenSpec.ofChange fnExactCountTouchingSpec)

/-- ITS FALSE NEIGHBOUR: 'it returns false'. Refute it at one input. -/
def fnExactCountTouchingWrong : ChangeSpec := { name := "fnExactCountTouching", fn := fun _ => fun
  | [d1, d2, d3] => { results := [.lit (.bool false)], args := [d1, d2, d3] }
  | _ => none }
def FnExactCountTouchingWrongFalsely : Prop := fnExactCountTouchingRow.holds Try.pinned (OpenSpec.ofChange fnExactCountTouchingWrong)

/- THE SECOND FORM. 'bulk': how many values and letters a reading holds, each counted each time it is reached (what is shared counts as often as it is met; a slice's spare places count too). A statement '..UptoSaid' is the law's where the arguments, and the package variables that the reading takes, are together of bulk at most 1048576: NARROWER than '..Said'. Prove '..Said' where nothing that the law and all that it calls make is longer than what came in: it says more and counts as full. Else prove '..UptoSaid'. A law counts once. -/
mutual
def uptoBulk {H : Type} : DataW H → Nat
  | .lit (.string bytes) => bytes.length + 1
  | .lit _ => 1
  | .nil => 1
  | .ptr d => uptoBulk d + 1
  | .slice elems spare => uptoBulkAll elems + uptoBulkAll spare + 1
  | .agg parts => uptoBulkAll parts + 1
  | .iface _ d => uptoBulk d + 1
  | .map entries => uptoBulkEntries entries + 1
  | .held _ => 1
def uptoBulkAll {H : Type} : List (DataW H) → Nat
  | [] => 0
  | d :: r => uptoBulk d + uptoBulkAll r
def uptoBulkEntries {H : Type} : List (Lit × DataW H) → Nat
  | [] => 0
  | x :: r => uptoBulkEntry x + uptoBulkEntries r
def uptoBulkEntry {H : Type} : Lit × DataW H → Nat
  | (.string bytes, d) => bytes.length + uptoBulk d + 1
  | (_, d) => uptoBulk d + 1
 end
def uptoSmall : (H : Type) → List (DataW H) → Bool := fun _ ds => decide (uptoBulkAll ds ≤ 1048576)
def OpenSpec.upto (s : _root_.Go.ChangeSpec) : _root_.Go.OpenSpec := { _root_.Go.OpenSpec.ofChange s with cond := some uptoSmall }

/-- 'laws.FnExactConstants', WHERE WHAT IT READS IS OF BULK AT MOST 1048576: true; the input reads as it did. -/
def fnExactConstantsUptoRow : OpenClaim := { program := "ythhnpklgodaipaa", sum := "0ac70f78a99469f241956a77206a8d616aacd97bb954816e2e005717c124cfd8", func := "loop.example/g01218/laws.FnExactConstants", spec := "fnExactConstants", apart := false, narrowed := true }
def FnExactConstantsUptoSaid : Prop := fnExactConstantsUptoRow.holds Try.pinned (OpenSpec.upto fnExactConstantsSpec)

/-- 'laws.FnExactIsDegrees', WHERE WHAT IT READS IS OF BULK AT MOST 1048576: true; the input reads as it did. -/
def fnExactIsDegreesUptoRow : OpenClaim := { program := "ythhnpklgodaipaa", sum := "0ac70f78a99469f241956a77206a8d616aacd97bb954816e2e005717c124cfd8", func := "loop.example/g01218/laws.FnExactIsDegrees", spec := "fnExactIsDegrees", unfollowed := true, recurses := true, apart := false, narrowed := true }
def FnExactIsDegreesUptoSaid : Prop := fnExactIsDegreesUptoRow.holds Try.pinned (OpenSpec.upto fnExactIsDegreesSpec)

/-- 'laws.FnExactCountPaths', WHERE WHAT IT READS IS OF BULK AT MOST 1048576: true; the input reads as it did. -/
def fnExactCountPathsUptoRow : OpenClaim := { program := "ythhnpklgodaipaa", sum := "0ac70f78a99469f241956a77206a8d616aacd97bb954816e2e005717c124cfd8", func := "loop.example/g01218/laws.FnExactCountPaths", spec := "fnExactCountPaths", apart := false, narrowed := true }
def FnExactCountPathsUptoSaid : Prop := fnExactCountPathsUptoRow.holds Try.pinned (OpenSpec.upto fnExactCountPathsSpec)

/-- 'laws.FnExactCountNeverBehind', WHERE WHAT IT READS IS OF BULK AT MOST 1048576: true; the input reads as it did. -/
def fnExactCountNeverBehindUptoRow : OpenClaim := { program := "ythhnpklgodaipaa", sum := "0ac70f78a99469f241956a77206a8d616aacd97bb954816e2e005717c124cfd8", func := "loop.example/g01218/laws.FnExactCountNeverBehind", spec := "fnExactCountNeverBehind", apart := false, narrowed := true }
def FnExactCountNeverBehindUptoSaid : Prop := fnExactCountNeverBehindUptoRow.holds Try.pinned (OpenSpec.upto fnExactCountNeverBehindSpec)

/-- 'laws.FnExactCountFirstPassage', WHERE WHAT IT READS IS OF BULK AT MOST 1048576: true; the input reads as it did. -/
def fnExactCountFirstPassageUptoRow : OpenClaim := { program := "ythhnpklgodaipaa", sum := "0ac70f78a99469f241956a77206a8d616aacd97bb954816e2e005717c124cfd8", func := "loop.example/g01218/laws.FnExactCountFirstPassage", spec := "fnExactCountFirstPassage", apart := false, narrowed := true }
def FnExactCountFirstPassageUptoSaid : Prop := fnExactCountFirstPassageUptoRow.holds Try.pinned (OpenSpec.upto fnExactCountFirstPassageSpec)

/-- 'laws.FnExactCountAhead', WHERE WHAT IT READS IS OF BULK AT MOST 1048576: true; the input reads as it did. -/
def fnExactCountAheadUptoRow : OpenClaim := { program := "ythhnpklgodaipaa", sum := "0ac70f78a99469f241956a77206a8d616aacd97bb954816e2e005717c124cfd8", func := "loop.example/g01218/laws.FnExactCountAhead", spec := "fnExactCountAhead", apart := false, narrowed := true }
def FnExactCountAheadUptoSaid : Prop := fnExactCountAheadUptoRow.holds Try.pinned (OpenSpec.upto fnExactCountAheadSpec)

/-- 'laws.FnExactCountWithTies', WHERE WHAT IT READS IS OF BULK AT MOST 1048576: true; the input reads as it did. -/
def fnExactCountWithTiesUptoRow : OpenClaim := { program := "ythhnpklgodaipaa", sum := "0ac70f78a99469f241956a77206a8d616aacd97bb954816e2e005717c124cfd8", func := "loop.example/g01218/laws.FnExactCountWithTies", spec := "fnExactCountWithTies", apart := false, narrowed := true }
def FnExactCountWithTiesUptoSaid : Prop := fnExactCountWithTiesUptoRow.holds Try.pinned (OpenSpec.upto fnExactCountWithTiesSpec)

/-- 'laws.FnExactExcessOf', WHERE WHAT IT READS IS OF BULK AT MOST 1048576: true; the input reads as it did. -/
def fnExactExcessOfUptoRow : OpenClaim := { program := "ythhnpklgodaipaa", sum := "0ac70f78a99469f241956a77206a8d616aacd97bb954816e2e005717c124cfd8", func := "loop.example/g01218/laws.FnExactExcessOf", spec := "fnExactExcessOf", unfollowed := true, recurses := true, apart := false, narrowed := true }
def FnExactExcessOfUptoSaid : Prop := fnExactExcessOfUptoRow.holds Try.pinned (OpenSpec.upto fnExactExcessOfSpec)

/-- 'laws.FnExactCountAbove', WHERE WHAT IT READS IS OF BULK AT MOST 1048576: true; the input reads as it did. -/
def fnExactCountAboveUptoRow : OpenClaim := { program := "ythhnpklgodaipaa", sum := "0ac70f78a99469f241956a77206a8d616aacd97bb954816e2e005717c124cfd8", func := "loop.example/g01218/laws.FnExactCountAbove", spec := "fnExactCountAbove", apart := false, narrowed := true }
def FnExactCountAboveUptoSaid : Prop := fnExactCountAboveUptoRow.holds Try.pinned (OpenSpec.upto fnExactCountAboveSpec)

/-- 'laws.FnExactCountHighest', WHERE WHAT IT READS IS OF BULK AT MOST 1048576: true; the input reads as it did. -/
def fnExactCountHighestUptoRow : OpenClaim := { program := "ythhnpklgodaipaa", sum := "0ac70f78a99469f241956a77206a8d616aacd97bb954816e2e005717c124cfd8", func := "loop.example/g01218/laws.FnExactCountHighest", spec := "fnExactCountHighest", apart := false, narrowed := true }
def FnExactCountHighestUptoSaid : Prop := fnExactCountHighestUptoRow.holds Try.pinned (OpenSpec.upto fnExactCountHighestSpec)

/-- 'laws.FnExactCountTouching', WHERE WHAT IT READS IS OF BULK AT MOST 1048576: true; the input reads as it did. -/
def fnExactCountTouchingUptoRow : OpenClaim := { program := "ythhnpklgodaipaa", sum := "0ac70f78a99469f241956a77206a8d616aacd97bb954816e2e005717c124cfd8", func := "loop.example/g01218/laws.FnExactCountTouching", spec := "fnExactCountTouching", apart := false, narrowed := true }
def FnExactCountTouchingUptoSaid : Prop := fnExactCountTouchingUptoRow.holds Try.pinned (OpenSpec.upto fnExactCountTouchingSpec)

end Rows
end Go.Proofs.Ythhnpklgodaipaa
