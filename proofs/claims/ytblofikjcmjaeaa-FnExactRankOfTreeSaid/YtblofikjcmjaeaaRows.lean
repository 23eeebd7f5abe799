/-
  No cell of these rows narrows 'for every input' (looked for: loops, veiled, ifaces, maps, wideKeys, modest, calm, conditions, laid).
  DERIVED. THE GIVEN ROWS OF THIS SEAT. 12 by the template 'for every input the law returns true; each argument reads behind the call as it read before'; 0 by the template 'total and deterministic' (their statements: YtblofikjcmjaeaaTotals.lean).
  GIVEN WITH THE SEED: the statements are not yours to turn. If you find one false, say at which input.
  Laid BY PROGRAM, IN A SANDBOX (cutbox-rows.mjs): the forced cells as the released guide's own fill.sh prints them over the translation a0ff84412b0fe31a… (all of the seat's roots in one cut). By AI agents, Wed Nov 11 2026. No macro, syntax, notation, axiom, sorry.
-/
import Derived.Test.YtblofikjcmjaeaaChecked
import GoSem.Claim
import GoSem.ClaimJoined
import GoSem.ClaimMapViews
import Derived.JoinedTies
import Derived.KernelRfl
namespace Go.Proofs.Ytblofikjcmjaeaa
/- THE CELL 'sum', in the pinned program and in every row, IS THE sha256 OF THE DUMP (.gsa) THAT YtblofikjcmjaeaaProg.lean LOADS. Nothing in Lean hashes anything: it is a label: what it is worth is what the hold of that sum in a sandbox is worth. -/
noncomputable def Try.pinned : Pinned := { name := "ytblofikjcmjaeaa", sum := "a0ff84412b0fe31a1aa404076d445f37b73f19efaa92a0a88d933405136161ac", checked := Try.checked }
namespace Rows
def none {H : Type} : Left H := { results := [], args := [] }

/-- 'laws.FnExactPathOfRank': WHATEVER THE INPUT: true; the input reads as it did. -/
def fnExactPathOfRankSpec : ChangeSpec := { name := "fnExactPathOfRank", fn := fun _ => fun
  | [d1, d2, d3] => { results := [.lit (.bool true)], args := [d1, d2, d3] }
  | _ => none }
def fnExactPathOfRankRow : OpenClaim := { program := "ytblofikjcmjaeaa", sum := "a0ff84412b0fe31a1aa404076d445f37b73f19efaa92a0a88d933405136161ac", func := "loop.example/g01218/laws.FnExactPathOfRank", spec := "fnExactPathOfRank", unfollowed := true, recurses := true, plainKeys := false, apart := false }
def FnExactPathOfRankSaid : Prop := fnExactPathOfRankRow.holds Try.pinned (OpenSpec.ofChange fnExactPathOfRankSpec)

/-- ITS FALSE NEIGHBOUR: 'it returns false'. Refute it at one input. -/
def fnExactPathOfRankWrong : ChangeSpec := { name := "fnExactPathOfRank", fn := fun _ => fun
  | [d1, d2, d3] => { results := [.lit (.bool false)], args := [d1, d2, d3] }
  | _ => none }
def FnExactPathOfRankWrongFalsely : Prop := fnExactPathOfRankRow.holds Try.pinned (OpenSpec.ofChange fnExactPathOfRankWrong)

/-- 'laws.FnExactCountBetween': WHATEVER THE INPUT: true; the input reads as it did. -/
def fnExactCountBetweenSpec : ChangeSpec := { name := "fnExactCountBetween", fn := fun _ => fun
  | [d1, d2, d3, d4] => { results := [.lit (.bool true)], args := [d1, d2, d3, d4] }
  | _ => none }
def fnExactCountBetweenRow : OpenClaim := { program := "ytblofikjcmjaeaa", sum := "a0ff84412b0fe31a1aa404076d445f37b73f19efaa92a0a88d933405136161ac", func := "loop.example/g01218/laws.FnExactCountBetween", spec := "fnExactCountBetween", unfollowed := true, recurses := true, plainKeys := false, apart := false }
def FnExactCountBetweenSaid : Prop := fnExactCountBetweenRow.holds Try.pinned (OpenSpec.ofChange fnExactCountBetweenSpec)

/-- ITS FALSE NEIGHBOUR: 'it returns false'. Refute it at one input. -/
def fnExactCountBetweenWrong : ChangeSpec := { name := "fnExactCountBetween", fn := fun _ => fun
  | [d1, d2, d3, d4] => { results := [.lit (.bool false)], args := [d1, d2, d3, d4] }
  | _ => none }
def FnExactCountBetweenWrongFalsely : Prop := fnExactCountBetweenRow.holds Try.pinned (OpenSpec.ofChange fnExactCountBetweenWrong)

/-- 'laws.FnExactCountByHighest': WHATEVER THE INPUT: true; the input reads as it did. -/
def fnExactCountByHighestSpec : ChangeSpec := { name := "fnExactCountByHighest", fn := fun _ => fun
  | [d] => { results := [.lit (.bool true)], args := [d] }
  | _ => none }
def fnExactCountByHighestRow : OpenClaim := { program := "ytblofikjcmjaeaa", sum := "a0ff84412b0fe31a1aa404076d445f37b73f19efaa92a0a88d933405136161ac", func := "loop.example/g01218/laws.FnExactCountByHighest", spec := "fnExactCountByHighest", plainKeys := false, apart := false }
def FnExactCountByHighestSaid : Prop := fnExactCountByHighestRow.holds Try.pinned (OpenSpec.ofChange fnExactCountByHighestSpec)

/-- ITS FALSE NEIGHBOUR: 'it returns false'. Refute it at one input. -/
def fnExactCountByHighestWrong : ChangeSpec := { name := "fnExactCountByHighest", fn := fun _ => fun
  | [d] => { results := [.lit (.bool false)], args := [d] }
  | _ => none }
def FnExactCountByHighestWrongFalsely : Prop := fnExactCountByHighestRow.holds Try.pinned (OpenSpec.ofChange fnExactCountByHighestWrong)

/-- 'laws.FnExactCountBothTouched': WHATEVER THE INPUT: true; the input reads as it did. -/
def fnExactCountBothTouchedSpec : ChangeSpec := { name := "fnExactCountBothTouched", fn := fun _ => fun
  | [d1, d2, d3, d4] => { results := [.lit (.bool true)], args := [d1, d2, d3, d4] }
  | _ => none }
def fnExactCountBothTouchedRow : OpenClaim := { program := "ytblofikjcmjaeaa", sum := "a0ff84412b0fe31a1aa404076d445f37b73f19efaa92a0a88d933405136161ac", func := "loop.example/g01218/laws.FnExactCountBothTouched", spec := "fnExactCountBothTouched", unfollowed := true, recurses := true, plainKeys := false, apart := false }
def FnExactCountBothTouchedSaid : Prop := fnExactCountBothTouchedRow.holds Try.pinned (OpenSpec.ofChange fnExactCountBothTouchedSpec)

/-- ITS FALSE NEIGHBOUR: 'it returns false'. Refute it at one input. -/
def fnExactCountBothTouchedWrong : ChangeSpec := { name := "fnExactCountBothTouched", fn := fun _ => fun
  | [d1, d2, d3, d4] => { results := [.lit (.bool false)], args := [d1, d2, d3, d4] }
  | _ => none }
def FnExactCountBothTouchedWrongFalsely : Prop := fnExactCountBothTouchedRow.holds Try.pinned (OpenSpec.ofChange fnExactCountBothTouchedWrong)

/-- 'laws.FnExactNeverBehindOfRank': WHATEVER THE INPUT: true; the input reads as it did. -/
def fnExactNeverBehindOfRankSpec : ChangeSpec := { name := "fnExactNeverBehindOfRank", fn := fun _ => fun
  | [d1, d2, d3, d4] => { results := [.lit (.bool true)], args := [d1, d2, d3, d4] }
  | _ => none }
def fnExactNeverBehindOfRankRow : OpenClaim := { program := "ytblofikjcmjaeaa", sum := "a0ff84412b0fe31a1aa404076d445f37b73f19efaa92a0a88d933405136161ac", func := "loop.example/g01218/laws.FnExactNeverBehindOfRank", spec := "fnExactNeverBehindOfRank", unfollowed := true, recurses := true, plainKeys := false, apart := false }
def FnExactNeverBehindOfRankSaid : Prop := fnExactNeverBehindOfRankRow.holds Try.pinned (OpenSpec.ofChange fnExactNeverBehindOfRankSpec)

/-- ITS FALSE NEIGHBOUR: 'it returns false'. Refute it at one input. -/
def fnExactNeverBehindOfRankWrong : ChangeSpec := { name := "fnExactNeverBehindOfRank", fn := fun _ => fun
  | [d1, d2, d3, d4] => { results := [.lit (.bool false)], args := [d1, d2, d3, d4] }
  | _ => none }
def FnExactNeverBehindOfRankWrongFalsely : Prop := fnExactNeverBehindOfRankRow.holds Try.pinned (OpenSpec.ofChange fnExactNeverBehindOfRankWrong)

/-- 'laws.FnExactAllNeverBehind': WHATEVER THE INPUT: true; the input reads as it did. -/
def fnExactAllNeverBehindSpec : ChangeSpec := { name := "fnExactAllNeverBehind", fn := fun _ => fun
  | [d1, d2, d3] => { results := [.lit (.bool true)], args := [d1, d2, d3] }
  | _ => none }
def fnExactAllNeverBehindRow : OpenClaim := { program := "ytblofikjcmjaeaa", sum := "a0ff84412b0fe31a1aa404076d445f37b73f19efaa92a0a88d933405136161ac", func := "loop.example/g01218/laws.FnExactAllNeverBehind", spec := "fnExactAllNeverBehind", unfollowed := true, recurses := true, plainKeys := false, apart := false }
def FnExactAllNeverBehindSaid : Prop := fnExactAllNeverBehindRow.holds Try.pinned (OpenSpec.ofChange fnExactAllNeverBehindSpec)

/-- ITS FALSE NEIGHBOUR: 'it returns false'. Refute it at one input. -/
def fnExactAllNeverBehindWrong : ChangeSpec := { name := "fnExactAllNeverBehind", fn := fun _ => fun
  | [d1, d2, d3] => { results := [.lit (.bool false)], args := [d1, d2, d3] }
  | _ => none }
def FnExactAllNeverBehindWrongFalsely : Prop := fnExactAllNeverBehindRow.holds Try.pinned (OpenSpec.ofChange fnExactAllNeverBehindWrong)

/-- 'laws.FnExactAllAhead': WHATEVER THE INPUT: true; the input reads as it did. -/
def fnExactAllAheadSpec : ChangeSpec := { name := "fnExactAllAhead", fn := fun _ => fun
  | [d1, d2, d3] => { results := [.lit (.bool true)], args := [d1, d2, d3] }
  | _ => none }
def fnExactAllAheadRow : OpenClaim := { program := "ytblofikjcmjaeaa", sum := "a0ff84412b0fe31a1aa404076d445f37b73f19efaa92a0a88d933405136161ac", func := "loop.example/g01218/laws.FnExactAllAhead", spec := "fnExactAllAhead", unfollowed := true, recurses := true, plainKeys := false, apart := false }
def FnExactAllAheadSaid : Prop := fnExactAllAheadRow.holds Try.pinned (OpenSpec.ofChange fnExactAllAheadSpec)

/-- ITS FALSE NEIGHBOUR: 'it returns false'. Refute it at one input. -/
def fnExactAllAheadWrong : ChangeSpec := { name := "fnExactAllAhead", fn := fun _ => fun
  | [d1, d2, d3] => { results := [.lit (.bool false)], args := [d1, d2, d3] }
  | _ => none }
def FnExactAllAheadWrongFalsely : Prop := fnExactAllAheadRow.holds Try.pinned (OpenSpec.ofChange fnExactAllAheadWrong)

/-- 'laws.FnExactAllBetween': WHATEVER THE INPUT: true; the input reads as it did. -/
def fnExactAllBetweenSpec : ChangeSpec := { name := "fnExactAllBetween", fn := fun _ => fun
  | [d1, d2, d3, d4] => { results := [.lit (.bool true)], args := [d1, d2, d3, d4] }
  | _ => none }
def fnExactAllBetweenRow : OpenClaim := { program := "ytblofikjcmjaeaa", sum := "a0ff84412b0fe31a1aa404076d445f37b73f19efaa92a0a88d933405136161ac", func := "loop.example/g01218/laws.FnExactAllBetween", spec := "fnExactAllBetween", unfollowed := true, recurses := true, plainKeys := false, apart := false }
def FnExactAllBetweenSaid : Prop := fnExactAllBetweenRow.holds Try.pinned (OpenSpec.ofChange fnExactAllBetweenSpec)

/-- ITS FALSE NEIGHBOUR: 'it returns false'. Refute it at one input. -/
def fnExactAllBetweenWrong : ChangeSpec := { name := "fnExactAllBetween", fn := fun _ => fun
  | [d1, d2, d3, d4] => { results := [.lit (.bool false)], args := [d1, d2, d3, d4] }
  | _ => none }
def FnExactAllBetweenWrongFalsely : Prop := fnExactAllBetweenRow.holds Try.pinned (OpenSpec.ofChange fnExactAllBetweenWrong)

/-- 'laws.FnExactRankOfTree': WHATEVER THE INPUT: true; the input reads as it did. -/
def fnExactRankOfTreeSpec : ChangeSpec := { name := "fnExactRankOfTree", fn := fun _ => fun
  | [d] => { results := [.lit (.bool true)], args := [d] }
  | _ => none }
def fnExactRankOfTreeRow : OpenClaim := { program := "ytblofikjcmjaeaa", sum := "a0ff84412b0fe31a1aa404076d445f37b73f19efaa92a0a88d933405136161ac", func := "loop.example/g01218/laws.FnExactRankOfTree", spec := "fnExactRankOfTree", unfollowed := true, recurses := true, plainKeys := false, apart := false }
def FnExactRankOfTreeSaid : Prop := fnExactRankOfTreeRow.holds Try.pinned (OpenSpec.ofChange fnExactRankOfTreeSpec)

/-- ITS FALSE NEIGHBOUR: 'it returns false'. Refute it at one input. -/
def fnExactRankOfTreeWrong : ChangeSpec := { name := "fnExactRankOfTree", fn := fun _ => fun
  | [d] => { results := [.lit (.bool false)], args := [d] }
  | _ => none }
def FnExactRankOfTreeWrongFalsely : Prop := fnExactRankOfTreeRow.holds Try.pinned (OpenSpec.ofChange fnExactRankOfTreeWrong)

/-- 'laws.FnExactAllTrees': WHATEVER THE INPUT: true; the input reads as it did. -/
def fnExactAllTreesSpec : ChangeSpec := { name := "fnExactAllTrees", fn := fun _ => fun
  | [d] => { results := [.lit (.bool true)], args := [d] }
  | _ => none }
def fnExactAllTreesRow : OpenClaim := { program := "ytblofikjcmjaeaa", sum := "a0ff84412b0fe31a1aa404076d445f37b73f19efaa92a0a88d933405136161ac", func := "loop.example/g01218/laws.FnExactAllTrees", spec := "fnExactAllTrees", recurses := true, plainKeys := false, apart := false }
def FnExactAllTreesSaid : Prop := fnExactAllTreesRow.holds Try.pinned (OpenSpec.ofChange fnExactAllTreesSpec)

/-- ITS FALSE NEIGHBOUR: 'it returns false'. Refute it at one input. -/
def fnExactAllTreesWrong : ChangeSpec := { name := "fnExactAllTrees", fn := fun _ => fun
  | [d] => { results := [.lit (.bool false)], args := [d] }
  | _ => none }
def FnExactAllTreesWrongFalsely : Prop := fnExactAllTreesRow.holds Try.pinned (OpenSpec.ofChange fnExactAllTreesWrong)

/-- 'laws.FnExactCountForests': WHATEVER THE INPUT: true; the input reads as it did. -/
def fnExactCountForestsSpec : ChangeSpec := { name := "fnExactCountForests", fn := fun _ => fun
  | [d] => { results := [.lit (.bool true)], args := [d] }
  | _ => none }
def fnExactCountForestsRow : OpenClaim := { program := "ytblofikjcmjaeaa", sum := "a0ff84412b0fe31a1aa404076d445f37b73f19efaa92a0a88d933405136161ac", func := "loop.example/g01218/laws.FnExactCountForests", spec := "fnExactCountForests", plainKeys := false, apart := false }
def FnExactCountForestsSaid : Prop := fnExactCountForestsRow.holds Try.pinned (OpenSpec.ofChange fnExactCountForestsSpec)

/-- ITS FALSE NEIGHBOUR: 'it returns false'. Refute it at one input. -/
def fnExactCountForestsWrong : ChangeSpec := { name := "fnExactCountForests", fn := fun _ => fun
  | [d] => { results := [.lit (.bool false)], args := [d] }
  | _ => none }
def FnExactCountForestsWrongFalsely : Prop := fnExactCountForestsRow.holds Try.pinned (OpenSpec.ofChange fnExactCountForestsWrong)

/-- 'laws.FnExactFirstForest': WHATEVER THE INPUT: true; the input reads as it did. -/
def fnExactFirstForestSpec : ChangeSpec := { name := "fnExactFirstForest", fn := fun _ => fun
  | [d] => { results := [.lit (.bool true)], args := [d] }
  | _ => none }
def fnExactFirstForestRow : OpenClaim := { program := "ytblofikjcmjaeaa", sum := "a0ff84412b0fe31a1aa404076d445f37b73f19efaa92a0a88d933405136161ac", func := "loop.example/g01218/laws.FnExactFirstForest", spec := "fnExactFirstForest", plainKeys := false, apart := false }
def FnExactFirstForestSaid : Prop := fnExactFirstForestRow.holds Try.pinned (OpenSpec.ofChange fnExactFirstForestSpec)

/-- ITS FALSE NEIGHBOUR: 'it returns false'. Refute it at one input. -/
def fnExactFirstForestWrong : ChangeSpec := { name := "fnExactFirstForest", fn := fun _ => fun
  | [d] => { results := [.lit (.bool false)], args := [d] }
  | _ => none }
def FnExactFirstForestWrongFalsely : Prop := fnExactFirstForestRow.holds Try.pinned (OpenSpec.ofChange fnExactFirstForestWrong)

/- THE SECOND FORM. 'bulk': how many values and letters a reading holds, each counted each time it is reached (what is shared counts as often as it is met; a slice's spare places count too). A statement '..UptoSaid' is the law's where the arguments, and the package variables that the reading takes, are together of bulk at most 1048576: NARROWER than '..Said'. Prove '..Said' where nothing that the law and all that it calls make is longer than what came in: it says more and counts as full. Else prove '..UptoSaid'. A law counts once. -/
mutual
def uptoBulk {H : Type} : DataW H → Nat
  | .lit (.string bytes) => bytes.length + 1
  | .lit _ => 1
  | .nil => 1
  | .ptr d => uptoBulk d + 1
  | .slice elems spare => uptoBulkAll elems + uptoBulkAll spare + 1
  | .agg parts => uptoBulkAll parts + 1
  | .iface _ d => uptoBulk d + 1
  | .map entries => uptoBulkEntries entries + 1
  | .held _ => 1
def uptoBulkAll {H : Type} : List (DataW H) → Nat
  | [] => 0
  | d :: r => uptoBulk d + uptoBulkAll r
def uptoBulkEntries {H : Type} : List (Lit × DataW H) → Nat
  | [] => 0
  | x :: r => uptoBulkEntry x + uptoBulkEntries r
def uptoBulkEntry {H : Type} : Lit × DataW H → Nat
  | (.string bytes, d) => bytes.length + uptoBulk d + 1
  | (_, d) => uptoBulk d + 1
 end
def uptoSmall : (H : Type) → List (DataW H) → Bool := fun _ ds => decide (uptoBulkAll ds ≤ 1048576)
def OpenSpec.upto (s : _root_.Go.ChangeSpec) : _root_.Go.OpenSpec := { _root_.Go.OpenSpec.ofChange s with cond := some uptoSmall }

/-- 'laws.FnExactPathOfRank', WHERE WHAT IT READS IS OF BULK AT MOST 1048576: true; the input reads as it did. -/
def fnExactPathOfRankUptoRow : OpenClaim := { program := "ytblofikjcmjaeaa", sum := "a0ff84412b0fe31a1aa404076d445f37b73f19efaa92a0a88d933405136161ac", func := "loop.example/g01218/laws.FnExactPathOfRank", spec := "fnExactPathOfRank", unfollowed := true, recurses := true, plainKeys := false, apart := false, narrowed := true }
def FnExactPathOfRankUptoSaid : Prop := fnExactPathOfRankUptoRow.holds Try.pinned (OpenSpec.upto fnExactPathOfRankSpec)

/-- 'laws.FnExactCountBetween', WHERE WHAT IT READS IS OF BULK AT MOST 1048576: true; the input reads as it did. -/
def fnExactCountBetweenUptoRow : OpenClaim := { program := "ytblofikjcmjaeaa", sum := "a0ff84412b0fe31a1aa404076d445f37b73f19efaa92a0a88d933405136161ac", func := "loop.example/g01218/laws.FnExactCountBetween", spec := "fnExactCountBetween", unfollowed := true, recurses := true, plainKeys := false, apart := false, narrowed := true }
def FnExactCountBetweenUptoSaid : Prop := fnExactCountBetweenUptoRow.holds Try.pinned (OpenSpec.upto fnExactCountBetweenSpec)

/-- 'laws.FnExactCountByHighest', WHERE WHAT IT READS IS OF BULK AT MOST 1048576: true; the input reads as it did. -/
def fnExactCountByHighestUptoRow : OpenClaim := { program := "ytblofikjcmjaeaa", sum := "a0ff84412b0fe31a1aa404076d445f37b73f19efaa92a0a88d933405136161ac", func := "loop.example/g01218/laws.FnExactCountByHighest", spec := "fnExactCountByHighest", plainKeys := false, apart := false, narrowed := true }
def FnExactCountByHighestUptoSaid : Prop := fnExactCountByHighestUptoRow.holds Try.pinned (OpenSpec.upto fnExactCountByHighestSpec)

/-- 'laws.FnExactCountBothTouched', WHERE WHAT IT READS IS OF BULK AT MOST 1048576: true; the input reads as it did. -/
def fnExactCountBothTouchedUptoRow : OpenClaim := { program := "ytblofikjcmjaeaa", sum := "a0ff84412b0fe31a1aa404076d445f37b73f19efaa92a0a88d933405136161ac", func := "loop.example/g01218/laws.FnExactCountBothTouched", spec := "fnExactCountBothTouched", unfollowed := true, recurses := true, plainKeys := false, apart := false, narrowed := true }
def FnExactCountBothTouchedUptoSaid : Prop := fnExactCountBothTouchedUptoRow.holds Try.pinned (OpenSpec.upto fnExactCountBothTouchedSpec)

/-- 'laws.FnExactNeverBehindOfRank', WHERE WHAT IT READS IS OF BULK AT MOST 1048576: true; the input reads as it did. -/
def fnExactNeverBehindOfRankUptoRow : OpenClaim := { program := "ytblofikjcmjaeaa", sum := "a0ff84412b0fe31a1aa404076d445f37b73f19efaa92a0a88d933405136161ac", func := "loop.example/g01218/laws.FnExactNeverBehindOfRank", spec := "fnExactNeverBehindOfRank", unfollowed := true, recurses := true, plainKeys := false, apart := false, narrowed := true }
def FnExactNeverBehindOfRankUptoSaid : Prop := fnExactNeverBehindOfRankUptoRow.holds Try.pinned (OpenSpec.upto fnExactNeverBehindOfRankSpec)

/-- 'laws.FnExactAllNeverBehind', WHERE WHAT IT READS IS OF BULK AT MOST 1048576: true; the input reads as it did. -/
def fnExactAllNeverBehindUptoRow : OpenClaim := { program := "ytblofikjcmjaeaa", sum := "a0ff84412b0fe31a1aa404076d445f37b73f19efaa92a0a88d933405136161ac", func := "loop.example/g01218/laws.FnExactAllNeverBehind", spec := "fnExactAllNeverBehind", unfollowed := true, recurses := true, plainKeys := false, apart := false, narrowed := true }
def FnExactAllNeverBehindUptoSaid : Prop := fnExactAllNeverBehindUptoRow.holds Try.pinned (OpenSpec.upto fnExactAllNeverBehindSpec)

/-- 'laws.FnExactAllAhead', WHERE WHAT IT READS IS OF BULK AT MOST 1048576: true; the input reads as it did. -/
def fnExactAllAheadUptoRow : OpenClaim := { program := "ytblofikjcmjaeaa", sum := "a0ff84412b0fe31a1aa404076d445f37b73f19efaa92a0a88d933405136161ac", func := "loop.example/g01218/laws.FnExactAllAhead", spec := "fnExactAllAhead", unfollowed := true, recurses := true, plainKeys := false, apart := false, narrowed := true }
def FnExactAllAheadUptoSaid : Prop := fnExactAllAheadUptoRow.holds Try.pinned (OpenSpec.upto fnExactAllAheadSpec)

/-- 'laws.FnExactAllBetween', WHERE WHAT IT READS IS OF BULK AT MOST 1048576: true; the input reads as it did. -/
def fnExactAllBetweenUptoRow : OpenClaim := { program := "ytblofikjcmjaeaa", sum := "a0ff84412b0fe31a1aa404076d445f37b73f19efaa92a0a88d933405136161ac", func := "loop.example/g01218/laws.FnExactAllBetween", spec := "fnExactAllBetween", unfollowed := true, recurses := true, plainKeys := false, apart := false, narrowed := true }
def FnExactAllBetweenUptoSaid : Prop := fnExactAllBetweenUptoRow.holds Try.pinned (OpenSpec.upto fnExactAllBetweenSpec)

/-- 'laws.FnExactRankOfTree', WHERE WHAT IT READS IS OF BULK AT MOST 1048576: true; the input reads as it did. -/
def fnExactRankOfTreeUptoRow : OpenClaim := { program := "ytblofikjcmjaeaa", sum := "a0ff84412b0fe31a1aa404076d445f37b73f19efaa92a0a88d933405136161ac", func := "loop.example/g01218/laws.FnExactRankOfTree", spec := "fnExactRankOfTree", unfollowed := true, recurses := true, plainKeys := false, apart := false, narrowed := true }
def FnExactRankOfTreeUptoSaid : Prop := fnExactRankOfTreeUptoRow.holds Try.pinned (OpenSpec.upto fnExactRankOfTreeSpec)

/-- 'laws.FnExactAllTrees', WHERE WHAT IT READS IS OF BULK AT MOST 1048576: true; the input reads as it did. -/
def fnExactAllTreesUptoRow : OpenClaim := { program := "ytblofikjcmjaeaa", sum := "a0ff84412b0fe31a1aa404076d445f37b73f19efaa92a0a88d933405136161ac", func := "loop.example/g01218/laws.FnExactAllTrees", spec := "fnExactAllTrees", recurses := true, plainKeys := false, apart := false, narrowed := true }
def FnExactAllTreesUptoSaid : Prop := fnExactAllTreesUptoRow.holds Try.pinned (OpenSpec.upto fnExactAllTreesSpec)

/-- 'laws.FnExactCountForests', WHERE WHAT IT READS IS OF BULK AT MOST 1048576: true; the input reads as it did. -/
def fnExactCountForestsUptoRow : OpenClaim := { program := "ytblofikjcmjaeaa", sum := "a0ff84412b0fe31a1aa404076d445f37b73f19efaa92a0a88d933405136161ac", func := "loop.example/g01218/laws.FnExactCountForests", spec := "fnExactCountForests", plainKeys := false, apart := false, narrowed := true }
def FnExactCountForestsUptoSaid : Prop := fnExactCountForestsUptoRow.holds Try.pinned (OpenSpec.upto fnExactCountForestsSpec)

/-- 'laws.FnExactFirstForest', WHERE WHAT IT READS IS OF BULK AT MOST 1048576: true; the input reads as it did. -/
def fnExactFirstForestUptoRow : OpenClaim := { program := "ytblofikjcmjaeaa", sum := "a0ff84412b0fe31a1aa404076d445f37b73f19efaa92a0a88d933405136161ac", func := "loop.example/g01218/laws.FnExactFirstForest", spec := "fnExactFirstForest", plainKeys := false, apart := false, narrowed := true }
def FnExactFirstForestUptoSaid : Prop := fnExactFirstForestUptoRow.holds Try.pinned (OpenSpec.upto fnExactFirstForestSpec)

end Rows
end Go.Proofs.Ytblofikjcmjaeaa
