/-
  No cell of these rows narrows 'for every input' (looked for: loops, veiled, ifaces, maps, wideKeys, modest, calm, conditions, laid).
  DERIVED. THE GIVEN ROWS OF THIS SEAT. 9 by the template 'for every input the law returns true; each argument reads behind the call as it read before'; 0 by the template 'total and deterministic' (their statements: YtepheolianmkbaaTotals.lean).
  GIVEN WITH THE SEED: the statements are not yours to turn. If you find one false, say at which input.
  Laid BY PROGRAM, IN A SANDBOX (cutbox-rows.mjs): the forced cells as the released guide's own fill.sh prints them over the translation 7ce80cee9a8d8171… (all of the seat's roots in one cut). By AI agents, Wed Nov 11 2026. No macro, syntax, notation, axiom, sorry.
-/
import Derived.Test.YtepheolianmkbaaChecked
import GoSem.Claim
import GoSem.ClaimJoined
import GoSem.ClaimMapViews
import Derived.JoinedTies
import Derived.KernelRfl
namespace Go.Proofs.Ytepheolianmkbaa
/- THE CELL 'sum', in the pinned program and in every row, IS THE sha256 OF THE DUMP (.gsa) THAT YtepheolianmkbaaProg.lean LOADS. Nothing in Lean hashes anything: it is a label: what it is worth is what the hold of that sum in a sandbox is worth. -/
noncomputable def Try.pinned : Pinned := { name := "ytepheolianmkbaa", sum := "7ce80cee9a8d81717b6708788888518d8757fb3658dcd43f2a47f3659aacec8d", checked := Try.checked }
namespace Rows
def none {H : Type} : Left H := { results := [], args := [] }

/-- 'laws.FnExactIsForest': WHATEVER THE INPUT: true; the input reads as it did. -/
def fnExactIsForestSpec : ChangeSpec := { name := "fnExactIsForest", fn := fun _ => fun
  | [d] => { results := [.lit (.bool true)], args := [d] }
  | _ => none }
def fnExactIsForestRow : OpenClaim := { program := "ytepheolianmkbaa", sum := "7ce80cee9a8d81717b6708788888518d8757fb3658dcd43f2a47f3659aacec8d", func := "loop.example/g01218/laws.FnExactIsForest", spec := "fnExactIsForest", unfollowed := true, recurses := true, apart := false }
def FnExactIsForestSaid : Prop := fnExactIsForestRow.holds Try.pinned (OpenSpec.ofChange fnExactIsForestSpec)

/-- ITS FALSE NEIGHBOUR: 'it returns false'. Refute it at one input. -/
def fnExactIsForestWrong : ChangeSpec := { name := "fnExactIsForest", fn := fun _ => fun
  | [d] => { results := [.lit (.bool false)], args := [d] }
  | _ => none }
def FnExactIsForestWrongFalsely : Prop := fnExactIsForestRow.holds Try.pinned (OpenSpec.ofChange fnExactIsForestWrong)

/-- 'laws.FnExactRotateList': WHATEVER THE INPUT: true; the input reads as it did. -/
def fnExactRotateListSpec : ChangeSpec := { name := "fnExactRotateList", fn := fun _ => fun
  | [d1, d2] => { results := [.lit (.bool true)], args := [d1, d2] }
  | _ => none }
def fnExactRotateListRow : OpenClaim := { program := "ytepheolianmkbaa", sum := "7ce80cee9a8d81717b6708788888518d8757fb3658dcd43f2a47f3659aacec8d", func := "loop.example/g01218/laws.FnExactRotateList", spec := "fnExactRotateList", unfollowed := true, recurses := true, apart := false }
def FnExactRotateListSaid : Prop := fnExactRotateListRow.holds Try.pinned (OpenSpec.ofChange fnExactRotateListSpec)

/-- ITS FALSE NEIGHBOUR: 'it returns false'. Refute it at one input. -/
def fnExactRotateListWrong : ChangeSpec := { name := "fnExactRotateList", fn := fun _ => fun
  | [d1, d2] => { results := [.lit (.bool false)], args := [d1, d2] }
  | _ => none }
def FnExactRotateListWrongFalsely : Prop := fnExactRotateListRow.holds Try.pinned (OpenSpec.ofChange fnExactRotateListWrong)

/-- 'laws.FnExactGoodRotations': WHATEVER THE INPUT: true; the input reads as it did. -/
def fnExactGoodRotationsSpec : ChangeSpec := { name := "fnExactGoodRotations", fn := fun _ => fun
  | [d] => { results := [.lit (.bool true)], args := [d] }
  | _ => none }
def fnExactGoodRotationsRow : OpenClaim := { program := "ytepheolianmkbaa", sum := "7ce80cee9a8d81717b6708788888518d8757fb3658dcd43f2a47f3659aacec8d", func := "loop.example/g01218/laws.FnExactGoodRotations", spec := "fnExactGoodRotations", unfollowed := true, recurses := true, apart := false }
def FnExactGoodRotationsSaid : Prop := fnExactGoodRotationsRow.holds Try.pinned (OpenSpec.ofChange fnExactGoodRotationsSpec)

/-- ITS FALSE NEIGHBOUR: 'it returns false'. Refute it at one input. -/
def fnExactGoodRotationsWrong : ChangeSpec := { name := "fnExactGoodRotations", fn := fun _ => fun
  | [d] => { results := [.lit (.bool false)], args := [d] }
  | _ => none }
def FnExactGoodRotationsWrongFalsely : Prop := fnExactGoodRotationsRow.holds Try.pinned (OpenSpec.ofChange fnExactGoodRotationsWrong)

/-- 'laws.FnExactParentsOf': WHATEVER THE INPUT: true; the input reads as it did. -/
def fnExactParentsOfSpec : ChangeSpec := { name := "fnExactParentsOf", fn := fun _ => fun
  | [d] => { results := [.lit (.bool true)], args := [d] }
  | _ => none }
def fnExactParentsOfRow : OpenClaim := { program := "ytepheolianmkbaa", sum := "7ce80cee9a8d81717b6708788888518d8757fb3658dcd43f2a47f3659aacec8d", func := "loop.example/g01218/laws.FnExactParentsOf", spec := "fnExactParentsOf", unfollowed := true, recurses := true, apart := false }
def FnExactParentsOfSaid : Prop := fnExactParentsOfRow.holds Try.pinned (OpenSpec.ofChange fnExactParentsOfSpec)

/-- ITS FALSE NEIGHBOUR: 'it returns false'. Refute it at one input. -/
def fnExactParentsOfWrong : ChangeSpec := { name := "fnExactParentsOf", fn := fun _ => fun
  | [d] => { results := [.lit (.bool false)], args := [d] }
  | _ => none }
def FnExactParentsOfWrongFalsely : Prop := fnExactParentsOfRow.holds Try.pinned (OpenSpec.ofChange fnExactParentsOfWrong)

/-- 'laws.FnExactPathOfTree': WHATEVER THE INPUT: true; the input reads as it did. -/
def fnExactPathOfTreeSpec : ChangeSpec := { name := "fnExactPathOfTree", fn := fun _ => fun
  | [d] => { results := [.lit (.bool true)], args := [d] }
  | _ => none }
def fnExactPathOfTreeRow : OpenClaim := { program := "ytepheolianmkbaa", sum := "7ce80cee9a8d81717b6708788888518d8757fb3658dcd43f2a47f3659aacec8d", func := "loop.example/g01218/laws.FnExactPathOfTree", spec := "fnExactPathOfTree", unfollowed := true, recurses := true, apart := false }
def FnExactPathOfTreeSaid : Prop := fnExactPathOfTreeRow.holds Try.pinned (OpenSpec.ofChange fnExactPathOfTreeSpec)

/-- ITS FALSE NEIGHBOUR: 'it returns false'. Refute it at one input. -/
def fnExactPathOfTreeWrong : ChangeSpec := { name := "fnExactPathOfTree", fn := fun _ => fun
  | [d] => { results := [.lit (.bool false)], args := [d] }
  | _ => none }
def FnExactPathOfTreeWrongFalsely : Prop := fnExactPathOfTreeRow.holds Try.pinned (OpenSpec.ofChange fnExactPathOfTreeWrong)

/-- 'laws.FnExactDepthsOf': WHATEVER THE INPUT: true; the input reads as it did. -/
def fnExactDepthsOfSpec : ChangeSpec := { name := "fnExactDepthsOf", fn := fun _ => fun
  | [d] => { results := [.lit (.bool true)], args := [d] }
  | _ => none }
def fnExactDepthsOfRow : OpenClaim := { program := "ytepheolianmkbaa", sum := "7ce80cee9a8d81717b6708788888518d8757fb3658dcd43f2a47f3659aacec8d", func := "loop.example/g01218/laws.FnExactDepthsOf", spec := "fnExactDepthsOf", unfollowed := true, recurses := true, apart := false }
def FnExactDepthsOfSaid : Prop := fnExactDepthsOfRow.holds Try.pinned (OpenSpec.ofChange fnExactDepthsOfSpec)

/-- ITS FALSE NEIGHBOUR: 'it returns false'. Refute it at one input. -/
def fnExactDepthsOfWrong : ChangeSpec := { name := "fnExactDepthsOf", fn := fun _ => fun
  | [d] => { results := [.lit (.bool false)], args := [d] }
  | _ => none }
def FnExactDepthsOfWrongFalsely : Prop := fnExactDepthsOfRow.holds Try.pinned (OpenSpec.ofChange fnExactDepthsOfWrong)

/-- 'laws.FnExactMirrorForest': WHATEVER THE INPUT: true; the input reads as it did. -/
def fnExactMirrorForestSpec : ChangeSpec := { name := "fnExactMirrorForest", fn := fun _ => fun
  | [d] => { results := [.lit (.bool true)], args := [d] }
  | _ => none }
def fnExactMirrorForestRow : OpenClaim := { program := "ytepheolianmkbaa", sum := "7ce80cee9a8d81717b6708788888518d8757fb3658dcd43f2a47f3659aacec8d", func := "loop.example/g01218/laws.FnExactMirrorForest", spec := "fnExactMirrorForest", unfollowed := true, recurses := true, apart := false }
def FnExactMirrorForestSaid : Prop := fnExactMirrorForestRow.holds Try.pinned (OpenSpec.ofChange fnExactMirrorForestSpec)

/-- ITS FALSE NEIGHBOUR: 'it returns false'. Refute it at one input. -/
def fnExactMirrorForestWrong : ChangeSpec := { name := "fnExactMirrorForest", fn := fun _ => fun
  | [d] => { results := [.lit (.bool false)], args := [d] }
  | _ => none }
def FnExactMirrorForestWrongFalsely : Prop := fnExactMirrorForestRow.holds Try.pinned (OpenSpec.ofChange fnExactMirrorForestWrong)

/-- 'laws.FnExactTreesOf': WHATEVER THE INPUT: true; the input reads as it did. -/
def fnExactTreesOfSpec : ChangeSpec := { name := "fnExactTreesOf", fn := fun _ => fun
  | [d] => { results := [.lit (.bool true)], args := [d] }
  | _ => none }
def fnExactTreesOfRow : OpenClaim := { program := "ytepheolianmkbaa", sum := "7ce80cee9a8d81717b6708788888518d8757fb3658dcd43f2a47f3659aacec8d", func := "loop.example/g01218/laws.FnExactTreesOf", spec := "fnExactTreesOf", unfollowed := true, recurses := true, apart := false }
def FnExactTreesOfSaid : Prop := fnExactTreesOfRow.holds Try.pinned (OpenSpec.ofChange fnExactTreesOfSpec)

/-- ITS FALSE NEIGHBOUR: 'it returns false'. Refute it at one input. -/
def fnExactTreesOfWrong : ChangeSpec := { name := "fnExactTreesOf", fn := fun _ => fun
  | [d] => { results := [.lit (.bool false)], args := [d] }
  | _ => none }
def FnExactTreesOfWrongFalsely : Prop := fnExactTreesOfRow.holds Try.pinned (OpenSpec.ofChange fnExactTreesOfWrong)

/-- 'laws.FnExactPathOfRuns': WHATEVER THE INPUT: true; the input reads as it did. -/
def fnExactPathOfRunsSpec : ChangeSpec := { name := "fnExactPathOfRuns", fn := fun _ => fun
  | [d] => { results := [.lit (.bool true)], args := [d] }
  | _ => none }
def fnExactPathOfRunsRow : OpenClaim := { program := "ytepheolianmkbaa", sum := "7ce80cee9a8d81717b6708788888518d8757fb3658dcd43f2a47f3659aacec8d", func := "loop.example/g01218/laws.FnExactPathOfRuns", spec := "fnExactPathOfRuns", inPlace := ["internal/abi.NoEscape", "internal/bytealg.MakeNoZero"], apart := false }
def FnExactPathOfRunsSaid : Prop := fnExactPathOfRunsRow.holds Try.pinned (OpenSpec.ofChange fnExactPathOfRunsSpec)

/-- ITS FALSE NEIGHBOUR: 'it returns false'. Refute it at one input. -/
def fnExactPathOfRunsWrong : ChangeSpec := { name := "fnExactPathOfRuns", fn := fun _ => fun
  | [d] => { results := [.lit (.bool false)], args := [d] }
  | _ => none }
def FnExactPathOfRunsWrongFalsely : Prop := fnExactPathOfRunsRow.holds Try.pinned (OpenSpec.ofChange fnExactPathOfRunsWrong)

/- THE SECOND FORM. 'bulk': how many values and letters a reading holds, each counted each time it is reached (what is shared counts as often as it is met; a slice's spare places count too). A statement '..UptoSaid' is the law's where the arguments, and the package variables that the reading takes, are together of bulk at most 1048576: NARROWER than '..Said'. Prove '..Said' where nothing that the law and all that it calls make is longer than what came in: it says more and counts as full. Else prove '..UptoSaid'. A law counts once. -/
mutual
def uptoBulk {H : Type} : DataW H → Nat
  | .lit (.string bytes) => bytes.length + 1
  | .lit _ => 1
  | .nil => 1
  | .ptr d => uptoBulk d + 1
  | .slice elems spare => uptoBulkAll elems + uptoBulkAll spare + 1
  | .agg parts => uptoBulkAll parts + 1
  | .iface _ d => uptoBulk d + 1
  | .map entries => uptoBulkEntries entries + 1
  | .held _ => 1
def uptoBulkAll {H : Type} : List (DataW H) → Nat
  | [] => 0
  | d :: r => uptoBulk d + uptoBulkAll r
def uptoBulkEntries {H : Type} : List (Lit × DataW H) → Nat
  | [] => 0
  | x :: r => uptoBulkEntry x + uptoBulkEntries r
def uptoBulkEntry {H : Type} : Lit × DataW H → Nat
  | (.string bytes, d) => bytes.length + uptoBulk d + 1
  | (_, d) => uptoBulk d + 1
 end
def uptoSmall : (H : Type) → List (DataW H) → Bool := fun _ ds => decide (uptoBulkAll ds ≤ 1048576)
def OpenSpec.upto (s : _root_.Go.ChangeSpec) : _root_.Go.OpenSpec := { _root_.Go.OpenSpec.ofChange s with cond := some uptoSmall }

/-- 'laws.FnExactIsForest', WHERE WHAT IT READS IS OF BULK AT MOST 1048576: true; the input reads as it did. -/
def fnExactIsForestUptoRow : OpenClaim := { program := "ytepheolianmkbaa", sum := "7ce80cee9a8d81717b6708788888518d8757fb3658dcd43f2a47f3659aacec8d", func := "loop.example/g01218/laws.FnExactIsForest", spec := "fnExactIsForest", unfollowed := true, recurses := true, apart := false, narrowed := true }
def FnExactIsForestUptoSaid : Prop := fnExactIsForestUptoRow.holds Try.pinned (OpenSpec.upto fnExactIsForestSpec)

/-- 'laws.FnExactRotateList', WHERE WHAT IT READS IS OF BULK AT MOST 1048576: true; the input reads as it did. -/
def fnExactRotateListUptoRow : OpenClaim := { program := "ytepheolianmkbaa", sum := "7ce80cee9a8d81717b6708788888518d8757fb3658dcd43f2a47f3659aacec8d", func := "loop.example/g01218/laws.FnExactRotateList", spec := "fnExactRotateList", unfollowed := true, recurses := true, apart := false, narrowed := true }
def FnExactRotateListUptoSaid : Prop := fnExactRotateListUptoRow.holds Try.pinned (OpenSpec.upto fnExactRotateListSpec)

/-- 'laws.FnExactGoodRotations', WHERE WHAT IT READS IS OF BULK AT MOST 1048576: true; the input reads as it did. -/
def fnExactGoodRotationsUptoRow : OpenClaim := { program := "ytepheolianmkbaa", sum := "7ce80cee9a8d81717b6708788888518d8757fb3658dcd43f2a47f3659aacec8d", func := "loop.example/g01218/laws.FnExactGoodRotations", spec := "fnExactGoodRotations", unfollowed := true, recurses := true, apart := false, narrowed := true }
def FnExactGoodRotationsUptoSaid : Prop := fnExactGoodRotationsUptoRow.holds Try.pinned (OpenSpec.upto fnExactGoodRotationsSpec)

/-- 'laws.FnExactParentsOf', WHERE WHAT IT READS IS OF BULK AT MOST 1048576: true; the input reads as it did. -/
def fnExactParentsOfUptoRow : OpenClaim := { program := "ytepheolianmkbaa", sum := "7ce80cee9a8d81717b6708788888518d8757fb3658dcd43f2a47f3659aacec8d", func := "loop.example/g01218/laws.FnExactParentsOf", spec := "fnExactParentsOf", unfollowed := true, recurses := true, apart := false, narrowed := true }
def FnExactParentsOfUptoSaid : Prop := fnExactParentsOfUptoRow.holds Try.pinned (OpenSpec.upto fnExactParentsOfSpec)

/-- 'laws.FnExactPathOfTree', WHERE WHAT IT READS IS OF BULK AT MOST 1048576: true; the input reads as it did. -/
def fnExactPathOfTreeUptoRow : OpenClaim := { program := "ytepheolianmkbaa", sum := "7ce80cee9a8d81717b6708788888518d8757fb3658dcd43f2a47f3659aacec8d", func := "loop.example/g01218/laws.FnExactPathOfTree", spec := "fnExactPathOfTree", unfollowed := true, recurses := true, apart := false, narrowed := true }
def FnExactPathOfTreeUptoSaid : Prop := fnExactPathOfTreeUptoRow.holds Try.pinned (OpenSpec.upto fnExactPathOfTreeSpec)

/-- 'laws.FnExactDepthsOf', WHERE WHAT IT READS IS OF BULK AT MOST 1048576: true; the input reads as it did. -/
def fnExactDepthsOfUptoRow : OpenClaim := { program := "ytepheolianmkbaa", sum := "7ce80cee9a8d81717b6708788888518d8757fb3658dcd43f2a47f3659aacec8d", func := "loop.example/g01218/laws.FnExactDepthsOf", spec := "fnExactDepthsOf", unfollowed := true, recurses := true, apart := false, narrowed := true }
def FnExactDepthsOfUptoSaid : Prop := fnExactDepthsOfUptoRow.holds Try.pinned (OpenSpec.upto fnExactDepthsOfSpec)

/-- 'laws.FnExactMirrorForest', WHERE WHAT IT READS IS OF BULK AT MOST 1048576: true; the input reads as it did. -/
def fnExactMirrorForestUptoRow : OpenClaim := { program := "ytepheolianmkbaa", sum := "7ce80cee9a8d81717b6708788888518d8757fb3658dcd43f2a47f3659aacec8d", func := "loop.example/g01218/laws.FnExactMirrorForest", spec := "fnExactMirrorForest", unfollowed := true, recurses := true, apart := false, narrowed := true }
def FnExactMirrorForestUptoSaid : Prop := fnExactMirrorForestUptoRow.holds Try.pinned (OpenSpec.upto fnExactMirrorForestSpec)

/-- 'laws.FnExactTreesOf', WHERE WHAT IT READS IS OF BULK AT MOST 1048576: true; the input reads as it did. -/
def fnExactTreesOfUptoRow : OpenClaim := { program := "ytepheolianmkbaa", sum := "7ce80cee9a8d81717b6708788888518d8757fb3658dcd43f2a47f3659aacec8d", func := "loop.example/g01218/laws.FnExactTreesOf", spec := "fnExactTreesOf", unfollowed := true, recurses := true, apart := false, narrowed := true }
def FnExactTreesOfUptoSaid : Prop := fnExactTreesOfUptoRow.holds Try.pinned (OpenSpec.upto fnExactTreesOfSpec)

/-- 'laws.FnExactPathOfRuns', WHERE WHAT IT READS IS OF BULK AT MOST 1048576: true; the input reads as it did. -/
def fnExactPathOfRunsUptoRow : OpenClaim := { program := "ytepheolianmkbaa", sum := "7ce80cee9a8d81717b6708788888518d8757fb3658dcd43f2a47f3659aacec8d", func := "loop.example/g01218/laws.FnExactPathOfRuns", spec := "fnExactPathOfRuns", inPlace := ["internal/abi.NoEscape", "internal/bytealg.MakeNoZero"], apart := false, narrowed := true }
def FnExactPathOfRunsUptoSaid : Prop := fnExactPathOfRunsUptoRow.holds Try.pinned (OpenSpec.upto fnExactPathOfRunsSpec)

end Rows
end Go.Proofs.Ytepheolianmkbaa
