/-
  No cell of these rows narrows 'for every input' (looked for: loops, veiled, ifaces, maps, wideKeys, modest, calm, conditions, laid).
  DERIVED. THE GIVEN ROWS OF THIS SEAT. 3 by the template 'for every input the law returns true; each argument reads behind the call as it read before'; 0 by the template 'total and deterministic' (their statements: YtlogghfgfokijaaTotals.lean).
  GIVEN WITH THE SEED: the statements are not yours to turn. If you find one false, say at which input.
  Laid BY PROGRAM, IN A SANDBOX (cutbox-rows.mjs): the forced cells as the released guide's own fill.sh prints them over the translation 6ceda86fecb9dc09… (all of the seat's roots in one cut). By AI agents, Wed Nov 11 2026. No macro, syntax, notation, axiom, sorry.
-/
import Derived.Test.YtlogghfgfokijaaChecked
import GoSem.Claim
import GoSem.ClaimJoined
import GoSem.ClaimMapViews
import Derived.JoinedTies
import Derived.KernelRfl
namespace Go.Proofs.Ytlogghfgfokijaa
/- THE CELL 'sum', in the pinned program and in every row, IS THE sha256 OF THE DUMP (.gsa) THAT YtlogghfgfokijaaProg.lean LOADS. Nothing in Lean hashes anything: it is a label: what it is worth is what the hold of that sum in a sandbox is worth. -/
noncomputable def Try.pinned : Pinned := { name := "ytlogghfgfokijaa", sum := "6ceda86fecb9dc098a3007db2cd14d3c21558a5b80e760e5c69416f490a0d912", checked := Try.checked }
namespace Rows
def none {H : Type} : Left H := { results := [], args := [] }

/-- 'laws.FnExactTreesOf': WHATEVER THE INPUT: true; the input reads as it did. -/
def fnExactTreesOfSpec : ChangeSpec := { name := "fnExactTreesOf", fn := fun _ => fun
  | [d] => { results := [.lit (.bool true)], args := [d] }
  | _ => none }
def fnExactTreesOfRow : OpenClaim := { program := "ytlogghfgfokijaa", sum := "6ceda86fecb9dc098a3007db2cd14d3c21558a5b80e760e5c69416f490a0d912", func := "loop.example/g01218/laws.FnExactTreesOf", spec := "fnExactTreesOf", unfollowed := true, recurses := true, apart := false }
def FnExactTreesOfSaid : Prop := fnExactTreesOfRow.holds Try.pinned (OpenSpec.ofChange fnExactTreesOfSpec)

/-- ITS FALSE NEIGHBOUR: 'it returns false'. Refute it at one input. -/
def fnExactTreesOfWrong : ChangeSpec := { name := "fnExactTreesOf", fn := fun _ => fun
  | [d] => { results := [.lit (.bool false)], args := [d] }
  | _ => none }
def FnExactTreesOfWrongFalsely : Prop := fnExactTreesOfRow.holds Try.pinned (OpenSpec.ofChange fnExactTreesOfWrong)

/-- 'laws.FnExactAllTrees': WHATEVER THE INPUT: true; the input reads as it did. -/
def fnExactAllTreesSpec : ChangeSpec := { name := "fnExactAllTrees", fn := fun _ => fun
  | [d] => { results := [.lit (.bool true)], args := [d] }
  | _ => none }
def fnExactAllTreesRow : OpenClaim := { program := "ytlogghfgfokijaa", sum := "6ceda86fecb9dc098a3007db2cd14d3c21558a5b80e760e5c69416f490a0d912", func := "loop.example/g01218/laws.FnExactAllTrees", spec := "fnExactAllTrees", recurses := true, apart := false }
def FnExactAllTreesSaid : Prop := fnExactAllTreesRow.holds Try.pinned (OpenSpec.ofChange fnExactAllTreesSpec)

/-- ITS FALSE NEIGHBOUR: 'it returns false'. Refute it at one input. -/
def fnExactAllTreesWrong : ChangeSpec := { name := "fnExactAllTrees", fn := fun _ => fun
  | [d] => { results := [.lit (.bool false)], args := [d] }
  | _ => none }
def FnExactAllTreesWrongFalsely : Prop := fnExactAllTreesRow.holds Try.pinned (OpenSpec.ofChange fnExactAllTreesWrong)

/-- 'laws.FnExactMirrorForest': WHATEVER THE INPUT: true; the input reads as it did. -/
def fnExactMirrorForestSpec : ChangeSpec := { name := "fnExactMirrorForest", fn := fun _ => fun
  | [d] => { results := [.lit (.bool true)], args := [d] }
  | _ => none }
def fnExactMirrorForestRow : OpenClaim := { program := "ytlogghfgfokijaa", sum := "6ceda86fecb9dc098a3007db2cd14d3c21558a5b80e760e5c69416f490a0d912", func := "loop.example/g01218/laws.FnExactMirrorForest", spec := "fnExactMirrorForest", unfollowed := true, recurses := true, apart := false }
def FnExactMirrorForestSaid : Prop := fnExactMirrorForestRow.holds Try.pinned (OpenSpec.ofChange fnExactMirrorForestSpec)

/-- ITS FALSE NEIGHBOUR: 'it returns false'. Refute it at one input. -/
def fnExactMirrorForestWrong : ChangeSpec := { name := "fnExactMirrorForest", fn := fun _ => fun
  | [d] => { results := [.lit (.bool false)], args := [d] }
  | _ => none }
def FnExactMirrorForestWrongFalsely : Prop := fnExactMirrorForestRow.holds Try.pinned (OpenSpec.ofChange fnExactMirrorForestWrong)

/- THE SECOND FORM. 'bulk': how many values and letters a reading holds, each counted each time it is reached (what is shared counts as often as it is met; a slice's spare places count too). A statement '..UptoSaid' is the law's where the arguments, and the package variables that the reading takes, are together of bulk at most 1048576: NARROWER than '..Said'. Prove '..Said' where nothing that the law and all that it calls make is longer than what came in: it says more and counts as full. Else prove '..UptoSaid'. A law counts once. -/
mutual
def uptoBulk {H : Type} : DataW H → Nat
  | .lit (.string bytes) => bytes.length + 1
  | .lit _ => 1
  | .nil => 1
  | .ptr d => uptoBulk d + 1
  | .slice elems spare => uptoBulkAll elems + uptoBulkAll spare + 1
  | .agg parts => uptoBulkAll parts + 1
  | .iface _ d => uptoBulk d + 1
  | .map entries => uptoBulkEntries entries + 1
  | .held _ => 1
def uptoBulkAll {H : Type} : List (DataW H) → Nat
  | [] => 0
  | d :: r => uptoBulk d + uptoBulkAll r
def uptoBulkEntries {H : Type} : List (Lit × DataW H) → Nat
  | [] => 0
  | x :: r => uptoBulkEntry x + uptoBulkEntries r
def uptoBulkEntry {H : Type} : Lit × DataW H → Nat
  | (.string bytes, d) => bytes.length + uptoBulk d + 1
  | (_, d) => uptoBulk d + 1
 end
def uptoSmall : (H : Type) → List (DataW H) → Bool := fun _ ds => decide (uptoBulkAll ds ≤ 1048576)
def OpenSpec.upto (s : _root_.Go.ChangeSpec) : _root_.Go.OpenSpec := { _root_.Go.OpenSpec.ofChange s with cond := some uptoSmall }

/-- 'laws.FnExactTreesOf', WHERE WHAT IT READS IS OF BULK AT MOST 1048576: true; the input reads as it did. -/
def fnExactTreesOfUptoRow : OpenClaim := { program := "ytlogghfgfokijaa", sum := "6ceda86fecb9dc098a3007db2cd14d3c21558a5b80e760e5c69416f490a0d912", func := "loop.example/g01218/laws.FnExactTreesOf", spec := "fnExactTreesOf", unfollowed := true, recurses := true, apart := false, narrowed := true }
def FnExactTreesOfUptoSaid : Prop := fnExactTreesOfUptoRow.holds Try.pinned (OpenSpec.upto fnExactTreesOfSpec)

/-- 'laws.FnExactAllTrees', WHERE WHAT IT READS IS OF BULK AT MOST 1048576: true; the input reads as it did. -/
def fnExactAllTreesUptoRow : OpenClaim := { program := "ytlogghfgfokijaa", sum := "6ceda86fecb9dc098a3007db2cd14d3c21558a5b80e760e5c69416f490a0d912", func := "loop.example/g01218/laws.FnExactAllTrees", spec := "fnExactAllTrees", recurses := true, apart := false, narrowed := true }
def FnExactAllTreesUptoSaid : Prop := fnExactAllTreesUptoRow.holds Try.pinned (OpenSpec.upto fnExactAllTreesSpec)

/-- 'laws.FnExactMirrorForest', WHERE WHAT IT READS IS OF BULK AT MOST 1048576: true; the input reads as it did. -/
def fnExactMirrorForestUptoRow : OpenClaim := { program := "ytlogghfgfokijaa", sum := "6ceda86fecb9dc098a3007db2cd14d3c21558a5b80e760e5c69416f490a0d912", func := "loop.example/g01218/laws.FnExactMirrorForest", spec := "fnExactMirrorForest", unfollowed := true, recurses := true, apart := false, narrowed := true }
def FnExactMirrorForestUptoSaid : Prop := fnExactMirrorForestUptoRow.holds Try.pinned (OpenSpec.upto fnExactMirrorForestSpec)

end Rows
end Go.Proofs.Ytlogghfgfokijaa
