/- The walk of the statement FnExactRankOfTree: each Go function that it reaches does what the Lean function of its name says; printed by a program of this session. -/
import Derived.Test.YtblofikjcmjaeaaProg
import Derived.Below
import Derived.Deep.Draws
import Derived.Deep.AppendLies
import Derived.Maps.AppendAt
import Derived.OwnWalk
import Derived.Laws.BytesArg
import Derived.Laws.MakeOwn
import Derived.Laws.OwnMore
import Derived.Deep.OwnRows
import Derived.Tactics
import Derived.Lib.ConvBytes
import Derived.Laws.Slices
import Derived.WalkKit
import Derived.KernelRfl
import Derived.RowKit3
import Derived.Deep.LoopGhost
import Derived.Deep.QuietTactic
import Derived.BigQuiet
import Derived.WideLaws
import Derived.Deep.DeepCutAuto
import Derived.Deep.CutBlock
import Derived.Deep.RegionHeld3
import Derived.Laws.Rows
import Derived.Lib.AppendStr
import Derived.ArgAppend
import Derived.Laws.IdiomCopy
import Derived.OrdersHeld
import Derived.Laws.BitsLemmas
import Derived.RowKit
import Derived.Lib.SliceRun
import Derived.Shelf.Abstract
import Derived.Maps.OwnSet
import Derived.DeepKeys4
import Derived.Carry
import Derived.Laws.EntriesVeiled
import Derived.Test.YtblofikjcmjaeaaWWords
import Derived.Test.YtblofikjcmjaeaaWLast
import Derived.Test.YtblofikjcmjaeaaWTab
import Derived.Test.YtblofikjcmjaeaaWFour
import Derived.Test.YtblofikjcmjaeaaWQPut
import Derived.Test.YtblofikjcmjaeaaWApart
import Derived.Test.YtblofikjcmjaeaaWArr
import Derived.Test.YtblofikjcmjaeaaWZeros
import Derived.Test.YtblofikjcmjaeaaWFoot
import Derived.Test.YtblofikjcmjaeaaWKept
import Derived.Test.YtblofikjcmjaeaaWShare
import Derived.Test.YtblofikjcmjaeaaWN
import Derived.Test.YtblofikjcmjaeaaWFootNe
import Derived.Test.YtblofikjcmjaeaaWAt
import Derived.Test.YtblofikjcmjaeaaWEqStruct
import Derived.Test.YtblofikjcmjaeaaWRepsOne
import Derived.Test.YtblofikjcmjaeaaWInv
import Derived.Test.YtblofikjcmjaeaaWInvWords
import Derived.Test.YtblofikjcmjaeaaWGuard
import Derived.Test.YtblofikjcmjaeaaWNEv
import Derived.Test.YtblofikjcmjaeaaWMore
namespace Go.Proofs.Ytblofikjcmjaeaa.PFnExactRankOfTree
open Go.RowKit Go.Proofs.YtblofikjcmjaeaaW.PrintWords Go.Proofs.YtblofikjcmjaeaaW.PrintLast Go.Proofs.YtblofikjcmjaeaaW.PrintMore
attribute [local go_sem] max2_int min2_int max_two min_two max_three min_three max_four min_four   -- for this text's walks alone
set_option linter.unusedVariables false
set_option linter.unusedSimpArgs false



def errW : Option Int → Value
  | none => .nilIface
  | some c => .iface 0 (.int .i64 c)
theorem errW_none : errW none = .nilIface := rfl
theorem errW_some (c : Int) : errW (some c) = .iface 0 (.int .i64 c) := rfl

theorem info3 : (Try.prog.info? 3).map (fun i => (i.zero, i.size, i.bytes)) = some (some (.int .i64 0), 1, 8) := by kernel_rfl
theorem ownB_ (a : Option Addr) (n c : Nat) : (Value.slice a n c).ownBlock = a.map (·.block) := by cases a <;> rfl
-- the values' own types

end Go.Proofs.Ytblofikjcmjaeaa.PFnExactRankOfTree
