/- The walk of the statement FnExactBackPath: each Go function that it reaches does what the Lean function of its name says; printed by a program of this session. -/
import Derived.Test.YtlogghfgfokijaaDoorProg
import Derived.Below
import Derived.Deep.Draws
import Derived.Deep.AppendLies
import Derived.Maps.AppendAt
import Derived.OwnWalk
import Derived.Laws.BytesArg
import Derived.Laws.MakeOwn
import Derived.Laws.OwnMore
import Derived.Deep.OwnRows
import Derived.Tactics
import Derived.Lib.ConvBytes
import Derived.Laws.Slices
import Derived.WalkKit
import Derived.KernelRfl
import Derived.RowKit3
import Derived.Deep.LoopGhost
import Derived.Deep.QuietTactic
import Derived.BigQuiet
import Derived.WideLaws
import Derived.Deep.DeepCutAuto
import Derived.Deep.CutBlock
import Derived.Deep.RegionHeld3
import Derived.Laws.Rows
import Derived.Lib.AppendStr
import Derived.ArgAppend
import Derived.Laws.IdiomCopy
import Derived.OrdersHeld
import Derived.Laws.BitsLemmas
import Derived.RowKit
import Derived.Shelf.Lays
import Derived.Shelf.Strings.Count
import Derived.Tactics2
import Derived.Defers
import Derived.Laws.Pointers
import Derived.Laws.LoneSync
import Derived.RegionTactic
import Derived.RegionCalls
import Derived.Laws.NewBlocks
import Derived.Lib.SliceRun
import Derived.Shelf.SlicesE.Reverse
import Derived.Shelf.Strings.SlTrimAscii
import Derived.Test.YtlogghfgfokijaaDoorWWords
import Derived.Test.YtlogghfgfokijaaDoorWLast
import Derived.Test.YtlogghfgfokijaaDoorWTab
import Derived.Test.YtlogghfgfokijaaDoorWFour
import Derived.Test.YtlogghfgfokijaaDoorWQPut
import Derived.Test.YtlogghfgfokijaaDoorWApart
import Derived.Test.YtlogghfgfokijaaDoorWArr
import Derived.Test.YtlogghfgfokijaaDoorWZeros
import Derived.Test.YtlogghfgfokijaaDoorWFoot
import Derived.Test.YtlogghfgfokijaaDoorWKept
import Derived.Test.YtlogghfgfokijaaDoorWShare
import Derived.Test.YtlogghfgfokijaaDoorWN
import Derived.Test.YtlogghfgfokijaaDoorWFootNe
import Derived.Test.YtlogghfgfokijaaDoorWAt
import Derived.Test.YtlogghfgfokijaaDoorWEqStruct
import Derived.Test.YtlogghfgfokijaaDoorWRepsOne
import Derived.Test.YtlogghfgfokijaaDoorWInv
import Derived.Test.YtlogghfgfokijaaDoorWInvWords
import Derived.Test.YtlogghfgfokijaaDoorWGuard
import Derived.Test.YtlogghfgfokijaaDoorWNEv
import Derived.Test.YtlogghfgfokijaaDoorWMore
namespace Go.Proofs.YtlogghfgfokijaaDoor.PFnExactBackPath
open Go.RowKit Go.Proofs.YtlogghfgfokijaaDoorW.PrintWords Go.Proofs.YtlogghfgfokijaaDoorW.PrintLast Go.Proofs.YtlogghfgfokijaaDoorW.PrintMore
attribute [local go_sem] max2_int min2_int max_two min_two max_three min_three max_four min_four   -- for this text's walks alone
set_option linter.unusedVariables false
set_option linter.unusedSimpArgs false



def errW : Option Int → Value
  | none => .nilIface
  | some c => .iface 0 (.int .i64 c)
theorem errW_none : errW none = .nilIface := rfl
theorem errW_some (c : Int) : errW (some c) = .iface 0 (.int .i64 c) := rfl

theorem info5 : (Tryd.prog.info? 5).map (fun i => (i.zero, i.size, i.bytes)) = some (some (.int .u8 0), 1, 1) := by kernel_rfl
theorem ownB_ (a : Option Addr) (n c : Nat) : (Value.slice a n c).ownBlock = a.map (·.block) := by cases a <;> rfl
-- the values' own types

end Go.Proofs.YtlogghfgfokijaaDoor.PFnExactBackPath
