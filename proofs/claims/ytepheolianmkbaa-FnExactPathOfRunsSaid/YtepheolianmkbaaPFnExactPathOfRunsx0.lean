/- The walk of the statement FnExactPathOfRuns: each Go function that it reaches does what the Lean function of its name says; printed by a program of this session. -/
import Derived.Test.YtepheolianmkbaaProg
import Derived.Below
import Derived.Deep.Draws
import Derived.Deep.AppendLies
import Derived.Maps.AppendAt
import Derived.OwnWalk
import Derived.Laws.BytesArg
import Derived.Laws.MakeOwn
import Derived.Laws.OwnMore
import Derived.Deep.OwnRows
import Derived.Tactics
import Derived.Lib.ConvBytes
import Derived.Laws.Slices
import Derived.WalkKit
import Derived.KernelRfl
import Derived.RowKit3
import Derived.Deep.LoopGhost
import Derived.Deep.QuietTactic
import Derived.BigQuiet
import Derived.WideLaws
import Derived.Deep.DeepCutAuto
import Derived.Deep.CutBlock
import Derived.Deep.RegionHeld3
import Derived.Laws.Rows
import Derived.Lib.AppendStr
import Derived.ArgAppend
import Derived.Laws.IdiomCopy
import Derived.OrdersHeld
import Derived.Laws.BitsLemmas
import Derived.RowKit
import Derived.Lib.SliceRun
import Derived.Shelf.Lays
import Derived.Shelf.Strings.Repeat
import Derived.Shelf.Strings.SlTrimAscii
import Derived.Test.YtepheolianmkbaaWWords
import Derived.Test.YtepheolianmkbaaWLast
import Derived.Test.YtepheolianmkbaaWTab
import Derived.Test.YtepheolianmkbaaWFour
import Derived.Test.YtepheolianmkbaaWQPut
import Derived.Test.YtepheolianmkbaaWApart
import Derived.Test.YtepheolianmkbaaWArr
import Derived.Test.YtepheolianmkbaaWZeros
import Derived.Test.YtepheolianmkbaaWFoot
import Derived.Test.YtepheolianmkbaaWKept
import Derived.Test.YtepheolianmkbaaWShare
import Derived.Test.YtepheolianmkbaaWN
import Derived.Test.YtepheolianmkbaaWFootNe
import Derived.Test.YtepheolianmkbaaWAt
import Derived.Test.YtepheolianmkbaaWEqStruct
import Derived.Test.YtepheolianmkbaaWRepsOne
import Derived.Test.YtepheolianmkbaaWInv
import Derived.Test.YtepheolianmkbaaWInvWords
import Derived.Test.YtepheolianmkbaaWGuard
import Derived.Test.YtepheolianmkbaaWNEv
import Derived.Test.YtepheolianmkbaaWMore
namespace Go.Proofs.Ytepheolianmkbaa.PFnExactPathOfRuns
open Go.RowKit Go.Proofs.YtepheolianmkbaaW.PrintWords Go.Proofs.YtepheolianmkbaaW.PrintLast Go.Proofs.YtepheolianmkbaaW.PrintMore
attribute [local go_sem] max2_int min2_int max_two min_two max_three min_three max_four min_four   -- for this text's walks alone
set_option linter.unusedVariables false
set_option linter.unusedSimpArgs false



def errW : Option Int → Value
  | none => .nilIface
  | some c => .iface 0 (.int .i64 c)
theorem errW_none : errW none = .nilIface := rfl
theorem errW_some (c : Int) : errW (some c) = .iface 0 (.int .i64 c) := rfl

theorem info3 : (Try.prog.info? 3).map (fun i => (i.zero, i.size, i.bytes)) = some (some (.int .i64 0), 1, 8) := by kernel_rfl
theorem info5 : (Try.prog.info? 5).map (fun i => (i.zero, i.size, i.bytes)) = some (some (.int .u8 0), 1, 1) := by kernel_rfl
theorem ownB_ (a : Option Addr) (n c : Nat) : (Value.slice a n c).ownBlock = a.map (·.block) := by cases a <;> rfl
-- the values' own types

end Go.Proofs.Ytepheolianmkbaa.PFnExactPathOfRuns
