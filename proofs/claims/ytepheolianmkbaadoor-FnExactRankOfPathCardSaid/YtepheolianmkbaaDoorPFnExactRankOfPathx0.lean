/- The walk of the statement FnExactRankOfPath: each Go function that it reaches does what the Lean function of its name says; printed by a program of this session. -/
import Derived.Test.YtepheolianmkbaaDoorProg
import Derived.Below
import Derived.Deep.Draws
import Derived.Deep.AppendLies
import Derived.Maps.AppendAt
import Derived.OwnWalk
import Derived.Laws.BytesArg
import Derived.Laws.MakeOwn
import Derived.Laws.OwnMore
import Derived.Deep.OwnRows
import Derived.Tactics
import Derived.Lib.ConvBytes
import Derived.Laws.Slices
import Derived.WalkKit
import Derived.KernelRfl
import Derived.RowKit3
import Derived.Deep.LoopGhost
import Derived.Deep.QuietTactic
import Derived.BigQuiet
import Derived.WideLaws
import Derived.Deep.DeepCutAuto
import Derived.Deep.CutBlock
import Derived.Deep.RegionHeld3
import Derived.Laws.Rows
import Derived.Lib.AppendStr
import Derived.ArgAppend
import Derived.Laws.IdiomCopy
import Derived.OrdersHeld
import Derived.Laws.BitsLemmas
import Derived.RowKit
import Derived.Shelf.Abstract
import Derived.Maps.OwnSet
import Derived.DeepKeys4
import Derived.Carry
import Derived.Laws.EntriesVeiled
import Derived.Shelf.Lays
import Derived.Shelf.Strings.Count
import Derived.Shelf.Strings.SlTrimAscii
import Derived.Test.YtepheolianmkbaaDoorWWords
import Derived.Test.YtepheolianmkbaaDoorWLast
import Derived.Test.YtepheolianmkbaaDoorWTab
import Derived.Test.YtepheolianmkbaaDoorWFour
import Derived.Test.YtepheolianmkbaaDoorWQPut
import Derived.Test.YtepheolianmkbaaDoorWApart
import Derived.Test.YtepheolianmkbaaDoorWArr
import Derived.Test.YtepheolianmkbaaDoorWZeros
import Derived.Test.YtepheolianmkbaaDoorWFoot
import Derived.Test.YtepheolianmkbaaDoorWKept
import Derived.Test.YtepheolianmkbaaDoorWShare
import Derived.Test.YtepheolianmkbaaDoorWN
import Derived.Test.YtepheolianmkbaaDoorWFootNe
import Derived.Test.YtepheolianmkbaaDoorWAt
import Derived.Test.YtepheolianmkbaaDoorWEqStruct
import Derived.Test.YtepheolianmkbaaDoorWRepsOne
import Derived.Test.YtepheolianmkbaaDoorWInv
import Derived.Test.YtepheolianmkbaaDoorWInvWords
import Derived.Test.YtepheolianmkbaaDoorWGuard
import Derived.Test.YtepheolianmkbaaDoorWNEv
import Derived.Test.YtepheolianmkbaaDoorWMore
namespace Go.Proofs.YtepheolianmkbaaDoor.PFnExactRankOfPath
open Go.RowKit Go.Proofs.YtepheolianmkbaaDoorW.PrintWords Go.Proofs.YtepheolianmkbaaDoorW.PrintLast Go.Proofs.YtepheolianmkbaaDoorW.PrintMore
attribute [local go_sem] max2_int min2_int max_two min_two max_three min_three max_four min_four   -- for this text's walks alone
set_option linter.unusedVariables false
set_option linter.unusedSimpArgs false



def errW : Option Int → Value
  | none => .nilIface
  | some c => .iface 0 (.int .i64 c)
theorem errW_none : errW none = .nilIface := rfl
theorem errW_some (c : Int) : errW (some c) = .iface 0 (.int .i64 c) := rfl

theorem info3 : (Tryd.prog.info? 3).map (fun i => (i.zero, i.size, i.bytes)) = some (some (.int .i64 0), 1, 8) := by kernel_rfl
theorem ownB_ (a : Option Addr) (n c : Nat) : (Value.slice a n c).ownBlock = a.map (·.block) := by cases a <;> rfl
-- the values' own types

end Go.Proofs.YtepheolianmkbaaDoor.PFnExactRankOfPath
