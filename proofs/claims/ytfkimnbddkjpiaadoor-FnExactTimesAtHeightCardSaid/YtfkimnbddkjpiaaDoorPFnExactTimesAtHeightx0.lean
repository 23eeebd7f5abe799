/- The walk of the statement FnExactTimesAtHeight: each Go function that it reaches does what the Lean function of its name says; printed by a program of this session. -/
import Derived.Test.YtfkimnbddkjpiaaDoorProg
import Derived.Below
import Derived.Deep.Draws
import Derived.Deep.AppendLies
import Derived.Maps.AppendAt
import Derived.OwnWalk
import Derived.Laws.BytesArg
import Derived.Laws.MakeOwn
import Derived.Laws.OwnMore
import Derived.Deep.OwnRows
import Derived.Tactics
import Derived.Lib.ConvBytes
import Derived.Laws.Slices
import Derived.WalkKit
import Derived.KernelRfl
import Derived.RowKit3
import Derived.Deep.LoopGhost
import Derived.Deep.QuietTactic
import Derived.BigQuiet
import Derived.WideLaws
import Derived.Deep.DeepCutAuto
import Derived.Deep.CutBlock
import Derived.Deep.RegionHeld3
import Derived.Laws.Rows
import Derived.Lib.AppendStr
import Derived.ArgAppend
import Derived.Laws.IdiomCopy
import Derived.OrdersHeld
import Derived.Laws.BitsLemmas
import Derived.RowKit
import Derived.Shelf.Lays
import Derived.Shelf.Strings.SlTrimAscii
import Derived.Test.YtfkimnbddkjpiaaDoorWWords
import Derived.Test.YtfkimnbddkjpiaaDoorWLast
import Derived.Test.YtfkimnbddkjpiaaDoorWTab
import Derived.Test.YtfkimnbddkjpiaaDoorWFour
import Derived.Test.YtfkimnbddkjpiaaDoorWQPut
import Derived.Test.YtfkimnbddkjpiaaDoorWApart
import Derived.Test.YtfkimnbddkjpiaaDoorWArr
import Derived.Test.YtfkimnbddkjpiaaDoorWZeros
import Derived.Test.YtfkimnbddkjpiaaDoorWFoot
import Derived.Test.YtfkimnbddkjpiaaDoorWKept
import Derived.Test.YtfkimnbddkjpiaaDoorWShare
import Derived.Test.YtfkimnbddkjpiaaDoorWN
import Derived.Test.YtfkimnbddkjpiaaDoorWFootNe
import Derived.Test.YtfkimnbddkjpiaaDoorWAt
import Derived.Test.YtfkimnbddkjpiaaDoorWEqStruct
import Derived.Test.YtfkimnbddkjpiaaDoorWRepsOne
import Derived.Test.YtfkimnbddkjpiaaDoorWInv
import Derived.Test.YtfkimnbddkjpiaaDoorWInvWords
import Derived.Test.YtfkimnbddkjpiaaDoorWGuard
import Derived.Test.YtfkimnbddkjpiaaDoorWNEv
import Derived.Test.YtfkimnbddkjpiaaDoorWMore
namespace Go.Proofs.YtfkimnbddkjpiaaDoor.PFnExactTimesAtHeight
open Go.RowKit Go.Proofs.YtfkimnbddkjpiaaDoorW.PrintWords Go.Proofs.YtfkimnbddkjpiaaDoorW.PrintLast Go.Proofs.YtfkimnbddkjpiaaDoorW.PrintMore
attribute [local go_sem] max2_int min2_int max_two min_two max_three min_three max_four min_four   -- for this text's walks alone
set_option linter.unusedVariables false
set_option linter.unusedSimpArgs false



def errW : Option Int → Value
  | none => .nilIface
  | some c => .iface 0 (.int .i64 c)
theorem errW_none : errW none = .nilIface := rfl
theorem errW_some (c : Int) : errW (some c) = .iface 0 (.int .i64 c) := rfl

theorem info3 : (Tryd.prog.info? 3).map (fun i => (i.zero, i.size, i.bytes)) = some (some (.int .i64 0), 1, 8) := by kernel_rfl
-- the values' own types

end Go.Proofs.YtfkimnbddkjpiaaDoor.PFnExactTimesAtHeight
