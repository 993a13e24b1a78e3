-- written by a program of this session's (wip/tools/extprint.py) over the kit's print
import Derived.Test.YthdggiccibnneaaProg
import Derived.Below
import Derived.Deep.Draws
import Derived.Deep.AppendLies
import Derived.Maps.AppendAt
import Derived.OwnWalk
import Derived.Laws.BytesArg
import Derived.Laws.MakeOwn
import Derived.Laws.OwnMore
import Derived.Deep.OwnRows
import Derived.Tactics
import Derived.Lib.ConvBytes
import Derived.Laws.Slices
import Derived.WalkKit
import Derived.KernelRfl
import Derived.RowKit3
import Derived.Deep.LoopGhost
import Derived.Deep.QuietTactic
import Derived.BigQuiet
import Derived.WideLaws
import Derived.Deep.DeepCutAuto
import Derived.Deep.CutBlock
import Derived.Deep.RegionHeld3
import Derived.Laws.Rows
import Derived.Lib.AppendStr
import Derived.ArgAppend
import Derived.Laws.IdiomCopy
import Derived.OrdersHeld
import Derived.Laws.BitsLemmas
import Derived.RowKit
import Derived.Test.YthdggiccibnneaaWWords
import Derived.Test.YthdggiccibnneaaWLast
import Derived.Test.YthdggiccibnneaaWTab
import Derived.Test.YthdggiccibnneaaWFour
import Derived.Test.YthdggiccibnneaaWQPut
import Derived.Test.YthdggiccibnneaaWApart
import Derived.Test.YthdggiccibnneaaWArr
import Derived.Test.YthdggiccibnneaaWZeros
import Derived.Test.YthdggiccibnneaaWFoot
import Derived.Test.YthdggiccibnneaaWKept
import Derived.Test.YthdggiccibnneaaWShare
import Derived.Test.YthdggiccibnneaaWN
import Derived.Test.YthdggiccibnneaaWFootNe
import Derived.Test.YthdggiccibnneaaWAt
import Derived.Test.YthdggiccibnneaaWEqStruct
import Derived.Test.YthdggiccibnneaaWRepsOne
import Derived.Test.YthdggiccibnneaaWInv
import Derived.Test.YthdggiccibnneaaWInvWords
import Derived.Test.YthdggiccibnneaaWGuard
import Derived.Test.YthdggiccibnneaaWNEv
import Derived.Test.YthdggiccibnneaaWMore
namespace Go.Proofs.Ythdggiccibnneaa.P
open Go.RowKit Go.Proofs.YthdggiccibnneaaW.PrintWords Go.Proofs.YthdggiccibnneaaW.PrintLast Go.Proofs.YthdggiccibnneaaW.PrintMore
attribute [local go_sem] max2_int min2_int max_two min_two max_three min_three max_four min_four   -- for this text's walks alone
set_option linter.unusedVariables false
set_option linter.unusedSimpArgs false



def errW : Option Int → Value
  | none => .nilIface
  | some c => .iface 0 (.int .i64 c)
theorem errW_none : errW none = .nilIface := rfl
theorem errW_some (c : Int) : errW (some c) = .iface 0 (.int .i64 c) := rfl

theorem info5 : (Try.prog.info? 5).map (fun i => (i.zero, i.size, i.bytes)) = some (some (.int .u8 0), 1, 1) := by kernel_rfl
-- the values' own types

end Go.Proofs.Ythdggiccibnneaa.P
