-- Laid by a program of this session (wip/myprint.py, over the kit's print.py), not by print.sh.
import Derived.Test.YtbcbkokpbobngaaProg
import Derived.Below
import Derived.Deep.Draws
import Derived.Deep.AppendLies
import Derived.Maps.AppendAt
import Derived.OwnWalk
import Derived.Laws.BytesArg
import Derived.Laws.MakeOwn
import Derived.Laws.OwnMore
import Derived.Deep.OwnRows
import Derived.Tactics
import Derived.Lib.ConvBytes
import Derived.Laws.Slices
import Derived.WalkKit
import Derived.KernelRfl
import Derived.RowKit3
import Derived.Deep.LoopGhost
import Derived.Deep.QuietTactic
import Derived.BigQuiet
import Derived.WideLaws
import Derived.Deep.DeepCutAuto
import Derived.Deep.CutBlock
import Derived.Deep.RegionHeld3
import Derived.Laws.Rows
import Derived.Lib.AppendStr
import Derived.ArgAppend
import Derived.Laws.IdiomCopy
import Derived.OrdersHeld
import Derived.Laws.BitsLemmas
import Derived.RowKit
import Derived.Test.YtbcbkokpbobngaaScope
import Derived.Test.YtbcbkokpbobngaaWWords
import Derived.Test.YtbcbkokpbobngaaWLast
import Derived.Test.YtbcbkokpbobngaaWTab
import Derived.Test.YtbcbkokpbobngaaWFour
import Derived.Test.YtbcbkokpbobngaaWQPut
import Derived.Test.YtbcbkokpbobngaaWApart
import Derived.Test.YtbcbkokpbobngaaWArr
import Derived.Test.YtbcbkokpbobngaaWZeros
import Derived.Test.YtbcbkokpbobngaaWFoot
import Derived.Test.YtbcbkokpbobngaaWKept
import Derived.Test.YtbcbkokpbobngaaWShare
import Derived.Test.YtbcbkokpbobngaaWN
import Derived.Test.YtbcbkokpbobngaaWFootNe
import Derived.Test.YtbcbkokpbobngaaWAt
import Derived.Test.YtbcbkokpbobngaaWEqStruct
import Derived.Test.YtbcbkokpbobngaaWRepsOne
import Derived.Test.YtbcbkokpbobngaaWInv
import Derived.Test.YtbcbkokpbobngaaWInvWords
import Derived.Test.YtbcbkokpbobngaaWGuard
import Derived.Test.YtbcbkokpbobngaaWNEv
import Derived.Test.YtbcbkokpbobngaaWMore
namespace Go.Proofs.Ytbcbkokpbobngaa.PS
open Go.RowKit Go.Proofs.YtbcbkokpbobngaaW.PrintWords Go.Proofs.YtbcbkokpbobngaaW.PrintLast Go.Proofs.YtbcbkokpbobngaaW.PrintMore
attribute [local go_sem] max2_int min2_int max_two min_two max_three min_three max_four min_four   -- for this text's walks alone
set_option linter.unusedVariables false
set_option linter.unusedSimpArgs false



def errW : Option Int → Value
  | none => .nilIface
  | some c => .iface 0 (.int .i64 c)
theorem errW_none : errW none = .nilIface := rfl
theorem errW_some (c : Int) : errW (some c) = .iface 0 (.int .i64 c) := rfl

theorem info3 : (Try.prog.info? 3).map (fun i => (i.zero, i.size, i.bytes)) = some (some (.int .i64 0), 1, 8) := by kernel_rfl
-- the values' own types

end Go.Proofs.Ytbcbkokpbobngaa.PS
