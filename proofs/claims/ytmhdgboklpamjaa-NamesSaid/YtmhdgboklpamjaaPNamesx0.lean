-- PRINTED BY print.sh 35421559b90ae4d0a3588c463048766b98c2df88dd9212a6774a882060cdf62d: not written by this session
import Derived.Test.YtmhdgboklpamjaaProg
import Derived.Below
import Derived.Deep.Draws
import Derived.Deep.AppendLies
import Derived.Maps.AppendAt
import Derived.OwnWalk
import Derived.Laws.BytesArg
import Derived.Laws.MakeOwn
import Derived.Laws.OwnMore
import Derived.Deep.OwnRows
import Derived.Tactics
import Derived.Lib.ConvBytes
import Derived.Laws.Slices
import Derived.WalkKit
import Derived.KernelRfl
import Derived.RowKit3
import Derived.Deep.LoopGhost
import Derived.Deep.QuietTactic
import Derived.BigQuiet
import Derived.WideLaws
import Derived.Deep.DeepCutAuto
import Derived.Deep.CutBlock
import Derived.Deep.RegionHeld3
import Derived.Laws.Rows
import Derived.Lib.AppendStr
import Derived.ArgAppend
import Derived.Laws.IdiomCopy
import Derived.OrdersHeld
import Derived.Laws.BitsLemmas
import Derived.RowKit
import Derived.Test.YtmhdgboklpamjaaWWords
import Derived.Test.YtmhdgboklpamjaaWLast
import Derived.Test.YtmhdgboklpamjaaWTab
import Derived.Test.YtmhdgboklpamjaaWFour
import Derived.Test.YtmhdgboklpamjaaWQPut
import Derived.Test.YtmhdgboklpamjaaWApart
import Derived.Test.YtmhdgboklpamjaaWArr
import Derived.Test.YtmhdgboklpamjaaWZeros
import Derived.Test.YtmhdgboklpamjaaWFoot
import Derived.Test.YtmhdgboklpamjaaWKept
import Derived.Test.YtmhdgboklpamjaaWShare
import Derived.Test.YtmhdgboklpamjaaWN
import Derived.Test.YtmhdgboklpamjaaWFootNe
import Derived.Test.YtmhdgboklpamjaaWAt
import Derived.Test.YtmhdgboklpamjaaWEqStruct
import Derived.Test.YtmhdgboklpamjaaWRepsOne
import Derived.Test.YtmhdgboklpamjaaWInv
import Derived.Test.YtmhdgboklpamjaaWInvWords
import Derived.Test.YtmhdgboklpamjaaWGuard
import Derived.Test.YtmhdgboklpamjaaWNEv
import Derived.Test.YtmhdgboklpamjaaWMore
namespace Go.Proofs.Ytmhdgboklpamjaa.PNames
open Go.RowKit Go.Proofs.YtmhdgboklpamjaaW.PrintWords Go.Proofs.YtmhdgboklpamjaaW.PrintLast Go.Proofs.YtmhdgboklpamjaaW.PrintMore
attribute [local go_sem] max2_int min2_int max_two min_two max_three min_three max_four min_four   -- for this text's walks alone
set_option linter.unusedVariables false
set_option linter.unusedSimpArgs false



def errW : Option Int → Value
  | none => .nilIface
  | some c => .iface 0 (.int .i64 c)
theorem errW_none : errW none = .nilIface := rfl
theorem errW_some (c : Int) : errW (some c) = .iface 0 (.int .i64 c) := rfl

-- the values' own types

end Go.Proofs.Ytmhdgboklpamjaa.PNames
