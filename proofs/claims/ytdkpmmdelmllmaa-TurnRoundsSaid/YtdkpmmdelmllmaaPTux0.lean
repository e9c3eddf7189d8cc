-- Printed by a program of this session (wip/tools/myprint.py) out of the translation; Lean checks it.
import Derived.Test.YtdkpmmdelmllmaaProg
import Derived.Below
import Derived.Deep.Draws
import Derived.Deep.AppendLies
import Derived.Maps.AppendAt
import Derived.OwnWalk
import Derived.Laws.BytesArg
import Derived.Laws.MakeOwn
import Derived.Laws.OwnMore
import Derived.Deep.OwnRows
import Derived.Tactics
import Derived.Lib.ConvBytes
import Derived.Laws.Slices
import Derived.WalkKit
import Derived.KernelRfl
import Derived.RowKit3
import Derived.Deep.LoopGhost
import Derived.Deep.QuietTactic
import Derived.BigQuiet
import Derived.WideLaws
import Derived.Deep.DeepCutAuto
import Derived.Deep.CutBlock
import Derived.Deep.RegionHeld3
import Derived.Laws.Rows
import Derived.Lib.AppendStr
import Derived.ArgAppend
import Derived.Laws.IdiomCopy
import Derived.OrdersHeld
import Derived.Laws.BitsLemmas
import Derived.RowKit
import Derived.Great.BuildSlice
import Derived.Deep.CutRange
import Derived.Test.YtdkpmmdelmllmaaShelf
import Derived.Test.YtdkpmmdelmllmaaWWords
import Derived.Test.YtdkpmmdelmllmaaWLast
import Derived.Test.YtdkpmmdelmllmaaWTab
import Derived.Test.YtdkpmmdelmllmaaWFour
import Derived.Test.YtdkpmmdelmllmaaWQPut
import Derived.Test.YtdkpmmdelmllmaaWApart
import Derived.Test.YtdkpmmdelmllmaaWArr
import Derived.Test.YtdkpmmdelmllmaaWZeros
import Derived.Test.YtdkpmmdelmllmaaWFoot
import Derived.Test.YtdkpmmdelmllmaaWKept
import Derived.Test.YtdkpmmdelmllmaaWShare
import Derived.Test.YtdkpmmdelmllmaaWN
import Derived.Test.YtdkpmmdelmllmaaWFootNe
import Derived.Test.YtdkpmmdelmllmaaWAt
import Derived.Test.YtdkpmmdelmllmaaWEqStruct
import Derived.Test.YtdkpmmdelmllmaaWRepsOne
import Derived.Test.YtdkpmmdelmllmaaWInv
import Derived.Test.YtdkpmmdelmllmaaWInvWords
import Derived.Test.YtdkpmmdelmllmaaWGuard
import Derived.Test.YtdkpmmdelmllmaaWNEv
import Derived.Test.YtdkpmmdelmllmaaWMore
namespace Go.Proofs.Ytdkpmmdelmllmaa.PTu
open Go.RowKit Go.Proofs.YtdkpmmdelmllmaaW.PrintWords Go.Proofs.YtdkpmmdelmllmaaW.PrintLast Go.Proofs.YtdkpmmdelmllmaaW.PrintMore
attribute [local go_sem] max2_int min2_int max_two min_two max_three min_three max_four min_four   -- for this text's walks alone
set_option linter.unusedVariables false
set_option linter.unusedSimpArgs false



def errW : Option Int → Value
  | none => .nilIface
  | some c => .iface 0 (.int .i64 c)
theorem errW_none : errW none = .nilIface := rfl
theorem errW_some (c : Int) : errW (some c) = .iface 0 (.int .i64 c) := rfl

-- the values' own types

end Go.Proofs.Ytdkpmmdelmllmaa.PTu
