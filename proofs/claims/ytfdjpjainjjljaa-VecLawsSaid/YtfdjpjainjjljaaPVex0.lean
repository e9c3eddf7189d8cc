-- Printed by a program of this session (wip/tools/myprint.py) out of the translation; Lean checks it.
import Derived.Test.YtfdjpjainjjljaaProg
import Derived.Below
import Derived.Deep.Draws
import Derived.Deep.AppendLies
import Derived.Maps.AppendAt
import Derived.OwnWalk
import Derived.Laws.BytesArg
import Derived.Laws.MakeOwn
import Derived.Laws.OwnMore
import Derived.Deep.OwnRows
import Derived.Tactics
import Derived.Lib.ConvBytes
import Derived.Laws.Slices
import Derived.WalkKit
import Derived.KernelRfl
import Derived.RowKit3
import Derived.Deep.LoopGhost
import Derived.Deep.QuietTactic
import Derived.BigQuiet
import Derived.WideLaws
import Derived.Deep.DeepCutAuto
import Derived.Deep.CutBlock
import Derived.Deep.RegionHeld3
import Derived.Laws.Rows
import Derived.Lib.AppendStr
import Derived.ArgAppend
import Derived.Laws.IdiomCopy
import Derived.OrdersHeld
import Derived.Laws.BitsLemmas
import Derived.RowKit
import Derived.Great.BuildSlice
import Derived.Deep.CutRange
import Derived.Test.YtfdjpjainjjljaaShelf
import Derived.Test.YtfdjpjainjjljaaWWords
import Derived.Test.YtfdjpjainjjljaaWLast
import Derived.Test.YtfdjpjainjjljaaWTab
import Derived.Test.YtfdjpjainjjljaaWFour
import Derived.Test.YtfdjpjainjjljaaWQPut
import Derived.Test.YtfdjpjainjjljaaWApart
import Derived.Test.YtfdjpjainjjljaaWArr
import Derived.Test.YtfdjpjainjjljaaWZeros
import Derived.Test.YtfdjpjainjjljaaWFoot
import Derived.Test.YtfdjpjainjjljaaWKept
import Derived.Test.YtfdjpjainjjljaaWShare
import Derived.Test.YtfdjpjainjjljaaWN
import Derived.Test.YtfdjpjainjjljaaWFootNe
import Derived.Test.YtfdjpjainjjljaaWAt
import Derived.Test.YtfdjpjainjjljaaWEqStruct
import Derived.Test.YtfdjpjainjjljaaWRepsOne
import Derived.Test.YtfdjpjainjjljaaWInv
import Derived.Test.YtfdjpjainjjljaaWInvWords
import Derived.Test.YtfdjpjainjjljaaWGuard
import Derived.Test.YtfdjpjainjjljaaWNEv
import Derived.Test.YtfdjpjainjjljaaWMore
namespace Go.Proofs.Ytfdjpjainjjljaa.PVe
open Go.RowKit Go.Proofs.YtfdjpjainjjljaaW.PrintWords Go.Proofs.YtfdjpjainjjljaaW.PrintLast Go.Proofs.YtfdjpjainjjljaaW.PrintMore
attribute [local go_sem] max2_int min2_int max_two min_two max_three min_three max_four min_four   -- for this text's walks alone
set_option linter.unusedVariables false
set_option linter.unusedSimpArgs false



def errW : Option Int → Value
  | none => .nilIface
  | some c => .iface 0 (.int .i64 c)
theorem errW_none : errW none = .nilIface := rfl
theorem errW_some (c : Int) : errW (some c) = .iface 0 (.int .i64 c) := rfl

-- the values' own types

end Go.Proofs.Ytfdjpjainjjljaa.PVe
