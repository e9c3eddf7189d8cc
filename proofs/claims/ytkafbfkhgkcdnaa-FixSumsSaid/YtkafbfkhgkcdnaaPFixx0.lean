-- Printed by a program of this session (wip/tools/myprint.py) out of the translation; Lean checks it.
import Derived.Test.YtkafbfkhgkcdnaaProg
import Derived.Below
import Derived.Deep.Draws
import Derived.Deep.AppendLies
import Derived.Maps.AppendAt
import Derived.OwnWalk
import Derived.Laws.BytesArg
import Derived.Laws.MakeOwn
import Derived.Laws.OwnMore
import Derived.Deep.OwnRows
import Derived.Tactics
import Derived.Lib.ConvBytes
import Derived.Laws.Slices
import Derived.WalkKit
import Derived.KernelRfl
import Derived.RowKit3
import Derived.Deep.LoopGhost
import Derived.Deep.QuietTactic
import Derived.BigQuiet
import Derived.WideLaws
import Derived.Deep.DeepCutAuto
import Derived.Deep.CutBlock
import Derived.Deep.RegionHeld3
import Derived.Laws.Rows
import Derived.Lib.AppendStr
import Derived.ArgAppend
import Derived.Laws.IdiomCopy
import Derived.OrdersHeld
import Derived.Laws.BitsLemmas
import Derived.RowKit
import Derived.Test.YtkafbfkhgkcdnaaShelf
import Derived.Test.YtkafbfkhgkcdnaaWWords
import Derived.Test.YtkafbfkhgkcdnaaWLast
import Derived.Test.YtkafbfkhgkcdnaaWTab
import Derived.Test.YtkafbfkhgkcdnaaWFour
import Derived.Test.YtkafbfkhgkcdnaaWQPut
import Derived.Test.YtkafbfkhgkcdnaaWApart
import Derived.Test.YtkafbfkhgkcdnaaWArr
import Derived.Test.YtkafbfkhgkcdnaaWZeros
import Derived.Test.YtkafbfkhgkcdnaaWFoot
import Derived.Test.YtkafbfkhgkcdnaaWKept
import Derived.Test.YtkafbfkhgkcdnaaWShare
import Derived.Test.YtkafbfkhgkcdnaaWN
import Derived.Test.YtkafbfkhgkcdnaaWFootNe
import Derived.Test.YtkafbfkhgkcdnaaWAt
import Derived.Test.YtkafbfkhgkcdnaaWEqStruct
import Derived.Test.YtkafbfkhgkcdnaaWRepsOne
import Derived.Test.YtkafbfkhgkcdnaaWInv
import Derived.Test.YtkafbfkhgkcdnaaWInvWords
import Derived.Test.YtkafbfkhgkcdnaaWGuard
import Derived.Test.YtkafbfkhgkcdnaaWNEv
import Derived.Test.YtkafbfkhgkcdnaaWMore
namespace Go.Proofs.Ytkafbfkhgkcdnaa.PFix
open Go.RowKit Go.Proofs.YtkafbfkhgkcdnaaW.PrintWords Go.Proofs.YtkafbfkhgkcdnaaW.PrintLast Go.Proofs.YtkafbfkhgkcdnaaW.PrintMore
attribute [local go_sem] max2_int min2_int max_two min_two max_three min_three max_four min_four   -- for this text's walks alone
set_option linter.unusedVariables false
set_option linter.unusedSimpArgs false



def errW : Option Int → Value
  | none => .nilIface
  | some c => .iface 0 (.int .i64 c)
theorem errW_none : errW none = .nilIface := rfl
theorem errW_some (c : Int) : errW (some c) = .iface 0 (.int .i64 c) := rfl

-- the values' own types

end Go.Proofs.Ytkafbfkhgkcdnaa.PFix
