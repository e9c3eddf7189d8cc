-- SHORTENED by a program of this session (wip/tools/trim.py): the words of print.sh without the theorems that no text of the claim names.
-- PRINTED BY print.sh 35421559b90ae4d0a3588c463048766b98c2df88dd9212a6774a882060cdf62d: not written by this session
import Derived.Test.YtlbkpfcidpnhgaaWInv
import Derived.Test.YtlbkpfcidpnhgaaWFootNe
namespace Go.Proofs.YtlbkpfcidpnhgaaW.PrintWords
open Go.RowKit
end Go.Proofs.YtlbkpfcidpnhgaaW.PrintWords
namespace Go.Proofs.YtlbkpfcidpnhgaaW.PrintLast
section
variable {ops : Array Oper} {a : Act} {o og : Oper} {g : Nat} {t : Tmp} {u : Bool}
end
end Go.Proofs.YtlbkpfcidpnhgaaW.PrintLast
