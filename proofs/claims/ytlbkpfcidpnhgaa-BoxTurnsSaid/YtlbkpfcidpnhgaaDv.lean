/- The printed quotient of 128 bits by 64 (math/bits.Div64, in two digits) is the quotient; so is that of package fix. -/

import Derived.Test.YtlbkpfcidpnhgaaFx
namespace Go.Proofs.Ytlbkpfcidpnhgaa.Dv
open Go.RowKit Go.Proofs.YtlbkpfcidpnhgaaW.PrintWords Go.Proofs.YtlbkpfcidpnhgaaW.PrintLast Go.Proofs.YtlbkpfcidpnhgaaW.PrintMore Go.Proofs.Ytlbkpfcidpnhgaa.PBo Go.Proofs.Ytlbkpfcidpnhgaa.Ma Go.Proofs.Ytlbkpfcidpnhgaa.Fx

end Go.Proofs.Ytlbkpfcidpnhgaa.Dv
