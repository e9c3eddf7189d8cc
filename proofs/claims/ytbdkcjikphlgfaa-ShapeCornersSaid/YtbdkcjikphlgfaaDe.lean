/- The printed quotient of 128 bits by 64 (math/bits.Div64, in two digits) is the quotient; so is that of package fix. -/

import Derived.Test.YtbdkcjikphlgfaaFx
namespace Go.Proofs.Ytbdkcjikphlgfaa.Dv
open Go.RowKit Go.Proofs.YtbdkcjikphlgfaaW.PrintWords Go.Proofs.YtbdkcjikphlgfaaW.PrintLast Go.Proofs.YtbdkcjikphlgfaaW.PrintMore Go.Proofs.Ytbdkcjikphlgfaa.PSh Go.Proofs.Ytbdkcjikphlgfaa.Ma Go.Proofs.Ytbdkcjikphlgfaa.Fx

end Go.Proofs.Ytbdkcjikphlgfaa.Dv
