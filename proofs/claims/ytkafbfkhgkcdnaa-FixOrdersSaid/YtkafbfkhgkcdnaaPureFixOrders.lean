/- For all numbers a, b, c of 64 bits: what is no less stays no less, in sums, in products with what is not below nothing, in roots and quotients; no condition. -/
import Derived.OpenShut
import Derived.Test.YtkafbfkhgkcdnaaPFixx6
import Derived.Test.YtkafbfkhgkcdnaaLe
namespace Go.Proofs.Ytkafbfkhgkcdnaa.Pure
open Go.RowKit Go.Proofs.YtkafbfkhgkcdnaaW.PrintWords Go.Proofs.YtkafbfkhgkcdnaaW.PrintLast Go.Proofs.YtkafbfkhgkcdnaaW.PrintMore Go.Proofs.Ytkafbfkhgkcdnaa.PFix Go.Proofs.Ytkafbfkhgkcdnaa.Ma Go.Proofs.Ytkafbfkhgkcdnaa.Fx Go.Proofs.Ytkafbfkhgkcdnaa.Dv Go.Proofs.Ytkafbfkhgkcdnaa.Le

theorem FixOrders : bagatellelaw01_FixOrders.Pure := by
  intro a b c wa wb wc
  have ha : I64 a := bounds_i64 wa
  have hb : I64 b := bounds_i64 wb
  have hc : I64 c := bounds_i64 wc
  refine ⟨101, ?_⟩
  unfold bagatellelaw01_FixOrders.f
  have hx : S63 (mx (mn a b) (-9223372036854775807)) := by unfold I64 at *; unfold S63 mx mn; repeat' split
                                                           all_goals omega
  have hy : S63 (mx (mx a b) (-9223372036854775807)) := by unfold I64 at *; unfold S63 mx; repeat' split
                                                           all_goals omega
  have hxy : mx (mn a b) (-9223372036854775807) ≤ mx (mx a b) (-9223372036854775807) := by
    unfold mx mn; repeat' split
    all_goals omega
  generalize mx (mn a b) (-9223372036854775807) = x at *
  generalize mx (mx a b) (-9223372036854775807) = y at *
  have d0 := abs_s hc
  have hd := (abs_S hc).i
  rw [fit_eq (by omega), Option.bind_some, if_pos rfl, abs_eq hc, Option.bind_some, add_eq' (by omega) hx.i hc, Option.bind_some, add_eq' (by omega) hy.i hc, Option.bind_some, if_pos (add_mono hxy), mul_eq (by omega) hx.i hd, Option.bind_some, mul_eq (by omega) hy.i hd, Option.bind_some, if_pos (mul_mono hx.i hy.i hd d0.1 hxy), sqrt_eq (by omega) hx.i, Option.bind_some, sqrt_eq (by omega) hy.i, Option.bind_some, if_pos (sqrt_mono hx.i hy.i hxy), neg_eq hx.i, neg_eq hy.i]
  have hn : Ma.neg y ≤ Ma.neg x := by rw [neg_id hx, neg_id hy]; omega
  by_cases h : Ma.abs c = 0
  · rw [if_pos h, Option.bind_some, Option.bind_some, decide_eq_true hn]
  · rw [if_neg h, div_eq (by omega) hx.i hd, Option.bind_some, div_eq (by omega) hy.i hd, Option.bind_some, if_pos (div_mono hx.i hy.i (by omega) hxy), Option.bind_some, Option.bind_some, decide_eq_true hn]

end Go.Proofs.Ytkafbfkhgkcdnaa.Pure
