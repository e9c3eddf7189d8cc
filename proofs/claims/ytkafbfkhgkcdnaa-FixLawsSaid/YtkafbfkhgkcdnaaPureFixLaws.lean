/- For all numbers a and b of 64 bits: one is neutral, nothing annihilates, and signs go through products, sums and quotients; no condition. -/
import Derived.OpenShut
import Derived.Test.YtkafbfkhgkcdnaaPFixx8
import Derived.Test.YtkafbfkhgkcdnaaLe
namespace Go.Proofs.Ytkafbfkhgkcdnaa.Pure
open Go.RowKit Go.Proofs.YtkafbfkhgkcdnaaW.PrintWords Go.Proofs.YtkafbfkhgkcdnaaW.PrintLast Go.Proofs.YtkafbfkhgkcdnaaW.PrintMore Go.Proofs.Ytkafbfkhgkcdnaa.PFix Go.Proofs.Ytkafbfkhgkcdnaa.Ma Go.Proofs.Ytkafbfkhgkcdnaa.Fx Go.Proofs.Ytkafbfkhgkcdnaa.Dv Go.Proofs.Ytkafbfkhgkcdnaa.Le

theorem FixLaws : bagatellelaw01_FixLaws.Pure := by
  intro a b wa wb
  have ha : I64 a := bounds_i64 wa
  have hb : I64 b := bounds_i64 wb
  have hx0 : S63 (mx a (-9223372036854775807)) := wh_s ha
  have hy0 : S63 (mx b (-9223372036854775807)) := wh_s hb
  refine ⟨102, ?_⟩
  unfold bagatellelaw01_FixLaws.f
  generalize mx a (-9223372036854775807) = x at *
  generalize mx b (-9223372036854775807) = y at *
  have o1 : S63 4294967296 := by unfold S63; omega
  have o2 : S63 (-4294967296) := by unfold S63; omega
  have o0 : S63 0 := by unfold S63; omega
  have hn := neg_S hx0
  have hny := neg_S hy0
  have e1 : Ma.mul x (-4294967296) = -x := by rw [Ma.mul_neg hx0.i o1, mul_one hx0]
  have fin : bagatellelaw01_FixLaws.j0 102 x y false = some true := by
    simp only [bagatellelaw01_FixLaws.j0]
    rw [if_neg (by decide), w64s hn, w64s hny, mul_eq (by omega) hn.i hy0.i, Option.bind_some, mul_eq (by omega) hx0.i hy0.i, Option.bind_some, w64s (neg_S (mul_s hx0.i hy0.i)), if_pos (Ma.neg_mul hx0 hy0.i), add_eq' (by omega) hn.i hny.i, Option.bind_some, add_eq' (by omega) hx0.i hy0.i, Option.bind_some, w64s (neg_S (add_s x y)), if_pos (add_neg hx0 hy0), div_eq (by omega) hn.i hy0.i, div_eq (by omega) hx0.i hy0.i]
    have e2 : (Ma.div (-x) y == wrap64 (-Ma.div x y)) = true := by
      rw [w64s (neg_S (div_s hx0.i hy0.i)), neg_div hx0]; simp
    by_cases h : x = 0
    · rw [if_pos h, Option.bind_some, Option.bind_some, e2]
    · rw [if_neg h, div_eq (by omega) hx0.i hx0.i, Option.bind_some, if_pos (div_self hx0 h), Option.bind_some, Option.bind_some, e2]
  rw [fit_eq (by omega), Option.bind_some, if_pos rfl, mul_eq (by omega) hx0.i o1.i, Option.bind_some, if_pos (mul_one hx0), mul_eq (by omega) hx0.i o0.i, Option.bind_some, if_pos (Ma.mul_zero x), mul_eq (by omega) hx0.i o2.i, Option.bind_some, w64s hn, if_pos e1, div_eq (by omega) hx0.i o1.i, Option.bind_some, if_pos (div_one hx0), add_eq' (by omega) hx0.i o0.i, Option.bind_some, if_pos (Ma.add_zero hx0), sub_eq' (by omega) hx0.i hx0.i, Option.bind_some, Ma.sub_self hx0]
  exact fin

end Go.Proofs.Ytkafbfkhgkcdnaa.Pure
