/- For all numbers a and b of 64 bits the product fix.Mul(a, b) is the greatest size that, in 2^-32ths, is not above the product of the sizes, with its sign, brought to the range; no condition. -/
import Derived.OpenShut
import Derived.Test.YtkafbfkhgkcdnaaPFixx3
import Derived.Test.YtkafbfkhgkcdnaaLe
namespace Go.Proofs.Ytkafbfkhgkcdnaa.Pure
open Go.RowKit Go.Proofs.YtkafbfkhgkcdnaaW.PrintWords Go.Proofs.YtkafbfkhgkcdnaaW.PrintLast Go.Proofs.YtkafbfkhgkcdnaaW.PrintMore Go.Proofs.Ytkafbfkhgkcdnaa.PFix Go.Proofs.Ytkafbfkhgkcdnaa.Ma Go.Proofs.Ytkafbfkhgkcdnaa.Fx Go.Proofs.Ytkafbfkhgkcdnaa.Dv Go.Proofs.Ytkafbfkhgkcdnaa.Le

theorem FixMuls : bagatellelaw01_FixMuls.Pure := by
  intro a b wa wb
  have ha : I64 a := bounds_i64 wa
  have hb : I64 b := bounds_i64 wb
  refine ⟨101, ?_⟩
  have a1 := abs_s ha
  have b1 := abs_s hb
  have mm : I64 (mx a (-9223372036854775807)) ∧ S63 (wh a) := ⟨(wh_s ha).i, wh_s ha⟩
  unfold bagatellelaw01_FixMuls.f
  have W0 := Int.mul_nonneg a1.1 b1.1
  have W1 : Ma.abs a * Ma.abs b ≤ 9223372036854775807 * 9223372036854775807 := Int.mul_le_mul a1.2 b1.2 b1.1 (by omega)
  have hp := mul_s ha hb
  have hab : Ma.abs (Ma.mul a b) = top (Ma.abs a * Ma.abs b / 4294967296) := abs_sgn (nn_mul ha hb)
  have hsg : Ma.mul a b ≠ 0 → decide (Ma.mul a b < 0) = sg a b := sgn_lt (nn_mul ha hb)
  have hone : Ma.mul (mx a (-9223372036854775807)) 4294967296 = mx a (-9223372036854775807) := mul_one (wh_s ha)
  rw [fit_eq (by omega), Option.bind_some, if_pos rfl, mul_eq (by omega) ha hb, Option.bind_some, size_eq ha, Option.bind_some, size_eq hb, Option.bind_some, times_eq a1.1 (by omega) b1.1 (by omega), Option.bind_some, size_eq hp.i, Option.bind_some, hab]
  have t := top_s (x := Ma.abs a * Ma.abs b / 4294967296) (by omega)
  rw [times_eq t.1 (by omega) (by omega) (by omega), Option.bind_some, Option.bind_some, u64 (x := top (Ma.abs a * Ma.abs b / 4294967296) + 1) (by omega) (by omega), times_eq (by omega) (by omega) (by omega) (by omega), Option.bind_some]
  simp only [cmp_eq (show 1 ≤ 101 by omega), Option.bind_some]
  have fin : bagatellelaw01_FixMuls.j0 101 a b (Ma.mul a b) false = some true := by
    simp only [bagatellelaw01_FixMuls.j0, mul_eq (show 1 ≤ 100 by omega) hb ha, mul_eq (show 1 ≤ 100 by omega) mm.1 (show I64 4294967296 by unfold I64; omega), Option.bind_some, Ma.mul_comm b a, hone]
    rw [if_neg (by decide), if_pos trivial]
    by_cases h0 : Ma.mul a b = 0
    · rw [if_pos h0]; simp
    · rw [if_neg h0, if_pos]
      · simp
      · rw [hsg h0]; unfold sg; simp
  have e : ∀ x : Bool, x = false → bagatellelaw01_FixMuls.j0 101 a b (Ma.mul a b) x = some true := fun x hx => by rw [hx]; exact fin
  generalize Ma.abs a * Ma.abs b = W at *
  by_cases hs : W / 4294967296 < 9223372036854775808
  · have et : top (W / 4294967296) = W / 4294967296 := by unfold top; rw [if_pos hs]
    rw [et]
    have c1 : ¬ (W < W / 4294967296 * 4294967296) := by omega
    have c2 : W < (W / 4294967296 + 1) * 4294967296 := by omega
    by_cases h1 : W / 4294967296 < 9223372036854775807
    · rw [if_pos h1, if_neg, if_neg, if_neg (by omega)]
      · exact fin
      · rw [if_neg (by omega), if_neg (by omega)]; decide
      · split
        · decide
        · split
          · decide
          · omega
    · rw [if_neg h1, if_pos (by omega)]
      refine e _ (decide_eq_false ?_)
      split
      · decide
      · split
        · decide
        · omega
  · have et : top (W / 4294967296) = 9223372036854775807 := by unfold top; rw [if_neg hs]
    rw [et, if_neg (by omega), if_pos rfl]
    refine e _ (decide_eq_false ?_)
    rw [if_pos (by omega)]; decide

end Go.Proofs.Ytkafbfkhgkcdnaa.Pure
