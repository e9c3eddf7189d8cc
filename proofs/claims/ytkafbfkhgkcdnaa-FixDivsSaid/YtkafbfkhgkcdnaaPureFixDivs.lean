/- For all numbers a and b of 64 bits the quotient fix.Div(a, b) is the greatest size that, times the divisor, is not above the number, with its sign, brought; by nothing it is the most, or the least, or nothing; no condition. -/
import Derived.OpenShut
import Derived.Test.YtkafbfkhgkcdnaaPFixx4
import Derived.Test.YtkafbfkhgkcdnaaLe
namespace Go.Proofs.Ytkafbfkhgkcdnaa.Pure
open Go.RowKit Go.Proofs.YtkafbfkhgkcdnaaW.PrintWords Go.Proofs.YtkafbfkhgkcdnaaW.PrintLast Go.Proofs.YtkafbfkhgkcdnaaW.PrintMore Go.Proofs.Ytkafbfkhgkcdnaa.PFix Go.Proofs.Ytkafbfkhgkcdnaa.Ma Go.Proofs.Ytkafbfkhgkcdnaa.Fx Go.Proofs.Ytkafbfkhgkcdnaa.Dv Go.Proofs.Ytkafbfkhgkcdnaa.Le

theorem FixDivs : bagatellelaw01_FixDivs.Pure := by
  intro a b wa wb
  have ha : I64 a := bounds_i64 wa
  have hb : I64 b := bounds_i64 wb
  refine ⟨101, ?_⟩
  have a1 := abs_s ha
  have b1 := abs_s hb
  have hq := div_s ha hb
  unfold bagatellelaw01_FixDivs.f
  rw [fit_eq (by omega), Option.bind_some, if_pos rfl, div_eq (by omega) ha hb, Option.bind_some]
  by_cases hb0 : b = 0
  · subst hb0
    rw [if_pos rfl]
    by_cases h1 : a > 0
    · have e : Ma.div a 0 = 9223372036854775807 := by
        unfold Ma.div
        rw [if_neg (fun h => by have := abs_zero.1 h; omega), if_pos (show Ma.abs 0 = 0 from rfl)]
        unfold sgn sg top; rw [decide_eq_false (show ¬ a < 0 by omega)]; rfl
      rw [if_pos h1, if_pos e]
    · rw [if_neg h1]
      by_cases h2 : a < 0
      · have e : Ma.div a 0 = -9223372036854775807 := by
          unfold Ma.div
          rw [if_neg (fun h => by have := abs_zero.1 h; omega), if_pos (show Ma.abs 0 = 0 from rfl)]
          unfold sgn sg top; rw [decide_eq_true h2]; rfl
        rw [if_pos h2, if_pos e]
      · have h3 : a = 0 := by omega
        subst h3
        rw [if_neg h2, if_pos rfl, div_zero_num]; rfl
  · have hb' : Ma.abs b ≠ 0 := fun h => hb0 (abs_zero.1 h)
    have bp : 0 < Ma.abs b := by omega
    have q0 : 0 ≤ Ma.abs a * 4294967296 / Ma.abs b := Int.ediv_nonneg (by omega) (by omega)
    have key : Ma.div a b = sgn (sg a b) (Ma.abs a * 4294967296 / Ma.abs b) := by
      unfold Ma.div; split
      · rename_i h; rw [h, Int.zero_mul, Int.zero_ediv, sgn_zero]
      · rfl
    have hab : Ma.abs (Ma.div a b) = top (Ma.abs a * 4294967296 / Ma.abs b) := by rw [key]; exact abs_sgn q0
    have hsg : Ma.div a b ≠ 0 → decide (Ma.div a b < 0) = sg a b := by rw [key]; exact sgn_lt q0
    have t := top_s q0
    have tp := Int.mul_nonneg t.1 (Int.le_of_lt bp)
    rw [if_neg hb0, size_eq ha, Option.bind_some, times_eq a1.1 (by omega) (by omega) (by omega), Option.bind_some, size_eq hq.i, Option.bind_some, size_eq hb, Option.bind_some, hab, times_eq t.1 (by omega) b1.1 (by omega), Option.bind_some, Option.bind_some, Option.bind_some, u64 (x := top (Ma.abs a * 4294967296 / Ma.abs b) + 1) (by omega) (by omega), times_eq (by omega) (by omega) b1.1 (by omega), Option.bind_some]
    simp only [cmp_eq (show 1 ≤ 101 by omega), Option.bind_some]
    have l1 : Ma.abs a * 4294967296 / Ma.abs b * Ma.abs b ≤ Ma.abs a * 4294967296 := Int.ediv_mul_le _ hb'
    have l2 : Ma.abs a * 4294967296 < (Ma.abs a * 4294967296 / Ma.abs b + 1) * Ma.abs b := Int.lt_ediv_add_one_mul_self _ bp
    have fin : (if Ma.div a b = 0 then (some true) else (some ((decide (Ma.div a b < 0)) == ((decide (a < 0)) != (decide (b < 0)))))) = some true := by
      by_cases h0 : Ma.div a b = 0
      · rw [if_pos h0]
      · rw [if_neg h0, hsg h0]; unfold sg; simp
    rw [fin]
    generalize Ma.abs a * 4294967296 / Ma.abs b = q at *
    generalize Ma.abs a * 4294967296 = A at *
    by_cases hs : q < 9223372036854775808
    · have et : top q = q := by unfold top; rw [if_pos hs]
      rw [et, if_neg]
      · by_cases h1 : q < 9223372036854775807
        · rw [if_pos h1, if_neg]
          rw [if_neg (by omega), if_neg (by omega)]; decide
        · rw [if_neg h1]
      · split
        · decide
        · split
          · decide
          · omega
    · have et : top q = 9223372036854775807 := by unfold top; rw [if_neg hs]
      have l3 : 9223372036854775807 * Ma.abs b ≤ q * Ma.abs b := Int.mul_le_mul_of_nonneg_right (by omega) (by omega)
      rw [et, if_neg, if_neg (by omega)]
      split
      · decide
      · split
        · decide
        · omega

end Go.Proofs.Ytkafbfkhgkcdnaa.Pure
