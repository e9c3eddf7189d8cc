/- For all numbers a and b of 64 bits, brought below 2^46: a product, divided again, is off by no more than a 2^-32th is, divided, and one; the square of a root is off by no more than twice the root; no condition. -/
import Derived.OpenShut
import Derived.Test.YtkafbfkhgkcdnaaPFixx8
import Derived.Test.YtkafbfkhgkcdnaaLe
namespace Go.Proofs.Ytkafbfkhgkcdnaa.Pure
open Go.RowKit Go.Proofs.YtkafbfkhgkcdnaaW.PrintWords Go.Proofs.YtkafbfkhgkcdnaaW.PrintLast Go.Proofs.YtkafbfkhgkcdnaaW.PrintMore Go.Proofs.Ytkafbfkhgkcdnaa.PFix Go.Proofs.Ytkafbfkhgkcdnaa.Ma Go.Proofs.Ytkafbfkhgkcdnaa.Fx Go.Proofs.Ytkafbfkhgkcdnaa.Dv Go.Proofs.Ytkafbfkhgkcdnaa.Le

theorem tmod_small {a : Int} : -70368744177664 < Int.tmod a 70368744177664 ∧ Int.tmod a 70368744177664 < 70368744177664 := by
  have h1 := Int.tmod_lt_of_pos a (show (0 : Int) < 70368744177664 by omega)
  have h2 := Int.tmod_lt_of_pos (-a) (show (0 : Int) < 70368744177664 by omega)
  rw [Int.neg_tmod] at h2
  omega
theorem abs_id {a : Int} (h : S63 a) : Ma.abs a = if a < 0 then -a else a := by unfold Ma.abs; rw [neg_id h]
theorem back (x y : Int) (hx : -70368744177664 < x ∧ x < 70368744177664) (hy : -70368744177664 < y ∧ y < 70368744177664) (h0 : y ≠ 0) :
    Ma.abs (Ma.sub (Ma.div (Ma.mul x y) y) x) ≤ Ma.abs (Ma.div 1 y) + 1 := by
  have sx : S63 x := by unfold S63; omega
  have sy : S63 y := by unfold S63; omega
  have s1 : S63 1 := by unfold S63; omega
  have hm := mul_s sx.i sy.i
  have hX : 0 ≤ Ma.abs x ∧ Ma.abs x < 70368744177664 := by rw [abs_id sx]; split <;> omega
  have hY : 0 < Ma.abs y ∧ Ma.abs y < 70368744177664 := by rw [abs_id sy]; split <;> omega
  have hax : wh x = if x < 0 then -Ma.abs x else Ma.abs x := wh_abs x
  rw [wh_id sx] at hax
  -- the product
  have P0 := Int.mul_nonneg hX.1 (Int.le_of_lt hY.1)
  have P1 : Ma.abs x * Ma.abs y ≤ 70368744177664 * 70368744177664 := Int.mul_le_mul (by omega) (by omega) (by omega) (by omega)
  have em : Ma.mul x y = sgn (sg x y) (Ma.abs x * Ma.abs y / 4294967296) := rfl
  have am : Ma.abs (Ma.mul x y) = Ma.abs x * Ma.abs y / 4294967296 := by
    rw [em, abs_sgn (by omega)]; unfold top; rw [if_pos (by omega)]
  -- the quotient: its size, its sign
  have hYne : Ma.abs y ≠ 0 := by omega
  have qeq : Ma.div (Ma.mul x y) y = sgn (sg (Ma.mul x y) y) (Ma.abs x * Ma.abs y / 4294967296 * 4294967296 / Ma.abs y) := by
    unfold Ma.div; rw [am]; split
    · rename_i h; rw [h, Int.zero_mul, Int.zero_ediv, sgn_zero]
    · rfl
  have q0 : 0 ≤ Ma.abs x * Ma.abs y / 4294967296 * 4294967296 / Ma.abs y := Int.ediv_nonneg (by omega) (by omega)
  have q1 : Ma.abs x * Ma.abs y / 4294967296 * 4294967296 / Ma.abs y ≤ Ma.abs x := by
    have : Ma.abs x * Ma.abs y / 4294967296 * 4294967296 / Ma.abs y < Ma.abs x + 1 := by
      rw [Int.ediv_lt_iff_lt_mul hY.1, Int.add_mul]; omega
    omega
  -- one, divided
  have d1 : Ma.abs (Ma.div 1 y) = 4294967296 / Ma.abs y := by
    have e : Ma.div 1 y = sgn (sg 1 y) (4294967296 / Ma.abs y) := by
      unfold Ma.div; rw [if_neg (show ¬ Ma.abs 1 = 0 by decide), if_neg hYne, show Ma.abs 1 = 1 from rfl, Int.one_mul]
    have z : 4294967296 / Ma.abs y ≤ 4294967296 := Int.ediv_le_self _ (by omega)
    rw [e, abs_sgn (Int.ediv_nonneg (by omega) (by omega))]; unfold top; rw [if_pos (by omega)]
  have D0 : 0 ≤ 4294967296 / Ma.abs y := Int.ediv_nonneg (by omega) (by omega)
  have D1 : 4294967296 < (4294967296 / Ma.abs y + 1) * Ma.abs y := Int.lt_ediv_add_one_mul_self _ hY.1
  have q2 : Ma.abs x - (4294967296 / Ma.abs y + 1) ≤ Ma.abs x * Ma.abs y / 4294967296 * 4294967296 / Ma.abs y := by
    rw [Int.le_ediv_iff_mul_le hY.1, Int.sub_mul]; omega
  rw [d1]
  generalize hQ : Ma.abs x * Ma.abs y / 4294967296 * 4294967296 / Ma.abs y = Q at *
  have sq : Ma.div (Ma.mul x y) y = if x < 0 then -Q else Q := by
    rw [qeq]
    by_cases hq : Q = 0
    · rw [hq, sgn_zero]; split <;> rfl
    · have hmn : Ma.mul x y ≠ 0 := by
        intro h; apply hq
        have : Ma.abs (Ma.mul x y) = 0 := abs_zero.2 h
        rw [← hQ, ← am, this, Int.zero_mul, Int.zero_ediv]
      have e1 : decide (Ma.mul x y < 0) = sg x y := by rw [em]; exact sgn_lt (by omega) (by rw [← em]; exact hmn)
      have e2 : sg (Ma.mul x y) y = decide (x < 0) := by
        unfold sg at *; rw [e1]; cases decide (x < 0) <;> cases decide (y < 0) <;> rfl
      have et : top Q = Q := by unfold top; rw [if_pos (by omega)]
      rw [e2]; unfold sgn; rw [et]
      by_cases hx0 : x < 0
      · rw [decide_eq_true hx0, if_pos rfl, if_pos hx0]
      · rw [decide_eq_false hx0, if_neg (by decide), if_neg hx0]
  have hsq : S63 (if x < 0 then -Q else Q) := by unfold S63; split <;> omega
  rw [sq, sub_id hsq sx (by unfold S63; split <;> split at hax <;> omega), abs_id (by unfold S63; split <;> split at hax <;> omega)]
  split at hax
  · rename_i h; simp only [if_pos h]; split <;> omega
  · rename_i h; simp only [if_neg h]; split <;> omega
theorem FixBacks : bagatellelaw01_FixBacks.Pure := by
  intro a b wa wb
  refine ⟨102, ?_⟩
  unfold bagatellelaw01_FixBacks.f
  have hx := tmod_small (a := a)
  have hy := tmod_small (a := b)
  generalize Int.tmod a 70368744177664 = x at *
  generalize Int.tmod b 70368744177664 = y at *
  have sx : S63 x := by unfold S63; omega
  have sy : S63 y := by unfold S63; omega
  have s1 : S63 1 := by unfold S63; omega
  rw [fit_eq (by omega), Option.bind_some, if_pos rfl]
  by_cases h0 : y = 0
  · rw [if_pos h0]
  · rw [if_neg h0]
    have hm := mul_s sx.i sy.i
    have hd := div_s hm.i sy.i
    have hs := sub_s (Ma.div (Ma.mul x y) y) x
    have h1 := div_s s1.i sy.i
    have D := abs_s h1.i
    have dd : Ma.abs (Ma.div 1 y) ≤ 4294967296 := by
      have hY : 0 < Ma.abs y := by have : Ma.abs y ≠ 0 := fun h => h0 (abs_zero.1 h); have := (abs_s sy.i).1; omega
      have e : Ma.div 1 y = sgn (sg 1 y) (4294967296 / Ma.abs y) := by
        unfold Ma.div; rw [if_neg (show ¬ Ma.abs 1 = 0 by decide), if_neg (by omega), show Ma.abs 1 = 1 from rfl, Int.one_mul]
      have z : 4294967296 / Ma.abs y ≤ 4294967296 := Int.ediv_le_self _ (by omega)
      rw [e, abs_sgn (Int.ediv_nonneg (by omega) (by omega))]; unfold top; rw [if_pos (by omega)]; exact z
    have hX : 0 ≤ Ma.abs x ∧ Ma.abs x < 70368744177664 := by rw [abs_id sx]; split <;> omega
    have sX : S63 (Ma.abs x) := abs_S sx.i
    obtain ⟨r0, r1, r2, r3⟩ := sqrt_spec (a := Ma.abs x) hX.1 (by omega)
    have sr : S63 (Ma.sqrt (Ma.abs x)) := sqrt_s sX.i
    rw [mul_eq (by omega) sx.i sy.i, Option.bind_some, div_eq (by omega) hm.i sy.i, Option.bind_some, sub_eq' (by omega) hd.i sx.i, Option.bind_some, abs_eq hs.i, Option.bind_some, div_eq (by omega) s1.i sy.i, Option.bind_some, abs_eq h1.i, Option.bind_some, w64 (x := Ma.abs (Ma.div 1 y) + 1) (by unfold I64; omega), if_neg (by have := back x y hx hy h0; omega), abs_eq sx.i, Option.bind_some, sqrt_eq (by omega) sX.i, Option.bind_some, Option.bind_some]
    have rm := mul_s sr.i sr.i
    rw [mul_eq (by omega) sr.i sr.i, Option.bind_some, sub_eq' (by omega) sX.i rm.i, Option.bind_some]
    have em : Ma.mul (Ma.sqrt (Ma.abs x)) (Ma.sqrt (Ma.abs x)) = Ma.sqrt (Ma.abs x) * Ma.sqrt (Ma.abs x) / 4294967296 := by
      unfold Ma.mul; rw [abs_nn r0]
      have e : sg (Ma.sqrt (Ma.abs x)) (Ma.sqrt (Ma.abs x)) = false := by unfold sg; cases decide (Ma.sqrt (Ma.abs x) < 0) <;> rfl
      rw [e]; unfold sgn top; rw [if_neg (by decide), if_pos (by omega)]
    rw [em]
    have hexp : (Ma.sqrt (Ma.abs x) + 1) * (Ma.sqrt (Ma.abs x) + 1) = Ma.sqrt (Ma.abs x) * Ma.sqrt (Ma.abs x) + 2 * Ma.sqrt (Ma.abs x) + 1 := by
      rw [Int.add_mul, Int.mul_add]; omega
    rw [hexp] at r3
    have r4 := Int.mul_nonneg r0 r0
    generalize Ma.sqrt (Ma.abs x) * Ma.sqrt (Ma.abs x) = s2 at *
    generalize Ma.sqrt (Ma.abs x) = r at *
    have e1 : Ma.sub (Ma.abs x) (s2 / 4294967296) = Ma.abs x - s2 / 4294967296 := sub_id sX (by unfold S63; omega) (by unfold S63; omega)
    rw [e1, if_pos (by omega), w64 (x := 2 * r) (by unfold I64; omega), w64 (x := 2 * r + 1) (by unfold I64; omega)]
    have sr1 : S63 (2 * r + 1) := by unfold S63; omega
    have s2' : S63 2 := by unfold S63; omega
    have so : S63 4294967296 := by unfold S63; omega
    rw [div_eq (by omega) sr1.i so.i, Option.bind_some, mul_eq (by omega) s2'.i sr.i, Option.bind_some, div_one sr1, Int.tdiv_one]
    have m0 : 0 ≤ Ma.mul 2 r ∧ Ma.mul 2 r ≤ 9223372036854775807 / 2 := by
      unfold Ma.mul; rw [abs_nn r0, show Ma.abs 2 = 2 from rfl]
      have e : sg 2 r = false := by unfold sg; rw [decide_eq_false (show ¬ r < 0 by omega)]; rfl
      rw [e]; unfold sgn top; rw [if_neg (by decide), if_pos (by omega)]; omega
    rw [w64 (x := 2 * r + 1) (by unfold I64; omega), w64 (x := 2 * r + 1 + Ma.mul 2 r) (by unfold I64; omega), w64 (by unfold I64; omega), decide_eq_true]
    omega

end Go.Proofs.Ytkafbfkhgkcdnaa.Pure
