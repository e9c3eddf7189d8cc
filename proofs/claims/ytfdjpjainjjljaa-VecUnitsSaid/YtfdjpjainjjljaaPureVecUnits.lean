/- For every way a: its length is the root of what it goes along itself; divided by it a way of a hundredth up to thousands has the length one, nearly, and none without one; no condition. -/
import Derived.OpenShut
import Derived.Test.YtfdjpjainjjljaaPVex5
import Derived.Test.YtfdjpjainjjljaaPVex6
import Derived.Test.YtfdjpjainjjljaaVc
import Derived.Test.YtfdjpjainjjljaaTm
import Derived.Test.YtfdjpjainjjljaaLn
namespace Go.Proofs.Ytfdjpjainjjljaa.Pure
open Go.RowKit Go.Proofs.YtfdjpjainjjljaaW.PrintWords Go.Proofs.YtfdjpjainjjljaaW.PrintLast Go.Proofs.YtfdjpjainjjljaaW.PrintMore Go.Proofs.Ytfdjpjainjjljaa.PVe Go.Proofs.Ytfdjpjainjjljaa.Ma Go.Proofs.Ytfdjpjainjjljaa.Fx Go.Proofs.Ytfdjpjainjjljaa.Dv Go.Proofs.Ytfdjpjainjjljaa.Vc Go.Proofs.Ytfdjpjainjjljaa.Tm Go.Proofs.Ytfdjpjainjjljaa.Ln

theorem fit_eq {k : Nat} (hk : 100 ≤ k) : bagatellelaw03_fit.f k = some true :=
  at_rounds bagatellelaw03_fit.mono hk (by decide +kernel)
theorem nb {a b c d : Int} (h1 : a = c) (h2 : b = d) : ¬ ((!(a == c) || (!(b == d))) = true) := by rw [h1, h2]; simp
theorem yb {a b c d : Int} (h1 : a = c) (h2 : b = d) : (a == c && (b == d)) = true := by rw [h1, h2]; simp
/-- A quotient by a positive length: its size. -/
theorem div_size {x n : Int} (hx : S63 x) (hn : 0 < n) (hn' : n ≤ 9223372036854775807) (hb : Ma.abs x ≤ 2 * n) (h2 : Ma.abs x < 70368744177664) :
    -8589934592 ≤ Ma.div x n ∧ Ma.div x n ≤ 8589934592 ∧ Ma.abs (Ma.div x n) * n ≤ Ma.abs x * 4294967296 ∧ Ma.abs x * 4294967296 < (Ma.abs (Ma.div x n) + 1) * n := by
  have x0 := (abs_s hx.i).1
  have an : Ma.abs n = n := abs_nn (by omega)
  have q0 : 0 ≤ Ma.abs x * 4294967296 / n := Int.ediv_nonneg (by omega) (by omega)
  have q1 : Ma.abs x * 4294967296 / n ≤ 8589934592 := by
    have : Ma.abs x * 4294967296 / n < 8589934593 := by rw [Int.ediv_lt_iff_lt_mul hn]; omega
    omega
  have e : Ma.div x n = sgn (sg x n) (Ma.abs x * 4294967296 / n) := by
    unfold Ma.div; rw [an]; split
    · rename_i h; rw [h, Int.zero_mul, Int.zero_ediv, sgn_zero]
    · rw [if_neg (by omega)]
  have et : top (Ma.abs x * 4294967296 / n) = Ma.abs x * 4294967296 / n := by unfold top; rw [if_pos (by omega)]
  have ea : Ma.abs (Ma.div x n) = Ma.abs x * 4294967296 / n := by rw [e, abs_sgn q0, et]
  have l1 := Int.ediv_mul_le (Ma.abs x * 4294967296) (b := n) (by omega)
  have l2 := Int.lt_ediv_add_one_mul_self (Ma.abs x * 4294967296) hn
  rw [ea]
  refine ⟨?_, ?_, l1, l2⟩
  · rw [e]; unfold sgn; rw [et]; split <;> omega
  · rw [e]; unfold sgn; rw [et]; split <;> omega
/-- The length of a way that was divided by its length. -/
theorem unit_near {X Y n U V r : Int} (hX : 0 ≤ X) (hY : 0 ≤ Y) (hm : 42949672 ≤ X ∨ 42949672 ≤ Y) (n0 : 0 < n) (n2 : n * n ≤ X * X + Y * Y) (n3 : X * X + Y * Y < (n + 1) * (n + 1) + 8589934592)
    (u0 : 0 ≤ U) (u1 : U ≤ 8589934592) (u2 : U * n ≤ X * 4294967296) (u3 : X * 4294967296 < (U + 1) * n) (v0 : 0 ≤ V) (v1 : V ≤ 8589934592) (v2 : V * n ≤ Y * 4294967296) (v3 : Y * 4294967296 < (V + 1) * n)
    (r0 : 0 ≤ r) (r2 : r * r ≤ U * U + V * V) (r3 : U * U + V * V < (r + 1) * (r + 1) + 8589934592) : -4294967 < r - 4294967296 ∧ r - 4294967296 < 4294967 := by
  have sX := sq_nonneg X; have sY := sq_nonneg Y
  -- the length is not small
  have nl : 42940000 < n := by
    rcases Int.lt_or_le 42940000 n with h | h
    · exact h
    · exfalso
      have a1 : (n + 1) * (n + 1) ≤ 42940001 * 42940001 := Int.mul_le_mul (by omega) (by omega) (by omega) (by omega)
      rcases hm with h' | h'
      · have a2 : 42949672 * 42949672 ≤ X * X := Int.mul_le_mul h' h' (by omega) hX
        omega
      · have a2 : 42949672 * 42949672 ≤ Y * Y := Int.mul_le_mul h' h' (by omega) hY
        omega
  have nn : 0 < n * n := Int.mul_pos n0 n0
  constructor
  · -- not too short
    have a1 : X * 4294967296 * (X * 4294967296) ≤ (U + 1) * n * ((U + 1) * n) := Int.mul_le_mul (by omega) (by omega) (by omega) (Int.mul_nonneg (by omega) (by omega))
    have a2 : Y * 4294967296 * (Y * 4294967296) ≤ (V + 1) * n * ((V + 1) * n) := Int.mul_le_mul (by omega) (by omega) (by omega) (Int.mul_nonneg (by omega) (by omega))
    have e1 : X * 4294967296 * (X * 4294967296) = X * X * 18446744073709551616 := by grind
    have e2 : Y * 4294967296 * (Y * 4294967296) = Y * Y * 18446744073709551616 := by grind
    have e3 : (U + 1) * n * ((U + 1) * n) + (V + 1) * n * ((V + 1) * n) = (U * U + V * V + 2 * U + 2 * V + 2) * (n * n) := by grind
    have a3 : 18446744073709551616 * (n * n) ≤ (U * U + V * V + 2 * U + 2 * V + 2) * (n * n) := by omega
    have a4 : 18446744073709551616 ≤ U * U + V * V + 2 * U + 2 * V + 2 := Int.le_of_mul_le_mul_right a3 nn
    rcases Int.lt_or_le (-4294967) (r - 4294967296) with h | h
    · exact h
    · exfalso
      have a5 : (r + 1) * (r + 1) ≤ 4290672330 * 4290672330 := Int.mul_le_mul (by omega) (by omega) (by omega) (by omega)
      omega
  · have a1 : U * n * (U * n) ≤ X * 4294967296 * (X * 4294967296) := Int.mul_le_mul u2 u2 (Int.mul_nonneg u0 (by omega)) (by omega)
    have a2 : V * n * (V * n) ≤ Y * 4294967296 * (Y * 4294967296) := Int.mul_le_mul v2 v2 (Int.mul_nonneg v0 (by omega)) (by omega)
    have e1 : X * 4294967296 * (X * 4294967296) = X * X * 18446744073709551616 := by grind
    have e2 : Y * 4294967296 * (Y * 4294967296) = Y * Y * 18446744073709551616 := by grind
    have e3 : U * n * (U * n) + V * n * (V * n) = (U * U + V * V) * (n * n) := by grind
    rcases Int.lt_or_le (r - 4294967296) 4294967 with h | h
    · exact h
    · exfalso
      have a5 : 4299262263 * 4299262263 ≤ r * r := Int.mul_le_mul (by omega) (by omega) (by omega) r0
      have a6 : 18483656006055881169 * (n * n) ≤ (U * U + V * V) * (n * n) := Int.mul_le_mul_of_nonneg_right (by omega) (by omega)
      have e4 : (n + 1) * (n + 1) = n * n + 2 * n + 1 := by rw [sq_add]; omega
      have a7 : 42940000 * n ≤ n * n := Int.mul_le_mul_of_nonneg_right (by omega) (by omega)
      generalize (U * U + V * V) * (n * n) = A at *
      generalize n * n = B at *
      generalize X * X = C at *
      generalize Y * Y = D at *
      omega
theorem VecUnits : bagatellelaw03_VecUnits.Pure := by
  intro a b wa wb
  have sx : S63 (mx a (-9223372036854775807)) := wh_s (bounds_i64 wa)
  have sy : S63 (mx b (-9223372036854775807)) := wh_s (bounds_i64 wb)
  refine ⟨103, ?_⟩
  unfold bagatellelaw03_VecUnits.f bagatellelaw03_Tame.f
  rw [fit_eq (by omega), Option.bind_some, if_pos rfl, Option.bind_some]
  simp only
  generalize mx a (-9223372036854775807) = x at *
  generalize mx b (-9223372036854775807) = y at *
  have k1 : 60 ≤ 103 := by omega
  have hd := dot_i x y x y
  have es : fix_Sqrt.f 103 (dot x y x y) = some (len x y) := sqrt_eq (by omega) hd
  have ln0 : 0 ≤ len x y ∧ len x y ≤ 9223372036854775807 := by
    have : len x y = Ma.sqrt (dot x y x y) := rfl
    rw [this]
    by_cases h : dot x y x y ≤ 0
    · unfold Ma.sqrt; rw [if_pos h]; omega
    · have := sqrt_spec (a := dot x y x y) (by omega) hd.2; omega
  rw [vLen_eq k1 sx.i sy.i, Option.bind_some, vUnit_eq k1 sx.i sy.i, Option.bind_some, vDot_eq k1 sx.i sy.i sx.i sy.i, Option.bind_some, es, Option.bind_some, if_pos rfl, if_neg (by omega)]
  by_cases h0 : len x y = 0
  · simp only [h0, if_true]
    rw [if_neg (by decide), if_neg (by decide)]; rfl
  · have hp : 0 < len x y := by omega
    simp only [h0, if_false]
    rw [if_neg (by rw [decide_eq_true hp]; decide), if_pos trivial, div_eq (by omega) sx.i (len_i x y), Option.bind_some, div_eq (by omega) sy.i (len_i x y), Option.bind_some, if_neg (nb rfl rfl), abs_eq sx.i, Option.bind_some, abs_eq sy.i, Option.bind_some]
    by_cases h1 : mx (Ma.abs x) (Ma.abs y) < 42949672
    · rw [if_pos h1]
    · rw [if_neg h1]
      by_cases h2 : mx (Ma.abs x) (Ma.abs y) > 17179869184000
      · rw [if_pos h2]
      · rw [if_neg h2]
        have X0 := (abs_s sx.i).1; have Y0 := (abs_s sy.i).1
        have hXY : Ma.abs x ≤ 17179869184000 ∧ Ma.abs y ≤ 17179869184000 ∧ (42949672 ≤ Ma.abs x ∨ 42949672 ≤ Ma.abs y) := by
          unfold mx at h1 h2; split at h1 <;> omega
        obtain ⟨hX, hY, hm⟩ := hXY
        have bx : -17179869184000 ≤ x ∧ x ≤ 17179869184000 := by rw [abs_val sx] at hX; split at hX <;> omega
        have bY : -17179869184000 ≤ y ∧ y ≤ 17179869184000 := by rw [abs_val sy] at hY; split at hY <;> omega
        obtain ⟨n0, n1, n2, n3⟩ := len_spec (x := x) (y := y) (by omega) (by omega) (by omega) (by omega)
        obtain ⟨g1, g2, g3, g4⟩ := part_up (x := x) (y := y) (by omega) (by omega) (by omega) (by omega)
        have gx : Ma.abs x < len x y + 92683 := by rw [abs_val sx]; split <;> omega
        have gy : Ma.abs y < len x y + 92683 := by rw [abs_val sy]; split <;> omega
        have big : 42856989 < len x y := by omega
        obtain ⟨d1, d2, d3, d4⟩ := div_size sx hp ln0.2 (by omega) (by omega)
        obtain ⟨f1, f2, f3, f4⟩ := div_size sy hp ln0.2 (by omega) (by omega)
        have sU : S63 (Ma.div x (len x y)) := by unfold S63; omega
        have sV : S63 (Ma.div y (len x y)) := by unfold S63; omega
        obtain ⟨r0, r1, r2, r3⟩ := len_spec (x := Ma.div x (len x y)) (y := Ma.div y (len x y)) (by omega) (by omega) (by omega) (by omega)
        have aU := abs_s sU.i; have aV := abs_s sV.i
        have aU' : Ma.abs (Ma.div x (len x y)) ≤ 8589934592 := by rw [abs_val sU]; split <;> omega
        have aV' : Ma.abs (Ma.div y (len x y)) ≤ 8589934592 := by rw [abs_val sV]; split <;> omega
        rw [← abs_mul_self sU, ← abs_mul_self sV] at r2 r3
        rw [← abs_mul_self sx, ← abs_mul_self sy] at n2 n3
        have fin := unit_near X0 Y0 hm hp n2 n3 aU.1 aU' d3 d4 aV.1 aV' f3 f4 r0 r2 r3
        rw [vLen_eq k1 sU.i sV.i, Option.bind_some, w64 (x := len (Ma.div x (len x y)) (Ma.div y (len x y)) - 4294967296) (by unfold I64; omega), abs_eq (by unfold I64; omega), Option.bind_some, abs_val (by unfold S63; omega)]
        rw [decide_eq_true]
        split <;> omega

end Go.Proofs.Ytfdjpjainjjljaa.Pure
