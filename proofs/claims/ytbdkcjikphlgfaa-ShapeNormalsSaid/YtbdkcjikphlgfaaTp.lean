/- Products, nearly. -/
import Derived.Test.YtbdkcjikphlgfaaLm
import Derived.Test.YtbdkcjikphlgfaaMk
namespace Go.Proofs.Ytbdkcjikphlgfaa.Tq
open Go.RowKit Go.Proofs.YtbdkcjikphlgfaaW.PrintWords Go.Proofs.YtbdkcjikphlgfaaW.PrintLast Go.Proofs.YtbdkcjikphlgfaaW.PrintMore Go.Proofs.Ytbdkcjikphlgfaa.PSh Go.Proofs.Ytbdkcjikphlgfaa.Ma Go.Proofs.Ytbdkcjikphlgfaa.Fx Go.Proofs.Ytbdkcjikphlgfaa.Dv Go.Proofs.Ytbdkcjikphlgfaa.Vc Go.Proofs.Ytbdkcjikphlgfaa.Tm Go.Proofs.Ytbdkcjikphlgfaa.Ln
theorem prod_b {a b A B : Int} (h1 : -A ≤ a) (h2 : a ≤ A) (h3 : -B ≤ b) (h4 : b ≤ B) : -(A * B) ≤ a * b ∧ a * b ≤ A * B := by
  have hA : 0 ≤ A := by omega
  have hB : 0 ≤ B := by omega
  have p1 := Int.mul_nonneg (show 0 ≤ A - a by omega) (show 0 ≤ B - b by omega)
  have p2 := Int.mul_nonneg (show 0 ≤ A + a by omega) (show 0 ≤ B + b by omega)
  have p3 := Int.mul_nonneg (show 0 ≤ A - a by omega) (show 0 ≤ B + b by omega)
  have p4 := Int.mul_nonneg (show 0 ≤ A + a by omega) (show 0 ≤ B - b by omega)
  have e1 : (A - a) * (B - b) = A * B - A * b - a * B + a * b := by grind
  have e2 : (A + a) * (B + b) = A * B + A * b + a * B + a * b := by grind
  have e3 : (A - a) * (B + b) = A * B + A * b - a * B - a * b := by grind
  have e4 : (A + a) * (B - b) = A * B - A * b + a * B - a * b := by grind
  omega
/-- A product that needs not be brought is off by less than one. -/
theorem mul_near {a b : Int} (ha : S63 a) (hb : S63 b) (h1 : -39614081257132168796771975168 < a * b) (h2 : a * b < 39614081257132168796771975168) :
    -4294967296 < a * b - 4294967296 * Ma.mul a b ∧ a * b - 4294967296 * Ma.mul a b < 4294967296 := by
  rw [mul_tdiv ha.i hb.i, wh_id ha, wh_id hb]
  generalize a * b = z at *
  rcases Int.le_total 0 z with h | h
  · rw [Int.tdiv_eq_ediv_of_nonneg h, clamp_id (by unfold S63; omega)]; omega
  · have e : Int.tdiv z 4294967296 = -((-z) / 4294967296) := by
      have : z = -(-z) := by omega
      rw [this, Int.neg_tdiv, Int.tdiv_eq_ediv_of_nonneg (by omega), Int.neg_neg]
    rw [e, clamp_id (by unfold S63; omega)]; omega
end Go.Proofs.Ytbdkcjikphlgfaa.Tq
