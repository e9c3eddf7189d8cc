/- Plain mathematics of lengths: how far the root of the sum of two rounded squares is from the true length. -/
import Derived.Test.YtlbkpfcidpnhgaaVc
namespace Go.Proofs.Ytlbkpfcidpnhgaa.Ln
open Go.Proofs.Ytlbkpfcidpnhgaa.Ma Go.Proofs.Ytlbkpfcidpnhgaa.Vc

theorem sq_nonneg (x : Int) : 0 ≤ x * x := by
  rcases Int.le_total 0 x with h | h
  · exact Int.mul_nonneg h h
  · have := Int.mul_nonneg (show 0 ≤ -x by omega) (show 0 ≤ -x by omega)
    rw [Int.neg_mul_neg] at this; exact this
theorem sq_le_of {x m : Int} (h : -m ≤ x) (h' : x ≤ m) : x * x ≤ m * m := by
  rcases Int.le_total 0 x with h0 | h0
  · exact Int.mul_le_mul h' h' h0 (by omega)
  · have := Int.mul_le_mul (show -x ≤ m by omega) (show -x ≤ m by omega) (by omega) (by omega)
    rw [Int.neg_mul_neg] at this; exact this
theorem abs_mul_self {x : Int} (h : S63 x) : Ma.abs x * Ma.abs x = x * x := by
  unfold Ma.abs; rw [neg_id h]; split
  · exact Int.neg_mul_neg x x
  · rfl
theorem abs_val {x : Int} (h : S63 x) : Ma.abs x = if x < 0 then -x else x := by unfold Ma.abs; rw [neg_id h]
theorem mul_self {x : Int} (h : -70368744177664 ≤ x) (h' : x ≤ 70368744177664) : Ma.mul x x = x * x / 4294967296 := by
  have hs : S63 x := by unfold S63; omega
  have b := sq_le_of h h'
  have n := sq_nonneg x
  unfold Ma.mul; rw [abs_mul_self hs]
  have e : sg x x = false := by unfold sg; cases decide (x < 0) <;> rfl
  rw [e]; unfold sgn top; rw [if_neg (by decide), if_pos (by omega)]
theorem dot_self {x y : Int} (h1 : -70368744177664 ≤ x) (h2 : x ≤ 70368744177664) (h3 : -70368744177664 ≤ y) (h4 : y ≤ 70368744177664) : dot x y x y = x * x / 4294967296 + y * y / 4294967296 := by
  have b1 := sq_le_of h1 h2; have n1 := sq_nonneg x
  have b2 := sq_le_of h3 h4; have n2 := sq_nonneg y
  unfold dot; rw [mul_self h1 h2, mul_self h3 h4, add_id (by unfold S63; omega) (by unfold S63; omega) (by unfold S63; omega)]
/-- A length: its square is not above the sum of the squares, and not far below. -/
theorem len_spec {x y : Int} (h1 : -70368744177664 ≤ x) (h2 : x ≤ 70368744177664) (h3 : -70368744177664 ≤ y) (h4 : y ≤ 70368744177664) :
    0 ≤ len x y ∧ len x y < 281474976710656 ∧ len x y * len x y ≤ x * x + y * y ∧ x * x + y * y < (len x y + 1) * (len x y + 1) + 8589934592 := by
  have b1 := sq_le_of h1 h2; have n1 := sq_nonneg x
  have b2 := sq_le_of h3 h4; have n2 := sq_nonneg y
  have ed := dot_self h1 h2 h3 h4
  have := sqrt_spec (a := dot x y x y) (by rw [ed]; omega) (by rw [ed]; omega)
  unfold len
  generalize Ma.sqrt (dot x y x y) = n at *
  rw [ed] at this
  generalize n * n = nn at *
  generalize (n + 1) * (n + 1) = mm at *
  omega
theorem sq_add (a b : Int) : (a + b) * (a + b) = a * a + 2 * (a * b) + b * b := by grind
/-- The true length is below the length that is told and 92683. -/
theorem len_up {x y : Int} (h1 : -70368744177664 ≤ x) (h2 : x ≤ 70368744177664) (h3 : -70368744177664 ≤ y) (h4 : y ≤ 70368744177664) :
    x * x + y * y < (len x y + 92683) * (len x y + 92683) := by
  obtain ⟨n0, _, _, h⟩ := len_spec h1 h2 h3 h4
  rw [sq_add] at h ⊢
  omega
theorem lt_of_sq {a b : Int} (hb : 0 ≤ b) (h : a * a < b * b) : a < b := by
  rcases Int.lt_or_le a b with h' | h'
  · exact h'
  · have := Int.mul_le_mul h' h' hb (by omega); omega
theorem le_of_sq {a b : Int} (hb : 0 ≤ b) (h : a * a ≤ b * b) : a ≤ b := by
  have := lt_of_sq (a := a) (b := b + 1) (by omega) (by rw [sq_add]; omega)
  omega
/-- Each part is below the length that is told and 92683. -/
theorem part_up {x y : Int} (h1 : -70368744177664 ≤ x) (h2 : x ≤ 70368744177664) (h3 : -70368744177664 ≤ y) (h4 : y ≤ 70368744177664) :
    x < len x y + 92683 ∧ -x < len x y + 92683 ∧ y < len x y + 92683 ∧ -y < len x y + 92683 := by
  have h := len_up h1 h2 h3 h4
  have n0 := (len_spec h1 h2 h3 h4).1
  have n1 := sq_nonneg x; have n2 := sq_nonneg y
  have e1 : -x * -x = x * x := Int.neg_mul_neg x x
  have e2 : -y * -y = y * y := Int.neg_mul_neg y y
  refine ⟨lt_of_sq (by omega) (by omega), lt_of_sq (by omega) (by omega), lt_of_sq (by omega) (by omega), lt_of_sq (by omega) (by omega)⟩
end Go.Proofs.Ytlbkpfcidpnhgaa.Ln
