/- For all ways a and b, brought to 2^44: a length is no less than both parts are, nearly, and no more than their sum, and the way along two others is no longer than both; no condition. -/
import Derived.OpenShut
import Derived.Test.YtfdjpjainjjljaaPVex5
import Derived.Test.YtfdjpjainjjljaaPVex9
import Derived.Test.YtfdjpjainjjljaaVc
import Derived.Test.YtfdjpjainjjljaaTm
import Derived.Test.YtfdjpjainjjljaaLn
namespace Go.Proofs.Ytfdjpjainjjljaa.Pure
open Go.RowKit Go.Proofs.YtfdjpjainjjljaaW.PrintWords Go.Proofs.YtfdjpjainjjljaaW.PrintLast Go.Proofs.YtfdjpjainjjljaaW.PrintMore Go.Proofs.Ytfdjpjainjjljaa.PVe Go.Proofs.Ytfdjpjainjjljaa.Ma Go.Proofs.Ytfdjpjainjjljaa.Fx Go.Proofs.Ytfdjpjainjjljaa.Dv Go.Proofs.Ytfdjpjainjjljaa.Vc Go.Proofs.Ytfdjpjainjjljaa.Tm Go.Proofs.Ytfdjpjainjjljaa.Ln

theorem fit_eq {k : Nat} (hk : 100 ≤ k) : bagatellelaw03_fit.f k = some true :=
  at_rounds bagatellelaw03_fit.mono hk (by decide +kernel)
theorem nb {a b c d : Int} (h1 : a = c) (h2 : b = d) : ¬ ((!(a == c) || (!(b == d))) = true) := by rw [h1, h2]; simp
theorem yb {a b c d : Int} (h1 : a = c) (h2 : b = d) : (a == c && (b == d)) = true := by rw [h1, h2]; simp
theorem cauchy (x y u v A B : Int) (hA : 0 ≤ A) (hB : 0 ≤ B) (h1 : x * x + y * y ≤ A * A) (h2 : u * u + v * v ≤ B * B) : (x + u) * (x + u) + (y + v) * (y + v) ≤ (A + B) * (A + B) := by
  have id1 : (x * u + y * v) * (x * u + y * v) + (x * v - y * u) * (x * v - y * u) = (x * x + y * y) * (u * u + v * v) := by grind
  have n1 := sq_nonneg (x * v - y * u)
  have p1 : 0 ≤ x * x + y * y := by have := sq_nonneg x; have := sq_nonneg y; omega
  have p2 : 0 ≤ u * u + v * v := by have := sq_nonneg u; have := sq_nonneg v; omega
  have h3 : (x * x + y * y) * (u * u + v * v) ≤ A * A * (B * B) := Int.mul_le_mul h1 h2 p2 (sq_nonneg A)
  have e : A * A * (B * B) = (A * B) * (A * B) := by grind
  have h4 : x * u + y * v ≤ A * B := le_of_sq (Int.mul_nonneg hA hB) (by omega)
  rw [sq_add, sq_add, sq_add]
  omega
theorem VecLens : bagatellelaw03_VecLens.Pure := by
  intro a b c d _ _ _ _
  refine ⟨103, ?_⟩
  unfold bagatellelaw03_VecLens.f
  have k1 : 60 ≤ 103 := by omega
  rw [fit_eq (by omega), Option.bind_some, if_pos rfl, vBring_eq (by omega) (by omega), Option.bind_some, vBring_eq (by omega) (by omega), Option.bind_some]
  simp only
  have b1 := bring_b (a := a) (m := 17592186044416) (by omega)
  have b2 := bring_b (a := b) (m := 17592186044416) (by omega)
  have b3 := bring_b (a := c) (m := 17592186044416) (by omega)
  have b4 := bring_b (a := d) (m := 17592186044416) (by omega)
  generalize bring a 17592186044416 = x at *
  generalize bring b 17592186044416 = y at *
  generalize bring c 17592186044416 = u at *
  generalize bring d 17592186044416 = v at *
  have sx : S63 x := by unfold S63; omega
  have sy : S63 y := by unfold S63; omega
  have su : S63 u := by unfold S63; omega
  have sv : S63 v := by unfold S63; omega
  have ax := abs_val sx; have ay := abs_val sy
  have hX : 0 ≤ Ma.abs x ∧ Ma.abs x ≤ 17592186044416 := by rw [ax]; split <;> omega
  have hY : 0 ≤ Ma.abs y ∧ Ma.abs y ≤ 17592186044416 := by rw [ay]; split <;> omega
  have sX : S63 (Ma.abs x) := by unfold S63; omega
  have sY : S63 (Ma.abs y) := by unfold S63; omega
  have a1 : Ma.add x u = x + u := add_id sx su (by unfold S63; omega)
  have a2 : Ma.add y v = y + v := add_id sy sv (by unfold S63; omega)
  have sa1 : S63 (x + u) := by unfold S63; omega
  have sa2 : S63 (y + v) := by unfold S63; omega
  have aXY : Ma.add (Ma.abs x) (Ma.abs y) = Ma.abs x + Ma.abs y := add_id sX sY (by unfold S63; omega)
  obtain ⟨n0, n1, n2, n3⟩ := len_spec (x := x) (y := y) (by omega) (by omega) (by omega) (by omega)
  obtain ⟨p0, p1, p2, p3⟩ := len_spec (x := u) (y := v) (by omega) (by omega) (by omega) (by omega)
  obtain ⟨q0, q1, q2, q3⟩ := len_spec (x := x + u) (y := y + v) (by omega) (by omega) (by omega) (by omega)
  have u1 := len_up (x := x) (y := y) (by omega) (by omega) (by omega) (by omega)
  have u2 := len_up (x := u) (y := v) (by omega) (by omega) (by omega) (by omega)
  obtain ⟨g1, g2, g3, g4⟩ := part_up (x := x) (y := y) (by omega) (by omega) (by omega) (by omega)
  have tri := cauchy x y u v (len x y + 92683) (len u v + 92683) (by omega) (by omega) (by omega) (by omega)
  have tri2 : len (x + u) (y + v) ≤ len x y + 92683 + (len u v + 92683) := le_of_sq (by omega) (by omega)
  have up : len x y ≤ Ma.abs x + Ma.abs y := by
    refine le_of_sq (by omega) ?_
    have e1 := abs_mul_self sx; have e2 := abs_mul_self sy
    have := Int.mul_nonneg hX.1 hY.1
    rw [sq_add]; omega
  have lneg : len (Ma.neg x) (Ma.neg y) = len x y := by
    rw [neg_id sx, neg_id sy]; unfold len dot
    rw [Ma.mul_neg (neg_S sx).i sx, Ma.neg_mul sx sx.i, Int.neg_neg, Ma.mul_neg (neg_S sy).i sy, Ma.neg_mul sy sy.i, Int.neg_neg]
  have mxx : mx (Ma.abs x) (Ma.abs y) < len x y + 92683 ∧ 0 ≤ mx (Ma.abs x) (Ma.abs y) ∧ mx (Ma.abs x) (Ma.abs y) ≤ 17592186044416 := by
    unfold mx; rw [ax, ay]; repeat' split
    all_goals omega
  rw [vLen_eq k1 sx.i sy.i, Option.bind_some, abs_eq sx.i, Option.bind_some, abs_eq sy.i, Option.bind_some, add_eq' (by omega) sX.i sY.i, Option.bind_some, aXY, w64 (x := Ma.abs x + Ma.abs y + 262144) (by unfold I64; omega), if_neg (by omega), Option.bind_some, Option.bind_some, w64 (x := mx (Ma.abs x) (Ma.abs y) - 262144) (by unfold I64; omega), if_neg (by omega), vAdd_eq k1 sx.i sy.i su.i sv.i, Option.bind_some, a1, a2, vLen_eq k1 sa1.i sa2.i, Option.bind_some, vLen_eq k1 su.i sv.i, Option.bind_some, w64 (x := len x y + len u v) (by unfold I64; omega), w64 (x := len x y + len u v + 262144) (by unfold I64; omega), if_pos (by omega), vNeg_eq sx.i sy.i, Option.bind_some, vLen_eq k1 (neg_i sx.i) (neg_i sy.i), Option.bind_some, lneg]
  simp

end Go.Proofs.Ytfdjpjainjjljaa.Pure
