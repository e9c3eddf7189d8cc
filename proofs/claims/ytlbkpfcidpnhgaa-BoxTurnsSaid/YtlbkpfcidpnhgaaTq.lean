/- Turned ways: how far their parts are. -/
import Derived.Test.YtlbkpfcidpnhgaaVc
import Derived.Test.YtlbkpfcidpnhgaaTm
import Derived.Test.YtlbkpfcidpnhgaaLn
namespace Go.Proofs.Ytlbkpfcidpnhgaa.Tq
open Go.RowKit Go.Proofs.YtlbkpfcidpnhgaaW.PrintWords Go.Proofs.YtlbkpfcidpnhgaaW.PrintLast Go.Proofs.YtlbkpfcidpnhgaaW.PrintMore Go.Proofs.Ytlbkpfcidpnhgaa.PBo Go.Proofs.Ytlbkpfcidpnhgaa.Ma Go.Proofs.Ytlbkpfcidpnhgaa.Fx Go.Proofs.Ytlbkpfcidpnhgaa.Dv Go.Proofs.Ytlbkpfcidpnhgaa.Vc Go.Proofs.Ytlbkpfcidpnhgaa.Tm Go.Proofs.Ytlbkpfcidpnhgaa.Ln
theorem unit_sq : ∀ i : Fin 1024, -8589934592 ≤ sn ((i.val : Int) + 256) * sn ((i.val : Int) + 256) + sn (i.val : Int) * sn (i.val : Int) - 18446744073709551616 ∧ sn ((i.val : Int) + 256) * sn ((i.val : Int) + 256) + sn (i.val : Int) * sn (i.val : Int) - 18446744073709551616 ≤ 8589934592 := by decide +kernel
theorem prod_b {a b A B : Int} (h1 : -A ≤ a) (h2 : a ≤ A) (h3 : -B ≤ b) (h4 : b ≤ B) : -(A * B) ≤ a * b ∧ a * b ≤ A * B := by
  have hA : 0 ≤ A := by omega
  have hB : 0 ≤ B := by omega
  have p1 := Int.mul_nonneg (show 0 ≤ A - a by omega) (show 0 ≤ B - b by omega)
  have p2 := Int.mul_nonneg (show 0 ≤ A + a by omega) (show 0 ≤ B + b by omega)
  have p3 := Int.mul_nonneg (show 0 ≤ A - a by omega) (show 0 ≤ B + b by omega)
  have p4 := Int.mul_nonneg (show 0 ≤ A + a by omega) (show 0 ≤ B - b by omega)
  have e1 : (A - a) * (B - b) = A * B - A * b - a * B + a * b := by grind
  have e2 : (A + a) * (B + b) = A * B + A * b + a * B + a * b := by grind
  have e3 : (A - a) * (B + b) = A * B + A * b - a * B - a * b := by grind
  have e4 : (A + a) * (B - b) = A * B - A * b + a * B - a * b := by grind
  omega
/-- A product that needs not be brought is off by less than one. -/
theorem mul_near {a b : Int} (ha : S63 a) (hb : S63 b) (h1 : -39614081257132168796771975168 < a * b) (h2 : a * b < 39614081257132168796771975168) :
    -4294967296 < a * b - 4294967296 * Ma.mul a b ∧ a * b - 4294967296 * Ma.mul a b < 4294967296 := by
  rw [mul_tdiv ha.i hb.i, wh_id ha, wh_id hb]
  generalize a * b = z at *
  rcases Int.le_total 0 z with h | h
  · rw [Int.tdiv_eq_ediv_of_nonneg h, clamp_id (by unfold S63; omega)]; omega
  · have e : Int.tdiv z 4294967296 = -((-z) / 4294967296) := by
      have : z = -(-z) := by omega
      rw [this, Int.neg_tdiv, Int.tdiv_eq_ediv_of_nonneg (by omega), Int.neg_neg]
    rw [e, clamp_id (by unfold S63; omega)]; omega
theorem turned_back {C S x y p1 p2 p3 p4 q1 q2 : Int} (hC : -4294967296 ≤ C ∧ C ≤ 4294967296) (hS : -4294967296 ≤ S ∧ S ≤ 4294967296)
    (hB : -8589934592 ≤ C * C + S * S - 18446744073709551616 ∧ C * C + S * S - 18446744073709551616 ≤ 8589934592) (hx : -4294967296000 ≤ x ∧ x ≤ 4294967296000)
    (e1 : -4294967296 < C * x - 4294967296 * p1 ∧ C * x - 4294967296 * p1 < 4294967296) (e2 : -4294967296 < S * y - 4294967296 * p2 ∧ S * y - 4294967296 * p2 < 4294967296)
    (e3 : -4294967296 < S * x - 4294967296 * p3 ∧ S * x - 4294967296 * p3 < 4294967296) (e4 : -4294967296 < C * y - 4294967296 * p4 ∧ C * y - 4294967296 * p4 < 4294967296)
    (f1 : -4294967296 < C * (p1 - p2) - 4294967296 * q1 ∧ C * (p1 - p2) - 4294967296 * q1 < 4294967296) (f2 : -4294967296 < S * (p3 + p4) - 4294967296 * q2 ∧ S * (p3 + p4) - 4294967296 * q2 < 4294967296) :
    -2010 < q1 + q2 - x ∧ q1 + q2 - x < 2010 := by
  have key : 18446744073709551616 * (q1 + q2 - x) = (C * C + S * S - 18446744073709551616) * x - C * ((C * x - 4294967296 * p1) - (S * y - 4294967296 * p2)) - S * ((S * x - 4294967296 * p3) + (C * y - 4294967296 * p4)) - 4294967296 * ((C * (p1 - p2) - 4294967296 * q1) + (S * (p3 + p4) - 4294967296 * q2)) := by grind
  have b1 := prod_b hB.1 hB.2 hx.1 hx.2
  have b2 := prod_b (A := 4294967296) (B := 8589934592) hC.1 hC.2 (b := (C * x - 4294967296 * p1) - (S * y - 4294967296 * p2)) (by omega) (by omega)
  have b3 := prod_b (A := 4294967296) (B := 8589934592) hS.1 hS.2 (b := (S * x - 4294967296 * p3) + (C * y - 4294967296 * p4)) (by omega) (by omega)
  generalize (C * C + S * S - 18446744073709551616) * x = z1 at *
  generalize C * ((C * x - 4294967296 * p1) - (S * y - 4294967296 * p2)) = z2 at *
  generalize S * ((S * x - 4294967296 * p3) + (C * y - 4294967296 * p4)) = z3 at *
  generalize C * (p1 - p2) = z4 at *
  generalize S * (p3 + p4) = z5 at *
  omega
/-- The square of a turned way. -/
theorem turned_sq {C S x y p1 p2 p3 p4 t : Int} (hC : -4294967296 ≤ C ∧ C ≤ 4294967296) (hS : -4294967296 ≤ S ∧ S ≤ 4294967296)
    (hB : -8589934592 ≤ C * C + S * S - 18446744073709551616 ∧ C * C + S * S - 18446744073709551616 ≤ 8589934592)
    (e1 : -4294967296 < C * x - 4294967296 * p1 ∧ C * x - 4294967296 * p1 < 4294967296) (e2 : -4294967296 < S * y - 4294967296 * p2 ∧ S * y - 4294967296 * p2 < 4294967296)
    (e3 : -4294967296 < S * x - 4294967296 * p3 ∧ S * x - 4294967296 * p3 < 4294967296) (e4 : -4294967296 < C * y - 4294967296 * p4 ∧ C * y - 4294967296 * p4 < 4294967296)
    (t0 : 92683 ≤ t) (t1 : t ≤ 8796093022208) (hx : -t ≤ x ∧ x ≤ t) (hy : -t ≤ y ∧ y ≤ t) (hR : x * x + y * y ≤ t * t) :
    (p1 - p2) * (p1 - p2) + (p3 + p4) * (p3 + p4) ≤ x * x + y * y + 4113 * t ∧ x * x + y * y ≤ (p1 - p2) * (p1 - p2) + (p3 + p4) * (p3 + p4) + 4113 * t := by
  have key : 18446744073709551616 * ((p1 - p2) * (p1 - p2) + (p3 + p4) * (p3 + p4) - (x * x + y * y)) = (C * C + S * S - 18446744073709551616) * (x * x + y * y)
      - 2 * ((C * x - S * y) * ((C * x - 4294967296 * p1) - (S * y - 4294967296 * p2)) + (S * x + C * y) * ((S * x - 4294967296 * p3) + (C * y - 4294967296 * p4)))
      + (((C * x - 4294967296 * p1) - (S * y - 4294967296 * p2)) * ((C * x - 4294967296 * p1) - (S * y - 4294967296 * p2)) + ((S * x - 4294967296 * p3) + (C * y - 4294967296 * p4)) * ((S * x - 4294967296 * p3) + (C * y - 4294967296 * p4))) := by grind
  have R0 : 0 ≤ x * x + y * y := by have := sq_nonneg x; have := sq_nonneg y; omega
  have tt : t * t ≤ 8796093022208 * t := Int.mul_le_mul_of_nonneg_right t1 (by omega)
  have c1 := prod_b hB.1 hB.2 (b := x * x + y * y) (B := t * t) (by omega) hR
  have d1 := prod_b hC.1 hC.2 hx.1 hx.2
  have d2 := prod_b hS.1 hS.2 hy.1 hy.2
  have d3 := prod_b hS.1 hS.2 hx.1 hx.2
  have d4 := prod_b hC.1 hC.2 hy.1 hy.2
  have c2 := prod_b (a := C * x - S * y) (A := 8589934592 * t) (b := (C * x - 4294967296 * p1) - (S * y - 4294967296 * p2)) (B := 8589934592) (by omega) (by omega) (by omega) (by omega)
  have c3 := prod_b (a := S * x + C * y) (A := 8589934592 * t) (b := (S * x - 4294967296 * p3) + (C * y - 4294967296 * p4)) (B := 8589934592) (by omega) (by omega) (by omega) (by omega)
  have c4 := prod_b (a := (C * x - 4294967296 * p1) - (S * y - 4294967296 * p2)) (A := 8589934592) (b := (C * x - 4294967296 * p1) - (S * y - 4294967296 * p2)) (B := 8589934592) (by omega) (by omega) (by omega) (by omega)
  have c5 := prod_b (a := (S * x - 4294967296 * p3) + (C * y - 4294967296 * p4)) (A := 8589934592) (b := (S * x - 4294967296 * p3) + (C * y - 4294967296 * p4)) (B := 8589934592) (by omega) (by omega) (by omega) (by omega)
  have g1 : 8589934592 * (t * t) ≤ 75557863725914323419136 * t := by omega
  have g2 : 8589934592 * t * 8589934592 = 73786976294838206464 * t := by omega
  rw [g2] at c2 c3
  generalize (C * C + S * S - 18446744073709551616) * (x * x + y * y) = z1 at *
  generalize (C * x - S * y) * ((C * x - 4294967296 * p1) - (S * y - 4294967296 * p2)) = z2 at *
  generalize (S * x + C * y) * ((S * x - 4294967296 * p3) + (C * y - 4294967296 * p4)) = z3 at *
  generalize ((C * x - 4294967296 * p1) - (S * y - 4294967296 * p2)) * ((C * x - 4294967296 * p1) - (S * y - 4294967296 * p2)) = z4 at *
  generalize ((S * x - 4294967296 * p3) + (C * y - 4294967296 * p4)) * ((S * x - 4294967296 * p3) + (C * y - 4294967296 * p4)) = z5 at *
  generalize (p1 - p2) * (p1 - p2) + (p3 + p4) * (p3 + p4) = P at *
  generalize x * x + y * y = R at *
  generalize t * t = T at *
  clear e1 e2 e3 e4 d1 d2 d3 d4 hx hy hB hC hS
  omega

/-- The parts of a turned way. -/
def tu (n x y : Int) : Int := Ma.mul (sn (n + 256)) x - Ma.mul (sn n) y
def tv (n x y : Int) : Int := Ma.mul (sn n) x + Ma.mul (sn (n + 256)) y
theorem turned_b {n x y : Int} (h0 : 0 ≤ n) (h1 : n < 1024) (hx : -1099511627776 ≤ x ∧ x ≤ 1099511627776) (hy : -1099511627776 ≤ y ∧ y ≤ 1099511627776) :
    -(len x y + 94740) < tu n x y ∧ tu n x y < len x y + 94740 ∧ -(len x y + 94740) < tv n x y ∧ tv n x y < len x y + 94740 ∧
    Ma.sub (Ma.mul (sn (n + 256)) x) (Ma.mul (sn n) y) = tu n x y ∧ Ma.add (Ma.mul (sn n) x) (Ma.mul (sn (n + 256)) y) = tv n x y := by
  have hB := unit_sq ⟨n.toNat, by omega⟩
  simp only [show ((n.toNat : Nat) : Int) = n by omega] at hB
  have hC := sn_b (n + 256); have hS := sn_b n
  unfold tu tv
  generalize sn (n + 256) = C at *
  generalize sn n = S at *
  have sC : S63 C := by unfold S63; omega
  have sS : S63 S := by unfold S63; omega
  have sx : S63 x := by unfold S63; omega
  have sy : S63 y := by unfold S63; omega
  have z1 := prod_b hC.1 hC.2 hx.1 hx.2
  have z2 := prod_b hS.1 hS.2 hy.1 hy.2
  have z3 := prod_b hS.1 hS.2 hx.1 hx.2
  have z4 := prod_b hC.1 hC.2 hy.1 hy.2
  have e1 := mul_near sC sx (by omega) (by omega)
  have e2 := mul_near sS sy (by omega) (by omega)
  have e3 := mul_near sS sx (by omega) (by omega)
  have e4 := mul_near sC sy (by omega) (by omega)
  have w1 := mul_s sC.i sx.i; have w2 := mul_s sS.i sy.i; have w3 := mul_s sS.i sx.i; have w4 := mul_s sC.i sy.i
  have bx : Ma.sub (Ma.mul C x) (Ma.mul S y) = Ma.mul C x - Ma.mul S y := sub_id w1 w2 (by unfold S63; omega)
  have bY : Ma.add (Ma.mul S x) (Ma.mul C y) = Ma.mul S x + Ma.mul C y := add_id w3 w4 (by unfold S63; omega)
  obtain ⟨n0, _, n2, _⟩ := len_spec (x := x) (y := y) (by omega) (by omega) (by omega) (by omega)
  have nu := len_up (x := x) (y := y) (by omega) (by omega) (by omega) (by omega)
  obtain ⟨g1, g2, g3, g4⟩ := part_up (x := x) (y := y) (by omega) (by omega) (by omega) (by omega)
  have nt : len x y < 2199023255552 := by
    refine lt_of_sq (by omega) ?_
    have := sq_le_of hx.1 hx.2; have := sq_le_of hy.1 hy.2; omega
  have ts := (turned_sq hC hS hB e1 e2 e3 e4 (t := len x y + 92683) (by omega) (by omega) (by omega) (by omega) (by omega)).1
  generalize Ma.mul C x - Ma.mul S y = u at *
  generalize Ma.mul S x + Ma.mul C y = v at *
  have q : u * u + v * v < (len x y + 94740) * (len x y + 94740) := by
    rw [sq_add] at nu ⊢; omega
  have q1 := sq_nonneg u; have q2 := sq_nonneg v
  have m1 : -u * -u = u * u := Int.neg_mul_neg u u
  have m2 : -v * -v = v * v := Int.neg_mul_neg v v
  have l1 := lt_of_sq (a := u) (b := len x y + 94740) (by omega) (by omega)
  have l2 := lt_of_sq (a := -u) (b := len x y + 94740) (by omega) (by omega)
  have l3 := lt_of_sq (a := v) (b := len x y + 94740) (by omega) (by omega)
  have l4 := lt_of_sq (a := -v) (b := len x y + 94740) (by omega) (by omega)
  exact ⟨by omega, l1, by omega, l3, bx, bY⟩
end Go.Proofs.Ytlbkpfcidpnhgaa.Tq
