/- For every way a, brought to 1000, and every angle: turned, and turned back, it is the way, nearly, by quarters exactly, and its length stays, nearly; no condition. -/
import Derived.OpenShut
import Derived.Test.YtfdjpjainjjljaaPVex13
import Derived.Test.YtfdjpjainjjljaaPVex5
import Derived.Test.YtfdjpjainjjljaaVc
import Derived.Test.YtfdjpjainjjljaaTm
import Derived.Test.YtfdjpjainjjljaaLn
namespace Go.Proofs.Ytfdjpjainjjljaa.Pure
open Go.RowKit Go.Proofs.YtfdjpjainjjljaaW.PrintWords Go.Proofs.YtfdjpjainjjljaaW.PrintLast Go.Proofs.YtfdjpjainjjljaaW.PrintMore Go.Proofs.Ytfdjpjainjjljaa.PVe Go.Proofs.Ytfdjpjainjjljaa.Ma Go.Proofs.Ytfdjpjainjjljaa.Fx Go.Proofs.Ytfdjpjainjjljaa.Dv Go.Proofs.Ytfdjpjainjjljaa.Vc Go.Proofs.Ytfdjpjainjjljaa.Tm Go.Proofs.Ytfdjpjainjjljaa.Ln

theorem fit_eq {k : Nat} (hk : 100 ≤ k) : bagatellelaw03_fit.f k = some true :=
  at_rounds bagatellelaw03_fit.mono hk (by decide +kernel)
theorem nb {a b c d : Int} (h1 : a = c) (h2 : b = d) : ¬ ((!(a == c) || (!(b == d))) = true) := by rw [h1, h2]; simp
theorem yb {a b c d : Int} (h1 : a = c) (h2 : b = d) : (a == c && (b == d)) = true := by rw [h1, h2]; simp
theorem unit_sq : ∀ i : Fin 1024, -8589934592 ≤ sn ((i.val : Int) + 256) * sn ((i.val : Int) + 256) + sn (i.val : Int) * sn (i.val : Int) - 18446744073709551616 ∧ sn ((i.val : Int) + 256) * sn ((i.val : Int) + 256) + sn (i.val : Int) * sn (i.val : Int) - 18446744073709551616 ≤ 8589934592 := by decide +kernel
theorem prod_b {a b A B : Int} (h1 : -A ≤ a) (h2 : a ≤ A) (h3 : -B ≤ b) (h4 : b ≤ B) : -(A * B) ≤ a * b ∧ a * b ≤ A * B := by
  have hA : 0 ≤ A := by omega
  have hB : 0 ≤ B := by omega
  have p1 := Int.mul_nonneg (show 0 ≤ A - a by omega) (show 0 ≤ B - b by omega)
  have p2 := Int.mul_nonneg (show 0 ≤ A + a by omega) (show 0 ≤ B + b by omega)
  have p3 := Int.mul_nonneg (show 0 ≤ A - a by omega) (show 0 ≤ B + b by omega)
  have p4 := Int.mul_nonneg (show 0 ≤ A + a by omega) (show 0 ≤ B - b by omega)
  have e1 : (A - a) * (B - b) = A * B - A * b - a * B + a * b := by grind
  have e2 : (A + a) * (B + b) = A * B + A * b + a * B + a * b := by grind
  have e3 : (A - a) * (B + b) = A * B + A * b - a * B - a * b := by grind
  have e4 : (A + a) * (B - b) = A * B - A * b + a * B - a * b := by grind
  omega
/-- A product that needs not be brought is off by less than one. -/
theorem mul_near {a b : Int} (ha : S63 a) (hb : S63 b) (h1 : -39614081257132168796771975168 < a * b) (h2 : a * b < 39614081257132168796771975168) :
    -4294967296 < a * b - 4294967296 * Ma.mul a b ∧ a * b - 4294967296 * Ma.mul a b < 4294967296 := by
  rw [mul_tdiv ha.i hb.i, wh_id ha, wh_id hb]
  generalize a * b = z at *
  rcases Int.le_total 0 z with h | h
  · rw [Int.tdiv_eq_ediv_of_nonneg h, clamp_id (by unfold S63; omega)]; omega
  · have e : Int.tdiv z 4294967296 = -((-z) / 4294967296) := by
      have : z = -(-z) := by omega
      rw [this, Int.neg_tdiv, Int.tdiv_eq_ediv_of_nonneg (by omega), Int.neg_neg]
    rw [e, clamp_id (by unfold S63; omega)]; omega
theorem turned_back {C S x y p1 p2 p3 p4 q1 q2 : Int} (hC : -4294967296 ≤ C ∧ C ≤ 4294967296) (hS : -4294967296 ≤ S ∧ S ≤ 4294967296)
    (hB : -8589934592 ≤ C * C + S * S - 18446744073709551616 ∧ C * C + S * S - 18446744073709551616 ≤ 8589934592) (hx : -4294967296000 ≤ x ∧ x ≤ 4294967296000)
    (e1 : -4294967296 < C * x - 4294967296 * p1 ∧ C * x - 4294967296 * p1 < 4294967296) (e2 : -4294967296 < S * y - 4294967296 * p2 ∧ S * y - 4294967296 * p2 < 4294967296)
    (e3 : -4294967296 < S * x - 4294967296 * p3 ∧ S * x - 4294967296 * p3 < 4294967296) (e4 : -4294967296 < C * y - 4294967296 * p4 ∧ C * y - 4294967296 * p4 < 4294967296)
    (f1 : -4294967296 < C * (p1 - p2) - 4294967296 * q1 ∧ C * (p1 - p2) - 4294967296 * q1 < 4294967296) (f2 : -4294967296 < S * (p3 + p4) - 4294967296 * q2 ∧ S * (p3 + p4) - 4294967296 * q2 < 4294967296) :
    -2010 < q1 + q2 - x ∧ q1 + q2 - x < 2010 := by
  have key : 18446744073709551616 * (q1 + q2 - x) = (C * C + S * S - 18446744073709551616) * x - C * ((C * x - 4294967296 * p1) - (S * y - 4294967296 * p2)) - S * ((S * x - 4294967296 * p3) + (C * y - 4294967296 * p4)) - 4294967296 * ((C * (p1 - p2) - 4294967296 * q1) + (S * (p3 + p4) - 4294967296 * q2)) := by grind
  have b1 := prod_b hB.1 hB.2 hx.1 hx.2
  have b2 := prod_b (A := 4294967296) (B := 8589934592) hC.1 hC.2 (b := (C * x - 4294967296 * p1) - (S * y - 4294967296 * p2)) (by omega) (by omega)
  have b3 := prod_b (A := 4294967296) (B := 8589934592) hS.1 hS.2 (b := (S * x - 4294967296 * p3) + (C * y - 4294967296 * p4)) (by omega) (by omega)
  generalize (C * C + S * S - 18446744073709551616) * x = z1 at *
  generalize C * ((C * x - 4294967296 * p1) - (S * y - 4294967296 * p2)) = z2 at *
  generalize S * ((S * x - 4294967296 * p3) + (C * y - 4294967296 * p4)) = z3 at *
  generalize C * (p1 - p2) = z4 at *
  generalize S * (p3 + p4) = z5 at *
  omega
/-- The square of a turned way. -/
theorem turned_sq {C S x y p1 p2 p3 p4 t : Int} (hC : -4294967296 ≤ C ∧ C ≤ 4294967296) (hS : -4294967296 ≤ S ∧ S ≤ 4294967296)
    (hB : -8589934592 ≤ C * C + S * S - 18446744073709551616 ∧ C * C + S * S - 18446744073709551616 ≤ 8589934592)
    (e1 : -4294967296 < C * x - 4294967296 * p1 ∧ C * x - 4294967296 * p1 < 4294967296) (e2 : -4294967296 < S * y - 4294967296 * p2 ∧ S * y - 4294967296 * p2 < 4294967296)
    (e3 : -4294967296 < S * x - 4294967296 * p3 ∧ S * x - 4294967296 * p3 < 4294967296) (e4 : -4294967296 < C * y - 4294967296 * p4 ∧ C * y - 4294967296 * p4 < 4294967296)
    (t0 : 92683 ≤ t) (t1 : t ≤ 8796093022208) (hx : -t ≤ x ∧ x ≤ t) (hy : -t ≤ y ∧ y ≤ t) (hR : x * x + y * y ≤ t * t) :
    (p1 - p2) * (p1 - p2) + (p3 + p4) * (p3 + p4) ≤ x * x + y * y + 4113 * t ∧ x * x + y * y ≤ (p1 - p2) * (p1 - p2) + (p3 + p4) * (p3 + p4) + 4113 * t := by
  have key : 18446744073709551616 * ((p1 - p2) * (p1 - p2) + (p3 + p4) * (p3 + p4) - (x * x + y * y)) = (C * C + S * S - 18446744073709551616) * (x * x + y * y)
      - 2 * ((C * x - S * y) * ((C * x - 4294967296 * p1) - (S * y - 4294967296 * p2)) + (S * x + C * y) * ((S * x - 4294967296 * p3) + (C * y - 4294967296 * p4)))
      + (((C * x - 4294967296 * p1) - (S * y - 4294967296 * p2)) * ((C * x - 4294967296 * p1) - (S * y - 4294967296 * p2)) + ((S * x - 4294967296 * p3) + (C * y - 4294967296 * p4)) * ((S * x - 4294967296 * p3) + (C * y - 4294967296 * p4))) := by grind
  have R0 : 0 ≤ x * x + y * y := by have := sq_nonneg x; have := sq_nonneg y; omega
  have tt : t * t ≤ 8796093022208 * t := Int.mul_le_mul_of_nonneg_right t1 (by omega)
  have c1 := prod_b hB.1 hB.2 (b := x * x + y * y) (B := t * t) (by omega) hR
  have d1 := prod_b hC.1 hC.2 hx.1 hx.2
  have d2 := prod_b hS.1 hS.2 hy.1 hy.2
  have d3 := prod_b hS.1 hS.2 hx.1 hx.2
  have d4 := prod_b hC.1 hC.2 hy.1 hy.2
  have c2 := prod_b (a := C * x - S * y) (A := 8589934592 * t) (b := (C * x - 4294967296 * p1) - (S * y - 4294967296 * p2)) (B := 8589934592) (by omega) (by omega) (by omega) (by omega)
  have c3 := prod_b (a := S * x + C * y) (A := 8589934592 * t) (b := (S * x - 4294967296 * p3) + (C * y - 4294967296 * p4)) (B := 8589934592) (by omega) (by omega) (by omega) (by omega)
  have c4 := prod_b (a := (C * x - 4294967296 * p1) - (S * y - 4294967296 * p2)) (A := 8589934592) (b := (C * x - 4294967296 * p1) - (S * y - 4294967296 * p2)) (B := 8589934592) (by omega) (by omega) (by omega) (by omega)
  have c5 := prod_b (a := (S * x - 4294967296 * p3) + (C * y - 4294967296 * p4)) (A := 8589934592) (b := (S * x - 4294967296 * p3) + (C * y - 4294967296 * p4)) (B := 8589934592) (by omega) (by omega) (by omega) (by omega)
  have g1 : 8589934592 * (t * t) ≤ 75557863725914323419136 * t := by omega
  have g2 : 8589934592 * t * 8589934592 = 73786976294838206464 * t := by omega
  rw [g2] at c2 c3
  generalize (C * C + S * S - 18446744073709551616) * (x * x + y * y) = z1 at *
  generalize (C * x - S * y) * ((C * x - 4294967296 * p1) - (S * y - 4294967296 * p2)) = z2 at *
  generalize (S * x + C * y) * ((S * x - 4294967296 * p3) + (C * y - 4294967296 * p4)) = z3 at *
  generalize ((C * x - 4294967296 * p1) - (S * y - 4294967296 * p2)) * ((C * x - 4294967296 * p1) - (S * y - 4294967296 * p2)) = z4 at *
  generalize ((S * x - 4294967296 * p3) + (C * y - 4294967296 * p4)) * ((S * x - 4294967296 * p3) + (C * y - 4294967296 * p4)) = z5 at *
  generalize (p1 - p2) * (p1 - p2) + (p3 + p4) * (p3 + p4) = P at *
  generalize x * x + y * y = R at *
  generalize t * t = T at *
  clear e1 e2 e3 e4 d1 d2 d3 d4 hx hy hB hC hS
  omega
theorem VecTurns : bagatellelaw03_VecTurns.Pure := by
  intro a b t _ _ _
  refine ⟨103, ?_⟩
  unfold bagatellelaw03_VecTurns.f
  have k1 : 60 ≤ 103 := by omega
  rw [fit_eq (by omega), Option.bind_some, if_pos rfl, vBring_eq (by omega) (by omega), Option.bind_some, Of_eq (by omega), Option.bind_some, Of_eq (by omega)]
  simp only
  have h1 := bring_b (a := a) (m := 4294967296000) (by omega)
  have h2 := bring_b (a := b) (m := 4294967296000) (by omega)
  generalize bring a 4294967296000 = x at *
  generalize bring b 4294967296000 = y at *
  have hn := stp_b t
  have hB := unit_sq ⟨(stp t).toNat, by omega⟩
  simp only [show (((stp t).toNat : Nat) : Int) = stp t by omega] at hB
  have hC := sn_b (stp t + 256); have hS := sn_b (stp t)
  have q1 : sn (stp 1073741824 + 256) = 0 := by decide +kernel
  have q2 : sn (stp 1073741824) = 4294967296 := by decide +kernel
  rw [q1, q2]
  generalize sn (stp t + 256) = C at *
  generalize sn (stp t) = S at *
  have sC : S63 C := by unfold S63; omega
  have sS : S63 S := by unfold S63; omega
  have sx : S63 x := by unfold S63; omega
  have sy : S63 y := by unfold S63; omega
  have s0 : S63 0 := by unfold S63; omega
  have s1 : S63 4294967296 := by unfold S63; omega
  -- the products
  have z1 := prod_b hC.1 hC.2 h1.1 h1.2
  have z2 := prod_b hS.1 hS.2 h2.1 h2.2
  have z3 := prod_b hS.1 hS.2 h1.1 h1.2
  have z4 := prod_b hC.1 hC.2 h2.1 h2.2
  have e1 := mul_near sC sx (by omega) (by omega)
  have e2 := mul_near sS sy (by omega) (by omega)
  have e3 := mul_near sS sx (by omega) (by omega)
  have e4 := mul_near sC sy (by omega) (by omega)
  have w1 := mul_s sC.i sx.i; have w2 := mul_s sS.i sy.i; have w3 := mul_s sS.i sx.i; have w4 := mul_s sC.i sy.i
  have bx : Ma.sub (Ma.mul C x) (Ma.mul S y) = Ma.mul C x - Ma.mul S y := sub_id w1 w2 (by unfold S63; omega)
  have bY : Ma.add (Ma.mul S x) (Ma.mul C y) = Ma.mul S x + Ma.mul C y := add_id w3 w4 (by unfold S63; omega)
  have ap : vec_Apply.f 103 C S x y = some (Ma.mul C x - Ma.mul S y, Ma.mul S x + Ma.mul C y) := by rw [vApply_eq k1 sC.i sS.i sx.i sy.i, bx, bY]
  rw [ap, Option.bind_some, mul_eq (by omega) sC.i sx.i, Option.bind_some, mul_eq (by omega) sS.i sy.i, Option.bind_some, Sub_eq (by omega) w1.i w2.i, Option.bind_some, mul_eq (by omega) sS.i sx.i, Option.bind_some, mul_eq (by omega) sC.i sy.i, Option.bind_some, add_eq' (by omega) w3.i w4.i, Option.bind_some, bx, bY, if_neg (nb rfl rfl)]
  -- the way's own numbers
  obtain ⟨n0, n1, n2, n3⟩ := len_spec (x := x) (y := y) (by omega) (by omega) (by omega) (by omega)
  have nu := len_up (x := x) (y := y) (by omega) (by omega) (by omega) (by omega)
  obtain ⟨g1, g2, g3, g4⟩ := part_up (x := x) (y := y) (by omega) (by omega) (by omega) (by omega)
  have nt : len x y < 8589934592000 := by
    refine lt_of_sq (by omega) ?_
    have := sq_le_of h1.1 h1.2; have := sq_le_of h2.1 h2.2; omega
  have ts := turned_sq hC hS hB e1 e2 e3 e4 (t := len x y + 92683) (by omega) (by omega) (by omega) (by omega) (by omega)
  have bb : -17592186044416 ≤ Ma.mul C x - Ma.mul S y ∧ Ma.mul C x - Ma.mul S y ≤ 17592186044416 ∧ -17592186044416 ≤ Ma.mul S x + Ma.mul C y ∧ Ma.mul S x + Ma.mul C y ≤ 17592186044416 := by omega
  have tb1 : ∀ (u v p q : Int), -4294967296 < C * u - 4294967296 * p ∧ C * u - 4294967296 * p < 4294967296 → -4294967296 < S * v - 4294967296 * q ∧ S * v - 4294967296 * q < 4294967296 → u = Ma.mul C x - Ma.mul S y → v = Ma.mul S x + Ma.mul C y → -2010 < p + q - x ∧ p + q - x < 2010 := by
    intro u v p q f1 f2 hu hv
    subst hu hv
    exact turned_back hC hS hB h1 e1 e2 e3 e4 f1 f2
  have tb2 : ∀ (u v p q : Int), -4294967296 < C * v - 4294967296 * p ∧ C * v - 4294967296 * p < 4294967296 → -4294967296 < S * u - 4294967296 * q ∧ S * u - 4294967296 * q < 4294967296 → u = Ma.mul C x - Ma.mul S y → v = Ma.mul S x + Ma.mul C y → -2010 < p - q - y ∧ p - q - y < 2010 := by
    intro u v p q f1 f2 hu hv
    subst hu hv
    have hS' : -4294967296 ≤ -S ∧ -S ≤ 4294967296 := by omega
    have hB' : -8589934592 ≤ C * C + -S * -S - 18446744073709551616 ∧ C * C + -S * -S - 18446744073709551616 ≤ 8589934592 := by rw [Int.neg_mul_neg]; exact hB
    have := turned_back (C := C) (S := -S) (x := y) (y := x) (p1 := Ma.mul C y) (p2 := -Ma.mul S x) (p3 := -Ma.mul S y) (p4 := Ma.mul C x) (q1 := p) (q2 := -q) hC hS' hB' h2 e4 (by rw [Int.neg_mul]; omega) (by rw [Int.neg_mul]; omega) e1
      (by rw [show Ma.mul C y - -Ma.mul S x = Ma.mul S x + Ma.mul C y by omega]; exact f1) (by rw [show -Ma.mul S y + Ma.mul C x = Ma.mul C x - Ma.mul S y by omega, Int.neg_mul]; omega)
    omega
  generalize hu : Ma.mul C x - Ma.mul S y = u at *
  generalize hv : Ma.mul S x + Ma.mul C y = v at *
  clear e1 e2 e3 e4 w1 w2 w3 w4 z1 z2 z3 z4 bx bY ap
  have su : S63 u := by unfold S63; omega
  have sv : S63 v := by unfold S63; omega
  have y1 := prod_b hC.1 hC.2 bb.1 bb.2.1
  have y2 := prod_b hS.1 hS.2 bb.2.2.1 bb.2.2.2
  have y3 := prod_b hC.1 hC.2 bb.2.2.1 bb.2.2.2
  have y4 := prod_b hS.1 hS.2 bb.1 bb.2.1
  have f1 := mul_near sC su (by omega) (by omega)
  have f2 := mul_near sS sv (by omega) (by omega)
  have f3 := mul_near sC sv (by omega) (by omega)
  have f4 := mul_near sS su (by omega) (by omega)
  have r1 := tb1 u v _ _ f1 f2 rfl rfl
  have r2 := tb2 u v _ _ f3 f4 rfl rfl
  have v1 := mul_s sC.i su.i; have v2 := mul_s sS.i sv.i; have v3 := mul_s sC.i sv.i; have v4 := mul_s sS.i su.i
  have cx : Ma.add (Ma.mul C u) (Ma.mul S v) = Ma.mul C u + Ma.mul S v := add_id v1 v2 (by unfold S63; omega)
  have cy : Ma.sub (Ma.mul C v) (Ma.mul S u) = Ma.mul C v - Ma.mul S u := sub_id v3 v4 (by unfold S63; omega)
  rw [vBack_eq k1 sC.i sS.i su.i sv.i, Option.bind_some, mul_eq (by omega) sC.i su.i, Option.bind_some, mul_eq (by omega) sS.i sv.i, Option.bind_some, add_eq' (by omega) v1.i v2.i, Option.bind_some, mul_eq (by omega) sC.i sv.i, Option.bind_some, mul_eq (by omega) sS.i su.i, Option.bind_some, Sub_eq (by omega) v3.i v4.i, Option.bind_some, if_neg (nb rfl rfl)]
  rw [cx, cy]
  generalize Ma.mul C u + Ma.mul S v = c at *
  generalize Ma.mul C v - Ma.mul S u = d at *
  have sc : S63 c := by unfold S63; omega
  have sd : S63 d := by unfold S63; omega
  have dx : Ma.sub c x = c - x := sub_id sc sx (by unfold S63; omega)
  have dy : Ma.sub d y = d - y := sub_id sd sy (by unfold S63; omega)
  have sdx : S63 (c - x) := by unfold S63; omega
  have sdy : S63 (d - y) := by unfold S63; omega
  rw [vSub_eq k1 sc.i sd.i sx.i sy.i, Option.bind_some, Option.bind_some, dx, dy, abs_eq sdx.i, Option.bind_some, if_pos (by rw [abs_val sdx]; split <;> omega), abs_eq sdy.i, Option.bind_some, if_pos (by rw [abs_val sdy]; split <;> omega)]
  have sny := neg_S sy
  have k2 : Ma.sub (Ma.mul 0 x) (Ma.mul 4294967296 y) = -y := by rw [Ma.zero_mul, Ma.mul_comm 4294967296 y, mul_one sy, sub_id s0 sy (by unfold S63; omega)]; omega
  have k3 : Ma.add (Ma.mul 4294967296 x) (Ma.mul 0 y) = x := by rw [Ma.zero_mul, Ma.mul_comm 4294967296 x, mul_one sx, Ma.add_zero sx]
  have k4 : Ma.add (Ma.mul 0 (-y)) (Ma.mul 4294967296 x) = x := by rw [Ma.zero_mul, Ma.mul_comm 4294967296 x, mul_one sx, Ma.add_comm, Ma.add_zero sx]
  have k5 : Ma.sub (Ma.mul 0 x) (Ma.mul 4294967296 (-y)) = y := by rw [Ma.zero_mul, Ma.mul_comm 4294967296 (-y), mul_one sny, sub_id s0 sny (by unfold S63; omega)]; omega
  rw [vApply_eq k1 s0.i s1.i sx.i sy.i, Option.bind_some, k2, k3, vLeft_eq sy.i, Option.bind_some, neg_id sy, if_pos (yb rfl rfl), Option.bind_some, vBack_eq k1 s0.i s1.i sny.i sx.i, Option.bind_some, k4, k5, if_pos (yb rfl rfl)]
  -- the lengths
  obtain ⟨m0, m1, m2, m3⟩ := len_spec (x := u) (y := v) (by omega) (by omega) (by omega) (by omega)
  have mu := len_up (x := u) (y := v) (by omega) (by omega) (by omega) (by omega)
  have fin1 : len u v < len x y + 92683 + 2057 := by
    refine lt_of_sq (by omega) ?_
    rw [sq_add (len x y + 92683)]; omega
  have fin2 : len x y < len u v + 1048576 := by
    rcases Int.lt_or_le (len x y) (len u v + 1048576) with h | h
    · exact h
    · exfalso
      have a1 : (len u v + 92683) * (len u v + 92683) ≤ (len x y - 955893) * (len x y - 955893) := Int.mul_le_mul (by omega) (by omega) (by omega) (by omega)
      have a2 : (len x y - 955893) * (len x y - 955893) = len x y * len x y - 1911786 * len x y + 913731427449 := by grind
      omega
  have sl : S63 (len u v - len x y) := by unfold S63; omega
  rw [vLen_eq k1 su.i sv.i, Option.bind_some, vLen_eq k1 sx.i sy.i, Option.bind_some, w64 (x := len u v - len x y) sl.i, abs_eq sl.i, Option.bind_some, abs_val sl, decide_eq_true]
  split <;> omega

end Go.Proofs.Ytfdjpjainjjljaa.Pure
