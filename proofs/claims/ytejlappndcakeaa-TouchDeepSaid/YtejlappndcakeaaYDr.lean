/- What rounding leaves: products, quotients, lengths, turned corners, in plain whole numbers. -/
import Derived.Test.YtejlappndcakeaaYLv
import Derived.Test.YtejlappndcakeaaYDi
namespace Go.Proofs.Ytejlappndcakeaa.Y
open Go Go.RowKit Go.Proofs.Ytejlappndcakeaa.E Go.Proofs.Ytejlappndcakeaa.Ma Go.Proofs.Ytejlappndcakeaa.Fw
set_option linter.unusedVariables false
set_option linter.unusedSimpArgs false

theorem mul_tr {a b : Int} (ha : S63 a) (hb : S63 b) (h1 : -19807040628566084398385987584 ≤ a * b) (h2 : a * b ≤ 19807040628566084398385987584) :
    -4294967296 < 4294967296 * mul a b - a * b ∧ 4294967296 * mul a b - a * b < 4294967296 ∧ -4611686018427387904 ≤ mul a b ∧ mul a b ≤ 4611686018427387904 := by
  have n1 := (abs_s ha.i).1
  have n2 := (abs_s hb.i).1
  have h0 := Int.mul_nonneg n1 n2
  have e : Ma.abs a * Ma.abs b = if a < 0 then (if b < 0 then a * b else -(a * b)) else (if b < 0 then -(a * b) else a * b) := by
    unfold Ma.abs
    rw [neg_id ha, neg_id hb]
    repeat' split
    all_goals (first | exact Int.neg_mul_neg _ _ | exact Int.neg_mul _ _ | exact Int.mul_neg _ _ | rfl)
  unfold mul
  rw [e] at h0 ⊢
  unfold sgn sg top
  generalize a * b = p at *
  by_cases k1 : a < 0 <;> by_cases k2 : b < 0 <;> simp only [k1, k2, if_true, if_false, decide_true, decide_false] at h0 ⊢ <;> simp <;> (repeat' split) <;> omega
theorem div_tr {x z : Int} (hx : S63 x) (hz : S63 z) (z0 : 0 < z) (h : x < z + 92683) (h' : -x < z + 92683) : -z ≤ z * div x z - 4294967296 * x ∧ z * div x z - 4294967296 * x ≤ z := by
  have ez : Ma.abs z = z := abs_nn (by omega)
  have key : ∀ y : Int, 0 ≤ y → y < z + 92683 → z * (y * 4294967296 / z) ≤ y * 4294967296 ∧ y * 4294967296 < z * (y * 4294967296 / z) + z ∧ y * 4294967296 / z < 9223372036854775808 ∧ 0 ≤ y * 4294967296 / z := fun y y0 hy => by
    refine ⟨Int.mul_ediv_self_le (by omega), Int.lt_mul_ediv_self_add z0, ?_, Int.ediv_nonneg (by omega) (by omega)⟩
    rw [Int.ediv_lt_iff_lt_mul z0]; omega
  unfold div
  rw [ez, if_neg (show ¬ z = 0 by omega)]
  by_cases x0 : x = 0
  · subst x0
    rw [if_pos (by rw [abs_zero])]
    omega
  · rw [if_neg (by rw [abs_zero]; exact x0)]
    rcases Int.lt_or_le x 0 with k | k
    · have ea : Ma.abs x = -x := abs_ng hx (by omega)
      have es : sg x z = true := by unfold sg; simp [k]; omega
      obtain ⟨k1, k2, k3, k4⟩ := key (-x) (by omega) (by omega)
      rw [ea, es]
      unfold sgn top
      rw [if_pos rfl, if_pos k3, Int.mul_neg]
      generalize z * (-x * 4294967296 / z) = w at *
      omega
    · have ea : Ma.abs x = x := abs_nn k
      have es : sg x z = false := by unfold sg; simp; omega
      obtain ⟨k1, k2, k3, k4⟩ := key x (by omega) (by omega)
      rw [ea, es]
      unfold sgn top
      rw [if_neg (by decide), if_pos k3]
      generalize z * (x * 4294967296 / z) = w at *
      omega
theorem len_up {p : P2} (h : Bn 70368744177664 p) : vlen p * vlen p ≤ p.1 * p.1 + p.2 * p.2 := by
  obtain ⟨h1, h2, h3, h4⟩ := h
  have b1 := sq_le_of h1 h2; have n1 := sq_nonneg p.1
  have b2 := sq_le_of h3 h4; have n2 := sq_nonneg p.2
  have ed : dot p p = p.1 * p.1 / 4294967296 + p.2 * p.2 / 4294967296 := by
    unfold dot; rw [mul_self h1 h2, mul_self h3 h4, add_id (by unfold S63; omega) (by unfold S63; omega) (by unfold S63; omega)]
  have hq := sqrt_spec (a := dot p p) (by rw [ed]; omega) (by rw [ed]; omega)
  have hv : vlen p = sqrt (dot p p) := rfl
  rw [hv]
  generalize sqrt (dot p p) = n at *
  rw [ed] at hq
  obtain ⟨_, _, hh, _⟩ := hq
  omega
theorem le_of_sq' {a b : Int} (hb : 0 ≤ b) (h : a * a ≤ b * b) : a ≤ b := by
  rcases Int.lt_or_le b a with h' | h'
  · have := Int.mul_le_mul h' h' (by omega) (by omega)
    have e : (b + 1) * (b + 1) = b * b + 2 * b + 1 := by grind
    omega
  · exact h'
theorem len_nrm {p : P2} (h : Bn 70368744177664 p) : vlen p ≤ nrm p := by
  have a := len_up h
  refine le_of_sq' (nrm_b p).2.2.2.2 ?_
  have a1 : p.1 * p.1 = (p.1.natAbs : Int) * p.1.natAbs := (Int.natAbs_mul_self' p.1).symm
  have a2 : p.2 * p.2 = (p.2.natAbs : Int) * p.2.natAbs := (Int.natAbs_mul_self' p.2).symm
  have e : nrm p * nrm p = (p.1.natAbs : Int) * p.1.natAbs + 2 * ((p.1.natAbs : Int) * p.2.natAbs) + (p.2.natAbs : Int) * p.2.natAbs := by unfold nrm; grind
  have := Int.mul_nonneg (show 0 ≤ (p.1.natAbs : Int) by omega) (show 0 ≤ (p.2.natAbs : Int) by omega)
  omega
/-- A product of ways, but for what is rounded. -/
theorem dot_tr {u v : P2} (hu : Bn 398074748862464 u) (hv : Bn 10000000000000 v) : -8589934592 < 4294967296 * dot u v - dtp u v ∧ 4294967296 * dot u v - dtp u v < 8589934592 := by
  have us := hu.s (by omega)
  have vs := hv.s (by omega)
  have p1 := prod_b hu.1 hu.2.1 hv.1 hv.2.1
  have p2 := prod_b hu.2.2.1 hu.2.2.2 hv.2.2.1 hv.2.2.2
  have m1 := mul_tr us.1 vs.1 (by omega) (by omega)
  have m2 := mul_tr us.2 vs.2 (by omega) (by omega)
  unfold dot dtp
  rw [add_id (by unfold S63; omega) (by unfold S63; omega) (by unfold S63; omega)]
  omega
/-- A turned corner, but for what is rounded. -/
theorem apply_tw {r d : P2} {s : Int} (hr : Bn 4294967296 r) (hp : Bn 17448304640 (d.1 * s, d.2 * s)) : Tw r.1 r.2 s 8589934592 d (vapply r (d.1 * s, d.2 * s)) := by
  have rs := hr.s (by omega)
  have ps := hp.s (by omega)
  obtain ⟨r1, r2, r3, r4⟩ := hr
  obtain ⟨p1, p2, p3, p4⟩ := hp
  have q1 := prod_b r1 r2 p1 p2
  have q2 := prod_b r3 r4 p3 p4
  have q3 := prod_b r3 r4 p1 p2
  have q4 := prod_b r1 r2 p3 p4
  simp only at q1 q2 q3 q4
  have m1 := mul_tr rs.1 ps.1 (by simp only; omega) (by simp only; omega)
  have m2 := mul_tr rs.2 ps.2 (by simp only; omega) (by simp only; omega)
  have m3 := mul_tr rs.2 ps.1 (by simp only; omega) (by simp only; omega)
  have m4 := mul_tr rs.1 ps.2 (by simp only; omega) (by simp only; omega)
  simp only at m1 m2 m3 m4
  have e1 : sub (mul r.1 (d.1 * s)) (mul r.2 (d.2 * s)) = mul r.1 (d.1 * s) - mul r.2 (d.2 * s) := sub_id (by unfold S63; omega) (by unfold S63; omega) (by unfold S63; omega)
  have e2 : add (mul r.2 (d.1 * s)) (mul r.1 (d.2 * s)) = mul r.2 (d.1 * s) + mul r.1 (d.2 * s) := add_id (by unfold S63; omega) (by unfold S63; omega) (by unfold S63; omega)
  have i1 : s * (r.1 * d.1 - r.2 * d.2) = r.1 * (d.1 * s) - r.2 * (d.2 * s) := by grind
  have i2 : s * (r.2 * d.1 + r.1 * d.2) = r.2 * (d.1 * s) + r.1 * (d.2 * s) := by grind
  refine ⟨?_, ?_⟩
  · show -8589934592 ≤ 4294967296 * sub (mul r.1 (d.1 * s)) (mul r.2 (d.2 * s)) - s * (r.1 * d.1 - r.2 * d.2) ∧ 4294967296 * sub (mul r.1 (d.1 * s)) (mul r.2 (d.2 * s)) - s * (r.1 * d.1 - r.2 * d.2) ≤ 8589934592
    rw [e1, i1]; omega
  · show -8589934592 ≤ 4294967296 * add (mul r.2 (d.1 * s)) (mul r.1 (d.2 * s)) - s * (r.2 * d.1 + r.1 * d.2) ∧ 4294967296 * add (mul r.2 (d.1 * s)) (mul r.1 (d.2 * s)) - s * (r.2 * d.1 + r.1 * d.2) ≤ 8589934592
    rw [e2, i2]; omega
/-! ### Turns -/
theorem tab_q : ∀ i : Fin 257, 9223372036854775808 ≤ List.getD Tab3586caee i.val 0 * List.getD Tab3586caee i.val 0 + List.getD Tab3586caee (256 - i.val) 0 * List.getD Tab3586caee (256 - i.val) 0 := by decide +kernel
def Tq (j : Int) : Int := List.getD Tab3586caee j.toNat 0 * List.getD Tab3586caee j.toNat 0
def jn (k : Int) : Int := if k ≤ 256 then k else if k ≤ 512 then 512 - k else if k ≤ 768 then k - 512 else 1024 - k
theorem Sine_q {k : Int} (h0 : 0 ≤ k) (h1 : k ≤ 256) : ∃ v, api.Sine.f k = some v ∧ v * v = Tq k ∧ 0 ≤ v ∧ v ≤ 4294967296 := by
  have := tab_b ⟨k.toNat, by omega⟩
  refine ⟨List.getD Tab3586caee k.toNat 0, ?_, rfl, this.1, this.2⟩
  rw [api.Sine.eq]
  simp only [Bool.cond_decide]
  rw [if_neg (by omega), if_neg (by omega), show ((decide (0 ≤ k)) && (decide (k < 257))) = true by simp; omega]
  rfl
theorem sine1_q {n : Int} (h0 : 0 ≤ n) (h1 : n ≤ 512) : ∃ v, turn.sine_1.f n = some v ∧ v * v = Tq (if n ≤ 256 then n else 512 - n) ∧ 0 ≤ v ∧ v ≤ 4294967296 := by
  rw [turn.sine_1.eq]
  simp only [m10, Bool.cond_decide]
  rw [show n % 1024 = n by omega]
  split
  · obtain ⟨v, a, b⟩ := Sine_q (k := n) h0 (by omega)
    rw [a]; exact ⟨v, rfl, b⟩
  · rw [w64 (x := 512 - n) (by unfold I64; omega)]
    obtain ⟨v, a, b⟩ := Sine_q (k := 512 - n) (by omega) (by omega)
    rw [a]; exact ⟨v, rfl, b⟩
theorem sine_q (n : Int) : ∃ v, turn.sine.f n = some v ∧ v * v = Tq (jn (n % 1024)) := by
  rw [turn.sine.eq]
  simp only [m10, Bool.cond_decide]
  have b0 : 0 ≤ n % 1024 ∧ n % 1024 < 1024 := by omega
  generalize n % 1024 = k at *
  unfold jn
  split
  · obtain ⟨v, a, b⟩ := Sine_q (k := k) (by omega) (by omega)
    rw [a]; exact ⟨v, rfl, b.1⟩
  · split
    · rw [w64 (x := 512 - k) (by unfold I64; omega)]
      obtain ⟨v, a, b⟩ := Sine_q (k := 512 - k) (by omega) (by omega)
      rw [a]; exact ⟨v, rfl, b.1⟩
    · rw [w64 (x := k - 512) (by unfold I64; omega)]
      obtain ⟨v, a, b⟩ := sine1_q (n := k - 512) (by omega) (by omega)
      rw [a]
      refine ⟨_, rfl, ?_⟩
      rw [w64 (by unfold I64; omega), Int.zero_sub, Int.neg_mul_neg, b.1]
      by_cases h : k ≤ 768
      · rw [if_pos h, if_pos (by omega)]
      · rw [if_neg h, if_neg (by omega)]
        rw [show 512 - (k - 512) = 1024 - k by omega]
theorem rot_rt (a : Int) : Rt (rotF a).1 (rotF a).2 := by
  have hb := rot_b a
  refine ⟨⟨hb.1, hb.2.1⟩, ⟨hb.2.2.1, hb.2.2.2⟩, ?_⟩
  have h1 := (rot_eq a).1
  rw [turn.Of.eq, turn.Step.eq, turn.Wrap.eq, Option.bind_some, Option.bind_some, m32] at h1
  have ek : Int.fdiv (a % 4294967296) (2 ^ 22) = a % 4294967296 / 4194304 := fdiv_pow 22
  rw [ek, w64 (x := a % 4294967296 / 4194304 + 256) (by unfold I64; omega)] at h1
  have bk : 0 ≤ a % 4294967296 / 4194304 ∧ a % 4294967296 / 4194304 < 1024 := by omega
  generalize a % 4294967296 / 4194304 = k at *
  obtain ⟨v, a1, a2⟩ := sine_q (k + 256)
  obtain ⟨u, b1, b2⟩ := sine_q k
  rw [a1, b1] at h1
  have e : (v, u) = rotF a := Option.some.inj h1
  rw [← e]
  show 9223372036854775808 ≤ v * v + u * u
  rw [a2, b2]
  have ej : jn ((k + 256) % 1024) = 256 - jn (k % 1024) := by
    unfold jn
    repeat' split
    all_goals omega
  have bj : 0 ≤ jn (k % 1024) ∧ jn (k % 1024) ≤ 256 := by
    unfold jn
    repeat' split
    all_goals omega
  rw [ej]
  generalize jn (k % 1024) = j at *
  have t := tab_q ⟨j.toNat, by omega⟩
  simp only at t
  unfold Tq
  rw [show (256 - j).toNat = 256 - j.toNat by omega]
  omega
end Go.Proofs.Ytejlappndcakeaa.Y
