/- TouchMoved: what the law gives. -/
import Derived.Test.YtejlappndcakeaaYLt
namespace Go.Proofs.Ytejlappndcakeaa.Y
open Go Go.RowKit Go.Proofs.Ytejlappndcakeaa.E Go.Proofs.Ytejlappndcakeaa.Ma Go.Proofs.Ytejlappndcakeaa.Fw
set_option linter.unusedVariables false
set_option linter.unusedSimpArgs false
set_option maxRecDepth 100000

/-! ### Bounds -/
def Bn (B : Int) (p : P2) : Prop := -B ≤ p.1 ∧ p.1 ≤ B ∧ -B ≤ p.2 ∧ p.2 ≤ B
theorem Bn.s {B : Int} {p : P2} (h : Bn B p) (hB : B ≤ 4611686018427387904) : S2 p := by unfold Bn at h; unfold S2 S63; omega
theorem Bn.le {A B : Int} {p : P2} (h : Bn A p) (hB : A ≤ B) : Bn B p := by unfold Bn at *; omega
theorem add_b {x y A B : Int} (h1 : -A ≤ x) (h2 : x ≤ A) (h3 : -B ≤ y) (h4 : y ≤ B) (hAB : A + B ≤ 4611686018427387904) (hA : 0 ≤ A) (hB : 0 ≤ B) : add x y = x + y ∧ sub x y = x - y :=
  ⟨add_id (by unfold S63; omega) (by unfold S63; omega) (by unfold S63; omega), sub_id (by unfold S63; omega) (by unfold S63; omega) (by unfold S63; omega)⟩
theorem vadd_ex {A B : Int} {p q : P2} (hp : Bn A p) (hq : Bn B q) (h : A + B ≤ 4611686018427387904) : vadd p q = (p.1 + q.1, p.2 + q.2) ∧ vsub p q = (p.1 - q.1, p.2 - q.2) := by
  obtain ⟨a1, a2, a3, a4⟩ := hp
  obtain ⟨b1, b2, b3, b4⟩ := hq
  obtain ⟨e1, e2⟩ := add_b a1 a2 b1 b2 h (by omega) (by omega)
  obtain ⟨e3, e4⟩ := add_b a3 a4 b3 b4 h (by omega) (by omega)
  unfold vadd vsub
  rw [e1, e2, e3, e4]
  exact ⟨rfl, rfl⟩
theorem Bn.add {A B : Int} {p q : P2} (hp : Bn A p) (hq : Bn B q) (h : A + B ≤ 4611686018427387904) : Bn (A + B) (vadd p q) ∧ Bn (A + B) (vsub p q) := by
  obtain ⟨e1, e2⟩ := vadd_ex hp hq h
  rw [e1, e2]
  unfold Bn at *
  simp only
  omega
/-- A way between places that are moved by as much. -/
theorem sub_mv {A B T : Int} {p q t : P2} (hp : Bn A p) (hq : Bn B q) (ht : Bn T t) (h : A + B + T + T ≤ 4611686018427387904) : vsub (vadd p t) (vadd q t) = vsub p q := by
  have a0 : 0 ≤ A := by unfold Bn at hp; omega
  have b0 : 0 ≤ B := by unfold Bn at hq; omega
  have t0' : 0 ≤ T := by unfold Bn at ht; omega
  have h1 := (hp.add ht (by omega)).1
  have h2 := (hq.add ht (by omega)).1
  rw [(vadd_ex h1 h2 (by omega)).2, (vadd_ex hp hq (by omega)).2, (vadd_ex hp ht (by omega)).1, (vadd_ex hq ht (by omega)).1]
  simp only [Prod.mk.injEq]
  omega
theorem add_mv {A B T : Int} {p z t : P2} (hp : Bn A p) (hz : Bn B z) (ht : Bn T t) (h : A + B + T ≤ 4611686018427387904) : vadd (vadd p t) z = vadd (vadd p z) t ∧ vsub (vadd p t) z = vadd (vsub p z) t := by
  have a0 : 0 ≤ A := by unfold Bn at hp; omega
  have b0 : 0 ≤ B := by unfold Bn at hz; omega
  have t0' : 0 ≤ T := by unfold Bn at ht; omega
  have h1 := (hp.add ht (by omega)).1
  have h2 := hp.add hz (by omega)
  obtain ⟨e1, e2⟩ := vadd_ex h1 hz (by omega)
  rw [e1, e2, (vadd_ex h2.1 ht (by omega)).1, (vadd_ex h2.2 ht (by omega)).1, (vadd_ex hp ht (by omega)).1, (vadd_ex hp hz (by omega)).1, (vadd_ex hp hz (by omega)).2]
  simp only [Prod.mk.injEq]
  omega
theorem abs_le {x A : Int} (h1 : -A ≤ x) (h2 : x ≤ A) (hA : A ≤ 4611686018427387904) : Ma.abs x ≤ A := by
  unfold Ma.abs
  split
  · rw [neg_id (by unfold S63; omega)]; omega
  · omega
theorem sgn_b {m : Bool} {x K : Int} (h0 : 0 ≤ x) (h : x ≤ K) : -K ≤ sgn m x ∧ sgn m x ≤ K := by
  unfold sgn top
  repeat' split
  all_goals omega
theorem mul_b {a s A S K : Int} (ha : S63 a) (hs : S63 s) (h1 : Ma.abs a ≤ A) (h2 : Ma.abs s ≤ S) (hK : A * S ≤ K * 4294967296) : -K ≤ mul a s ∧ mul a s ≤ K := by
  have n1 := (abs_s ha.i).1
  have n2 := (abs_s hs.i).1
  have hm : Ma.abs a * Ma.abs s ≤ A * S := Int.mul_le_mul h1 h2 n2 (by omega)
  have h0 := Int.mul_nonneg n1 n2
  unfold mul
  refine sgn_b (Int.ediv_nonneg h0 (by omega)) ?_
  generalize Ma.abs a * Ma.abs s = u at *
  omega
theorem div_b {x z K : Int} (hx : S63 x) (hz : S63 z) (h0 : 0 < Ma.abs z) (h : Ma.abs x * 4294967296 ≤ K * Ma.abs z) (hK : 0 ≤ K) : -K ≤ div x z ∧ div x z ≤ K := by
  have n1 := (abs_s hx.i).1
  unfold div
  split
  · omega
  · rw [if_neg (by omega)]
    refine sgn_b (Int.ediv_nonneg (by omega) (by omega)) ?_
    rw [← Int.lt_add_one_iff, Int.ediv_lt_iff_lt_mul h0, Int.add_mul]
    omega
/-! ### Lengths, ways -/
theorem sq_nonneg (x : Int) : 0 ≤ x * x := by
  rcases Int.le_total 0 x with h | h
  · exact Int.mul_nonneg h h
  · have := Int.mul_nonneg (show 0 ≤ -x by omega) (show 0 ≤ -x by omega)
    rwa [Int.neg_mul_neg] at this
theorem sq_le_of {x m : Int} (h : -m ≤ x) (h' : x ≤ m) : x * x ≤ m * m := by
  have a := Int.mul_nonneg (show 0 ≤ m - x by omega) (show 0 ≤ m + x by omega)
  have e : (m - x) * (m + x) = m * m - x * x := by grind
  omega
theorem abs_mul_self {x : Int} (h : S63 x) : Ma.abs x * Ma.abs x = x * x := by
  unfold Ma.abs; rw [neg_id h]; split
  · exact Int.neg_mul_neg x x
  · rfl
theorem mul_self {x : Int} (h : -70368744177664 ≤ x) (h' : x ≤ 70368744177664) : Ma.mul x x = x * x / 4294967296 := by
  have hs : S63 x := by unfold S63; omega
  have b := sq_le_of h h'
  have n := sq_nonneg x
  unfold Ma.mul; rw [abs_mul_self hs]
  have e : sg x x = false := by unfold sg; cases decide (x < 0) <;> rfl
  rw [e]; unfold sgn top; rw [if_neg (by decide), if_pos (by omega)]
theorem lt_of_sq {a b : Int} (hb : 0 ≤ b) (h : a * a < b * b) : a < b := by
  rcases Int.lt_or_le a b with h' | h'
  · exact h'
  · have := Int.mul_le_mul h' h' hb (by omega); omega
theorem sq_add (a b : Int) : (a + b) * (a + b) = a * a + 2 * (a * b) + b * b := by grind
/-- Each part is below the length that is told and 92683. -/
theorem part_up {p : P2} (h : Bn 70368744177664 p) : p.1 < vlen p + 92683 ∧ -p.1 < vlen p + 92683 ∧ p.2 < vlen p + 92683 ∧ -p.2 < vlen p + 92683 := by
  obtain ⟨h1, h2, h3, h4⟩ := h
  have b1 := sq_le_of h1 h2; have n1 := sq_nonneg p.1
  have b2 := sq_le_of h3 h4; have n2 := sq_nonneg p.2
  have ed : dot p p = p.1 * p.1 / 4294967296 + p.2 * p.2 / 4294967296 := by
    unfold dot; rw [mul_self h1 h2, mul_self h3 h4, add_id (by unfold S63; omega) (by unfold S63; omega) (by unfold S63; omega)]
  have hq := sqrt_spec (a := dot p p) (by rw [ed]; omega) (by rw [ed]; omega)
  have hv : vlen p = sqrt (dot p p) := rfl
  rw [hv]
  generalize sqrt (dot p p) = n at *
  rw [ed] at hq
  obtain ⟨n0, _, _, hh⟩ := hq
  have up : p.1 * p.1 + p.2 * p.2 < (n + 92683) * (n + 92683) := by
    rw [sq_add] at hh ⊢
    omega
  have e1 : -p.1 * -p.1 = p.1 * p.1 := Int.neg_mul_neg _ _
  have e2 : -p.2 * -p.2 = p.2 * p.2 := Int.neg_mul_neg _ _
  refine ⟨lt_of_sq (by omega) (by omega), lt_of_sq (by omega) (by omega), lt_of_sq (by omega) (by omega), lt_of_sq (by omega) (by omega)⟩
theorem vlen_nn' (a : P2) : 0 ≤ vlen a := by
  unfold vlen sqrt
  split <;> omega
theorem unit_part {x L : Int} (hL : 0 < L) (hx : S63 x) (hLs : S63 L) (h : x < L + 92683) (h' : -x < L + 92683) : -398074748862464 ≤ div x L ∧ div x L ≤ 398074748862464 := by
  have e : Ma.abs L = L := abs_nn (by omega)
  refine div_b hx hLs (by omega) ?_ (by omega)
  rw [e]
  have : Ma.abs x ≤ L + 92683 := by
    unfold Ma.abs
    split
    · rw [neg_id hx]; omega
    · omega
  have : Ma.abs x ≤ 92684 * L := by omega
  omega
theorem unit_b {p : P2} (h : Bn 70368744177664 p) : Bn 398074748862464 (vunit p).1 := by
  have u := part_up h
  have hs := h.s (by omega)
  have hl := vlen_s p
  have l0 := vlen_nn' p
  unfold vunit
  split
  · unfold Bn; simp
  · rename_i h0
    obtain ⟨a1, a2⟩ := unit_part (x := p.1) (L := vlen p) (by omega) hs.1 hl u.1 u.2.1
    obtain ⟨a3, a4⟩ := unit_part (x := p.2) (L := vlen p) (by omega) hs.2 hl u.2.2.1 u.2.2.2
    exact ⟨a1, a2, a3, a4⟩
/-! ### Rotations -/
theorem Sine_b {k : Int} (h0 : 0 ≤ k) (h1 : k ≤ 256) : ∃ v, api.Sine.f k = some v ∧ 0 ≤ v ∧ v ≤ 4294967296 := by
  have := tab_b ⟨k.toNat, by omega⟩
  refine ⟨List.getD Tab3586caee k.toNat 0, ?_, this.1, this.2⟩
  rw [api.Sine.eq]
  simp only [Bool.cond_decide]
  rw [if_neg (by omega), if_neg (by omega), show ((decide (0 ≤ k)) && (decide (k < 257))) = true by simp; omega]
  rfl
theorem sine1_b {n : Int} (h0 : 0 ≤ n) (h1 : n ≤ 512) : ∃ v, turn.sine_1.f n = some v ∧ 0 ≤ v ∧ v ≤ 4294967296 := by
  rw [turn.sine_1.eq]
  simp only [m10, Bool.cond_decide]
  rw [show n % 1024 = n by omega]
  split
  · obtain ⟨v, a, b⟩ := Sine_b (k := n) h0 (by omega)
    rw [a]; exact ⟨v, rfl, b⟩
  · rw [w64 (x := 512 - n) (by unfold I64; omega)]
    obtain ⟨v, a, b⟩ := Sine_b (k := 512 - n) (by omega) (by omega)
    rw [a]; exact ⟨v, rfl, b⟩
theorem sine_b (n : Int) : ∃ v, turn.sine.f n = some v ∧ -4294967296 ≤ v ∧ v ≤ 4294967296 := by
  rw [turn.sine.eq]
  simp only [m10, Bool.cond_decide]
  have b0 : 0 ≤ n % 1024 ∧ n % 1024 < 1024 := by omega
  generalize n % 1024 = k at *
  split
  · obtain ⟨v, a, b⟩ := Sine_b (k := k) (by omega) (by omega)
    rw [a]; exact ⟨v, rfl, by omega, by omega⟩
  · split
    · rw [w64 (x := 512 - k) (by unfold I64; omega)]
      obtain ⟨v, a, b⟩ := Sine_b (k := 512 - k) (by omega) (by omega)
      rw [a]; exact ⟨v, rfl, by omega, by omega⟩
    · rw [w64 (x := k - 512) (by unfold I64; omega)]
      obtain ⟨v, a, b⟩ := sine1_b (n := k - 512) (by omega) (by omega)
      rw [a]
      refine ⟨_, rfl, ?_⟩
      rw [w64 (by unfold I64; omega)]; omega
theorem rot_b (a : Int) : Bn 4294967296 (rotF a) := by
  have h1 := (rot_eq a).1
  rw [turn.Of.eq, turn.Step.eq, turn.Wrap.eq, Option.bind_some, Option.bind_some] at h1
  obtain ⟨v, a1, a2⟩ := sine_b (IntKind.i64.wrap (Int.fdiv (Go.bits .and .i64 a 4294967295) (2 ^ 22) + 256))
  obtain ⟨u, b1, b2⟩ := sine_b (Int.fdiv (Go.bits .and .i64 a 4294967295) (2 ^ 22))
  rw [a1, b1] at h1
  have e : (v, u) = rotF a := Option.some.inj h1
  rw [← e]
  exact ⟨a2.1, a2.2, b2.1, b2.2⟩
theorem near_bn {p : P2} (h : Near p) : Bn 17448304640 p := h
theorem apply_b {r p : P2} (hr : Bn 4294967296 r) (hp : Bn 17448304640 p) : Bn 34896609280 (vapply r p) := by
  have rs := hr.s (by omega)
  have ps := hp.s (by omega)
  obtain ⟨r1, r2, r3, r4⟩ := hr
  obtain ⟨p1, p2, p3, p4⟩ := hp
  have R1 := abs_le r1 r2 (by omega)
  have R2 := abs_le r3 r4 (by omega)
  have P1 := abs_le p1 p2 (by omega)
  have P2' := abs_le p3 p4 (by omega)
  have m1 := mul_b (K := 17448304640) rs.1 ps.1 R1 P1 (by omega)
  have m2 := mul_b (K := 17448304640) rs.2 ps.2 R2 P2' (by omega)
  have m3 := mul_b (K := 17448304640) rs.2 ps.1 R2 P1 (by omega)
  have m4 := mul_b (K := 17448304640) rs.1 ps.2 R1 P2' (by omega)
  have e1 := (add_b m1.1 m1.2 m2.1 m2.2 (by omega) (by omega) (by omega)).2
  have e2 := (add_b m3.1 m3.2 m4.1 m4.2 (by omega) (by omega) (by omega)).1
  unfold vapply Bn
  simp only
  rw [e1, e2]
  omega
/-! ### Polygons that are moved -/
/-- One is the other, moved. -/
structure Mv (t : P2) (P P' : Pl) : Prop where
  n : P'.1 = P.1
  b : ∀ i, i < P.1 → Bn 4400000000000 (P.2 i)
  mv : ∀ i, i < P.1 → P'.2 i = vadd (P.2 i) t
section
variable {t : P2} (ht : Bn 4294967296000 t)
include ht
theorem Mv.diff {P P' Q Q' : Pl} (h : Mv t P P') (g : Mv t Q Q') {i j : Nat} (hi : i < P.1) (hj : j < Q.1) : vsub (P'.2 i) (Q'.2 j) = vsub (P.2 i) (Q.2 j) := by
  rw [h.mv i hi, g.mv j hj]
  exact sub_mv (h.b i hi) (g.b j hj) ht (by omega)
theorem Mv.norm {P P' : Pl} (h : Mv t P P') {i : Nat} (hi : i < P.1) : normOf P'.1 P'.2 i = normOf P.1 P.2 i := by
  unfold normOf
  rw [h.n]
  have := h.diff ht h (nx_lt (n := P.1) (i := i) (by omega)) hi
  unfold nx at this
  rw [this]
theorem Mv.gl {P P' Q Q' : Pl} (h : Mv t P P') (g : Mv t Q Q') (nv : P2) {i : Nat} (hi : i < P.1) : ∀ m, m ≤ Q.1 → gl nv (P'.2 i) Q'.2 m = gl nv (P.2 i) Q.2 m
  | 0, _ => rfl
  | m + 1, hm => by
    unfold Y.gl
    rw [g.diff ht h (show m < Q.1 by omega) hi, Mv.gl h g nv hi m (by omega)]
theorem Mv.gap {P P' Q Q' : Pl} (h : Mv t P P') (g : Mv t Q Q') : gapI P' Q' = gapI P Q := by
  unfold gapI
  rw [h.n]
  refine gs_congr _ fun i hi => ?_
  unfold gOf
  have e := h.norm ht hi
  rw [h.n] at e
  rw [e, g.n]
  exact h.gl ht g _ hi Q.1 (Nat.le_refl _)
end
/-- One touch is the other, moved. -/
structure MvT (t : P2) (x y : Tch) : Prop where
  ok : y.2 = x.2
  n1 : y.1.1 = x.1.1
  n2 : y.1.2.1 = x.1.2.1
  len : y.1.2.2.1 = x.1.2.2.1
  pts : ∀ i, i < x.1.2.2.1 → S2 ((x.1.2.2.2 i).1, (x.1.2.2.2 i).2.1) ∧ ((y.1.2.2.2 i).1, (y.1.2.2.2 i).2.1) = vadd ((x.1.2.2.2 i).1, (x.1.2.2.2 i).2.1) t ∧ (y.1.2.2.2 i).2.2 = (x.1.2.2.2 i).2.2
theorem MvT.zero (t : P2) : MvT t t0 t0 := ⟨rfl, rfl, rfl, rfl, fun i hi => by have : i < 0 := hi; omega⟩
theorem MvT.one {t nv a a' : P2} {d k : Int} (hs : S2 a) (h : a' = vadd a t) : MvT t (t1 nv a d k) (t1 nv a' d k) := by
  subst h
  refine ⟨rfl, rfl, rfl, rfl, fun i hi => ?_⟩
  have : i = 0 := by have : i < 1 := hi; omega
  subst this
  exact ⟨hs, rfl, rfl⟩
theorem MvT.turn {t : P2} {x y : Tch} (h : MvT t x y) : MvT t (turnT x) (turnT y) := by
  have e : vneg (y.1.1, y.1.2.1) = vneg (x.1.1, x.1.2.1) := by rw [h.n1, h.n2]
  exact ⟨h.ok, by show (vneg (y.1.1, y.1.2.1)).1 = _; rw [e]; rfl, by show (vneg (y.1.1, y.1.2.1)).2 = _; rw [e]; rfl, h.len, h.pts⟩
section
variable {t : P2} (ht : Bn 4294967296000 t)
include ht
theorem circ_mv {pa pb : P2} {ra rb : Int} (ha : Bn 4294967296000 pa) (hb : Bn 4294967296000 pb) (hra : 0 ≤ ra ∧ ra ≤ 17179869184) (hrb : 0 ≤ rb ∧ rb ≤ 17179869184) : MvT t (circP pa ra pb rb) (circP (vadd pa t) ra (vadd pb t) rb) := by
  have e := sub_mv hb ha ht (by omega)
  unfold circP
  simp only [e]
  have hd : Bn 70368744177664 (vsub pb pa) := ((hb.add ha (by omega)).2).le (by omega)
  have u := part_up hd
  have l0 := vlen_nn' (vsub pb pa)
  have hl := vlen_s (vsub pb pa)
  have hds := vsub_s pb pa
  have hR : add ra rb = ra + rb := add_id (by unfold S63; omega) (by unfold S63; omega) (by unfold S63; omega)
  split
  · exact .zero t
  · rename_i h1
    rw [hR] at h1 ⊢
    have hD : sub (ra + rb) (vlen (vsub pb pa)) = ra + rb - vlen (vsub pb pa) := sub_id (by unfold S63; omega) hl (by unfold S63 at *; omega)
    rw [hD]
    have hv : -34359738368 ≤ div (ra + rb - vlen (vsub pb pa)) 8589934592 ∧ div (ra + rb - vlen (vsub pb pa)) 8589934592 ≤ 34359738368 := by
      have e1 : Ma.abs (ra + rb - vlen (vsub pb pa)) = ra + rb - vlen (vsub pb pa) := abs_nn (by omega)
      have e2 : Ma.abs 8589934592 = 8589934592 := by decide
      refine div_b (by unfold S63; omega) (by unfold S63; omega) (by rw [e2]; omega) ?_ (by omega)
      rw [e1, e2]; omega
    have hs : sub ra (div (ra + rb - vlen (vsub pb pa)) 8589934592) = ra - div (ra + rb - vlen (vsub pb pa)) 8589934592 := sub_id (by unfold S63; omega) (by unfold S63; omega) (by unfold S63; omega)
    rw [hs]
    generalize div (ra + rb - vlen (vsub pb pa)) 8589934592 = w at *
    have ub : Bn 398074748862464 (if vlen (vsub pb pa) = 0 then (4294967296, 0) else (div (vsub pb pa).1 (vlen (vsub pb pa)), div (vsub pb pa).2 (vlen (vsub pb pa)))) := by
      split
      · unfold Bn; simp
      · obtain ⟨a1, a2⟩ := unit_part (x := (vsub pb pa).1) (L := vlen (vsub pb pa)) (by omega) hds.1 hl u.1 u.2.1
        obtain ⟨a3, a4⟩ := unit_part (x := (vsub pb pa).2) (L := vlen (vsub pb pa)) (by omega) hds.2 hl u.2.2.1 u.2.2.2
        exact ⟨a1, a2, a3, a4⟩
    generalize (if vlen (vsub pb pa) = 0 then ((4294967296 : Int), (0 : Int)) else (div (vsub pb pa).1 (vlen (vsub pb pa)), div (vsub pb pa).2 (vlen (vsub pb pa)))) = uu at *
    have us := ub.s (by omega)
    have m1 := mul_b (K := 6369195981799424) us.1 (show S63 (ra - w) by unfold S63; omega) (abs_le ub.1 ub.2.1 (by omega)) (abs_le (A := 68719476736) (by omega) (by omega) (by omega)) (by omega)
    have m2 := mul_b (K := 6369195981799424) us.2 (show S63 (ra - w) by unfold S63; omega) (abs_le ub.2.2.1 ub.2.2.2 (by omega)) (abs_le (A := 68719476736) (by omega) (by omega) (by omega)) (by omega)
    have zb : Bn 6369195981799424 (vscale uu (ra - w)) := ⟨m1.1, m1.2, m2.1, m2.2⟩
    exact .one ((ha.add zb (by omega)).1.s (by omega)) (add_mv ha zb ht (by omega)).1
theorem mix_mv {P P' : Pl} (h : Mv t P P') (hP : PlOk P) {c : P2} (hc : Bn 4294967296000 c) {r : Int} (hr : 0 ≤ r ∧ r ≤ 17179869184) : MvT t (mixP P c r) (mixP P' (vadd c t) r) := by
  have hC : Mv t (ptL c) (ptL (vadd c t)) := ⟨rfl, fun i hi => by
      have : i = 0 := by have : i < 1 := hi; omega
      subst this; exact hc.le (by omega), fun i hi => by
      have : i = 0 := by have : i < 1 := hi; omega
      subst this; rfl⟩
  have eg := h.gap ht hC
  have hlt := gapI_lt (Q := ptL c) hP
  unfold mixP mixA
  rw [eg]
  generalize gapI P (ptL c) = G at *
  obtain ⟨s, i⟩ := G
  simp only at hlt ⊢
  have hq := nx_lt (n := P.1) (i := i) (by omega)
  have en := h.norm ht hlt
  rw [h.n] at en ⊢
  rw [en]
  have d0 : vsub (P'.2 (nx P.1 i)) (P'.2 i) = vsub (P.2 (nx P.1 i)) (P.2 i) := h.diff ht h hq hlt
  have d1 : vsub (vadd c t) (P'.2 i) = vsub c (P.2 i) := hC.diff ht h (i := 0) (by show 0 < 1; omega) hlt
  have d2 : vsub (vadd c t) (P'.2 (nx P.1 i)) = vsub c (P.2 (nx P.1 i)) := hC.diff ht h (i := 0) (by show 0 < 1; omega) hq
  rw [d0, d1, d2]
  have b1 := h.b i hlt
  have b2 := h.b _ hq
  have nb : Bn 398074748862464 (normOf P.1 P.2 i) := by
    have hd := (b2.add b1 (by omega)).2
    have e0 : vsub (P.2 ((i + 1) % P.1)) (P.2 i) = vsub (P.2 (nx P.1 i)) (P.2 i) := rfl
    unfold normOf
    rw [e0]
    have hs := (hd.s (by omega)).1
    refine unit_b ?_
    unfold Bn at hd ⊢
    simp only
    rw [neg_id hs]
    omega
  have ns := nb.s (by omega)
  have m1 := mul_b (K := 1592298995449856) ns.1 (show S63 r by unfold S63; omega) (abs_le nb.1 nb.2.1 (by omega)) (abs_le (A := 17179869184) (by omega) (by omega) (by omega)) (by omega)
  have m2 := mul_b (K := 1592298995449856) ns.2 (show S63 r by unfold S63; omega) (abs_le nb.2.2.1 nb.2.2.2 (by omega)) (abs_le (A := 17179869184) (by omega) (by omega) (by omega)) (by omega)
  have zb : Bn 1592298995449856 (vscale (normOf P.1 P.2 i) r) := ⟨m1.1, m1.2, m2.1, m2.2⟩
  have fin : ∀ d k, MvT t (t1 (normOf P.1 P.2 i) (vsub c (vscale (normOf P.1 P.2 i) r)) d k) (t1 (normOf P.1 P.2 i) (vsub (vadd c t) (vscale (normOf P.1 P.2 i) r)) d k) := fun d k =>
    .one ((hc.add zb (by omega)).2.s (by omega)) (add_mv hc zb ht (by omega)).2
  have corn : ∀ {way : P2} {k : Int} {j : Nat}, j < P.1 → MvT t (cornP (normOf P.1 P.2 i) (P.2 j) way r k) (cornP (normOf P.1 P.2 i) (P'.2 j) way r k) := by
    intro way k j hj
    unfold cornP
    split
    · exact .zero t
    · exact .one ((h.b j hj).s (by omega)) (h.mv j hj)
  split
  · exact .zero t
  · split
    · exact fin _ _
    · split
      · exact corn hlt
      · split
        · exact corn hq
        · exact fin _ _
/-- A clipped edge, moved. -/
theorem clip_mv {A : Int} (hA : 0 ≤ A ∧ A ≤ 100000000000000) {e e' : P2 × P2} {a a' way : P2} (b1 : Bn A e.1) (b2 : Bn A e.2) (ba : Bn 4400000000000 a) (h1 : e'.1 = vadd e.1 t) (h2 : e'.2 = vadd e.2 t) (h3 : a' = vadd a t) :
    (clipP e' a' way).1 = (clipP e a way).1 ∧ (clipP e' a' way).2.1 = vadd (clipP e a way).2.1 t ∧ (clipP e' a' way).2.2 = vadd (clipP e a way).2.2 t ∧ Bn (A + A + A) (clipP e a way).2.1 ∧ Bn (A + A + A) (clipP e a way).2.2 := by
  have d1 : vsub e'.1 a' = vsub e.1 a := by rw [h1, h3]; exact sub_mv b1 ba ht (by omega)
  have d2 : vsub e'.2 a' = vsub e.2 a := by rw [h2, h3]; exact sub_mv b2 ba ht (by omega)
  have d3 : vsub e'.2 e'.1 = vsub e.2 e.1 := by rw [h1, h2]; exact sub_mv b2 b1 ht (by omega)
  have d4 : vsub e'.1 e'.2 = vsub e.1 e.2 := by rw [h1, h2]; exact sub_mv b1 b2 ht (by omega)
  have key : ∀ (p q : P2) (x y : Int), Bn A p → Bn A q → S63 x → S63 y → x < 0 → 0 ≤ y → vadd (vadd p t) (vscale (vsub q p) (div x (sub x y))) = vadd (vadd p (vscale (vsub q p) (div x (sub x y)))) t ∧ Bn (A + A + A) (vadd p (vscale (vsub q p) (div x (sub x y)))) := by
    intro p q x y hp hq hx hy h1 h2
    have hb := (hq.add hp (by omega)).2
    have hbs := hb.s (by omega)
    have z : sub x y = clamp (x - y) := sub_eq hx hy
    have zs := sub_s x y
    have za : Ma.abs x ≤ Ma.abs (sub x y) ∧ 0 < Ma.abs (sub x y) := by
      rw [abs_ng hx (by omega)]
      have : sub x y ≤ x := by rw [z]; unfold clamp; unfold S63 at hx hy; repeat' split; all_goals omega
      rw [abs_ng zs (by omega)]; omega
    have n1 := (abs_s hx.i).1
    have dv := div_b hx zs za.2 (K := 4294967296) (by omega) (by omega)
    have dvs : S63 (div x (sub x y)) := by unfold S63; omega
    generalize div x (sub x y) = w at *
    have m1 := mul_b (K := A + A) hbs.1 dvs (abs_le hb.1 hb.2.1 (by omega)) (abs_le dv.1 dv.2 (by omega)) (by omega)
    have m2 := mul_b (K := A + A) hbs.2 dvs (abs_le hb.2.2.1 hb.2.2.2 (by omega)) (abs_le dv.1 dv.2 (by omega)) (by omega)
    have zb : Bn (A + A) (vscale (vsub q p) w) := ⟨m1.1, m1.2, m2.1, m2.2⟩
    exact ⟨(add_mv hp zb ht (by omega)).1, ((hp.add zb (by omega)).1).le (by omega)⟩
  have s1 := dot_s way (vsub e.1 a)
  have s2 := dot_s way (vsub e.2 a)
  have w1 : Bn (A + A + A) e.1 := b1.le (by omega)
  have w2 : Bn (A + A + A) e.2 := b2.le (by omega)
  unfold clipP
  rw [d1, d2, d3, d4]
  generalize dot way (vsub e.1 a) = x at *
  generalize dot way (vsub e.2 a) = y at *
  by_cases hx : x < 0
  · by_cases hy : y < 0
    · rw [if_pos hx, if_pos hy, if_pos hx, if_pos hy]; exact ⟨rfl, h1, h2, w1, w2⟩
    · rw [if_pos hx, if_neg hy, if_pos hx, if_neg hy]
      obtain ⟨k1, k2⟩ := key e.1 e.2 x y b1 b2 s1 s2 hx (by omega)
      exact ⟨rfl, by simp only; rw [h1]; exact k1, h2, k2, w2⟩
  · by_cases hy : y < 0
    · rw [if_neg hx, if_pos hy, if_neg hx, if_pos hy]
      obtain ⟨k1, k2⟩ := key e.2 e.1 y x b2 b1 s2 s1 hy (by omega)
      exact ⟨rfl, h1, by simp only; rw [h2]; exact k1, w1, k2⟩
    · rw [if_neg hx, if_neg hy, if_neg hx, if_neg hy]; exact ⟨rfl, h1, h2, w1, w2⟩
theorem ends_mv {A : Int} (hA : 0 ≤ A ∧ A ≤ 1000000000000000) {nv v v' c c' d d' : P2} {key : Int} (bv : Bn 4400000000000 v) (bc : Bn A c) (bd : Bn A d) (h1 : v' = vadd v t) (h2 : c' = vadd c t) (h3 : d' = vadd d t) : MvT t (endsP nv v c d key) (endsP nv v' c' d' key) := by
  have d1 : vsub c' v' = vsub c v := by rw [h1, h2]; exact sub_mv bc bv ht (by omega)
  have d2 : vsub d' v' = vsub d v := by rw [h1, h3]; exact sub_mv bd bv ht (by omega)
  have cs := bc.s (by omega)
  have ds := bd.s (by omega)
  unfold endsP
  rw [d1, d2, h2, h3]
  split
  · split
    · refine ⟨rfl, rfl, rfl, rfl, fun i hi => ?_⟩
      have : i = 0 ∨ i = 1 := by have : i < 2 := hi; omega
      rcases this with rfl | rfl
      · exact ⟨cs, rfl, rfl⟩
      · exact ⟨ds, rfl, rfl⟩
    · refine ⟨rfl, rfl, rfl, rfl, fun i hi => ?_⟩
      have : i = 0 := by have : i < 1 := hi; omega
      subst this
      exact ⟨cs, rfl, rfl⟩
  · split
    · refine ⟨rfl, rfl, rfl, rfl, fun i hi => ?_⟩
      have : i = 0 := by have : i < 1 := hi; omega
      subst this
      exact ⟨ds, rfl, rfl⟩
    · exact .zero t
theorem cut_mv {P P' Q Q' : Pl} (h : Mv t P P') (g : Mv t Q Q') (hP : PlOk P) (hQ : PlOk Q) {i : Nat} (hi : i < P.1) (key : Int) : MvT t (cutP P Q i key) (cutP P' Q' i key) := by
  have hq := nx_lt (n := P.1) (i := i) (by omega)
  have en := h.norm ht hi
  have ed : edgeP (normOf P.1 P.2 i) Q' = edgeP (normOf P.1 P.2 i) Q := by
    unfold edgeP
    rw [g.n]
    have : ls (fun j => dot (normOf P.1 P.2 i) (normOf Q.1 Q'.2 j)) Q.1 = ls (fun j => dot (normOf P.1 P.2 i) (normOf Q.1 Q.2 j)) Q.1 := ls_congr _ fun j hj => by
      have := g.norm ht hj
      rw [g.n] at this
      rw [this]
    rw [this]
  have hlt := edgeP_lt (nv := normOf P.1 P.2 i) hQ
  have hq2 := nx_lt (n := Q.1) (i := edgeP (normOf P.1 P.2 i) Q) (by omega)
  unfold cutP cutA
  rw [en]
  unfold edgeOf
  rw [ed, g.n, h.n]
  have d0 : vsub (P'.2 (nx P.1 i)) (P'.2 i) = vsub (P.2 (nx P.1 i)) (P.2 i) := h.diff ht h hq hi
  rw [d0]
  unfold cutB
  have c1 := clip_mv ht (A := 4400000000000) (by omega) (e := (Q.2 (edgeP (normOf P.1 P.2 i) Q), Q.2 (nx Q.1 (edgeP (normOf P.1 P.2 i) Q)))) (e' := (Q'.2 (edgeP (normOf P.1 P.2 i) Q), Q'.2 (nx Q.1 (edgeP (normOf P.1 P.2 i) Q))))
    (a := P.2 i) (a' := P'.2 i) (way := (vunit (vsub (P.2 (nx P.1 i)) (P.2 i))).1) (g.b _ hlt) (g.b _ hq2) (h.b _ hi) (g.mv _ hlt) (g.mv _ hq2) (h.mv _ hi)
  generalize clipP (Q.2 (edgeP (normOf P.1 P.2 i) Q), Q.2 (nx Q.1 (edgeP (normOf P.1 P.2 i) Q))) (P.2 i) (vunit (vsub (P.2 (nx P.1 i)) (P.2 i))).1 = C at *
  generalize clipP (Q'.2 (edgeP (normOf P.1 P.2 i) Q), Q'.2 (nx Q.1 (edgeP (normOf P.1 P.2 i) Q))) (P'.2 i) (vunit (vsub (P.2 (nx P.1 i)) (P.2 i))).1 = C' at *
  obtain ⟨o1, p1, p2, p3, p4⟩ := c1
  have c2 := clip_mv ht (A := 4400000000000 + 4400000000000 + 4400000000000) (by omega) (e := C.2) (e' := C'.2) (a := P.2 (nx P.1 i)) (a' := P'.2 (nx P.1 i)) (way := vneg (vunit (vsub (P.2 (nx P.1 i)) (P.2 i))).1) p3 p4 (h.b _ hq) p1 p2 (h.mv _ hq)
  generalize clipP C.2 (P.2 (nx P.1 i)) (vneg (vunit (vsub (P.2 (nx P.1 i)) (P.2 i))).1) = D at *
  generalize clipP C'.2 (P'.2 (nx P.1 i)) (vneg (vunit (vsub (P.2 (nx P.1 i)) (P.2 i))).1) = D' at *
  obtain ⟨o2, q1, q2, q3, q4⟩ := c2
  rw [o1, o2]
  split
  · exact .zero t
  · split
    · exact .zero t
    · exact ends_mv ht (A := 4400000000000 + 4400000000000 + 4400000000000 + (4400000000000 + 4400000000000 + 4400000000000) + (4400000000000 + 4400000000000 + 4400000000000)) (by omega) (h.b _ hi) q3 q4 (h.mv _ hi) q1 q2
theorem poly_mv {P P' Q Q' : Pl} (h : Mv t P P') (g : Mv t Q Q') (hP : PlOk P) (hQ : PlOk Q) : MvT t (polyP P Q) (polyP P' Q') := by
  have l1 := gapI_lt (Q := Q) hP
  have l2 := gapI_lt (Q := P) hQ
  unfold polyP
  rw [h.gap ht g, g.gap ht h]
  split
  · exact .zero t
  · split
    · exact .zero t
    · split
      · exact cut_mv ht h g hP hQ l1 _
      · have c := cut_mv ht g h hQ hP l2 (64 + 2 * ((gapI Q P).2 : Int))
        rw [c.ok]
        split
        · exact .zero t
        · exact c.turn
end
theorem moved_loop (k0 n : Nat) (hn : n ≤ 1000) (t : P2) (htI : I2 t) (f g : Nat → Int × Int × Int × Int) (v1 : Int) (v2 : Int) (v3 : Int) (v4 : Int) (v5 : Int) (v6 : Int) (v7 : Int) (v8 : Int) (v9 : Int) (v10 : Int) (v11 : Int) (v12 : Int) (v13 : Int) (v14 : Int) (v17 : Int) (v18 : Int) (v19 : Int) (v20 : Int) (v21 : Int) (v22 : Int) (v23 : Int) (v24 : Int) (v25 : Int) (v26 : Int) (v27 : Nat) (v28 : Nat → (Int × Int)) (v29 : Int) (v30 : Int) (v31 : Int) (v32 : Int) (v33 : Int) (v34 : Int) (v35 : Int) (v36 : Int) (v37 : Int) (v38 : Int) (v39 : Nat) (v40 : Nat → (Int × Int)) (v41 : Int) (v42 : Int) (v45 : Int) (v46 : Int) (h : ∀ i, i < n → S2 ((f i).1, (f i).2.1) ∧ ((g i).1, (g i).2.1) = vadd ((f i).1, (f i).2.1) t ∧ (g i).2.2 = (f i).2.2) : ∀ (d i K : Nat), i + d = n → d < K →
    law07.TouchMoved.l0 k0 K v1 v2 v3 v4 v5 v6 v7 v8 v9 v10 v11 v12 v13 v14 t.1 t.2 v17 v18 v19 v20 v21 v22 v23 v24 v25 v26 v27 (fun i => Rii.enc (v28 i)) v29 v30 v31 v32 v33 v34 v35 v36 v37 v38 v39 (fun i => Rii.enc (v40 i)) v41 v42 n (fun i => Riiii.enc (f i)) v45 v46 n (fun i => Riiii.enc (g i)) (n : Int) (i : Int) = some true
  | 0, i, K, h1, h2 => by
    obtain ⟨K, rfl⟩ : ∃ m, K = m + 1 := ⟨K - 1, by omega⟩
    have : i = n := by omega
    subst this
    rw [law07.TouchMoved.l0_eq]
    simp only [Bool.cond_decide]
    rw [if_neg (by omega)]
  | d + 1, i, K, h1, h2 => by
    obtain ⟨K, rfl⟩ : ∃ m, K = m + 1 := ⟨K - 1, by omega⟩
    have hi : i < n := by omega
    have ih := moved_loop k0 n hn t htI f g v1 v2 v3 v4 v5 v6 v7 v8 v9 v10 v11 v12 v13 v14 v17 v18 v19 v20 v21 v22 v23 v24 v25 v26 v27 v28 v29 v30 v31 v32 v33 v34 v35 v36 v37 v38 v39 v40 v41 v42 v45 v46 h d (i + 1) K (by omega) (by omega)
    obtain ⟨e1, e2, e3⟩ := h i hi
    have a1 : (g i).1 = (vadd ((f i).1, (f i).2.1) t).1 := by rw [← e2]
    have a2 : (g i).2.1 = (vadd ((f i).1, (f i).2.1) t).2 := by rw [← e2]
    have a3 : (g i).2.2.1 = (f i).2.2.1 := by rw [e3]
    have a4 : (g i).2.2.2 = (f i).2.2.2 := by rw [e3]
    have hv : vec.Add.f (((f i).1, (f i).2.1), (t.1, t.2)) = some (vadd ((f i).1, (f i).2.1) t) := vadd_eq e1.i htI
    rw [law07.TouchMoved.l0_eq]
    simp only [Bool.cond_decide, ix_ok hi, cond_true, Int.toNat_natCast, wsucc hi hn, hv, Option.bind_some, a1, a2, a3, a4]
    rw [if_pos (by omega)]
    simp only [BEq.rfl, Bool.and_true, Bool.not_true, cond_false, bne_self_eq_false]
    exact ih
/-! ### Bodies that are moved -/
structure BdB (b : Bd) : Prop where
  pos : Bn 4294967296000 b.pos
  r : 0 ≤ b.r ∧ b.r ≤ 17179869184
  near : ∀ i, i < b.n → Near (b.g i)
noncomputable def Bd.mv (b : Bd) (t : P2) : Bd := { b with pos := vadd b.pos t }
theorem Bd.mv_ok {b : Bd} (h : BdOk b) (t : P2) : BdOk (b.mv t) := ⟨h.kind, h.r, vadd_s _ _, h.few, h.g, h.three⟩
theorem pl_mv {b : Bd} (hB : BdB b) (h2 : b.kd = 2) {t : P2} (ht : Bn 4294967296000 t) : Mv t b.pl (b.mv t).pl := by
  have e1 : b.pl = (b.n, cut0 (0, 0) b.n (inPlace b.pos b.ang b.g)) := by unfold Bd.pl cornersP; rw [if_pos h2]
  have e2 : (b.mv t).pl = (b.n, cut0 (0, 0) b.n (inPlace (vadd b.pos t) b.ang b.g)) := by
    have : (b.mv t).kd = 2 := h2
    unfold Bd.pl cornersP
    rw [if_pos this]
    rfl
  rw [e1, e2]
  have ab : ∀ i, i < b.n → Bn 34896609280 (vapply (rotF b.ang) (b.g i)) := fun i hi => apply_b (rot_b b.ang) (near_bn (hB.near i hi))
  refine ⟨rfl, fun i hi => ?_, fun i hi => ?_⟩
  · have hi' : i < b.n := hi
    show Bn _ (cut0 _ _ _ i)
    rw [cut0_lt hi']
    exact ((hB.pos.add (ab i hi') (by omega)).1).le (by omega)
  · have hi' : i < b.n := hi
    show cut0 _ _ _ i = vadd (cut0 _ _ _ i) t
    rw [cut0_lt hi', cut0_lt hi']
    exact (add_mv hB.pos (ab i hi') ht (by omega)).1
theorem of_mv {a b : Bd} (ha : BdOk a) (hb : BdOk b) (ba : BdB a) (bb : BdB b) {t : P2} (ht : Bn 4294967296000 t) : MvT t (ofP a b) (ofP (a.mv t) (b.mv t)) := by
  have k1 : (a.mv t).kd = a.kd := rfl
  have k2 : (b.mv t).kd = b.kd := rfl
  have r1 : (a.mv t).r = a.r := rfl
  have r2 : (b.mv t).r = b.r := rfl
  have p1 : (a.mv t).pos = vadd a.pos t := rfl
  have p2 : (b.mv t).pos = vadd b.pos t := rfl
  unfold ofP
  rw [k1, k2, r1, r2, p1, p2]
  split
  · split
    · exact circ_mv ht ba.pos bb.pos ba.r bb.r
    · rename_i h1 h2
      have hb2 : b.kd = 2 := by have := hb.kind; omega
      have m := mix_mv ht (pl_mv bb hb2 ht) (hb.pl hb2) ba.pos ba.r
      rw [m.ok]
      split
      · exact ⟨rfl, m.n1, m.n2, m.len, m.pts⟩
      · exact m.turn
  · rename_i h1
    have ha2 : a.kd = 2 := by have := ha.kind; omega
    split
    · exact mix_mv ht (pl_mv ba ha2 ht) (ha.pl ha2) bb.pos bb.r
    · rename_i h2
      have hb2 : b.kd = 2 := by have := hb.kind; omega
      exact poly_mv ht (pl_mv ba ha2 ht) (pl_mv bb hb2 ht) (ha.pl ha2) (hb.pl hb2)
theorem bd_bounds {B : Bd} {a b c d e f ang : Int} (h : B.kd = seedKd a ∧ B.pos = bodyPos e f ∧ B.ang = ang % 4294967296 ∧ B.r = seedR a c ∧ B.n = seedN a b ∧ ∀ i, i < B.n → B.g i = seedPt a b c d i) : BdB B := by
  obtain ⟨_, h2, _, h4, h5, h6⟩ := h
  have hp := bodyPos_b e f
  refine ⟨by rw [h2]; exact hp, ?_, fun i hi => ?_⟩
  · rw [h4]; unfold seedR; split <;> omega
  · rw [h6 i hi]; exact seed_near a b c d i (by omega)
theorem TouchMoved_eq (a b c d e f h a' b' c' d' e' f' h' u v : Int) : law07.TouchMoved.f ((a, b, c, d, e, f, h), (a', b', c', d', e', f', h'), (u, v)) = some true := by
  obtain ⟨A, hA, gA, eA⟩ := Body_bd a b c d e f h
  obtain ⟨B, hB, gB, eB⟩ := Body_bd a' b' c' d' e' f' h'
  have bA := bd_bounds eA
  have bB := bd_bounds eB
  have oab := ofP_ok hA hB
  have tb : Bn 4294967296000 (bring2 (u, v) 4294967296000) := by
    have h1 := bringI_b (a := u) (m := 4294967296000) (by omega)
    have h2 := bringI_b (a := v) (m := 4294967296000) (by omega)
    exact ⟨h1.1, h1.2, h2.1, h2.2⟩
  show law07.TouchMoved.g 1000000 _ = _
  rw [law07.TouchMoved.eq, fit_eq, Option.bind_some]
  simp only [Bool.not_true, cond_false]
  rw [gA, Option.bind_some, gB, Option.bind_some, bring2_eq (by omega) (by omega), Option.bind_some]
  generalize bring2 (u, v) 4294967296000 = t at *
  have ts := tb.s (by omega)
  simp only
  rw [Of_eq hA hB, Option.bind_some, vadd_eq (a := A.pos) (b := t) hA.pos.i ts.i, Option.bind_some, vadd_eq (a := B.pos) (b := t) hB.pos.i ts.i, Option.bind_some]
  have o2 := Of_eq (A.mv_ok hA t) (B.mv_ok hB t) 0 0 0 0 0 0 0 0 0 0
  have mv := of_mv hA hB bA bB tb
  have o2' : touch.Of.f ((0, (vadd A.pos t).1, (vadd A.pos t).2, 0, 0, A.ang, 0, 0, A.kd, A.r, (A.n, fun i => Rii.enc (A.g i))), (0, (vadd B.pos t).1, (vadd B.pos t).2, 0, 0, B.ang, 0, 0, B.kd, B.r, (B.n, fun i => Rii.enc (B.g i)))) = some (ofP (A.mv t) (B.mv t)) := o2
  rw [o2', Option.bind_some]
  generalize ofP A B = x at *
  generalize ofP (A.mv t) (B.mv t) = y at *
  rw [mv.ok, mv.n1, mv.n2, mv.len]
  simp only [BEq.rfl, Bool.and_true, Bool.not_true, cond_false, bne_self_eq_false]
  exact moved_loop 1000000 x.1.2.2.1 (by omega) t ts.i x.1.2.2.2 y.1.2.2.2 _ _ _ _ _ _ _ _ _ _ _ _ _ _ _ _ _ _ _ _ _ _ _ _ _ _ _ _ _ _ _ _ _ _ _ _ _ _ _ _ _ _ mv.pts x.1.2.2.1 0 1000000 (by omega) (by omega)
end Go.Proofs.Ytejlappndcakeaa.Y
