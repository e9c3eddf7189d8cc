/- Plain geometry of whole numbers: polygons that are turned and rounded are convex; rounded normals tell what is near. -/
import Derived.Test.YtejlappndcakeaaYDg
namespace Go.Proofs.Ytejlappndcakeaa.Y
set_option linter.unusedVariables false
set_option linter.unusedSimpArgs false

theorem prod_b {x y A B : Int} (h1 : -A ≤ x) (h2 : x ≤ A) (h3 : -B ≤ y) (h4 : y ≤ B) : -(A * B) ≤ x * y ∧ x * y ≤ A * B := by
  have a := Int.mul_nonneg (show 0 ≤ A - x by omega) (show 0 ≤ B - y by omega)
  have b := Int.mul_nonneg (show 0 ≤ A + x by omega) (show 0 ≤ B + y by omega)
  have c := Int.mul_nonneg (show 0 ≤ A - x by omega) (show 0 ≤ B + y by omega)
  have d := Int.mul_nonneg (show 0 ≤ A + x by omega) (show 0 ≤ B - y by omega)
  have e1 : (A - x) * (B - y) = A * B - A * y - x * B + x * y := by grind
  have e2 : (A + x) * (B + y) = A * B + A * y + x * B + x * y := by grind
  have e3 : (A - x) * (B + y) = A * B + A * y - x * B - x * y := by grind
  have e4 : (A + x) * (B - y) = A * B - A * y + x * B - x * y := by grind
  rw [e1] at a; rw [e2] at b; rw [e3] at c; rw [e4] at d
  omega
/-- A turn, nearly of length one. -/
structure Rt (C S : Int) : Prop where
  c : -4294967296 ≤ C ∧ C ≤ 4294967296
  s : -4294967296 ≤ S ∧ S ≤ 4294967296
  q : 9223372036854775808 ≤ C * C + S * S
/-- D is s times d, turned, but for e. -/
structure Tw (C S s e : Int) (d D : Int × Int) : Prop where
  a : -e ≤ 4294967296 * D.1 - s * (C * d.1 - S * d.2) ∧ 4294967296 * D.1 - s * (C * d.1 - S * d.2) ≤ e
  b : -e ≤ 4294967296 * D.2 - s * (S * d.1 + C * d.2) ∧ 4294967296 * D.2 - s * (S * d.1 + C * d.2) ≤ e
def Sm (B : Int) (d : Int × Int) : Prop := -B ≤ d.1 ∧ d.1 ≤ B ∧ -B ≤ d.2 ∧ d.2 ≤ B
theorem Tw.sub {C S s e : Int} {d D v V : Int × Int} (h : Tw C S s e d D) (g : Tw C S s e v V) : Tw C S s (2 * e) (sb d v) (sb D V) := by
  obtain ⟨⟨a1, a2⟩, b1, b2⟩ := h
  obtain ⟨⟨c1, c2⟩, d1, d2⟩ := g
  have e1 : 4294967296 * (sb D V).1 - s * (C * (sb d v).1 - S * (sb d v).2) = (4294967296 * D.1 - s * (C * d.1 - S * d.2)) - (4294967296 * V.1 - s * (C * v.1 - S * v.2)) := by unfold sb; simp only; grind
  have e2 : 4294967296 * (sb D V).2 - s * (S * (sb d v).1 + C * (sb d v).2) = (4294967296 * D.2 - s * (S * d.1 + C * d.2)) - (4294967296 * V.2 - s * (S * v.1 + C * v.2)) := by unfold sb; simp only; grind
  exact ⟨by rw [e1]; omega, by rw [e2]; omega⟩
theorem rt_b {C S : Int} (r : Rt C S) {d : Int × Int} (h : Sm 130 d) : (-1116691496960 ≤ C * d.1 - S * d.2 ∧ C * d.1 - S * d.2 ≤ 1116691496960) ∧ -1116691496960 ≤ S * d.1 + C * d.2 ∧ S * d.1 + C * d.2 ≤ 1116691496960 := by
  have p1 := prod_b r.c.1 r.c.2 h.1 h.2.1
  have p2 := prod_b r.s.1 r.s.2 h.2.2.1 h.2.2.2
  have p3 := prod_b r.s.1 r.s.2 h.1 h.2.1
  have p4 := prod_b r.c.1 r.c.2 h.2.2.1 h.2.2.2
  omega
theorem tw_id (x1 x2 y1 y2 s D1 D2 V1 V2 : Int) : 18446744073709551616 * (D1 * V2 - D2 * V1) = s * s * (x1 * y2 - x2 * y1) + s * (x1 * (4294967296 * V2 - s * y2) - x2 * (4294967296 * V1 - s * y1) + (4294967296 * D1 - s * x1) * y2 - (4294967296 * D2 - s * x2) * y1) + ((4294967296 * D1 - s * x1) * (4294967296 * V2 - s * y2) - (4294967296 * D2 - s * x2) * (4294967296 * V1 - s * y1)) := by grind
theorem tw_crs {C S s : Int} {d D v V : Int × Int} (r : Rt C S) (hd : Tw C S s 17179869184 d D) (hv : Tw C S s 17179869184 v V) (sd : Sm 130 d) (sv : Sm 130 v) (hs : 4194304 ≤ s) (h1 : 1 ≤ crs d v) : s * s * crs d v ≤ 4 * crs D V := by
  have x := rt_b r sd
  have y := rt_b r sv
  have id := tw_id (C * d.1 - S * d.2) (S * d.1 + C * d.2) (C * v.1 - S * v.2) (S * v.1 + C * v.2) s D.1 D.2 V.1 V.2
  have det : (C * d.1 - S * d.2) * (S * v.1 + C * v.2) - (S * d.1 + C * d.2) * (C * v.1 - S * v.2) = (C * C + S * S) * crs d v := by unfold crs; grind
  rw [det] at id
  obtain ⟨a, b⟩ := hd
  obtain ⟨a', b'⟩ := hv
  generalize 4294967296 * D.1 - s * (C * d.1 - S * d.2) = e1 at *
  generalize 4294967296 * D.2 - s * (S * d.1 + C * d.2) = e2 at *
  generalize 4294967296 * V.1 - s * (C * v.1 - S * v.2) = f1 at *
  generalize 4294967296 * V.2 - s * (S * v.1 + C * v.2) = f2 at *
  generalize C * d.1 - S * d.2 = x1 at *
  generalize S * d.1 + C * d.2 = x2 at *
  generalize C * v.1 - S * v.2 = y1 at *
  generalize S * v.1 + C * v.2 = y2 at *
  have p1 := prod_b x.1.1 x.1.2 b'.1 b'.2
  have p2 := prod_b x.2.1 x.2.2 a'.1 a'.2
  have p3 := prod_b a.1 a.2 y.2.1 y.2.2
  have p4 := prod_b b.1 b.2 y.1.1 y.1.2
  have p5 := prod_b a.1 a.2 b'.1 b'.2
  have p6 := prod_b b.1 b.2 a'.1 a'.2
  have m1 : s * (-76738455346631734722560) ≤ s * (x1 * f2 - x2 * f1 + e1 * y2 - e2 * y1) := mulle (by omega) (by omega)
  have m2 : 9223372036854775808 * crs d v ≤ (C * C + S * S) * crs d v := Int.mul_le_mul_of_nonneg_right r.q (by omega)
  have m3 : s * s * (9223372036854775808 * crs d v) ≤ s * s * ((C * C + S * S) * crs d v) := mulle (Int.mul_nonneg (by omega) (by omega)) m2
  have m4 : s * s * (9223372036854775808 * crs d v) = 9223372036854775808 * (s * s * crs d v) := by grind
  have m5 : 4194304 * s ≤ s * s := Int.mul_le_mul_of_nonneg_right hs (by omega)
  have m6 : s * s * 1 ≤ s * s * crs d v := mulle (Int.mul_nonneg (by omega) (by omega)) h1
  have e0 : crs D V = D.1 * V.2 - D.2 * V.1 := rfl
  rw [e0]
  generalize D.1 * V.2 - D.2 * V.1 = z at *
  generalize s * s * crs d v = w at *
  generalize s * s = ss at *
  omega
theorem tw_nrm {C S s : Int} {d D : Int × Int} (r : Rt C S) (hd : Tw C S s 17179869184 d D) (hs : 0 ≤ s) : nrm D ≤ 2 * s * nrm d + 8 := by
  have p1 := prod_b r.c.1 r.c.2 (show -(d.1.natAbs : Int) ≤ d.1 by omega) (show d.1 ≤ d.1.natAbs by omega)
  have p2 := prod_b r.s.1 r.s.2 (show -(d.2.natAbs : Int) ≤ d.2 by omega) (show d.2 ≤ d.2.natAbs by omega)
  have p3 := prod_b r.s.1 r.s.2 (show -(d.1.natAbs : Int) ≤ d.1 by omega) (show d.1 ≤ d.1.natAbs by omega)
  have p4 := prod_b r.c.1 r.c.2 (show -(d.2.natAbs : Int) ≤ d.2 by omega) (show d.2 ≤ d.2.natAbs by omega)
  have en : nrm d = (d.1.natAbs : Int) + d.2.natAbs := rfl
  have q1 : s * (C * d.1 - S * d.2) ≤ s * (4294967296 * nrm d) := mulle hs (by omega)
  have q2 : s * (-(4294967296 * nrm d)) ≤ s * (C * d.1 - S * d.2) := mulle hs (by omega)
  have q3 : s * (S * d.1 + C * d.2) ≤ s * (4294967296 * nrm d) := mulle hs (by omega)
  have q4 : s * (-(4294967296 * nrm d)) ≤ s * (S * d.1 + C * d.2) := mulle hs (by omega)
  obtain ⟨a, b⟩ := hd
  rw [show s * (4294967296 * nrm d) = 4294967296 * (s * nrm d) by grind] at q1 q3
  rw [show s * (-(4294967296 * nrm d)) = -(4294967296 * (s * nrm d)) by grind] at q2 q4
  have e2 : 2 * s * nrm d = 2 * (s * nrm d) := by grind
  rw [e2]
  have eD : nrm D = (D.1.natAbs : Int) + D.2.natAbs := rfl
  rw [eD]
  generalize s * nrm d = w at *
  generalize s * (C * d.1 - S * d.2) = u1 at *
  generalize s * (S * d.1 + C * d.2) = u2 at *
  omega
theorem tw_low {C S s : Int} {d D : Int × Int} (r : Rt C S) (hd : Tw C S s 17179869184 d D) (hs : 4194304 ≤ s) (h : 1 ≤ nrm d) : 1000000 ≤ nrm D := by
  rcases Int.lt_or_le (nrm D) 1000000 with hl | hl
  · exfalso
    obtain ⟨a, b⟩ := hd
    have i1 : C * (s * (C * d.1 - S * d.2)) + S * (s * (S * d.1 + C * d.2)) = (C * C + S * S) * (s * d.1) := by grind
    have i2 : C * (s * (S * d.1 + C * d.2)) - S * (s * (C * d.1 - S * d.2)) = (C * C + S * S) * (s * d.2) := by grind
    generalize s * (C * d.1 - S * d.2) = y1 at *
    generalize s * (S * d.1 + C * d.2) = y2 at *
    unfold nrm at h hl
    have b1 : -(4294967296 * (D.1.natAbs : Int) + 17179869184) ≤ y1 ∧ y1 ≤ 4294967296 * (D.1.natAbs : Int) + 17179869184 := by omega
    have b2 : -(4294967296 * (D.2.natAbs : Int) + 17179869184) ≤ y2 ∧ y2 ≤ 4294967296 * (D.2.natAbs : Int) + 17179869184 := by omega
    have p1 := prod_b r.c.1 r.c.2 b1.1 b1.2
    have p2 := prod_b r.s.1 r.s.2 b2.1 b2.2
    have p3 := prod_b r.c.1 r.c.2 b2.1 b2.2
    have p4 := prod_b r.s.1 r.s.2 b1.1 b1.2
    have q := r.q
    have up : ∀ x : Int, 1 ≤ x → 38685626227668133590597632 ≤ (C * C + S * S) * (s * x) := fun x hx => by
      have k1 : 4194304 * 1 ≤ s * x := Int.mul_le_mul hs hx (by omega) (by omega)
      have k2 : 9223372036854775808 * 4194304 ≤ (C * C + S * S) * (s * x) := Int.mul_le_mul q (by omega) (by omega) (by omega)
      omega
    have dn : ∀ x : Int, x ≤ -1 → (C * C + S * S) * (s * x) ≤ -38685626227668133590597632 := fun x hx => by
      have := up (-x) (by omega)
      rw [Int.mul_neg, Int.mul_neg] at this
      omega
    rcases Int.lt_or_le 0 d.1 with k | k
    · have := up d.1 (by omega); omega
    · rcases Int.lt_or_le d.1 0 with k' | k'
      · have := dn d.1 (by omega); omega
      · rcases Int.lt_or_le 0 d.2 with m | m
        · have := up d.2 (by omega); omega
        · have := dn d.2 (by omega); omega
  · exact hl
/-! ### Polygons of small corners -/
def side (h : Nat → Int × Int) (n i : Nat) : Int × Int := sb (h (nxt n i)) (h i)
structure Lat (s K0 : Int) (h : Nat → Int × Int) (n : Nat) : Prop where
  pos : 0 < n
  sm : ∀ i, i < n → Sm 65 (h i)
  cv : ∀ i k, i < n → k < n → k = i ∨ k = nxt n i ∨ 1 ≤ crs (side h n i) (sb (h k) (h i))
  wp : ∀ i, i < n → 1 ≤ crs (side h n i) (side h n (nxt n i))
  wd : ∀ i, i < n → nrm (side h n i) * nrm (side h n (nxt n i)) ≤ K0 * crs (side h n i) (side h n (nxt n i))
  s : 4194304 ≤ s
  K : 0 ≤ K0
theorem Sm.sub {d v : Int × Int} (h : Sm 65 d) (g : Sm 65 v) : Sm 130 (sb d v) := by unfold Sm at *; unfold sb; simp only; omega
theorem nrm_Nm (p : Nat → Int × Int) (n i : Nat) : nrm (Nm p n i) = nrm (side p n i) := by unfold nrm Nm side sb; simp only; omega
theorem crs_Nm (p : Nat → Int × Int) (n i j : Nat) : crs (Nm p n i) (Nm p n j) = crs (side p n i) (side p n j) := by unfold crs Nm side sb; simp only; grind
theorem dtp_Nm (p : Nat → Int × Int) (n i : Nat) (v : Int × Int) : dtp (Nm p n i) v = -crs (side p n i) v := by unfold dtp crs Nm side sb; simp only; grind
theorem nrm_pos_of {a b : Int × Int} (h : 1 ≤ crs a b) : 1 ≤ nrm a ∧ 1 ≤ nrm b := by
  unfold nrm
  constructor
  · rcases Int.lt_or_le 0 ((a.1.natAbs : Int) + a.2.natAbs) with h1 | h1
    · omega
    · have e1 : a.1 = 0 := by omega
      have e2 : a.2 = 0 := by omega
      unfold crs at h; rw [e1, e2] at h; simp at h
  · rcases Int.lt_or_le 0 ((b.1.natAbs : Int) + b.2.natAbs) with h1 | h1
    · omega
    · have e1 : b.1 = 0 := by omega
      have e2 : b.2 = 0 := by omega
      unfold crs at h; rw [e1, e2] at h; simp at h
theorem crs_le (a b : Int × Int) : crs a b ≤ nrm a * nrm b := by
  have p1 := prod_b (show -(a.1.natAbs : Int) ≤ a.1 by omega) (show a.1 ≤ a.1.natAbs by omega) (show -(b.2.natAbs : Int) ≤ b.2 by omega) (show b.2 ≤ b.2.natAbs by omega)
  have p2 := prod_b (show -(a.2.natAbs : Int) ≤ a.2 by omega) (show a.2 ≤ a.2.natAbs by omega) (show -(b.1.natAbs : Int) ≤ b.1 by omega) (show b.1 ≤ b.1.natAbs by omega)
  have q1 := Int.mul_nonneg (show 0 ≤ (a.1.natAbs : Int) by omega) (show 0 ≤ (b.1.natAbs : Int) by omega)
  have q2 := Int.mul_nonneg (show 0 ≤ (a.2.natAbs : Int) by omega) (show 0 ≤ (b.2.natAbs : Int) by omega)
  have e : nrm a * nrm b = (a.1.natAbs : Int) * b.1.natAbs + (a.1.natAbs : Int) * b.2.natAbs + (a.2.natAbs : Int) * b.1.natAbs + (a.2.natAbs : Int) * b.2.natAbs := by unfold nrm; grind
  rw [e]; unfold crs; omega
theorem cvx_of {C S s K0 : Int} {h P : Nat → Int × Int} {n : Nat} {t : Int × Int} (r : Rt C S) (l : Lat s K0 h n) (im : ∀ i, i < n → Tw C S s 8589934592 (h i) (sb (P i) t)) : Cvx (36 * K0) P n ∧ ∀ i, i < n → 1000000 ≤ nrm (Nm P n i) := by
  have hs := l.s
  have tw : ∀ i k, i < n → k < n → Tw C S s 17179869184 (sb (h k) (h i)) (sb (P k) (P i)) := fun i k hi hk => by
    have := (im k hk).sub (im i hi)
    have e : sb (sb (P k) t) (sb (P i) t) = sb (P k) (P i) := by unfold sb; simp only [Prod.mk.injEq]; omega
    rw [e] at this
    exact this
  have sm : ∀ i k, i < n → k < n → Sm 130 (sb (h k) (h i)) := fun i k hi hk => (l.sm k hk).sub (l.sm i hi)
  have sd : ∀ i, i < n → Tw C S s 17179869184 (side h n i) (side P n i) := fun i hi => tw i _ hi (nxt_lt l.pos)
  have wdg : ∀ i, i < n → s * s * crs (side h n i) (side h n (nxt n i)) ≤ 4 * crs (side P n i) (side P n (nxt n i)) := fun i hi =>
    tw_crs r (sd i hi) (sd _ (nxt_lt l.pos)) (sm i _ hi (nxt_lt l.pos)) (sm _ _ (nxt_lt l.pos) (nxt_lt l.pos)) hs (l.wp i hi)
  have np : ∀ i, i < n → 1 ≤ nrm (side h n i) := fun i hi => (nrm_pos_of (l.wp i hi)).1
  have nl : ∀ i, i < n → nrm (side P n i) ≤ 3 * (s * nrm (side h n i)) := fun i hi => by
    have a := tw_nrm r (sd i hi) (by omega)
    have b := mulle (show 0 ≤ s by omega) (np i hi)
    have e : 2 * s * nrm (side h n i) = 2 * (s * nrm (side h n i)) := by grind
    rw [e] at a
    omega
  have n0 : ∀ a : Int × Int, 0 ≤ nrm a := fun a => (nrm_b a).2.2.2.2
  have big : ∀ i, i < n → 1000000 ≤ nrm (side P n i) := fun i hi => tw_low r (sd i hi) hs (np i hi)
  refine ⟨⟨l.pos, fun i k hi hk => ?_, fun i hi => ?_, fun i hi => ?_⟩, fun i hi => ?_⟩
  · rw [dtp_Nm]
    rcases l.cv i k hi hk with rfl | rfl | h1
    · have e : crs (side P n k) (sb (P k) (P k)) = 0 := by unfold crs sb; simp only; grind
      omega
    · have e : crs (side P n i) (sb (P (nxt n i)) (P i)) = 0 := by unfold crs side; grind
      omega
    · have a := tw_crs r (sd i hi) (tw i k hi hk) (sm i _ hi (nxt_lt l.pos)) (sm i k hi hk) hs h1
      have b := mulle (Int.mul_nonneg (show 0 ≤ s by omega) (show 0 ≤ s by omega)) (show 0 ≤ crs (side h n i) (sb (h k) (h i)) by omega)
      rw [Int.mul_zero] at b
      omega
  · have hj := nxt_lt (n := n) (i := i) l.pos
    rw [nrm_Nm, nrm_Nm, crs_Nm]
    have a := Int.mul_le_mul (nl i hi) (nl _ hj) (n0 _) (by have := n0 (side P n i); have := nl i hi; omega)
    have b := mulle (Int.mul_nonneg (show 0 ≤ s by omega) (show 0 ≤ s by omega)) (l.wd i hi)
    have c := mulle l.K (wdg i hi)
    have e1 : 3 * (s * nrm (side h n i)) * (3 * (s * nrm (side h n (nxt n i)))) = 9 * (s * s * (nrm (side h n i) * nrm (side h n (nxt n i)))) := by grind
    have e2 : s * s * (K0 * crs (side h n i) (side h n (nxt n i))) = K0 * (s * s * crs (side h n i) (side h n (nxt n i))) := by grind
    have e3 : 36 * K0 * crs (side P n i) (side P n (nxt n i)) = 9 * (K0 * (4 * crs (side P n i) (side P n (nxt n i)))) := by grind
    rw [e1] at a; rw [e2] at b; rw [e3]
    omega
  · rw [nrm_Nm]; have := big i hi; omega
  · rw [nrm_Nm]; exact big i hi
/-! ### Rounded normals -/
theorem near_of {N v u : Int × Int} {L B T : Int} (hL : 0 < L) (a : -L ≤ L * u.1 - 4294967296 * N.1 ∧ L * u.1 - 4294967296 * N.1 ≤ L) (b : -L ≤ L * u.2 - 4294967296 * N.2 ∧ L * u.2 - 4294967296 * N.2 ≤ L)
    (hd : dtp u v ≤ 4294967296 * T) (hv : nrm v ≤ 4294967296 * B) : dtp N v ≤ (B + T) * L := by
  have id : 4294967296 * dtp N v = L * dtp u v - ((L * u.1 - 4294967296 * N.1) * v.1 + (L * u.2 - 4294967296 * N.2) * v.2) := by unfold dtp; grind
  have p1 := prod_b a.1 a.2 (show -(v.1.natAbs : Int) ≤ v.1 by omega) (show v.1 ≤ v.1.natAbs by omega)
  have p2 := prod_b b.1 b.2 (show -(v.2.natAbs : Int) ≤ v.2 by omega) (show v.2 ≤ v.2.natAbs by omega)
  have q1 := mulle (show 0 ≤ L by omega) hd
  have q2 := mulle (show 0 ≤ L by omega) hv
  have e : L * nrm v = L * (v.1.natAbs : Int) + L * v.2.natAbs := by unfold nrm; grind
  have e1 : L * (4294967296 * T) = 4294967296 * (T * L) := by grind
  have e2 : L * (4294967296 * B) = 4294967296 * (B * L) := by grind
  rw [e] at q2; rw [e1] at q1; rw [e2] at q2
  rw [Int.add_mul]
  omega
end Go.Proofs.Ytejlappndcakeaa.Y
