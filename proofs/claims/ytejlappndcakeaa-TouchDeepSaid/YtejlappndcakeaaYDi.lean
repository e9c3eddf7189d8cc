/- Plain geometry of whole numbers: a place beyond a polygon; quarter turns; a place beyond a side. -/
import Derived.Test.YtejlappndcakeaaYDh
namespace Go.Proofs.Ytejlappndcakeaa.Y
set_option linter.unusedVariables false
set_option linter.unusedSimpArgs false

/-- A place that is near or within on all sides does not lie far away. -/
theorem apart1 {E K G : Int} {p : Nat → Int × Int} {n : Nat} {c : Int × Int} (hp : Cvx K p n) (tp : ∀ i, i < n → dtp (Nm p n i) (sb c (p i)) ≤ E * nrm (Nm p n i)) (hE : 0 ≤ E) (hK : 0 < K) (hG : 2 * E * K < G) (hx : ∀ i, i < n → G ≤ c.1 - (p i).1) : False := by
  obtain ⟨a, ha, ha'⟩ := top_of (fun k => (p k).1) n hp.pos
  have lp := prv_lt (i := a) hp.pos
  have np := nxt_prv ha
  have ln := nxt_lt (i := a) hp.pos
  have wp := hp.wed _ lp
  rw [np] at wp
  have s1 := side_0 p n (prv n a)
  rw [np] at s1
  have y1 : (Nm p n (prv n a)).2 ≤ 0 := by unfold Nm; rw [np]; have := ha' _ lp; simp only; omega
  have y2 : 0 ≤ (Nm p n a).2 := by unfold Nm; have := ha' _ ln; simp only; omega
  have t1 := tp _ lp
  have t2 := tp a ha
  rw [dtp_split _ c (p a) (p (prv n a)), s1] at t1
  exact W_same (v := sb c (p a)) (G := G) y1 y2 wp (hp.len _ lp) (hp.len _ ha) (by omega) t2 (hx a ha) hE hK hG
/-! ### Quarter turns -/
def tq (x : Int × Int) : Int × Int := (x.2, -x.1)
theorem tq_sb (a b : Int × Int) : sb (tq a) (tq b) = tq (sb a b) := by unfold sb tq; exact Prod.ext (by simp only) (by simp only; omega)
theorem tq_dtp (a b : Int × Int) : dtp (tq a) (tq b) = dtp a b := by unfold dtp tq; simp only; grind
theorem tq_crs (a b : Int × Int) : crs (tq a) (tq b) = crs a b := by unfold crs tq; simp only; grind
theorem tq_nrm (a : Int × Int) : nrm (tq a) = nrm a := by unfold nrm tq; simp only; omega
theorem tq_Nm (p : Nat → Int × Int) (n i : Nat) : Nm (fun i => tq (p i)) n i = tq (Nm p n i) := by unfold Nm tq; exact Prod.ext (by simp only; omega) (by simp only)
theorem tq_cvx {K : Int} {p : Nat → Int × Int} {n : Nat} (h : Cvx K p n) : Cvx K (fun i => tq (p i)) n := by
  refine ⟨h.pos, fun i k hi hk => ?_, fun i hi => ?_, fun i hi => ?_⟩
  · rw [tq_Nm, tq_sb, tq_dtp]; exact h.inn i k hi hk
  · rw [tq_Nm, tq_Nm, tq_nrm, tq_nrm, tq_crs]; exact h.wed i hi
  · rw [tq_Nm, tq_nrm]; exact h.len i hi
theorem tq_near {E : Int} {p q : Nat → Int × Int} {n m : Nat} (h : Near1 E p n q m) : Near1 E (fun i => tq (p i)) n (fun i => tq (q i)) m := fun i hi => by
  obtain ⟨j, hj, h1⟩ := h i hi
  refine ⟨j, hj, ?_⟩
  rw [tq_Nm, tq_sb, tq_dtp, tq_nrm]
  exact h1
/-- All of b lies farther than G beyond all of a, to one of the four sides. -/
def Far (G : Int) (n m : Nat) (p q : Nat → Int × Int) : Prop :=
  (∀ i j, i < n → j < m → G ≤ (q j).1 - (p i).1) ∨ (∀ i j, i < n → j < m → G ≤ (p i).1 - (q j).1) ∨ (∀ i j, i < n → j < m → G ≤ (q j).2 - (p i).2) ∨ (∀ i j, i < n → j < m → G ≤ (p i).2 - (q j).2)
theorem far_no {E K G : Int} {p q : Nat → Int × Int} {n m : Nat} (hp : Cvx K p n) (hq : Cvx K q m) (tp : Near1 E p n q m) (tr : Near1 E q m p n) (hE : 0 ≤ E) (hK : 0 < K) (hG : 2 * E * K < G) (h : Far G n m p q) : False := by
  rcases h with h | h | h | h
  · exact apart hp hq tp tr hE hK hG h
  · exact apart hq hp tr tp hE hK hG fun i j hi hj => h j i hj hi
  · exact apart (tq_cvx hp) (tq_cvx hq) (tq_near tp) (tq_near tr) hE hK hG fun i j hi hj => h i j hi hj
  · exact apart (tq_cvx hq) (tq_cvx hp) (tq_near tr) (tq_near tp) hE hK hG fun i j hi hj => h j i hj hi
theorem far1_no {E K G : Int} {p : Nat → Int × Int} {n : Nat} {c : Int × Int} (hp : Cvx K p n) (tp : ∀ i, i < n → dtp (Nm p n i) (sb c (p i)) ≤ E * nrm (Nm p n i)) (hE : 0 ≤ E) (hK : 0 < K) (hG : 2 * E * K < G) (h : Far G n 1 p fun _ => c) : False := by
  have t1 : ∀ (p : Nat → Int × Int) (c : Int × Int), (∀ i, i < n → dtp (Nm p n i) (sb c (p i)) ≤ E * nrm (Nm p n i)) → ∀ i, i < n → dtp (Nm (fun i => tq (p i)) n i) (sb (tq c) (tq (p i))) ≤ E * nrm (Nm (fun i => tq (p i)) n i) := fun p c tp i hi => by
    rw [tq_Nm, tq_sb, tq_dtp, tq_nrm]; exact tp i hi
  rcases h with h | h | h | h
  · exact apart1 hp tp hE hK hG fun i hi => h i 0 hi (by omega)
  · refine apart1 (tq_cvx (tq_cvx hp)) (t1 _ _ (t1 _ _ tp)) hE hK hG fun i hi => ?_
    have := h i 0 hi (by omega)
    simp only at this
    unfold tq; simp only; omega
  · exact apart1 (tq_cvx hp) (t1 _ _ tp) hE hK hG fun i hi => h i 0 hi (by omega)
  · refine apart1 (tq_cvx (tq_cvx (tq_cvx hp))) (t1 _ _ (t1 _ _ (t1 _ _ tp))) hE hK hG fun i hi => ?_
    have := h i 0 hi (by omega)
    simp only at this
    unfold tq; simp only; omega
/-! ### Beyond a side -/
theorem sq_nn (x : Int) : 0 ≤ x * x := by
  rcases Int.le_total 0 x with h | h
  · exact Int.mul_nonneg h h
  · have := Int.mul_nonneg (show 0 ≤ -x by omega) (show 0 ≤ -x by omega)
    rwa [Int.neg_mul_neg] at this
theorem face_x {d v : Int × Int} {L R : Int} (h1 : -4294967296 ≤ dtp d v) (h2 : dtp d (sb v d) ≤ 4294967296) (n1 : dtp (d.2, -d.1) v ≤ R * L) (n2 : -(R * L) ≤ dtp (d.2, -d.1) v) (hL : L * L ≤ d.1 * d.1 + d.2 * d.2) (L0 : 0 ≤ L) (R0 : 0 ≤ R) (big : 1000 ≤ nrm d)
    (g1 : R + 8589935 < v.1) (g2 : R + 8589935 < (sb v d).1) : False := by
  have i1 : (d.1 * d.1 + d.2 * d.2) * v.1 = d.1 * dtp d v + d.2 * dtp (d.2, -d.1) v := by unfold dtp; grind
  have i2 : (d.1 * d.1 + d.2 * d.2) * (sb v d).1 = d.1 * dtp d (sb v d) + d.2 * dtp (d.2, -d.1) v := by unfold dtp sb; grind
  have a1 : d.1 * d.1 = (d.1.natAbs : Int) * d.1.natAbs := (Int.natAbs_mul_self' d.1).symm
  have a2 : d.2 * d.2 = (d.2.natAbs : Int) * d.2.natAbs := (Int.natAbs_mul_self' d.2).symm
  have en : nrm d = (d.1.natAbs : Int) + d.2.natAbs := rfl
  have p := prod_b (show -(d.2.natAbs : Int) ≤ d.2 by omega) (show d.2 ≤ d.2.natAbs by omega) n2 n1
  have k : (d.2.natAbs : Int) * L ≤ d.1 * d.1 + d.2 * d.2 := by
    have := sq_nn ((d.2.natAbs : Int) - L)
    have e : ((d.2.natAbs : Int) - L) * ((d.2.natAbs : Int) - L) = (d.2.natAbs : Int) * d.2.natAbs - 2 * ((d.2.natAbs : Int) * L) + L * L := by grind
    have := sq_nn d.1
    omega
  have k2 := mulle R0 k
  have e3 : (d.2.natAbs : Int) * (R * L) = R * ((d.2.natAbs : Int) * L) := by grind
  rw [e3] at p
  have b : (d.1.natAbs : Int) * 500 ≤ d.1 * d.1 + d.2 * d.2 := by
    have s1 := sq_nn d.1
    have s2 := sq_nn d.2
    by_cases h : 500 ≤ (d.1.natAbs : Int)
    · have := mulle (show 0 ≤ (d.1.natAbs : Int) by omega) h
      omega
    · have := Int.mul_le_mul (show 500 ≤ (d.2.natAbs : Int) by omega) (show 500 ≤ (d.2.natAbs : Int) by omega) (by omega) (by omega)
      omega
  have D0 : 0 < d.1 * d.1 + d.2 * d.2 := by
    have s1 := sq_nn d.1
    have s2 := sq_nn d.2
    by_cases h : 500 ≤ (d.1.natAbs : Int)
    · omega
    · have := Int.mul_le_mul (show 500 ≤ (d.2.natAbs : Int) by omega) (show 500 ≤ (d.2.natAbs : Int) by omega) (by omega) (by omega)
      omega
  generalize d.1 * d.1 + d.2 * d.2 = D at *
  have eR : D * (R + 8589935) = R * D + 8589935 * D := by grind
  rcases Int.lt_or_le d.1 0 with h | h
  · have m : (-d.1) * (-4294967296) ≤ (-d.1) * dtp d v := mulle (by omega) h1
    rw [show (-d.1) * dtp d v = -(d.1 * dtp d v) from Int.neg_mul _ _] at m
    have : D * v.1 ≤ D * (R + 8589935) := by omega
    have := le_of_mul D0 this
    omega
  · have m : d.1 * dtp d (sb v d) ≤ d.1 * 4294967296 := mulle h h2
    have : D * (sb v d).1 ≤ D * (R + 8589935) := by omega
    have := le_of_mul D0 this
    omega
theorem face_no {d v : Int × Int} {L R : Int} (h1 : -4294967296 ≤ dtp d v) (h2 : dtp d (sb v d) ≤ 4294967296) (n1 : dtp (tq d) v ≤ R * L) (n2 : -(R * L) ≤ dtp (tq d) v) (hL : L * L ≤ d.1 * d.1 + d.2 * d.2) (L0 : 0 ≤ L) (R0 : 0 ≤ R) (big : 1000 ≤ nrm d)
    (g : (R + 8589935 < v.1 ∧ R + 8589935 < (sb v d).1) ∨ (R + 8589935 < -v.1 ∧ R + 8589935 < -(sb v d).1) ∨ (R + 8589935 < v.2 ∧ R + 8589935 < (sb v d).2) ∨ (R + 8589935 < -v.2 ∧ R + 8589935 < -(sb v d).2)) : False := by
  have t : ∀ d v : Int × Int, dtp d (sb v d) = dtp (tq d) (sb (tq v) (tq d)) := fun d v => by rw [tq_sb, tq_dtp]
  have l : ∀ d : Int × Int, d.1 * d.1 + d.2 * d.2 = (tq d).1 * (tq d).1 + (tq d).2 * (tq d).2 := fun d => by unfold tq; simp only; grind
  have step : ∀ d v : Int × Int, (-4294967296 ≤ dtp d v ∧ dtp d (sb v d) ≤ 4294967296 ∧ dtp (tq d) v ≤ R * L ∧ -(R * L) ≤ dtp (tq d) v ∧ L * L ≤ d.1 * d.1 + d.2 * d.2 ∧ 1000 ≤ nrm d) →
      -4294967296 ≤ dtp (tq d) (tq v) ∧ dtp (tq d) (sb (tq v) (tq d)) ≤ 4294967296 ∧ dtp (tq (tq d)) (tq v) ≤ R * L ∧ -(R * L) ≤ dtp (tq (tq d)) (tq v) ∧ L * L ≤ (tq d).1 * (tq d).1 + (tq d).2 * (tq d).2 ∧ 1000 ≤ nrm (tq d) := fun d v h => by
    rw [tq_dtp, ← t, tq_dtp, ← l, tq_nrm]; exact h
  have s0 := (⟨h1, h2, n1, n2, hL, big⟩ : -4294967296 ≤ dtp d v ∧ dtp d (sb v d) ≤ 4294967296 ∧ dtp (tq d) v ≤ R * L ∧ -(R * L) ≤ dtp (tq d) v ∧ L * L ≤ d.1 * d.1 + d.2 * d.2 ∧ 1000 ≤ nrm d)
  have s1 := step _ _ s0
  have s2 := step _ _ s1
  have s3 := step _ _ s2
  have go : ∀ d v : Int × Int, (-4294967296 ≤ dtp d v ∧ dtp d (sb v d) ≤ 4294967296 ∧ dtp (tq d) v ≤ R * L ∧ -(R * L) ≤ dtp (tq d) v ∧ L * L ≤ d.1 * d.1 + d.2 * d.2 ∧ 1000 ≤ nrm d) → R + 8589935 < v.1 → R + 8589935 < (sb v d).1 → False := fun d v h g1 g2 =>
    face_x h.1 h.2.1 h.2.2.1 h.2.2.2.1 h.2.2.2.2.1 L0 R0 h.2.2.2.2.2 g1 g2
  rcases g with g | g | g | g
  · exact go _ _ s0 g.1 g.2
  · refine go _ _ s2 g.1 ?_
    rw [tq_sb, tq_sb]; exact g.2
  · refine go _ _ s1 g.1 ?_
    rw [tq_sb]; exact g.2
  · refine go _ _ s3 ?_ ?_
    · unfold tq; simp only; omega
    · rw [tq_sb, tq_sb, tq_sb]; unfold tq; simp only; omega
end Go.Proofs.Ytejlappndcakeaa.Y
