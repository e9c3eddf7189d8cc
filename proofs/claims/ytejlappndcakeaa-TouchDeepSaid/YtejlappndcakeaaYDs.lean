/- Polygons that seeds make are convex in place; what gaps tell. -/
import Derived.Test.YtejlappndcakeaaYDq
namespace Go.Proofs.Ytejlappndcakeaa.Y
open Go Go.RowKit Go.Proofs.Ytejlappndcakeaa.E Go.Proofs.Ytejlappndcakeaa.Ma Go.Proofs.Ytejlappndcakeaa.Fw
set_option linter.unusedVariables false
set_option linter.unusedSimpArgs false

/-- A polygon in its place. -/
structure PlG (P : Pl) : Prop where
  cvx : Cvx 288 P.2 P.1
  big : ∀ i, i < P.1 → 1000000 ≤ nrm (Nm P.2 P.1 i)
  b : ∀ i, i < P.1 → Bn 4400000000000 (P.2 i)
theorem pl_good {B : Bd} {s : Int} {h : Nat → P2} (hB : BdB B) (h2 : B.kd = 2) (l : Lat s 8 h B.n) (hg : ∀ i, i < B.n → B.g i = ((h i).1 * s, (h i).2 * s)) : PlG B.pl := by
  have e1 : B.pl = (B.n, cut0 (0, 0) B.n (inPlace B.pos B.ang B.g)) := by unfold Bd.pl cornersP; rw [if_pos h2]
  rw [e1]
  have ab : ∀ i, i < B.n → Bn 34896609280 (vapply (rotF B.ang) (B.g i)) := fun i hi => apply_b (rot_b B.ang) (near_bn (hB.near i hi))
  have ev : ∀ i, i < B.n → cut0 (0, 0) B.n (inPlace B.pos B.ang B.g) i = (B.pos.1 + (vapply (rotF B.ang) (B.g i)).1, B.pos.2 + (vapply (rotF B.ang) (B.g i)).2) := fun i hi => by
    rw [cut0_lt hi]; exact (vadd_ex hB.pos (ab i hi) (by omega)).1
  have c := cvx_of (t := B.pos) (P := cut0 (0, 0) B.n (inPlace B.pos B.ang B.g)) (rot_rt B.ang) l fun i hi => by
    have t := apply_tw (d := h i) (s := s) (rot_b B.ang) (by rw [← hg i hi]; exact near_bn (hB.near i hi))
    rw [← hg i hi] at t
    have e : sb (cut0 (0, 0) B.n (inPlace B.pos B.ang B.g) i) B.pos = vapply (rotF B.ang) (B.g i) := by
      rw [ev i hi]; unfold sb; exact Prod.ext (by simp only; omega) (by simp only; omega)
    rw [e]; exact t
  refine ⟨c.1, c.2, fun i hi => ?_⟩
  rw [show (B.n, cut0 (0, 0) B.n (inPlace B.pos B.ang B.g)).2 i = cut0 (0, 0) B.n (inPlace B.pos B.ang B.g) i from rfl, cut0_lt hi]
  exact ((hB.pos.add (ab i hi) (by omega)).1).le (by omega)
/-! ### Gaps -/
theorem gs_max (h : Nat → Int) : ∀ n i, i < n → h i ≤ (gs h n).1
  | 0, i, hi => absurd hi (by omega)
  | n + 1, i, hi => by
    unfold gs
    by_cases e : i = n
    · subst e
      split
      · exact Int.le_refl _
      · rename_i hc
        have : ¬ h i > (gs h i).1 := fun k => hc (.inr k)
        omega
    · have ih := gs_max h n i (by omega)
      split
      · rename_i hc
        rcases hc with hc | hc
        · omega
        · show h i ≤ h n; omega
      · exact ih
theorem gl_ex (nv pv : P2) (q : Nat → P2) : ∀ m, gl nv pv q m < 9223372036854775807 → ∃ j, j < m ∧ dot nv (vsub (q j) pv) = gl nv pv q m
  | 0, h => by unfold gl at h; omega
  | m + 1, h => by
    unfold gl at h ⊢
    split
    · exact ⟨m, by omega, rfl⟩
    · rename_i hc
      rw [if_neg hc] at h
      obtain ⟨j, h1, h2⟩ := gl_ex nv pv q m h
      exact ⟨j, by omega, h2⟩
theorem vsub_sb {p q : P2} (hp : Bn 4400000000000 p) (hq : Bn 4400000000000 q) : vsub p q = sb p q ∧ Bn 8800000000000 (sb p q) := by
  have e := (vadd_ex hp hq (by omega)).2
  refine ⟨e, ?_⟩
  have := (hp.add hq (by omega)).2
  rw [e] at this
  exact this
/-- The rounded normal of a side. -/
structure Un (N u : P2) (L : Int) : Prop where
  bn : Bn 8800000000000 N
  ub : Bn 398074748862464 u
  hL : L = vlen N
  L0 : 0 < L
  a : -L ≤ L * u.1 - 4294967296 * N.1 ∧ L * u.1 - 4294967296 * N.1 ≤ L
  b : -L ≤ L * u.2 - 4294967296 * N.2 ∧ L * u.2 - 4294967296 * N.2 ≤ L
theorem norm_un {P : Pl} (h : PlG P) {i : Nat} (hi : i < P.1) : Un (Nm P.2 P.1 i) (normOf P.1 P.2 i) (vlen (Nm P.2 P.1 i)) := by
  have hq := nxt_lt (i := i) h.cvx.pos
  obtain ⟨e, hb⟩ := vsub_sb (h.b _ hq) (h.b i hi)
  have hN : Bn 8800000000000 (Nm P.2 P.1 i) := by unfold Bn sb at hb; unfold Bn Nm; simp only at hb ⊢; omega
  have en : normOf P.1 P.2 i = (vunit (Nm P.2 P.1 i)).1 := by
    unfold normOf
    have e' : vsub (P.2 ((i + 1) % P.1)) (P.2 i) = sb (P.2 (nxt P.1 i)) (P.2 i) := e
    rw [e', neg_id (by unfold Bn at hb; unfold S63; omega)]
    rfl
  have pu := part_up (hN.le (by omega))
  have big := h.big i hi
  have hl := vlen_s (Nm P.2 P.1 i)
  have hs := hN.s (by omega)
  have L0 : 0 < vlen (Nm P.2 P.1 i) := by
    unfold nrm at big
    omega
  rw [en]
  refine ⟨hN, unit_b (hN.le (by omega)), rfl, L0, ?_, ?_⟩
  · unfold vunit
    rw [if_neg (by omega)]
    exact div_tr hs.1 hl L0 pu.1 pu.2.1
  · unfold vunit
    rw [if_neg (by omega)]
    exact div_tr hs.2 hl L0 pu.2.2.1 pu.2.2.2
theorem nrm_le {v : P2} (h : Bn 8800000000000 v) : nrm v ≤ 4294967296 * 4098 := by unfold Bn at h; unfold nrm; omega
/-- What a gap tells of the true way across. -/
theorem un_up {N u v : P2} {L T : Int} (h : Un N u L) (hv : Bn 8800000000000 v) (hd : dot u v ≤ T) : dtp N v ≤ (4098 + (T + 2)) * L := by
  have d := dot_tr h.ub (hv.le (by omega))
  exact near_of h.L0 h.a h.b (by omega) (nrm_le hv)
theorem un_dn {N u v : P2} {L T : Int} (h : Un N u L) (hv : Bn 8800000000000 v) (hd : T ≤ dot u v) : -((4098 + (2 - T)) * L) ≤ dtp N v := by
  have d := dot_tr h.ub (hv.le (by omega))
  have e : ∀ a : P2, dtp (ng a) v = -dtp a v := fun a => by unfold dtp ng; simp only; grind
  have a := h.a
  have b := h.b
  have := near_of (N := ng N) (u := ng u) (v := v) (L := L) (B := 4098) (T := 2 - T) h.L0 (by unfold ng; simp only; rw [Int.mul_neg]; omega) (by unfold ng; simp only; rw [Int.mul_neg]; omega) (by rw [e]; omega) (nrm_le hv)
  rw [e] at this
  omega
theorem gap_near {P Q : Pl} (hP : PlG P) (hQ : PlG Q) (h : (gapI P Q).1 < 0) : Near1 4100 P.2 P.1 Q.2 Q.1 := fun i hi => by
  have hm : gOf P.1 P.2 Q.1 Q.2 i ≤ (gapI P Q).1 := gs_max _ _ i hi
  unfold gOf at hm
  obtain ⟨j, hj, e⟩ := gl_ex _ _ _ _ (show gl (normOf P.1 P.2 i) (P.2 i) Q.2 Q.1 < 9223372036854775807 by omega)
  obtain ⟨e1, hb⟩ := vsub_sb (hQ.b j hj) (hP.b i hi)
  rw [e1] at e
  have u := norm_un hP hi
  refine ⟨j, hj, ?_⟩
  have k := un_up (T := 0) u hb (by omega)
  have := mulle (show (0 : Int) ≤ 4100 by omega) (len_nrm (u.bn.le (show 8800000000000 ≤ 70368744177664 by omega)))
  omega
end Go.Proofs.Ytejlappndcakeaa.Y
