/- Bodies that touch do not lie apart. -/
import Derived.Test.YtejlappndcakeaaYDs
namespace Go.Proofs.Ytejlappndcakeaa.Y
open Go Go.RowKit Go.Proofs.Ytejlappndcakeaa.E Go.Proofs.Ytejlappndcakeaa.Ma Go.Proofs.Ytejlappndcakeaa.Fw
set_option linter.unusedVariables false
set_option linter.unusedSimpArgs false

theorem dtp_cm (a b : P2) : dtp a b = dtp b a := by unfold dtp; grind
theorem dot_up {u v : P2} (hu : Bn 8800000000000 u) (hv : Bn 8800000000000 v) (h : 0 < dot u v) : -4294967296 ≤ dtp u v := by
  have := dot_tr (hu.le (by omega)) (hv.le (by omega)); omega
/-- The place c lies farther than r and 1/64 beyond all corners, to one of the four sides. -/
def FarR (P : Pl) (c : P2) (r : Int) : Prop :=
  (∀ i, i < P.1 → 67108864 + r ≤ (sb c (P.2 i)).1) ∨ (∀ i, i < P.1 → 67108864 + r ≤ -(sb c (P.2 i)).1) ∨ (∀ i, i < P.1 → 67108864 + r ≤ (sb c (P.2 i)).2) ∨ (∀ i, i < P.1 → 67108864 + r ≤ -(sb c (P.2 i)).2)
theorem corn_far {nrm a way : P2} {r key : Int} (h : (cornP nrm a way r key).2 = true) : vlen way < r := by
  unfold cornP at h
  split at h
  · cases h
  · rename_i hc; omega
theorem corner_no {P : Pl} {c : P2} {r : Int} {i : Nat} (hi : i < P.1) (hb : Bn 8800000000000 (sb c (P.2 i))) (h : vlen (sb c (P.2 i)) < r) (hf : FarR P c r) : False := by
  have pu := part_up (hb.le (show 8800000000000 ≤ 70368744177664 by omega))
  rcases hf with f | f | f | f <;> have := f i hi <;> omega
theorem mix_no {P : Pl} {c : P2} {r : Int} (hP : PlG P) (hc : Bn 4294967296000 c) (r0 : 0 ≤ r) (h : (mixP P c r).2 = true) (hf : FarR P c r) : False := by
  have hn := hP.cvx.pos
  have hc' := hc.le (show 4294967296000 ≤ 4400000000000 by omega)
  have dif := fun k (hk : k < P.1) => vsub_sb hc' (hP.b k hk)
  have gk : ∀ k, k < P.1 → dot (normOf P.1 P.2 k) (sb c (P.2 k)) ≤ (gapI P (ptL c)).1 := fun k hk => by
    have m : gOf P.1 P.2 (ptL c).1 (ptL c).2 k ≤ (gapI P (ptL c)).1 := gs_max _ _ k hk
    have e : gOf P.1 P.2 (ptL c).1 (ptL c).2 k = dot (normOf P.1 P.2 k) (vsub c (P.2 k)) := gl_one (q := (ptL c).2) (normOf P.1 P.2 k) (P.2 k)
    rw [e, (dif k hk).1] at m
    exact m
  have hi : (gapI P (ptL c)).2 < P.1 := gs_lt _ _ hn
  have hv : (gapI P (ptL c)).1 = dot (normOf P.1 P.2 (gapI P (ptL c)).2) (sb c (P.2 (gapI P (ptL c)).2)) := by
    have e : (gapI P (ptL c)).1 = gOf P.1 P.2 (ptL c).1 (ptL c).2 (gapI P (ptL c)).2 := gs_val _ _ hn
    have e2 : gOf P.1 P.2 (ptL c).1 (ptL c).2 (gapI P (ptL c)).2 = dot (normOf P.1 P.2 (gapI P (ptL c)).2) (vsub c (P.2 (gapI P (ptL c)).2)) := gl_one (q := (ptL c).2) _ _
    rw [e, e2, (dif _ hi).1]
  unfold mixP at h
  generalize (gapI P (ptL c)).2 = i at *
  generalize (gapI P (ptL c)).1 = s at *
  have hq := nxt_lt (n := P.1) (i := i) hn
  have ei : nx P.1 i = nxt P.1 i := rfl
  unfold mixA at h
  rw [ei] at h
  split at h
  · cases h
  rename_i k1
  split at h
  · rename_i k2
    have fr : Far 67108864 P.1 1 P.2 fun _ => c := by
      rcases hf with f | f | f | f
      · exact .inl fun i j hi hj => by have := f i hi; unfold sb at this; simp only at this ⊢; omega
      · exact .inr (.inl fun i j hi hj => by have := f i hi; unfold sb at this; simp only at this ⊢; omega)
      · exact .inr (.inr (.inl fun i j hi hj => by have := f i hi; unfold sb at this; simp only at this ⊢; omega))
      · exact .inr (.inr (.inr fun i j hi hj => by have := f i hi; unfold sb at this; simp only at this ⊢; omega))
    refine far1_no (E := 4100) hP.cvx (fun k hk => ?_) (by omega) (by omega) (by omega) fr
    have u := norm_un hP hk
    have a := un_up (T := 0) u (dif k hk).2 (by have := gk k hk; omega)
    have := mulle (show (0 : Int) ≤ 4100 by omega) (len_nrm (u.bn.le (show 8800000000000 ≤ 70368744177664 by omega)))
    omega
  rename_i k2
  split at h
  · have := corn_far h
    rw [(dif i hi).1] at this
    exact corner_no hi (dif i hi).2 this hf
  rename_i k3
  split at h
  · have := corn_far h
    rw [(dif _ hq).1] at this
    exact corner_no hq (dif _ hq).2 this hf
  rename_i k4
  -- within the side
  obtain ⟨ed, hd⟩ := vsub_sb (hP.b _ hq) (hP.b i hi)
  have u := norm_un hP hi
  rw [ed, (dif i hi).1] at k3
  rw [ed, (dif _ hq).1] at k4
  have en : vneg (sb (P.2 (nxt P.1 i)) (P.2 i)) = ng (sb (P.2 (nxt P.1 i)) (P.2 i)) := vneg_id (hd.s (by omega))
  rw [en] at k4
  have hd' : Bn 8800000000000 (ng (sb (P.2 (nxt P.1 i)) (P.2 i))) := by unfold Bn at hd ⊢; unfold ng; simp only; omega
  have a1 := dot_up (dif i hi).2 hd (by omega)
  have a2 := dot_up (dif _ hq).2 hd' (by omega)
  have n1 := un_up (T := r) u (dif i hi).2 (by omega)
  have n2 := un_dn (T := 0) u (dif i hi).2 (by omega)
  have L0 := u.L0
  have lu := len_up (u.bn.le (show 8800000000000 ≤ 70368744177664 by omega))
  have big := hP.big i hi
  rw [nrm_Nm] at big
  have esb : sb (sb c (P.2 i)) (side P.2 P.1 i) = sb c (P.2 (nxt P.1 i)) := by unfold side sb; exact Prod.ext (by simp only; omega) (by simp only; omega)
  have ell : (Nm P.2 P.1 i).1 * (Nm P.2 P.1 i).1 + (Nm P.2 P.1 i).2 * (Nm P.2 P.1 i).2 = (side P.2 P.1 i).1 * (side P.2 P.1 i).1 + (side P.2 P.1 i).2 * (side P.2 P.1 i).2 := by unfold Nm side sb; simp only; grind
  rw [ell] at lu
  have eR : -((4098 + (r + 2)) * vlen (Nm P.2 P.1 i)) ≤ -((4098 + (2 - 0)) * vlen (Nm P.2 P.1 i)) := by
    have := Int.mul_le_mul_of_nonneg_right (show (4098 : Int) + (2 - 0) ≤ 4098 + (r + 2) by omega) (show 0 ≤ vlen (Nm P.2 P.1 i) by omega)
    omega
  refine face_no (d := side P.2 P.1 i) (v := sb c (P.2 i)) (L := vlen (Nm P.2 P.1 i)) (R := 4098 + (r + 2)) ?_ ?_ n1 (by have : dtp (tq (side P.2 P.1 i)) (sb c (P.2 i)) = dtp (Nm P.2 P.1 i) (sb c (P.2 i)) := rfl; omega) lu (by omega) (by omega) (by omega) ?_
  · rw [dtp_cm]; exact a1
  · rw [esb]
    have e : dtp (sb c (P.2 (nxt P.1 i))) (ng (sb (P.2 (nxt P.1 i)) (P.2 i))) = -dtp (side P.2 P.1 i) (sb c (P.2 (nxt P.1 i))) := by unfold dtp ng side; grind
    rw [e] at a2
    omega
  · rw [esb]
    rcases hf with f | f | f | f
    · exact .inl (by have := f i hi; have := f _ hq; omega)
    · exact .inr (.inl (by have := f i hi; have := f _ hq; omega))
    · exact .inr (.inr (.inl (by have := f i hi; have := f _ hq; omega)))
    · exact .inr (.inr (.inr (by have := f i hi; have := f _ hq; omega)))
theorem poly_no {P Q : Pl} (hP : PlG P) (hQ : PlG Q) (h : (polyP P Q).2 = true) (hf : Far 67108864 P.1 Q.1 P.2 Q.2) : False := by
  unfold polyP at h
  split at h
  · cases h
  split at h
  · cases h
  rename_i k1 k2
  exact far_no hP.cvx hQ.cvx (gap_near hP hQ (by omega)) (gap_near hQ hP (by omega)) (by omega) (by omega) (by omega) hf
theorem circ_no {pa pb : P2} {ra rb : Int} (ha : Bn 4294967296000 pa) (hb : Bn 4294967296000 pb) (hra : 0 ≤ ra ∧ ra ≤ 17179869184) (hrb : 0 ≤ rb ∧ rb ≤ 17179869184) (h : (circP pa ra pb rb).2 = true)
    (hf : 67108864 + ra + rb ≤ (sb pb pa).1 ∨ 67108864 + ra + rb ≤ -(sb pb pa).1 ∨ 67108864 + ra + rb ≤ (sb pb pa).2 ∨ 67108864 + ra + rb ≤ -(sb pb pa).2) : False := by
  obtain ⟨e, hd⟩ := vsub_sb (hb.le (show 4294967296000 ≤ 4400000000000 by omega)) (ha.le (show 4294967296000 ≤ 4400000000000 by omega))
  have er : add ra rb = ra + rb := add_id (by unfold S63; omega) (by unfold S63; omega) (by unfold S63; omega)
  unfold circP at h
  simp only [e, er] at h
  have pu := part_up (hd.le (show 8800000000000 ≤ 70368744177664 by omega))
  split at h
  · cases h
  · omega
/-! ### By kinds -/
structure BoxB (b : Bd) (lo hi : P2) : Prop where
  circ : b.kd = 1 → lo = (b.pos.1 - b.r, b.pos.2 - b.r) ∧ hi = (b.pos.1 + b.r, b.pos.2 + b.r)
  poly : b.kd = 2 → ∀ i, i < b.pl.1 → lo.1 ≤ (b.pl.2 i).1 ∧ (b.pl.2 i).1 ≤ hi.1 ∧ lo.2 ≤ (b.pl.2 i).2 ∧ (b.pl.2 i).2 ≤ hi.2
def Sep (lo hi lo' hi' : P2) : Prop := hi.1 + 67108864 < lo'.1 ∨ hi'.1 + 67108864 < lo.1 ∨ hi.2 + 67108864 < lo'.2 ∨ hi'.2 + 67108864 < lo.2
theorem Sep.turn {lo hi lo' hi' : P2} (h : Sep lo hi lo' hi') : Sep lo' hi' lo hi := by
  rcases h with h | h | h | h
  · exact .inr (.inl h)
  · exact .inl h
  · exact .inr (.inr (.inr h))
  · exact .inr (.inr (.inl h))
theorem farR_of {a b : Bd} {lo hi lo' hi' : P2} (ha : BoxB a lo hi) (hb : BoxB b lo' hi') (a2 : a.kd = 2) (b1 : b.kd = 1) (h : Sep lo hi lo' hi') : FarR a.pl b.pos b.r := by
  obtain ⟨e1, e2⟩ := hb.circ b1
  have p := ha.poly a2
  unfold Sep at h
  rw [e1, e2] at h
  simp only at h
  unfold FarR sb
  rcases h with h | h | h | h
  · exact .inl fun i hi => by have := p i hi; simp only; omega
  · exact .inr (.inl fun i hi => by have := p i hi; simp only; omega)
  · exact .inr (.inr (.inl fun i hi => by have := p i hi; simp only; omega))
  · exact .inr (.inr (.inr fun i hi => by have := p i hi; simp only; omega))
theorem of_no {a b : Bd} {lo hi lo' hi' : P2} (oa : BdOk a) (ob : BdOk b) (ba : BdB a) (bb : BdB b) (pa : a.kd = 2 → PlG a.pl) (pb : b.kd = 2 → PlG b.pl) (ha : BoxB a lo hi) (hb : BoxB b lo' hi') (h : (ofP a b).2 = true) (hs : Sep lo hi lo' hi') : False := by
  unfold ofP at h
  split at h
  · rename_i a1
    split at h
    · rename_i b1
      obtain ⟨e1, e2⟩ := ha.circ a1
      obtain ⟨e3, e4⟩ := hb.circ b1
      refine circ_no ba.pos bb.pos ba.r bb.r h ?_
      unfold Sep at hs
      rw [e1, e2, e3, e4] at hs
      unfold sb
      simp only at hs ⊢
      omega
    · rename_i b1
      have b2 : b.kd = 2 := by have := ob.kind; omega
      have h' : (mixP b.pl a.pos a.r).2 = true := by
        cases e : (mixP b.pl a.pos a.r).2 with
        | true => rfl
        | false => rw [if_pos e] at h; cases h
      exact mix_no (pb b2) ba.pos ba.r.1 h' (farR_of hb ha b2 a1 hs.turn)
  · rename_i a1
    have a2 : a.kd = 2 := by have := oa.kind; omega
    split at h
    · rename_i b1
      exact mix_no (pa a2) bb.pos bb.r.1 h (farR_of ha hb a2 b1 hs)
    · rename_i b1
      have b2 : b.kd = 2 := by have := ob.kind; omega
      refine poly_no (pa a2) (pb b2) h ?_
      have p := ha.poly a2
      have q := hb.poly b2
      rcases hs with s | s | s | s
      · exact .inl fun i j hi hj => by have := p i hi; have := q j hj; omega
      · exact .inr (.inl fun i j hi hj => by have := p i hi; have := q j hj; omega)
      · exact .inr (.inr (.inl fun i j hi hj => by have := p i hi; have := q j hj; omega))
      · exact .inr (.inr (.inr fun i j hi hj => by have := p i hi; have := q j hj; omega))
end Go.Proofs.Ytejlappndcakeaa.Y
