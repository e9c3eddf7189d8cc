/- TouchGaps and TouchRounds: what the laws give. -/
import Derived.Test.YtejlappndcakeaaYTc
namespace Go.Proofs.Ytejlappndcakeaa.Y
open Go Go.RowKit Go.Proofs.Ytejlappndcakeaa.E Go.Proofs.Ytejlappndcakeaa.Ma Go.Proofs.Ytejlappndcakeaa.Fw
set_option linter.unusedVariables false
set_option linter.unusedSimpArgs false
set_option maxRecDepth 100000

theorem lcorners_eq (x0 x3 x4 x6 x7 r kd ang : Int) (pos : P2) (hp : I2 pos) (n : Nat) (hn : n ≤ 1000) (g : Nat → P2) (hg : ∀ i, i < n → I2 (g i)) :
    law07.corners.f (x0, pos.1, pos.2, x3, x4, ang, x6, x7, kd, r, (n, fun i => Rii.enc (g i))) = some (cornersP kd n g pos ang) := by
  rw [law07.corners.eq, Corners_ex kd r ang pos hp n hn g hg, Option.bind_some, dec_tTL, decRows_enc Rii_dec]
theorem tcorners_eq (x0 x3 x4 x6 x7 r kd ang : Int) (pos : P2) (hp : I2 pos) (n : Nat) (hn : n ≤ 1000) (g : Nat → P2) (hg : ∀ i, i < n → I2 (g i)) :
    touch.corners.f (x0, pos.1, pos.2, x3, x4, ang, x6, x7, kd, r, (n, fun i => Rii.enc (g i))) = some (cornersP kd n g pos ang) := by
  rw [touch.corners.eq, Corners_ex kd r ang pos hp n hn g hg, Option.bind_some, dec_tTL, decRows_enc Rii_dec]
theorem TouchGaps_eq (a b c d e f h a' b' c' d' e' f' h' : Int) : law07.TouchGaps.f ((a, b, c, d, e, f, h), (a', b', c', d', e', f', h')) = some true := by
  obtain ⟨g, g1, g2⟩ := Body_eq a b c d e f h
  obtain ⟨g', g1', g2'⟩ := Body_eq a' b' c' d' e' f' h'
  have n1 := seedN_b a b
  have n2 := seedN_b a' b'
  rw [law07.TouchGaps.eq, fit_eq, Option.bind_some]
  simp only [Bool.not_true, cond_false]
  rw [g1, Option.bind_some]
  simp only
  rw [lcorners_eq _ _ _ _ _ _ _ _ (bodyPos e f) (bodyPos_i e f) (seedN a b) (by omega) g (seed_i g2), Option.bind_some, g1', Option.bind_some]
  simp only
  rw [lcorners_eq _ _ _ _ _ _ _ _ (bodyPos e' f') (bodyPos_i e' f') (seedN a' b') (by omega) g' (seed_i g2'), Option.bind_some]
  have s1 := fun i => (cornersP_s (seedKd a) (seedN a b) g (bodyPos e f) (h % 4294967296) i).i
  have s2 := fun i => (cornersP_s (seedKd a') (seedN a' b') g' (bodyPos e' f') (h' % 4294967296) i).i
  have m1 := cornersP_n (seedKd a) (seedN a b) g (bodyPos e f) (h % 4294967296) (by omega)
  have m2 := cornersP_n (seedKd a') (seedN a' b') g' (bodyPos e' f') (h' % 4294967296) (by omega)
  generalize cornersP (seedKd a) (seedN a b) g (bodyPos e f) (h % 4294967296) = p at *
  generalize cornersP (seedKd a') (seedN a' b') g' (bodyPos e' f') (h' % 4294967296) = q at *
  by_cases p0 : p.1 = 0
  · have : ((p.1 : Int) == 0) = true := by simp [p0]
    rw [this]; rfl
  · have e1 : ((p.1 : Int) == 0) = false := by simp [p0]
    rw [e1, cond_false]
    by_cases q0 : q.1 = 0
    · have : ((q.1 : Int) == 0) = true := by simp [q0]
      rw [this]; rfl
    · have e2 : ((q.1 : Int) == 0) = false := by simp [q0]
      rw [e2, cond_false, gaps_eq m1 m2 (by omega) (fun i _ => s1 i) (fun i _ => s2 i), Option.bind_some, Gap_eq m1 m2 (fun i _ => s1 i) (fun i _ => s2 i), Option.bind_some]
      simp only
      rw [first_eq (cut0 0 p.1 (gOf p.1 p.2 q.1 q.2)) m1 (by omega), Option.bind_some]
      have eg : gs (cut0 0 p.1 (gOf p.1 p.2 q.1 q.2)) p.1 = gs (gOf p.1 p.2 q.1 q.2) p.1 := gs_congr _ fun i hi => cut0_lt hi
      rw [eg]
      have hlt := gs_lt (gOf p.1 p.2 q.1 q.2) p.1 (by omega)
      have hv := gs_val (gOf p.1 p.2 q.1 q.2) p.1 (by omega)
      rw [ix_ok hlt]
      simp only [BEq.rfl, cond_true, Int.toNat_natCast]
      rw [cut0_lt hlt, hv]
      simp
theorem sq_abs {x : Int} (h : S63 x) : Ma.abs (-x) = Ma.abs x := by
  unfold Ma.abs
  rw [neg_id h, neg_id (by unfold S63 at *; omega)]
  repeat' split
  all_goals omega
theorem mul_sq_neg {x : Int} (h : S63 x) : mul (-x) (-x) = mul x x := by
  unfold mul sg
  rw [sq_abs h]
  simp
theorem sub_swap {a b : Int} (ha : S63 a) (hb : S63 b) : sub b a = -sub a b := by
  rw [sub_eq ha hb, sub_eq hb ha]
  unfold clamp
  repeat' split
  all_goals omega
theorem vlen_swap {a b : P2} (ha : S2 a) (hb : S2 b) : vlen (vsub b a) = vlen (vsub a b) := by
  unfold vlen dot vsub
  simp only
  rw [sub_swap ha.1 hb.1, sub_swap ha.2 hb.2, mul_sq_neg (sub_s _ _), mul_sq_neg (sub_s _ _)]
theorem div_negl {a b : Int} (ha : S63 a) (hb : 0 < b) : div (-a) b = -div a b := by
  unfold div sg
  rw [sq_abs ha]
  by_cases h0 : a = 0
  · subst h0; simp [show Ma.abs 0 = 0 from rfl]
  · have e0 : ¬ Ma.abs a = 0 := fun e => h0 (abs_zero.1 e)
    have e1 : ¬ Ma.abs b = 0 := fun e => by have := abs_zero.1 e; omega
    simp only [if_neg e0, if_neg e1]
    have : decide (b < 0) = false := by simp; omega
    rw [this]
    unfold sgn
    by_cases h1 : a < 0
    · have h2 : decide (a < 0) = true := decide_eq_true h1
      have h3 : decide (-a < 0) = false := by simp; omega
      rw [h2, h3]; simp
    · have h2 : decide (a < 0) = false := by simp; omega
      have h3 : decide (-a < 0) = true := by simp; omega
      rw [h2, h3]; simp
theorem vneg_id {a : P2} (h : S2 a) : vneg a = (-a.1, -a.2) := by unfold vneg; rw [neg_id h.1, neg_id h.2]
end Go.Proofs.Ytejlappndcakeaa.Y
