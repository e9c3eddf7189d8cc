/- TouchDeep: points, depths, keys; boxes; the law. -/
import Derived.Test.YtejlappndcakeaaYDt
namespace Go.Proofs.Ytejlappndcakeaa.Y
open Go Go.RowKit Go.Proofs.Ytejlappndcakeaa.E Go.Proofs.Ytejlappndcakeaa.Ma Go.Proofs.Ytejlappndcakeaa.Fw
set_option linter.unusedVariables false
set_option linter.unusedSimpArgs false
set_option maxRecDepth 100000

def PtOk (p : Int × Int × Int × Int) : Prop := 0 < p.2.2.1 ∧ 0 ≤ p.2.2.2
structure TOk (x : Tch) : Prop where
  no : x.2 = false → x.1.1 = 0 ∧ x.1.2.1 = 0 ∧ x.1.2.2.1 = 0
  yes : x.2 = true → (x.1.2.2.1 = 1 ∧ PtOk (x.1.2.2.2 0)) ∨ (x.1.2.2.1 = 2 ∧ PtOk (x.1.2.2.2 0) ∧ PtOk (x.1.2.2.2 1) ∧ (x.1.2.2.2 1).2.2.2 ≠ (x.1.2.2.2 0).2.2.2)
theorem TOk.zero : TOk t0 := ⟨fun _ => ⟨rfl, rfl, rfl⟩, fun h => by cases h⟩
theorem TOk.one {nv a : P2} {d k : Int} (hd : 0 < d) (hk : 0 ≤ k) : TOk (t1 nv a d k) := ⟨fun h => (by cases h), fun _ => .inl ⟨rfl, hd, hk⟩⟩
theorem TOk.turn {x : Tch} (h : TOk x) (ht : x.2 = true) : TOk (turnT x) := by
  refine ⟨fun e => ?_, fun _ => h.yes ht⟩
  have e' : x.2 = false := e
  rw [ht] at e'
  cases e'
theorem sub_pos' {a b : Int} (ha : S63 a) (hb : S63 b) (h : b < a) : 0 < sub a b := by
  rw [sub_eq ha hb]; unfold clamp; unfold S63 at ha hb
  repeat' split
  all_goals omega
theorem corn_t {nrm a way : P2} {r key : Int} (hr : S63 r) (hk : 0 ≤ key) : TOk (cornP nrm a way r key) := by
  unfold cornP
  split
  · exact .zero
  · exact .one (sub_pos' hr (vlen_s _) (by omega)) hk
theorem mix_t {P : Pl} {c : P2} {r : Int} (hP : PlOk P) (hr : S63 r) : TOk (mixP P c r) := by
  have hs := gapI_s (Q := ptL c) hP
  unfold mixP
  generalize (gapI P (ptL c)).2 = i at *
  generalize (gapI P (ptL c)).1 = s at *
  unfold mixA
  repeat' split
  · exact .zero
  · exact .one (sub_pos' hr hs (by omega)) (by omega)
  · exact corn_t hr (by omega)
  · exact corn_t hr (by omega)
  · exact .one (sub_pos' hr hs (by omega)) (by omega)
theorem circ_t (pa pb : P2) (ra rb : Int) : TOk (circP pa ra pb rb) := by
  unfold circP
  simp only
  split
  · exact .zero
  · exact .one (sub_pos' (add_s _ _) (vlen_s _) (by omega)) (by omega)
theorem ends_t {nv v c d : P2} {key : Int} (hk : 0 ≤ key) : TOk (endsP nv v c d key) := by
  unfold endsP
  split
  · rename_i h1
    split
    · rename_i h2
      refine ⟨fun h => (by cases h), fun _ => .inr ⟨rfl, ⟨h1, hk⟩, ⟨h2, ?_⟩, ?_⟩⟩
      · show 0 ≤ key + 1; omega
      · show key + 1 ≠ key; omega
    · exact ⟨fun h => (by cases h), fun _ => .inl ⟨rfl, h1, hk⟩⟩
  · split
    · rename_i h2
      exact ⟨fun h => (by cases h), fun _ => .inl ⟨rfl, h2, show 0 ≤ key + 1 by omega⟩⟩
    · exact .zero
theorem cut_t {P Q : Pl} {i : Nat} {key : Int} (hk : 0 ≤ key) : TOk (cutP P Q i key) := by
  unfold cutP cutA cutB
  repeat' split
  · exact .zero
  · exact .zero
  · exact ends_t hk
theorem poly_t (P Q : Pl) : TOk (polyP P Q) := by
  unfold polyP
  split
  · exact .zero
  split
  · exact .zero
  split
  · exact cut_t (by omega)
  split
  · exact .zero
  · rename_i h
    exact (cut_t (by omega)).turn (by simpa using h)
theorem of_t {a b : Bd} (ha : BdOk a) (hb : BdOk b) : TOk (ofP a b) := by
  unfold ofP
  split
  · split
    · exact circ_t _ _ _ _
    · rename_i h2
      have hb2 : b.kd = 2 := by have := hb.kind; omega
      have t := mix_t (c := a.pos) (hb.pl hb2) ha.r
      split
      · rename_i h3
        exact ⟨fun _ => t.no h3, fun h => by cases h⟩
      · rename_i h3
        exact t.turn (by simpa using h3)
  · rename_i h1
    have ha2 : a.kd = 2 := by have := ha.kind; omega
    split
    · exact mix_t (ha.pl ha2) hb.r
    · exact poly_t _ _
/-! ### Boxes -/
theorem box_loop (n : Nat) (hn : n ≤ 1000) (P : Nat → P2) (x1 x2 x3 x4 x5 x6 x7 x8 x9 x10 : Int) (m : Nat) (g : Nat → P2) (k0 : Nat) : ∀ (d i K : Nat) (lo hi : P2), i + d = n → d < K →
    ∃ lo' hi' : P2, box.Of.l0 k0 K x1 x2 x3 x4 x5 x6 x7 x8 x9 x10 m (fun i => Rii.enc (g i)) lo.1 lo.2 hi.1 hi.2 n (fun i => Rii.enc (P i)) (n : Int) (i : Int) = some (lo'.1, lo'.2, hi'.1, hi'.2) ∧
      (lo'.1 ≤ lo.1 ∧ lo'.2 ≤ lo.2 ∧ hi.1 ≤ hi'.1 ∧ hi.2 ≤ hi'.2) ∧ (∀ j, i ≤ j → j < n → lo'.1 ≤ (P j).1 ∧ (P j).1 ≤ hi'.1 ∧ lo'.2 ≤ (P j).2 ∧ (P j).2 ≤ hi'.2) ∧ ∀ B, Bn B lo → Bn B hi → (∀ j, i ≤ j → j < n → Bn B (P j)) → Bn B lo' ∧ Bn B hi'
  | 0, i, K, lo, hi, h1, h2 => by
    obtain ⟨K, rfl⟩ : ∃ m, K = m + 1 := ⟨K - 1, by omega⟩
    have : i = n := by omega
    subst this
    refine ⟨lo, hi, ?_, ⟨Int.le_refl _, Int.le_refl _, Int.le_refl _, Int.le_refl _⟩, fun j h1 h2 => absurd h1 (by omega), fun B h1 h2 _ => ⟨h1, h2⟩⟩
    rw [box.Of.l0_eq]
    simp only [Bool.cond_decide]
    rw [if_neg (by omega)]
  | d + 1, i, K, lo, hi, h1, h2 => by
    obtain ⟨K, rfl⟩ : ∃ m, K = m + 1 := ⟨K - 1, by omega⟩
    have hi' : i < n := by omega
    obtain ⟨l, u, e, b, c, f⟩ := box_loop n hn P x1 x2 x3 x4 x5 x6 x7 x8 x9 x10 m g k0 d (i + 1) K ((if (P i).1 < lo.1 then (P i).1 else lo.1), (if (P i).2 < lo.2 then (P i).2 else lo.2)) ((if (P i).1 > hi.1 then (P i).1 else hi.1), (if (P i).2 > hi.2 then (P i).2 else hi.2)) (by omega) (by omega)
    simp only at e b
    refine ⟨l, u, ?_, ?_, fun j h3 h4 => ?_, fun B g1 g2 g3 => ?_⟩
    · rw [box.Of.l0_eq]
      simp only [Bool.cond_decide, ix_ok hi', cond_true, Int.toNat_natCast, wsucc hi' hn, box.low.eq, box.high.eq, Option.bind_some]
      rw [if_pos (by omega)]
      exact e
    · split at b <;> split at b <;> split at b <;> split at b <;> omega
    · by_cases hj : j = i
      · subst hj
        split at b <;> split at b <;> split at b <;> split at b <;> omega
      · exact c j (by omega) h4
    · have g4 := g3 i (by omega) hi'
      refine f B ?_ ?_ fun j h5 h6 => g3 j (by omega) h6
      · unfold Bn at *; simp only; split <;> split <;> omega
      · unfold Bn at *; simp only; split <;> split <;> omega
theorem boxOf_eq {b : Bd} (hb : BdOk b) (bb : BdB b) (pb : b.kd = 2 → PlG b.pl) (x0 x3 x4 x6 x7 : Int) : ∃ lo hi : P2, box.Of.f (x0, b.pos.1, b.pos.2, x3, x4, b.ang, x6, x7, b.kd, b.r, (b.n, fun i => Rii.enc (b.g i))) = some (lo.1, lo.2, hi.1, hi.2) ∧ BoxB b lo hi ∧ Bn 4400000000000 lo ∧ Bn 4400000000000 hi := by
  have hbr : Bn 17179869184 (b.r, b.r) := by have := bb.r; unfold Bn; simp only; omega
  by_cases h1 : b.kd = 1
  · obtain ⟨e1, e2⟩ := vadd_ex bb.pos hbr (by omega)
    refine ⟨(b.pos.1 - b.r, b.pos.2 - b.r), (b.pos.1 + b.r, b.pos.2 + b.r), ?_, ⟨fun _ => ⟨rfl, rfl⟩, fun h => by omega⟩, ?_, ?_⟩
    rotate_left
    · have := bb.pos; have := bb.r; unfold Bn at *; simp only; omega
    · have := bb.pos; have := bb.r; unfold Bn at *; simp only; omega
    show box.Of.g 1000000 _ = _
    rw [box.Of.eq]
    have e0 : (b.kd == 1) = true := by simp [h1]
    rw [e0, cond_true, box.Grow.eq, vsub_eq (a := b.pos) (b := (b.r, b.r)) hb.pos.i ⟨hb.r.i, hb.r.i⟩, Option.bind_some, vadd_eq (a := b.pos) (b := (b.r, b.r)) hb.pos.i ⟨hb.r.i, hb.r.i⟩, Option.bind_some, Option.bind_some, e1, e2]
  · have h2 : b.kd = 2 := by have := hb.kind; omega
    have hP := hb.pl h2
    have g := pb h2
    obtain ⟨l, u, e, bd, c, f⟩ := box_loop b.pl.1 hP.few b.pl.2 x0 b.pos.1 b.pos.2 x3 x4 b.ang x6 x7 b.kd b.r b.n b.g 1000000 b.pl.1 0 1000000 (b.pl.2 0) (b.pl.2 0) (by omega) (by have := hP.few; omega)
    refine ⟨l, u, ?_, ⟨fun h => absurd h h1, fun _ i hi => c i (by omega) hi⟩, f _ (g.b 0 (by have := hP.three; omega)) (g.b 0 (by have := hP.three; omega)) fun j _ hj => g.b j hj⟩
    show box.Of.g 1000000 _ = _
    rw [box.Of.eq]
    have e0 : (b.kd == 1) = false := by simp [h1]
    have ec := Corners_ex b.kd b.r b.ang b.pos hb.pos.i b.n hb.few b.g hb.g
    rw [e0, cond_false, show ((b.pos.1, b.pos.2) : Int × Int) = b.pos from rfl, ec, Option.bind_some]
    have ef : cornersP b.kd b.n b.g b.pos b.ang = b.pl := rfl
    rw [ef]
    have hp : 0 < ((b.pl.1 : Nat) : Int) := by have := hP.three; omega
    simp only [Bool.cond_decide]
    rw [if_pos hp, if_pos hp]
    exact e
/-! ### The law -/
theorem pts_loop (n : Nat) (hn : n ≤ 2) (pt : Nat → Int × Int × Int × Int) (hp : ∀ i, i < n → PtOk (pt i) ∧ (0 < i → (pt i).2.2.2 ≠ (pt 0).2.2.2)) (k0 : Nat) (a1 a2 a3 a4 a5 a6 a7 a8 a9 a10 a11 a12 a13 a14 a15 a16 a17 a18 a19 a20 a21 a22 a23 a24 : Int) (m : Nat) (g : Nat → P2) (b1 b2 b3 b4 b5 b6 b7 b8 b9 b10 : Int) (m' : Nat) (g' : Nat → P2) (c1 c2 : Int) : ∀ (d i K : Nat), i + d = n → d < K →
    law07.TouchDeep.l0 k0 K a1 a2 a3 a4 a5 a6 a7 a8 a9 a10 a11 a12 a13 a14 a15 a16 a17 a18 a19 a20 a21 a22 a23 a24 m (fun i => Rii.enc (g i)) b1 b2 b3 b4 b5 b6 b7 b8 b9 b10 m' (fun i => Rii.enc (g' i)) c1 c2 n (fun i => Riiii.enc (pt i)) (n : Int) (i : Int) = some true
  | 0, i, K, h1, h2 => by
    obtain ⟨K, rfl⟩ : ∃ m, K = m + 1 := ⟨K - 1, by omega⟩
    rw [law07.TouchDeep.l0_eq]
    simp only [Bool.cond_decide]
    rw [if_neg (by omega)]
  | d + 1, i, K, h1, h2 => by
    obtain ⟨K, rfl⟩ : ∃ m, K = m + 1 := ⟨K - 1, by omega⟩
    have hi : i < n := by omega
    have ih := pts_loop n hn pt hp k0 a1 a2 a3 a4 a5 a6 a7 a8 a9 a10 a11 a12 a13 a14 a15 a16 a17 a18 a19 a20 a21 a22 a23 a24 m g b1 b2 b3 b4 b5 b6 b7 b8 b9 b10 m' g' c1 c2 d (i + 1) K (by omega) (by omega)
    obtain ⟨⟨q1, q2⟩, q3⟩ := hp i hi
    rw [law07.TouchDeep.l0_eq]
    simp only [Bool.cond_decide, ix_ok hi, cond_true, Int.toNat_natCast, wsucc hi (show n ≤ 1000 by omega)]
    rw [if_pos (by omega), if_neg (by omega), if_neg (by omega)]
    by_cases h0 : 0 < i
    · rw [if_pos (by omega), if_pos (by omega)]
      have e : ((pt i).2.2.2 == (pt 0).2.2.2) = false := by simpa using q3 h0
      rw [e, cond_false]
      exact ih
    · rw [if_neg (by omega)]
      exact ih
theorem bd_good {B : Bd} {a b c d e f ang : Int} (hB : BdB B) (h : B.kd = seedKd a ∧ B.pos = bodyPos e f ∧ B.ang = ang % 4294967296 ∧ B.r = seedR a c ∧ B.n = seedN a b ∧ ∀ i, i < B.n → B.g i = seedPt a b c d i) (h2 : B.kd = 2) : PlG B.pl := by
  obtain ⟨e1, _, _, _, e5, e6⟩ := h
  have h0 : a % 4 ≠ 0 := fun k => by rw [e1] at h2; unfold seedKd at h2; rw [if_pos k] at h2; omega
  obtain ⟨s, h, l, hg⟩ := seed_lat (b := b) (c := c) (d := d) h0
  rw [← e5] at l hg
  exact pl_good hB h2 l fun i hi => by rw [e6 i hi]; exact hg i hi
theorem TouchDeep_eq (a b c d e f h a' b' c' d' e' f' h' : Int) : law07.TouchDeep.f ((a, b, c, d, e, f, h), (a', b', c', d', e', f', h')) = some true := by
  obtain ⟨A, hA, gA, eA⟩ := Body_bd a b c d e f h
  obtain ⟨B, hB, gB, eB⟩ := Body_bd a' b' c' d' e' f' h'
  have bA := bd_bounds eA
  have bB := bd_bounds eB
  have pA := bd_good bA eA
  have pB := bd_good bB eB
  have ot := of_t hA hB
  obtain ⟨lo, hi, x1, x2, x3, x4⟩ := boxOf_eq hA bA pA 0 0 0 0 0
  obtain ⟨lo', hi', y1, y2, y3, y4⟩ := boxOf_eq hB bB pB 0 0 0 0 0
  show law07.TouchDeep.g 1000000 _ = _
  rw [law07.TouchDeep.eq, fit_eq, Option.bind_some]
  simp only [Bool.not_true, cond_false]
  rw [gA, Option.bind_some, gB, Option.bind_some]
  simp only
  rw [Of_eq hA hB, Option.bind_some]
  have no := of_no hA hB bA bB pA pB x2 y2
  generalize ofP A B = x at *
  cases hx : x.2 with
  | false =>
    obtain ⟨z1, z2, z3⟩ := ot.no hx
    rw [Bool.not_false, cond_true, z1, z2, z3]
    rfl
  | true =>
    have yes := ot.yes hx
    have hn : 1 ≤ x.1.2.2.1 ∧ x.1.2.2.1 ≤ 2 := by omega
    rw [Bool.not_true, cond_false]
    simp only [Bool.cond_decide]
    rw [if_neg (by omega), if_neg (by omega), x1, Option.bind_some]
    simp only
    have hG : Bn 67108864 ((67108864 : Int), (67108864 : Int)) := by unfold Bn; simp
    have sep : ¬ Sep lo hi lo' hi' := fun s => no hx s
    unfold Sep at sep
    rw [box.Grow.eq, vsub_eq (a := lo) (b := (67108864, 67108864)) (x3.s (by omega)).i (hG.s (by omega)).i, Option.bind_some, vadd_eq (a := hi) (b := (67108864, 67108864)) (x4.s (by omega)).i (hG.s (by omega)).i, Option.bind_some, Option.bind_some, (vadd_ex x3 hG (by omega)).2, (vadd_ex x4 hG (by omega)).1, y1, Option.bind_some, box.Meet.eq]
    simp only [Bool.cond_decide]
    rw [if_pos (by omega), if_pos (by omega), if_pos (by omega), Option.bind_some, decide_eq_true (by omega), Bool.not_true, cond_false]
    refine pts_loop x.1.2.2.1 hn.2 x.1.2.2.2 (fun i hi => ?_) _ _ _ _ _ _ _ _ _ _ _ _ _ _ _ _ _ _ _ _ _ _ _ _ _ _ _ _ _ _ _ _ _ _ _ _ _ _ _ _ _ x.1.2.2.1 0 1000000 (by omega) (by omega)
    rcases yes with ⟨n1, p0⟩ | ⟨n2, p0, p1, pk⟩
    · have : i = 0 := by omega
      subst this
      exact ⟨p0, fun h => absurd h (by omega)⟩
    · have : i = 0 ∨ i = 1 := by omega
      rcases this with rfl | rfl
      · exact ⟨p0, fun h => absurd h (by omega)⟩
      · exact ⟨p1, fun _ => pk⟩
theorem TouchDeep_true (a0_0 a0_1 a0_2 a0_3 a0_4 a0_5 a0_6 a1_0 a1_1 a1_2 a1_3 a1_4 a1_5 a1_6 : Int) (w0_0 : (Lit.int .i64 a0_0).wf = true) (w0_1 : (Lit.int .i64 a0_1).wf = true) (w0_2 : (Lit.int .i64 a0_2).wf = true) (w0_3 : (Lit.int .i64 a0_3).wf = true) (w0_4 : (Lit.int .i64 a0_4).wf = true) (w0_5 : (Lit.int .i64 a0_5).wf = true) (w0_6 : (Lit.int .i64 a0_6).wf = true) (w1_0 : (Lit.int .i64 a1_0).wf = true) (w1_1 : (Lit.int .i64 a1_1).wf = true) (w1_2 : (Lit.int .i64 a1_2).wf = true) (w1_3 : (Lit.int .i64 a1_3).wf = true) (w1_4 : (Lit.int .i64 a1_4).wf = true) (w1_5 : (Lit.int .i64 a1_5).wf = true) (w1_6 : (Lit.int .i64 a1_6).wf = true) : law07.TouchDeep.f ((a0_0, a0_1, a0_2, a0_3, a0_4, a0_5, a0_6), (a1_0, a1_1, a1_2, a1_3, a1_4, a1_5, a1_6)) = some true := TouchDeep_eq a0_0 a0_1 a0_2 a0_3 a0_4 a0_5 a0_6 a1_0 a1_1 a1_2 a1_3 a1_4 a1_5 a1_6
end Go.Proofs.Ytejlappndcakeaa.Y
