/- TouchTurned: what the law gives. -/
import Derived.Test.YtejlappndcakeaaYTn
namespace Go.Proofs.Ytejlappndcakeaa.Y
open Go Go.RowKit Go.Proofs.Ytejlappndcakeaa.E Go.Proofs.Ytejlappndcakeaa.Ma Go.Proofs.Ytejlappndcakeaa.Fw
set_option linter.unusedVariables false
set_option linter.unusedSimpArgs false
set_option maxRecDepth 100000

theorem turned_loop (k0 n : Nat) (hn : n ≤ 1000) (v1 : Int) (v2 : Int) (v3 : Int) (v4 : Int) (v5 : Int) (v6 : Int) (v7 : Int) (v8 : Int) (v9 : Int) (v10 : Int) (v11 : Int) (v12 : Int) (v13 : Int) (v14 : Int) (v15 : Int) (v16 : Int) (v17 : Int) (v18 : Int) (v19 : Int) (v20 : Int) (v21 : Int) (v22 : Int) (v23 : Int) (v24 : Int) (v25 : Nat) (v26 : Nat → (Int × Int)) (v27 : Int) (v28 : Int) (v29 : Int) (v30 : Int) (v31 : Int) (v32 : Int) (v33 : Int) (v34 : Int) (v35 : Int) (v36 : Int) (v37 : Nat) (v38 : Nat → (Int × Int)) (v39 : Int) (v40 : Int) (v42 : Nat → (Int × Int × Int × Int)) (v43 : Int) (v44 : Int) (v46 : Nat → (Int × Int × Int × Int)) (h : ∀ i, i < n → (v42 i).1 = (v46 i).1 ∧ (v42 i).2.1 = (v46 i).2.1 ∧ (v42 i).2.2.1 = (v46 i).2.2.1) : ∀ (d i K : Nat), i + d = n → d < K →
    law07.TouchTurned.l0 k0 K v1 v2 v3 v4 v5 v6 v7 v8 v9 v10 v11 v12 v13 v14 v15 v16 v17 v18 v19 v20 v21 v22 v23 v24 v25 (fun i => Rii.enc (v26 i)) v27 v28 v29 v30 v31 v32 v33 v34 v35 v36 v37 (fun i => Rii.enc (v38 i)) v39 v40 n (fun i => Riiii.enc (v42 i)) v43 v44 n (fun i => Riiii.enc (v46 i)) (n : Int) (i : Int) = some true
  | 0, i, K, h1, h2 => by
    obtain ⟨K, rfl⟩ : ∃ m, K = m + 1 := ⟨K - 1, by omega⟩
    have : i = n := by omega
    subst this
    rw [law07.TouchTurned.l0_eq]
    simp only [Bool.cond_decide]
    rw [if_neg (by omega)]
  | d + 1, i, K, h1, h2 => by
    obtain ⟨K, rfl⟩ : ∃ m, K = m + 1 := ⟨K - 1, by omega⟩
    have hi : i < n := by omega
    have ih := turned_loop k0 n hn v1 v2 v3 v4 v5 v6 v7 v8 v9 v10 v11 v12 v13 v14 v15 v16 v17 v18 v19 v20 v21 v22 v23 v24 v25 v26 v27 v28 v29 v30 v31 v32 v33 v34 v35 v36 v37 v38 v39 v40 v42 v43 v44 v46 h d (i + 1) K (by omega) (by omega)
    obtain ⟨e1, e2, e3⟩ := h i hi
    rw [law07.TouchTurned.l0_eq]
    simp only [Bool.cond_decide, ix_ok hi, cond_true, Int.toNat_natCast, wsucc hi hn, e1, e2, e3]
    rw [if_pos (by omega)]
    simp only [BEq.rfl, Bool.and_true, Bool.not_true, cond_false, bne_self_eq_false]
    exact ih
theorem same_loop (k0 n : Nat) (hn : n ≤ 1000) (a b : Int) (f : Nat → Int × Int × Int × Int) (c d' : Int) : ∀ (d i K : Nat), i + d = n → d < K →
    law07.same.l0 k0 K a b n (fun i => Riiii.enc (f i)) c d' n (fun i => Riiii.enc (f i)) (n : Int) (i : Int) = some true
  | 0, i, K, h1, h2 => by
    obtain ⟨K, rfl⟩ : ∃ m, K = m + 1 := ⟨K - 1, by omega⟩
    have : i = n := by omega
    subst this
    rw [law07.same.l0_eq]
    simp only [Bool.cond_decide]
    rw [if_neg (by omega)]
  | d + 1, i, K, h1, h2 => by
    obtain ⟨K, rfl⟩ : ∃ m, K = m + 1 := ⟨K - 1, by omega⟩
    have hi : i < n := by omega
    have ih := same_loop k0 n hn a b f c d' d (i + 1) K (by omega) (by omega)
    rw [law07.same.l0_eq]
    simp only [Bool.cond_decide, ix_ok hi, cond_true, Int.toNat_natCast, wsucc hi hn]
    rw [if_pos (by omega)]
    simp only [BEq.rfl, Bool.and_true, Bool.not_true, cond_false, bne_self_eq_false]
    exact ih
theorem same_eq (a b : Int) (n : Nat) (hn : n ≤ 1000) (f : Nat → Int × Int × Int × Int) : law07.same.f ((a, b, (n, fun i => Riiii.enc (f i))), (a, b, (n, fun i => Riiii.enc (f i)))) = some true := by
  show law07.same.g 1000000 _ = _
  rw [law07.same.eq]
  simp only [BEq.rfl, Bool.and_true, Bool.not_true, cond_false, bne_self_eq_false]
  exact same_loop 1000000 n hn a b f a b n 0 1000000 (by omega) (by omega)

/-! ### What touches are like -/
theorem zero_s : S2 ((0 : Int), (0 : Int)) := by unfold S2 S63; simp
theorem vneg_vneg {a : P2} (h : S2 a) : vneg (vneg a) = a := by
  have h2 : S2 (-a.1, -a.2) := by unfold S2 S63 at *; simp only; omega
  rw [vneg_id h, vneg_id h2]; simp
structure TchOk (x : Tch) : Prop where
  s : S2 (x.1.1, x.1.2.1)
  n : x.1.2.2.1 ≤ 2
  f : x.2 = false → x = t0
theorem t0_ok : TchOk t0 := ⟨zero_s, by show 0 ≤ 2; omega, fun _ => rfl⟩
theorem t1_ok {nv a : P2} {d k : Int} (h : S2 nv) : TchOk (t1 nv a d k) := ⟨h, by show 1 ≤ 2; omega, fun h => by cases h⟩
theorem corn_ok {nrm a way : P2} {r key : Int} (h1 : S2 nrm) (h2 : I2 way) : TchOk (cornP nrm a way r key) := by
  unfold cornP
  split
  · exact t0_ok
  · refine t1_ok ?_
    split
    · exact h1
    · exact vunit_s h2
theorem mix_ok {P : Pl} {c : P2} {r : Int} : TchOk (mixP P c r) := by
  unfold mixP mixA
  repeat' split
  · exact t0_ok
  · exact t1_ok (normOf_s _ _ _)
  · exact corn_ok (normOf_s _ _ _) (vsub_s _ _).i
  · exact corn_ok (normOf_s _ _ _) (vsub_s _ _).i
  · exact t1_ok (normOf_s _ _ _)
theorem cutB_ok {nv v w tt : P2} {e : P2 × P2} {key : Int} (hN : S2 nv) : TchOk (cutB nv v w tt e key) := by
  unfold cutB endsP
  repeat' split
  all_goals first | exact t0_ok | exact ⟨hN, by show 2 ≤ 2; omega, fun h => by cases h⟩ | exact ⟨hN, by show 1 ≤ 2; omega, fun h => by cases h⟩
/-- Alike but for the keys. -/
structure Alike (x y : Tch) : Prop where
  ok : x.2 = y.2
  n1 : x.1.1 = y.1.1
  n2 : x.1.2.1 = y.1.2.1
  len : x.1.2.2.1 = y.1.2.2.1
  pts : ∀ i, (x.1.2.2.2 i).1 = (y.1.2.2.2 i).1 ∧ (x.1.2.2.2 i).2.1 = (y.1.2.2.2 i).2.1 ∧ (x.1.2.2.2 i).2.2.1 = (y.1.2.2.2 i).2.2.1
theorem Alike.refl (x : Tch) : Alike x x := ⟨rfl, rfl, rfl, rfl, fun _ => ⟨rfl, rfl, rfl⟩⟩
theorem cutB_keys {nv v w tt : P2} {e : P2 × P2} (k1 k2 : Int) : Alike (cutB nv v w tt e k1) (cutB nv v w tt e k2) := by
  unfold cutB endsP
  repeat' split
  all_goals first
    | exact Alike.refl _
    | (refine ⟨rfl, rfl, rfl, rfl, fun i => ?_⟩
       simp only [upd1]
       repeat' split
       all_goals exact ⟨rfl, rfl, rfl⟩)
theorem add_comm' (a b : Int) : add a b = add b a := by unfold add; rw [Int.add_comm]
theorem circ_sym {pa pb : P2} {ra rb : Int} (ha : S2 pa) (hb : S2 pb) : (circP pa ra pb rb).2 = (circP pb rb pa ra).2 := by
  unfold circP
  simp only [vlen_swap ha hb, add_comm' rb ra]
  split <;> rfl
theorem law_gap (B C : Bd) (hB : BdOk B) (hC : BdOk C) (h1 : B.kd = 2) (h2 : C.kd = 2) : touch.Gap.f ((B.pl.1, fun i => Rii.enc (B.pl.2 i)), (C.pl.1, fun i => Rii.enc (C.pl.2 i))) = some (((gapI B.pl C.pl).2 : Int), (gapI B.pl C.pl).1) :=
  Gap_eq (hB.pl h1).few (hC.pl h2).few (fun i _ => ((hB.pl h1).s i).i) (fun i _ => ((hC.pl h2).s i).i)
theorem bd_corners (B : Bd) (h : BdOk B) (x0 x3 x4 x6 x7 : Int) : law07.corners.f (x0, B.pos.1, B.pos.2, x3, x4, B.ang, x6, x7, B.kd, B.r, (B.n, fun i => Rii.enc (B.g i))) = some B.pl :=
  lcorners_eq _ _ _ _ _ _ _ _ B.pos h.pos.i B.n h.few B.g h.g
theorem poly_turn {A B : Pl} (hA : PlOk A) (hB : PlOk B) (h1 : ¬ (gapI A B).1 ≥ 0) (h2 : ¬ (gapI B A).1 ≥ 0) (hne : (gapI A B).1 ≠ (gapI B A).1) :
    Alike (((vneg ((polyP A B).1.1, (polyP A B).1.2.1)).1, (vneg ((polyP A B).1.1, (polyP A B).1.2.1)).2, (polyP A B).1.2.2), (polyP A B).2) (polyP B A) := by
  have z : vneg ((0 : Int), (0 : Int)) = (0, 0) := by decide
  unfold polyP
  simp only [if_neg h1, if_neg h2]
  rcases Int.lt_or_gt_of_ne hne with h3 | h3
  · rw [if_neg (show ¬ (gapI A B).1 ≥ (gapI B A).1 by omega), if_pos (show (gapI B A).1 ≥ (gapI A B).1 by omega)]
    have ok1 : TchOk (cutP B A (gapI B A).2 (64 + 2 * ((gapI B A).2 : Int))) := cutB_ok (normOf_s _ _ _)
    have al : Alike (cutP B A (gapI B A).2 (64 + 2 * ((gapI B A).2 : Int))) (cutP B A (gapI B A).2 (32 + 2 * ((gapI B A).2 : Int))) := cutB_keys _ _
    generalize cutP B A (gapI B A).2 (64 + 2 * ((gapI B A).2 : Int)) = x at *
    generalize cutP B A (gapI B A).2 (32 + 2 * ((gapI B A).2 : Int)) = y at *
    cases hx : x.2 with
    | false =>
      rw [if_pos rfl]
      have := ok1.f hx
      subst this
      have e : (vneg (t0.1.1, t0.1.2.1)) = (0, 0) := z
      rw [e]
      exact ⟨al.ok, al.n1, al.n2, al.len, al.pts⟩
    | true =>
      rw [if_neg (by decide)]
      have e : vneg ((turnT x).1.1, (turnT x).1.2.1) = (x.1.1, x.1.2.1) := vneg_vneg ok1.s
      rw [e]
      exact ⟨al.ok, al.n1, al.n2, al.len, al.pts⟩
  · rw [if_pos (show (gapI A B).1 ≥ (gapI B A).1 by omega), if_neg (show ¬ (gapI B A).1 ≥ (gapI A B).1 by omega)]
    have ok1 : TchOk (cutP A B (gapI A B).2 (64 + 2 * ((gapI A B).2 : Int))) := cutB_ok (normOf_s _ _ _)
    have al : Alike (cutP A B (gapI A B).2 (32 + 2 * ((gapI A B).2 : Int))) (cutP A B (gapI A B).2 (64 + 2 * ((gapI A B).2 : Int))) := cutB_keys _ _
    generalize cutP A B (gapI A B).2 (32 + 2 * ((gapI A B).2 : Int)) = x at *
    generalize cutP A B (gapI A B).2 (64 + 2 * ((gapI A B).2 : Int)) = y at *
    cases hy : y.2 with
    | false =>
      rw [if_pos rfl]
      have := ok1.f hy
      subst this
      have e1 : x.1.1 = 0 := al.n1
      have e2 : x.1.2.1 = 0 := al.n2
      rw [e1, e2, z]
      exact ⟨al.ok, rfl, rfl, al.len, al.pts⟩
    | true =>
      rw [if_neg (by decide)]
      refine ⟨?_, ?_, ?_, al.len, al.pts⟩
      · exact al.ok
      · show (vneg (x.1.1, x.1.2.1)).1 = (vneg (y.1.1, y.1.2.1)).1
        rw [al.n1, al.n2]
      · show (vneg (x.1.1, x.1.2.1)).2 = (vneg (y.1.1, y.1.2.1)).2
        rw [al.n1, al.n2]
theorem ofP_ok {a b : Bd} (ha : BdOk a) (hb : BdOk b) : S2 ((ofP a b).1.1, (ofP a b).1.2.1) ∧ (ofP a b).1.2.2.1 ≤ 2 := by
  have tu : ∀ {x : Tch}, TchOk x → S2 ((turnT x).1.1, (turnT x).1.2.1) ∧ (turnT x).1.2.2.1 ≤ 2 := fun h => ⟨vneg_s h.s.i, h.n⟩
  unfold ofP
  split
  · split
    · unfold circP
      simp only
      split
      · exact ⟨zero_s, by show 0 ≤ 2; omega⟩
      · refine ⟨?_, by show 1 ≤ 2; omega⟩
        split
        · unfold t1 S2 S63; simp
        · have hd := vsub_s b.pos a.pos
          exact ⟨div_s hd.1.i (vlen_s _).i, div_s hd.2.i (vlen_s _).i⟩
    · have := mix_ok (P := b.pl) (c := a.pos) (r := a.r)
      split
      · exact ⟨this.s, this.n⟩
      · exact tu this
  · split
    · have := mix_ok (P := a.pl) (c := b.pos) (r := b.r)
      exact ⟨this.s, this.n⟩
    · unfold polyP
      repeat' split
      · exact ⟨zero_s, by show 0 ≤ 2; omega⟩
      · exact ⟨zero_s, by show 0 ≤ 2; omega⟩
      · have : TchOk (cutP a.pl b.pl (gapI a.pl b.pl).2 (32 + 2 * ((gapI a.pl b.pl).2 : Int))) := cutB_ok (normOf_s _ _ _)
        exact ⟨this.s, this.n⟩
      · exact ⟨zero_s, by show 0 ≤ 2; omega⟩
      · exact tu (cutB_ok (normOf_s _ _ _))
theorem TouchTurned_eq (a b c d e f h a' b' c' d' e' f' h' : Int) : law07.TouchTurned.f ((a, b, c, d, e, f, h), (a', b', c', d', e', f', h')) = some true := by
  obtain ⟨A, hA, gA, _⟩ := Body_bd a b c d e f h
  obtain ⟨B, hB, gB, _⟩ := Body_bd a' b' c' d' e' f' h'
  have oab := ofP_ok hA hB
  have oba := ofP_ok hB hA
  have z : vneg ((0 : Int), (0 : Int)) = (0, 0) := by decide
  show law07.TouchTurned.g 1000000 _ = _
  rw [law07.TouchTurned.eq, fit_eq, Option.bind_some]
  simp only [Bool.not_true, cond_false]
  rw [gA, Option.bind_some, gB, Option.bind_some]
  simp only
  rw [Of_eq hA hB, Option.bind_some, Of_eq hB hA, Option.bind_some]
  by_cases hk : A.kd = B.kd
  · have e0 : (A.kd != B.kd) = false := by simp [hk]
    rw [e0, cond_false]
    by_cases h1 : A.kd = 1
    · have e1 : (A.kd == 1) = true := by simp [h1]
      rw [e1, cond_true]
      have : (ofP A B).2 = (ofP B A).2 := by
        unfold ofP
        rw [if_pos h1, if_pos (by omega), if_pos (by omega), if_pos h1]
        exact circ_sym hA.pos hB.pos
      rw [this]; simp
    · have e1 : (A.kd == 1) = false := by simp [h1]
      have a2 : A.kd = 2 := by have := hA.kind; omega
      have b2 : B.kd = 2 := by omega
      rw [e1, cond_false, bd_corners A hA, Option.bind_some, bd_corners B hB, Option.bind_some, law_gap A B hA hB a2 b2, Option.bind_some, Option.bind_some, Option.bind_some, law_gap B A hB hA b2 a2, Option.bind_some]
      have o1 : ofP A B = polyP A.pl B.pl := by unfold ofP; rw [if_neg h1, if_neg (by omega)]
      have o2 : ofP B A = polyP B.pl A.pl := by unfold ofP; rw [if_neg (by omega), if_neg h1]
      simp only [Bool.cond_decide]
      by_cases g1 : (gapI A.pl B.pl).1 ≥ 0
      · rw [if_pos g1]
        have p1 : polyP A.pl B.pl = t0 := by unfold polyP; rw [if_pos g1]
        have p2 : polyP B.pl A.pl = t0 := by
          unfold polyP
          split
          · rfl
          · first | rfl | rw [if_pos g1]
        rw [o1, o2, p1, p2]; rfl
      · rw [if_neg g1]
        by_cases g2 : (gapI B.pl A.pl).1 ≥ 0
        · rw [if_pos g2]
          have p1 : polyP A.pl B.pl = t0 := by unfold polyP; rw [if_neg g1, if_pos g2]
          have p2 : polyP B.pl A.pl = t0 := by unfold polyP; rw [if_pos g2]
          rw [o1, o2, p1, p2]; rfl
        · rw [if_neg g2]
          by_cases g3 : (gapI A.pl B.pl).1 = (gapI B.pl A.pl).1
          · have : ((gapI A.pl B.pl).1 == (gapI B.pl A.pl).1) = true := by simp [g3]
            rw [this]; rfl
          · have : ((gapI A.pl B.pl).1 == (gapI B.pl A.pl).1) = false := by simp [g3]
            have al := poly_turn (hA.pl a2) (hB.pl b2) g1 g2 g3
            rw [← o1, ← o2] at al
            rw [this, cond_false, vneg_eq (a := ((ofP A B).1.1, (ofP A B).1.2.1)) oab.1.i, Option.bind_some]
            generalize ofP A B = x at *
            generalize ofP B A = y at *
            have q1 := al.ok
            have q2 := al.n1
            have q3 := al.n2
            have q4 := al.len
            have q5 := al.pts
            simp only at q1 q2 q3 q4 q5
            rw [q1, q2, q3, q4]
            simp only [BEq.rfl, Bool.and_true, Bool.not_true, cond_false, bne_self_eq_false]
            exact turned_loop 1000000 y.1.2.2.1 (by omega) _ _ _ _ _ _ _ _ _ _ _ _ _ _ _ _ _ _ _ _ _ _ _ _ _ _ _ _ _ _ _ _ _ _ _ _ _ _ _ _ _ _ _ _ (fun i _ => q5 i) y.1.2.2.1 0 1000000 (by omega) (by omega)
  · have e0 : (A.kd != B.kd) = true := by simp [hk]
    rw [e0, cond_true, vneg_eq (a := ((ofP A B).1.1, (ofP A B).1.2.1)) oab.1.i, Option.bind_some]
    rcases hA.kind with a1 | a2
    · have b2 : B.kd = 2 := by have := hB.kind; omega
      have m := mix_ok (P := B.pl) (c := A.pos) (r := A.r)
      have o2 : ofP B A = mixP B.pl A.pos A.r := by unfold ofP; rw [if_neg (by omega), if_pos a1]
      have o1 : ofP A B = if (mixP B.pl A.pos A.r).2 = false then ((mixP B.pl A.pos A.r).1, false) else turnT (mixP B.pl A.pos A.r) := by unfold ofP; rw [if_pos a1, if_neg (by omega)]
      rw [o1, o2]
      generalize mixP B.pl A.pos A.r = x at *
      cases hx : x.2 with
      | false =>
        have := m.f hx
        subst this
        have e : vneg (t0.1.1, t0.1.2.1) = (0, 0) := z
        rw [if_pos rfl]
        simp only [e, BEq.rfl, cond_true]
        have s := same_eq 0 0 0 (by omega) (fun _ => (0, 0, 0, 0))
        have s' : law07.same.f ((0, 0, t0.1.2.2.1, fun i => Riiii.enc (t0.1.2.2.2 i)), t0.1.1, t0.1.2.1, t0.1.2.2.1, fun i => Riiii.enc (t0.1.2.2.2 i)) = some true := s
        rw [s']; rfl
      | true =>
        rw [if_neg (by decide)]
        have e : vneg ((turnT x).1.1, (turnT x).1.2.1) = (x.1.1, x.1.2.1) := vneg_vneg m.s
        have e2 : (turnT x).2 = true := hx
        rw [e, e2]
        simp only [BEq.rfl, cond_true]
        have s := same_eq x.1.1 x.1.2.1 x.1.2.2.1 (by have := m.n; omega) x.1.2.2.2
        have s' : law07.same.f ((x.1.1, x.1.2.1, (turnT x).1.2.2.1, fun i => Riiii.enc ((turnT x).1.2.2.2 i)), x.1.1, x.1.2.1, x.1.2.2.1, fun i => Riiii.enc (x.1.2.2.2 i)) = some true := s
        rw [s']; rfl
    · have b1 : B.kd = 1 := by have := hB.kind; omega
      have m := mix_ok (P := A.pl) (c := B.pos) (r := B.r)
      have o1 : ofP A B = mixP A.pl B.pos B.r := by unfold ofP; rw [if_neg (by omega), if_pos b1]
      have o2 : ofP B A = if (mixP A.pl B.pos B.r).2 = false then ((mixP A.pl B.pos B.r).1, false) else turnT (mixP A.pl B.pos B.r) := by unfold ofP; rw [if_pos b1, if_neg (by omega)]
      rw [o1, o2]
      generalize mixP A.pl B.pos B.r = x at *
      cases hx : x.2 with
      | false =>
        have := m.f hx
        subst this
        have e : vneg (t0.1.1, t0.1.2.1) = (0, 0) := z
        rw [if_pos rfl]
        simp only [e, BEq.rfl, cond_true]
        have s := same_eq 0 0 0 (by omega) (fun _ => (0, 0, 0, 0))
        have s' : law07.same.f ((0, 0, t0.1.2.2.1, fun i => Riiii.enc (t0.1.2.2.2 i)), t0.1.1, t0.1.2.1, t0.1.2.2.1, fun i => Riiii.enc (t0.1.2.2.2 i)) = some true := s
        rw [s']; rfl
      | true =>
        rw [if_neg (by decide)]
        have e2 : (turnT x).2 = true := hx
        rw [e2]
        simp only [BEq.rfl, cond_true]
        have s := same_eq (vneg (x.1.1, x.1.2.1)).1 (vneg (x.1.1, x.1.2.1)).2 x.1.2.2.1 (by have := m.n; omega) x.1.2.2.2
        have s' : law07.same.f (((vneg (x.1.1, x.1.2.1)).1, (vneg (x.1.1, x.1.2.1)).2, x.1.2.2.1, fun i => Riiii.enc (x.1.2.2.2 i)), (turnT x).1.1, (turnT x).1.2.1, (turnT x).1.2.2.1, fun i => Riiii.enc ((turnT x).1.2.2.2 i)) = some true := s
        rw [s']; rfl
end Go.Proofs.Ytejlappndcakeaa.Y
