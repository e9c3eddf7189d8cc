/- TouchTells, its end: two polygons in the law's words, by kinds, the law. -/
import Derived.Test.YtejlappndcakeaaYLm
namespace Go.Proofs.Ytejlappndcakeaa.Y
open Go Go.RowKit Go.Proofs.Ytejlappndcakeaa.E Go.Proofs.Ytejlappndcakeaa.Ma Go.Proofs.Ytejlappndcakeaa.Fw
set_option linter.unusedVariables false
set_option linter.unusedSimpArgs false
set_option maxRecDepth 100000

theorem lcut_eq {e : P2 × P2} {a way : P2} (h1 : I2 e.1) (h2 : I2 e.2) (ha : I2 a) (hw : I2 way) : law07.cut.f ((e.1.1, e.1.2), (e.2.1, e.2.2), (a.1, a.2), (way.1, way.2)) = some ((clipP e a way).2.1, (clipP e a way).2.2, (clipP e a way).1) := by
  have s1 := vsub_s e.1 a
  have s2 := vsub_s e.2 a
  rw [law07.cut.eq, vsub_eq (a := e.1) (b := a) h1 ha, Option.bind_some, dot_eq (a := way) (b := vsub e.1 a) hw s1.i, Option.bind_some, vsub_eq (a := e.2) (b := a) h2 ha, Option.bind_some, dot_eq (a := way) (b := vsub e.2 a) hw s2.i, Option.bind_some]
  have d1 := dot_s way (vsub e.1 a)
  have d2 := dot_s way (vsub e.2 a)
  unfold clipP
  simp only [Bool.cond_decide]
  generalize dot way (vsub e.1 a) = x at *
  generalize dot way (vsub e.2 a) = y at *
  have key : ∀ (b c : P2) (u v : Int), I2 b → I2 c → S63 u → S63 v → ((vec.Sub.f ((b.1, b.2), (c.1, c.2))).bind fun r5 => (fix.Sub.f (u, v)).bind fun r6 => (fix.Div.f (u, r6)).bind fun r7 => (vec.Scale.f ((r5.1, r5.2), r7)).bind fun r8 => (vec.Add.f ((c.1, c.2), (r8.1, r8.2)))) = some (vadd c (vscale (vsub b c) (div u (sub u v)))) := by
    intro b c u v hb hc hu hv
    have q1 := vsub_s b c
    have q2 := sub_s u v
    have q3 := div_s hu.i q2.i
    rw [vsub_eq (a := b) (b := c) hb hc, Option.bind_some, sub_eq' hu.i hv.i, Option.bind_some, div_eq hu.i q2.i, Option.bind_some, vscale_eq (a := vsub b c) q1.i q3.i, Option.bind_some, vadd_eq (a := c) (b := vscale _ _) hc (vscale_s q1.i q3.i).i]
  have fin1 : ((vec.Sub.f ((e.2.1, e.2.2), (e.1.1, e.1.2))).bind fun r5 => (fix.Sub.f (x, y)).bind fun r6 => (fix.Div.f (x, r6)).bind fun r7 => (vec.Scale.f ((r5.1, r5.2), r7)).bind fun r8 => (vec.Add.f ((e.1.1, e.1.2), (r8.1, r8.2))).bind fun r9 => some ((r9.1, r9.2), (e.2.1, e.2.2), true)) =
      some (vadd e.1 (vscale (vsub e.2 e.1) (div x (sub x y))), e.2, true) := by
    have := key e.2 e.1 x y h2 h1 d1 d2
    simp only [Option.bind_eq_some_iff] at this ⊢
    obtain ⟨a1, b1, a2, b2, a3, b3, a4, b4, b5⟩ := this
    exact ⟨a1, b1, a2, b2, a3, b3, a4, b4, _, b5, rfl⟩
  have fin2 : ((vec.Sub.f ((e.1.1, e.1.2), (e.2.1, e.2.2))).bind fun r5 => (fix.Sub.f (y, x)).bind fun r6 => (fix.Div.f (y, r6)).bind fun r7 => (vec.Scale.f ((r5.1, r5.2), r7)).bind fun r8 => (vec.Add.f ((e.2.1, e.2.2), (r8.1, r8.2))).bind fun r9 => some ((e.1.1, e.1.2), (r9.1, r9.2), true)) =
      some (e.1, vadd e.2 (vscale (vsub e.1 e.2) (div y (sub y x))), true) := by
    have := key e.1 e.2 y x h1 h2 d2 d1
    simp only [Option.bind_eq_some_iff] at this ⊢
    obtain ⟨a1, b1, a2, b2, a3, b3, a4, b4, b5⟩ := this
    exact ⟨a1, b1, a2, b2, a3, b3, a4, b4, _, b5, rfl⟩
  by_cases hx : x < 0
  · by_cases hy : y < 0
    · simp only [if_pos hx, if_pos hy]
    · simp only [if_pos hx, if_neg hy]; exact fin1
  · by_cases hy : y < 0
    · simp only [if_neg hx, if_pos hy]; exact fin2
    · simp only [if_neg hx, if_neg hy]
theorem neg_w {x : Int} (h : S63 x) : IntKind.i64.wrap (0 - x) = neg x := by rw [neg_id h, w64 (by unfold I64; unfold S63 at h; omega)]; omega
def turnO (oth : Bool) (x : Tch) : Tch := if oth = true then (if x.2 = false then t0 else turnT x) else x
theorem lpolys_loop (nv v w tt : P2) (hN : S2 nv) (hv : S2 v) (hw : S2 w) (ht : S2 tt) (Q : Pl) (hQ : PlOk Q) (key : Int) (hk : 0 ≤ key ∧ key ≤ 100000) (oth : Bool) (N : Nat → P2) (hNq : ∀ j, j < Q.1 → N j = normOf Q.1 Q.2 j) (k0 : Nat) (v1 : Int) (v2 : Int) (v3 : Int) (v4 : Int) (v5 : Int) (v6 : Int) (v7 : Int) (v8 : Int) (v9 : Int) (v10 : Int) (v11 : Nat) (v12 : Nat → (Int × Int)) (v13 : Int) (v14 : Int) (v15 : Int) (v16 : Int) (v17 : Int) (v18 : Int) (v19 : Int) (v20 : Int) (v21 : Int) (v22 : Int) (v23 : Nat) (v24 : Nat → (Int × Int)) :
    ∀ (d i K : Nat), i + d = Q.1 → d < K → law07.polys.l0 k0 K v1 v2 v3 v4 v5 v6 v7 v8 v9 v10 v11 (fun i => Rii.enc (v12 i)) v13 v14 v15 v16 v17 v18 v19 v20 v21 v22 v23 (fun i => Rii.enc (v24 i)) nv.1 nv.2 v.1 v.2 w.1 w.2 tt.1 tt.2 Q.1 (fun i => Rii.enc (Q.2 i)) key oth ((ls (fun j => dot nv (N j)) i).2 : Int) Q.1 (fun i => Rii.enc (N i)) (Q.1 : Int) (i : Int) = some (turnO oth (cutB nv v w tt (edgeOf nv Q) key))
  | 0, i, K, h1, h2 => by
    obtain ⟨K, rfl⟩ : ∃ m, K = m + 1 := ⟨K - 1, by omega⟩
    have : i = Q.1 := by omega
    subst this
    have e0 : ls (fun j => dot nv (N j)) Q.1 = ls (fun j => dot nv (normOf Q.1 Q.2 j)) Q.1 := ls_congr _ fun j hj => by rw [hNq j hj]
    have hlt := edgeP_lt (nv := nv) hQ
    have hne : 0 < Q.1 := by omega
    have hq := nx_lt (i := edgeP nv Q) hne
    have sQ := hQ.s
    rw [law07.polys.l0_eq, e0]
    have ee : (ls (fun j => dot nv (normOf Q.1 Q.2 j)) Q.1).2 = edgeP nv Q := rfl
    rw [ee]
    simp only [tmod_next hlt hQ.few]
    rw [show (edgeP nv Q + 1) % Q.1 = nx Q.1 (edgeP nv Q) from rfl]
    simp only [Bool.cond_decide, ix_ok hlt, ix_ok hq, cond_true, Int.toNat_natCast]
    rw [if_neg (by omega), if_pos (show ((Q.1 : Nat) : Int) ≠ 0 by omega)]
    have c1 := lcut_eq (e := edgeOf nv Q) (a := v) (way := tt) (sQ _).i (sQ _).i hv.i ht.i
    have s1 := clipP_s (e := edgeOf nv Q) (a := v) (way := tt) (sQ _) (sQ _)
    simp only [edgeOf] at c1
    rw [c1, Option.bind_some]
    have fold : clipP (Q.2 (edgeP nv Q), Q.2 (nx Q.1 (edgeP nv Q))) v tt = clipP (edgeOf nv Q) v tt := rfl
    rw [fold]
    unfold cutB
    generalize clipP (edgeOf nv Q) v tt = C at *
    obtain ⟨ok, c⟩ := C
    simp only at s1 ⊢
    have tz : turnO oth t0 = t0 := by unfold turnO; cases oth <;> rfl
    cases ok with
    | false => rw [if_pos rfl, Bool.not_false, cond_true, tz]; exact tdec_none
    | true =>
      rw [if_neg (by decide), Bool.not_true, cond_false, vneg_eq (a := tt) ht.i, Option.bind_some]
      have c2 := lcut_eq (e := c) (a := w) (way := vneg tt) s1.1.i s1.2.i hw.i (vneg_s ht.i).i
      have s2 := clipP_s (e := c) (a := w) (way := vneg tt) s1.1 s1.2
      rw [c2, Option.bind_some]
      generalize clipP c w (vneg tt) = C at *
      obtain ⟨ok, b⟩ := C
      simp only at s2 ⊢
      cases ok with
      | false => rw [if_pos rfl, Bool.not_false, cond_true, tz]; exact tdec_none
      | true =>
        have k0' : IntKind.i64.wrap (key + 0) = key := by rw [w64 (by unfold I64; omega)]; omega
        have k1' : IntKind.i64.wrap (key + 1) = key + 1 := w64 (by unfold I64; omega)
        have q1 := vsub_s b.1 v
        have q2 := vsub_s b.2 v
        have hA : vec.Sub.f ((b.1.1, b.1.2), (v.1, v.2)) = some (vsub b.1 v) := vsub_eq (a := b.1) (b := v) s2.1.i hv.i
        have hB : vec.Sub.f ((b.2.1, b.2.2), (v.1, v.2)) = some (vsub b.2 v) := vsub_eq (a := b.2) (b := v) s2.2.i hv.i
        have hC : vec.Dot.f ((nv.1, nv.2), ((vsub b.1 v).1, (vsub b.1 v).2)) = some (dot nv (vsub b.1 v)) := dot_eq (a := nv) (b := vsub b.1 v) hN.i q1.i
        have hD : vec.Dot.f ((nv.1, nv.2), ((vsub b.2 v).1, (vsub b.2 v).2)) = some (dot nv (vsub b.2 v)) := dot_eq (a := nv) (b := vsub b.2 v) hN.i q2.i
        have hE : IntKind.i64.wrap (0 - dot nv (vsub b.1 v)) = neg (dot nv (vsub b.1 v)) := neg_w (dot_s _ _)
        have hF : IntKind.i64.wrap (0 - dot nv (vsub b.2 v)) = neg (dot nv (vsub b.2 v)) := neg_w (dot_s _ _)
        have hG : vec.Neg.f (nv.1, nv.2) = some (vneg nv) := vneg_eq hN.i
        rw [if_neg (by decide), Bool.not_true, cond_false]
        simp only [hA, hB, hC, hD, hE, hF, hG, Option.bind_some, k0', k1', row1, row2]
        unfold endsP
        generalize neg (dot nv (vsub b.1 v)) = x
        generalize neg (dot nv (vsub b.2 v)) = y
        cases oth with
        | true =>
          rw [cond_true]
          by_cases hx : x > 0
          · by_cases hy : y > 0
            · simp only [if_pos hx, if_pos hy]; exact tdec_some _ _ _ _ _ _
            · simp only [if_pos hx, if_neg hy]; exact tdec_some _ _ _ _ _ _
          · by_cases hy : y > 0
            · simp only [if_neg hx, if_pos hy]; exact tdec_some _ _ _ _ _ _
            · simp only [if_neg hx, if_neg hy]; exact tdec_none
        | false =>
          rw [cond_false]
          by_cases hx : x > 0
          · by_cases hy : y > 0
            · simp only [if_pos hx, if_pos hy]; exact tdec_some _ _ _ _ _ _
            · simp only [if_pos hx, if_neg hy]; exact tdec_some _ _ _ _ _ _
          · by_cases hy : y > 0
            · simp only [if_neg hx, if_pos hy]; exact tdec_some _ _ _ _ _ _
            · simp only [if_neg hx, if_neg hy]; exact tdec_none
  | d + 1, i, K, h1, h2 => by
    obtain ⟨K, rfl⟩ : ∃ m, K = m + 1 := ⟨K - 1, by omega⟩
    have hi : i < Q.1 := by omega
    have ih := lpolys_loop nv v w tt hN hv hw ht Q hQ key hk oth N hNq k0 v1 v2 v3 v4 v5 v6 v7 v8 v9 v10 v11 v12 v13 v14 v15 v16 v17 v18 v19 v20 v21 v22 v23 v24 d (i + 1) K (by omega) (by omega)
    have sN : S2 (N i) := by rw [hNq i hi]; exact normOf_s _ _ _
    have hlt : (ls (fun j => dot nv (N j)) i).2 < Q.1 := by
      by_cases h0 : i = 0
      · subst h0; show 0 < Q.1; omega
      · have := ls_lt (fun j => dot nv (N j)) i (by omega); omega
    have sE : S2 (N (ls (fun j => dot nv (N j)) i).2) := by rw [hNq _ hlt]; exact normOf_s _ _ _
    rw [law07.polys.l0_eq]
    simp only [Bool.cond_decide, ix_ok hi, ix_ok hlt, cond_true, Int.toNat_natCast, wsucc hi hQ.few]
    rw [if_pos (by omega), dot_eq (a := nv) (b := N i) hN.i sN.i, Option.bind_some, dot_eq (a := nv) (b := N (ls (fun j => dot nv (N j)) i).2) hN.i sE.i, Option.bind_some]
    have e : ls (fun j => dot nv (N j)) (i + 1) = if i = 0 ∨ dot nv (N i) < (ls (fun j => dot nv (N j)) i).1 then (dot nv (N i), i) else ls (fun j => dot nv (N j)) i := rfl
    rw [e] at ih
    by_cases h0 : i = 0
    · subst h0
      rw [if_pos (.inl rfl)] at ih
      have z : (ls (fun j => dot nv (N j)) 0).2 = 0 := rfl
      split
      · exact ih
      · exact ih
    · have hv' := ls_val (fun j => dot nv (N j)) i (by omega)
      split
      · rename_i hc; rw [if_pos (.inr (by rw [hv']; exact hc))] at ih; exact ih
      · rename_i hc; rw [if_neg (by rw [hv']; intro h; rcases h with h | h; exact h0 h; exact hc h)] at ih; exact ih
theorem lpolys_eq {a b : Bd} (ha : BdOk a) (hb : BdOk b) (h1 : a.kd = 2) (h2 : b.kd = 2) (x0 x3 x4 x6 x7 y0 y3 y4 y6 y7 : Int) :
    law07.polys.f ((x0, a.pos.1, a.pos.2, x3, x4, a.ang, x6, x7, a.kd, a.r, (a.n, fun i => Rii.enc (a.g i))), (y0, b.pos.1, b.pos.2, y3, y4, b.ang, y6, y7, b.kd, b.r, (b.n, fun i => Rii.enc (b.g i)))) = some (polyP a.pl b.pl) := by
  have hP := ha.pl h1
  have hQ := hb.pl h2
  show law07.polys.g 1000000 _ = _
  rw [law07.polys.eq, bd_corners a ha, Option.bind_some, bd_corners b hb, Option.bind_some]
  generalize a.pl = P at *
  generalize b.pl = Q at *
  have sP := fun i => (hP.s i).i
  have sQ := fun i => (hQ.s i).i
  have f1 := hP.few
  have f2 := hQ.few
  have t1 := hP.three
  have t2 := hQ.three
  have hl1 := gapI_lt (Q := Q) hP
  have hl2 := gapI_lt (Q := P) hQ
  rw [gaps_eq hP.few hQ.few (by omega) (fun i _ => sP i) (fun i _ => sQ i), Option.bind_some, gaps_eq hQ.few hP.few (by omega) (fun i _ => sQ i) (fun i _ => sP i), Option.bind_some]
  simp only
  rw [first_eq (cut0 0 P.1 (gOf P.1 P.2 Q.1 Q.2)) hP.few (by omega), Option.bind_some, first_eq (cut0 0 Q.1 (gOf Q.1 Q.2 P.1 P.2)) hQ.few (by omega), Option.bind_some]
  have eg1 : gs (cut0 0 P.1 (gOf P.1 P.2 Q.1 Q.2)) P.1 = gapI P Q := gs_congr _ fun i hi => cut0_lt hi
  have eg2 : gs (cut0 0 Q.1 (gOf Q.1 Q.2 P.1 P.2)) Q.1 = gapI Q P := gs_congr _ fun i hi => cut0_lt hi
  rw [eg1, eg2]
  have hv1 : cut0 0 P.1 (gOf P.1 P.2 Q.1 Q.2) (gapI P Q).2 = (gapI P Q).1 := by
    rw [cut0_lt hl1]
    exact (gs_val (gOf P.1 P.2 Q.1 Q.2) P.1 (by omega)).symm
  have hv2 : cut0 0 Q.1 (gOf Q.1 Q.2 P.1 P.2) (gapI Q P).2 = (gapI Q P).1 := by
    rw [cut0_lt hl2]
    exact (gs_val (gOf Q.1 Q.2 P.1 P.2) Q.1 (by omega)).symm
  unfold polyP
  generalize gapI P Q = G at *
  generalize gapI Q P = H at *
  generalize cut0 0 P.1 (gOf P.1 P.2 Q.1 Q.2) = A at *
  generalize cut0 0 Q.1 (gOf Q.1 Q.2 P.1 P.2) = B at *
  have w1 : IntKind.i64.wrap (32 + IntKind.i64.wrap (2 * (G.2 : Int))) = 32 + 2 * (G.2 : Int) := by rw [w64 (x := 2 * (G.2 : Int)) (by unfold I64; omega), w64 (by unfold I64; omega)]
  have w2 : IntKind.i64.wrap (64 + IntKind.i64.wrap (2 * (H.2 : Int))) = 64 + 2 * (H.2 : Int) := by rw [w64 (x := 2 * (H.2 : Int)) (by unfold I64; omega), w64 (by unfold I64; omega)]
  have q1 := nx_lt (n := P.1) (i := G.2) (by omega)
  have q2 := nx_lt (n := Q.1) (i := H.2) (by omega)
  have n1 : ((P.1 : Nat) : Int) ≠ 0 := by omega
  have n2 : ((Q.1 : Nat) : Int) ≠ 0 := by omega
  simp only [tmod_next hl1 hP.few, tmod_next hl2 hQ.few]
  rw [show (G.2 + 1) % P.1 = nx P.1 G.2 from rfl, show (H.2 + 1) % Q.1 = nx Q.1 H.2 from rfl]
  simp only [Bool.cond_decide, ix_ok hl1, ix_ok hl2, ix_ok q1, ix_ok q2, cond_true, Int.toNat_natCast, hv1, hv2, w1, w2]
  by_cases g1 : G.1 ≥ 0
  · rw [if_pos g1, if_pos g1]; exact tdec_none
  · rw [if_neg g1, if_neg g1]
    by_cases g2 : H.1 ≥ 0
    · rw [if_pos g2, if_pos g2]; exact tdec_none
    · rw [if_neg g2, if_neg g2]
      by_cases g3 : H.1 > G.1
      · rw [if_pos g3, if_neg (show ¬ G.1 ≥ H.1 by omega), Normals_ex Q.1 hQ.few Q.2 (fun i _ => sQ i), Option.bind_some]
        simp only [ix_ok hl2, cond_true]
        have e8 := vsub_s (Q.2 (nx Q.1 H.2)) (Q.2 H.2)
        rw [if_pos n2, vsub_eq (a := Q.2 (nx Q.1 H.2)) (b := Q.2 H.2) (sQ _) (sQ _), Option.bind_some, unit_eq (a := vsub (Q.2 (nx Q.1 H.2)) (Q.2 H.2)) e8.i, Option.bind_some, Normals_ex P.1 hP.few P.2 (fun i _ => sP i), Option.bind_some]
        simp only [cut0_lt hl2]
        rw [decide_eq_true g3]
        exact lpolys_loop (normOf Q.1 Q.2 H.2) (Q.2 H.2) (Q.2 (nx Q.1 H.2)) (vunit (vsub (Q.2 (nx Q.1 H.2)) (Q.2 H.2))).1 (normOf_s _ _ _) (hQ.s _) (hQ.s _) (vunit_s e8.i) P hP (64 + 2 * (H.2 : Int)) (by omega) true (cut0 (0, 0) P.1 (normOf P.1 P.2)) (fun j hj => cut0_lt hj) 1000000 _ _ _ _ _ _ _ _ _ _ _ _ _ _ _ _ _ _ _ _ _ _ _ _ P.1 0 1000000 (by omega) (by omega)
      · rw [if_neg g3, if_pos (show G.1 ≥ H.1 by omega), Normals_ex P.1 hP.few P.2 (fun i _ => sP i), Option.bind_some]
        simp only [ix_ok hl1, cond_true]
        have e8 := vsub_s (P.2 (nx P.1 G.2)) (P.2 G.2)
        rw [if_pos n1, vsub_eq (a := P.2 (nx P.1 G.2)) (b := P.2 G.2) (sP _) (sP _), Option.bind_some, unit_eq (a := vsub (P.2 (nx P.1 G.2)) (P.2 G.2)) e8.i, Option.bind_some, Normals_ex Q.1 hQ.few Q.2 (fun i _ => sQ i), Option.bind_some]
        simp only [cut0_lt hl1]
        rw [decide_eq_false g3]
        exact lpolys_loop (normOf P.1 P.2 G.2) (P.2 G.2) (P.2 (nx P.1 G.2)) (vunit (vsub (P.2 (nx P.1 G.2)) (P.2 G.2))).1 (normOf_s _ _ _) (hP.s _) (hP.s _) (vunit_s e8.i) Q hQ (32 + 2 * (G.2 : Int)) (by omega) false (cut0 (0, 0) Q.1 (normOf Q.1 Q.2)) (fun j hj => cut0_lt hj) 1000000 _ _ _ _ _ _ _ _ _ _ _ _ _ _ _ _ _ _ _ _ _ _ _ _ Q.1 0 1000000 (by omega) (by omega)
theorem Wanted_eq {a b : Bd} (ha : BdOk a) (hb : BdOk b) (x0 x3 x4 x6 x7 y0 y3 y4 y6 y7 : Int) :
    law07.Wanted.f ((x0, a.pos.1, a.pos.2, x3, x4, a.ang, x6, x7, a.kd, a.r, (a.n, fun i => Rii.enc (a.g i))), (y0, b.pos.1, b.pos.2, y3, y4, b.ang, y6, y7, b.kd, b.r, (b.n, fun i => Rii.enc (b.g i)))) = some (ofP a b) := by
  unfold ofP
  rw [law07.Wanted.eq]
  by_cases h1 : a.kd = 1
  · have e1 : (a.kd == 1) = true := by simp [h1]
    by_cases h2 : b.kd = 1
    · have e2 : (b.kd == 1) = true := by simp [h2]
      rw [if_pos h1, if_pos h2]
      simp only [e1, e2, cond_true]
      rw [rounds_eq ha hb, Option.bind_some]
      exact redec _
    · have hb2 : b.kd = 2 := by have := hb.kind; omega
      have e2 : (b.kd == 1) = false := by simp [h2]
      rw [if_pos h1, if_neg h2]
      simp only [e1, e2, cond_true, cond_false]
      rw [lmixed_eq hb ha hb2, Option.bind_some]
      have hn := mix_ok (P := b.pl) (c := a.pos) (r := a.r)
      generalize mixP b.pl a.pos a.r = x at *
      cases hx : x.2 with
      | false => rw [if_pos rfl, cond_false]; exact tdec_some _ _ _ _ _ _
      | true =>
        rw [if_neg (by decide), cond_true, vneg_eq (a := (x.1.1, x.1.2.1)) hn.s.i, Option.bind_some]
        unfold turnT
        rw [hx]
        exact tdec_some _ _ _ _ _ _
  · have ha2 : a.kd = 2 := by have := ha.kind; omega
    have e1 : (a.kd == 1) = false := by simp [h1]
    rw [if_neg h1]
    simp only [e1, cond_false]
    by_cases h2 : b.kd = 1
    · have e2 : (b.kd == 1) = true := by simp [h2]
      rw [if_pos h2]
      simp only [e2, cond_true]
      rw [lmixed_eq ha hb ha2, Option.bind_some]
      exact redec _
    · have hb2 : b.kd = 2 := by have := hb.kind; omega
      have e2 : (b.kd == 1) = false := by simp [h2]
      rw [if_neg h2]
      simp only [e2, cond_false]
      rw [lpolys_eq ha hb ha2 hb2, Option.bind_some]
      exact redec _
theorem TouchTells_eq (a b c d e f h a' b' c' d' e' f' h' : Int) : law07.TouchTells.f ((a, b, c, d, e, f, h), (a', b', c', d', e', f', h')) = some true := by
  obtain ⟨A, hA, gA, _⟩ := Body_bd a b c d e f h
  obtain ⟨B, hB, gB, _⟩ := Body_bd a' b' c' d' e' f' h'
  have oab := ofP_ok hA hB
  rw [law07.TouchTells.eq, fit_eq, Option.bind_some]
  simp only [Bool.not_true, cond_false]
  rw [gA, Option.bind_some, gB, Option.bind_some]
  simp only
  rw [Of_eq hA hB, Option.bind_some, Wanted_eq hA hB, Option.bind_some]
  simp only [BEq.rfl, cond_true]
  rw [same_eq _ _ _ (by omega)]
  rfl
end Go.Proofs.Ytejlappndcakeaa.Y
