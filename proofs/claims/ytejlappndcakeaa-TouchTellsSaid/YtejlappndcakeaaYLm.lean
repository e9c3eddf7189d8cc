/- TouchTells: what the law's own words give, and the law. -/
import Derived.Test.YtejlappndcakeaaYLt
namespace Go.Proofs.Ytejlappndcakeaa.Y
open Go Go.RowKit Go.Proofs.Ytejlappndcakeaa.E Go.Proofs.Ytejlappndcakeaa.Ma Go.Proofs.Ytejlappndcakeaa.Fw
set_option linter.unusedVariables false
set_option linter.unusedSimpArgs false
set_option maxRecDepth 100000

theorem vlen_nn (a : P2) : 0 ≤ vlen a := by
  unfold vlen sqrt
  split <;> omega
theorem rounds_eq {a b : Bd} (ha : BdOk a) (hb : BdOk b) (x0 x3 x4 x5 x6 x7 x8 y0 y3 y4 y5 y6 y7 y8 : Int) (n m : Nat) (g g' : Nat → P2) :
    law07.rounds.f ((x0, a.pos.1, a.pos.2, x3, x4, x5, x6, x7, x8, a.r, (n, fun i => Rii.enc (g i))), (y0, b.pos.1, b.pos.2, y3, y4, y5, y6, y7, y8, b.r, (m, fun i => Rii.enc (g' i)))) = some (circP a.pos a.r b.pos b.r) := by
  have hd := vsub_s b.pos a.pos
  have hs := (add_s a.r b.r).i
  rw [law07.rounds.eq, vsub_eq (a := b.pos) (b := a.pos) hb.pos.i ha.pos.i, Option.bind_some, len_eq (a := vsub b.pos a.pos) hd.i, Option.bind_some, add_eq' ha.r.i hb.r.i, Option.bind_some]
  unfold circP
  simp only [Bool.cond_decide]
  have hl := vlen_nn (vsub b.pos a.pos)
  split
  · exact tdec_none
  · have hsub := (sub_s (add a.r b.r) (vlen (vsub b.pos a.pos))).i
    have h8 : I64 8589934592 := by unfold I64; omega
    have fin : ∀ u : P2, I2 u → ((fix.Sub.f (add a.r b.r, vlen (vsub b.pos a.pos))).bind fun r5 => (fix.Div.f (r5, 8589934592)).bind fun r7 => (fix.Sub.f (a.r, r7)).bind fun r8 => (vec.Scale.f ((u.1, u.2), r8)).bind fun r9 => (vec.Add.f ((a.pos.1, a.pos.2), (r9.1, r9.2))).bind fun r10 =>
        (law07.point.f ((u.1, u.2), (r10.1, r10.2), r5, 0)).bind fun r11 => tdec (.tup [.agg [.val (.int .i64 r11.1.1), .val (.int .i64 r11.1.2.1), .lst 4 r11.1.2.2.1 none (fun i => Riiii.enc (r11.1.2.2.2 i))], .val (.bool r11.2)])) =
        some (t1 u (vadd a.pos (vscale u (sub a.r (div (sub (add a.r b.r) (vlen (vsub b.pos a.pos))) 8589934592)))) (sub (add a.r b.r) (vlen (vsub b.pos a.pos))) 0) := by
      intro u hu
      have hdv := (div_s hsub h8).i
      have hsr := (sub_s a.r (div (sub (add a.r b.r) (vlen (vsub b.pos a.pos))) 8589934592)).i
      rw [sub_eq' hs (vlen_s _).i, Option.bind_some, div_eq hsub h8, Option.bind_some, sub_eq' ha.r.i hdv, Option.bind_some, vscale_eq (a := u) hu hsr, Option.bind_some, vadd_eq (a := a.pos) (b := vscale u _) ha.pos.i (vscale_s hu hsr).i, Option.bind_some, point_eq, Option.bind_some]
      exact tdec_some _ _ _ _ _ _
    by_cases h0 : vlen (vsub b.pos a.pos) = 0
    · rw [if_neg (by omega), if_pos h0]
      exact fin (4294967296, 0) (by unfold I2 I64; simp)
    · rw [if_pos (by omega), if_neg h0, unit_eq (a := vsub b.pos a.pos) hd.i, Option.bind_some]
      unfold vunit
      rw [if_neg h0]
      exact fin (div (vsub b.pos a.pos).1 (vlen (vsub b.pos a.pos)), div (vsub b.pos a.pos).2 (vlen (vsub b.pos a.pos))) ⟨(div_s hd.i.1 (vlen_s _).i).i, (div_s hd.i.2 (vlen_s _).i).i⟩
/-- A circle at a corner, in the law's words. -/
theorem lcorn {N p u : P2} {r key : Int} (hu : S2 u) (hr : I64 r) : ((vec.Len.f (u.1, u.2)).bind fun r9 =>
      if r9 ≥ r then tdec (.tup [.agg [.val (.int .i64 0), .val (.int .i64 0), .val (.slice none 0 0)], .val (.bool false)])
      else (vec.Unit.f (u.1, u.2)).bind fun r10 =>
      bif r10.2 then (fix.Sub.f (r, r9)).bind fun r11 => (law07.point.f ((r10.1.1, r10.1.2), (p.1, p.2), r11, key)).bind fun r12 => tdec (.tup [.agg [.val (.int .i64 r12.1.1), .val (.int .i64 r12.1.2.1), .lst 4 r12.1.2.2.1 none (fun i => Riiii.enc (r12.1.2.2.2 i))], .val (.bool r12.2)])
      else (fix.Sub.f (r, r9)).bind fun r13 => (law07.point.f ((N.1, N.2), (p.1, p.2), r13, key)).bind fun r14 => tdec (.tup [.agg [.val (.int .i64 r14.1.1), .val (.int .i64 r14.1.2.1), .lst 4 r14.1.2.2.1 none (fun i => Riiii.enc (r14.1.2.2.2 i))], .val (.bool r14.2)])) = some (cornP N p u r key) := by
  rw [len_eq (a := u) hu.i, Option.bind_some]
  unfold cornP
  split
  · exact tdec_none
  · rw [unit_eq (a := u) hu.i, Option.bind_some, vunit_2]
    by_cases h : vlen u = 0
    · rw [if_pos h, decide_eq_true h, Bool.not_true, cond_false, sub_eq' hr (vlen_s _).i, Option.bind_some, point_eq, Option.bind_some]
      exact redec _
    · rw [if_neg h, decide_eq_false h, Bool.not_false, cond_true, sub_eq' hr (vlen_s _).i, Option.bind_some, point_eq, Option.bind_some]
      exact redec _
theorem lmixed_loop (k0 K n : Nat) (c N e p q : P2) (r s : Int) (i : Nat) (hc : S2 c) (hN : S2 N) (he : S2 e) (hp : S2 p) (hq : S2 q) (hr : I64 r) (hi : i < n) (hn : n ≤ 1000) (v31 : Nat → Int) (hv : v31 i = s) (hs : S63 s) (v1 : Int) (v2 : Int) (v3 : Int) (v4 : Int) (v5 : Int) (v6 : Int) (v7 : Int) (v8 : Int) (v9 : Int) (v10 : Int) (v11 : Nat) (v12 : Nat → (Int × Int)) (v13 : Int) (v16 : Int) (v17 : Int) (v18 : Int) (v19 : Int) (v20 : Int) (v21 : Int) (v23 : Nat) (v24 : Nat → (Int × Int)) :
    law07.mixed.l0 k0 (K + 3) v1 v2 v3 v4 v5 v6 v7 v8 v9 v10 v11 (fun i => Rii.enc (v12 i)) v13 c.1 c.2 v16 v17 v18 v19 v20 v21 r v23 (fun i => Rii.enc (v24 i)) N.1 N.2 e.1 e.2 (fun j => Rii.enc ([p, q].getD j (0, 0))) n (fun i => Ri.enc (v31 i)) (i : Int) (decide (s ≤ 0)) 0 = some (if s ≤ 0 then t1 N (vsub c (vscale N r)) (sub r s) (16 + (i : Int)) else if dot (vsub c p) e ≤ 0 then cornP N p (vsub c p) r (2 * (i : Int)) else if dot (vsub c q) (vneg e) ≤ 0 then cornP N q (vsub c q) r (2 * (i : Int) + 1) else t1 N (vsub c (vscale N r)) (sub r s) (16 + (i : Int))) := by
  have sm := small (i := i) (by omega)
  have u1 := vsub_s c p
  have u2 := vsub_s c q
  have hne := vneg_s he.i
  have ev : ∀ x y : P2, law07.mixed.l0 k0 (K + 1) v1 v2 v3 v4 v5 v6 v7 v8 v9 v10 v11 (fun i => Rii.enc (v12 i)) v13 c.1 c.2 v16 v17 v18 v19 v20 v21 r v23 (fun i => Rii.enc (v24 i)) N.1 N.2 x.1 x.2 (fun j => Rii.enc ([p, q].getD j (0, 0))) n (fun i => Ri.enc (v31 i)) (i : Int) (decide (s ≤ 0)) 2 = some (t1 N (vsub c (vscale N r)) (sub r s) (16 + (i : Int))) := by
    intro x y
    rw [law07.mixed.l0_eq]
    simp only [Bool.cond_decide]
    rw [if_neg (by decide), vscale_eq (a := N) hN.i hr, Option.bind_some, vsub_eq (a := c) (b := vscale N r) hc.i (vscale_s hN.i hr).i, Option.bind_some]
    simp only [ix_ok hi, cond_true, Int.toNat_natCast, hv, sm.1]
    rw [sub_eq' hr hs.i, Option.bind_some, point_eq, Option.bind_some]
    exact redec _
  have h0 : ((decide (0 ≤ (0 : Int))) && (decide ((0 : Int) < 2))) = true := by decide
  have h1 : ((decide (0 ≤ (1 : Int))) && (decide ((1 : Int) < 2))) = true := by decide
  have w1 : IntKind.i64.wrap (0 + 1) = 1 := by decide
  have w2 : IntKind.i64.wrap (1 + 1) = 2 := by decide
  have kk0 : IntKind.i64.wrap (2 * (i : Int) + 0) = 2 * (i : Int) := by rw [Int.add_zero]; exact sm.2.1
  have second : law07.mixed.l0 k0 (K + 2) v1 v2 v3 v4 v5 v6 v7 v8 v9 v10 v11 (fun i => Rii.enc (v12 i)) v13 c.1 c.2 v16 v17 v18 v19 v20 v21 r v23 (fun i => Rii.enc (v24 i)) N.1 N.2 e.1 e.2 (fun j => Rii.enc ([p, q].getD j (0, 0))) n (fun i => Ri.enc (v31 i)) (i : Int) (decide (s ≤ 0)) 1 = some (if s ≤ 0 then t1 N (vsub c (vscale N r)) (sub r s) (16 + (i : Int)) else if dot (vsub c q) (vneg e) ≤ 0 then cornP N q (vsub c q) r (2 * (i : Int) + 1) else t1 N (vsub c (vscale N r)) (sub r s) (16 + (i : Int))) := by
    rw [law07.mixed.l0_eq]
    simp only [h1, cond_true, w2]
    have e1 : [p, q].getD (Int.toNat 1) (0, 0) = q := rfl
    simp only [Bool.cond_decide, e1]
    rw [if_pos (by decide), vsub_eq (a := c) (b := q) hc.i hq.i, Option.bind_some]
    have b1 : ((1 : Int) == 1) = true := rfl
    rw [b1, cond_true, vneg_eq (a := e) he.i, Option.bind_some]
    by_cases hf : s ≤ 0
    · rw [if_pos hf, if_pos hf]; exact ev _ p
    · rw [if_neg hf, if_neg hf, dot_eq (a := vsub c q) (b := vneg e) u2.i hne.i, Option.bind_some]
      by_cases hd : dot (vsub c q) (vneg e) > 0
      · rw [if_pos hd, if_neg (by omega)]; exact ev _ p
      · rw [if_neg hd, if_pos (by omega)]
        simp only [sm.2.1, sm.2.2]
        exact lcorn u2 hr
  rw [law07.mixed.l0_eq]
  simp only [h0, cond_true, w1]
  have e0 : [p, q].getD (Int.toNat 0) (0, 0) = p := rfl
  simp only [Bool.cond_decide, e0]
  rw [if_pos (by decide), vsub_eq (a := c) (b := p) hc.i hp.i, Option.bind_some]
  have b0 : ((0 : Int) == 1) = false := rfl
  rw [b0, cond_false]
  by_cases hf : s ≤ 0
  · rw [if_pos hf, if_pos hf]
    have := second
    rw [if_pos hf] at this
    exact this
  · rw [if_neg hf, if_neg hf, dot_eq (a := vsub c p) (b := e) u1.i he.i, Option.bind_some]
    by_cases hd : dot (vsub c p) e > 0
    · rw [if_pos hd, if_neg (by omega)]
      have := second
      rw [if_neg hf] at this
      exact this
    · rw [if_neg hd, if_pos (by omega)]
      simp only [sm.2.1, kk0]
      exact lcorn u1 hr
theorem lmixed_eq {a b : Bd} (ha : BdOk a) (hb : BdOk b) (h2 : a.kd = 2) (x0 x3 x4 x6 x7 y0 y3 y4 y5 y6 y7 y8 : Int) (m : Nat) (g' : Nat → P2) :
    law07.mixed.f ((x0, a.pos.1, a.pos.2, x3, x4, a.ang, x6, x7, a.kd, a.r, (a.n, fun i => Rii.enc (a.g i))), (y0, b.pos.1, b.pos.2, y3, y4, y5, y6, y7, y8, b.r, (m, fun i => Rii.enc (g' i)))) = some (mixP a.pl b.pos b.r) := by
  have hP := ha.pl h2
  show law07.mixed.g 1000000 _ = _
  rw [law07.mixed.eq, bd_corners a ha, Option.bind_some]
  generalize a.pl = P at *
  have hr3 : (fun i => cloL (List.getD (List.map Rii.enc [(b.pos.1, b.pos.2)]) i (Rii.enc (0, 0)))) = fun i => Rii.enc ((ptL b.pos).2 i) := lit_rows Rii_clo _ _
  have hsP := fun i => (hP.s i).i
  have hlt := gapI_lt (Q := ptL b.pos) hP
  have hs := gapI_s (Q := ptL b.pos) hP
  have hval : cut0 0 P.1 (gOf P.1 P.2 1 (ptL b.pos).2) (gapI P (ptL b.pos)).2 = (gapI P (ptL b.pos)).1 := by
    rw [cut0_lt hlt]
    exact (gs_val (gOf P.1 P.2 1 (ptL b.pos).2) P.1 (by omega)).symm
  rw [hr3, gaps_eq hP.few (by omega) (by omega) (fun i _ => hsP i) (fun i _ => (ptL_s hb.pos i).i), Option.bind_some]
  simp only
  rw [first_eq (cut0 0 P.1 (gOf P.1 P.2 1 (ptL b.pos).2)) hP.few (by omega), Option.bind_some]
  have eg : gs (cut0 0 P.1 (gOf P.1 P.2 1 (ptL b.pos).2)) P.1 = gapI P (ptL b.pos) := gs_congr _ fun i hi => cut0_lt hi
  rw [eg, Normals_ex P.1 hP.few P.2 (fun i _ => hsP i), Option.bind_some]
  unfold mixP mixA
  generalize gapI P (ptL b.pos) = G at *
  generalize cut0 0 P.1 (gOf P.1 P.2 1 (ptL b.pos).2) = H at *
  obtain ⟨s, i⟩ := G
  simp only at hlt hs hval ⊢
  have hne : 0 < P.1 := by omega
  have hq := nx_lt (i := i) hne
  simp only [tmod_next hlt hP.few]
  rw [show (i + 1) % P.1 = nx P.1 i from rfl]
  simp only [Bool.cond_decide, ix_ok hlt, ix_ok hq, cond_true, Int.toNat_natCast, hval, cut0_lt hlt]
  split
  · exact tdec_none
  · have hn0 : ((P.1 : Nat) : Int) ≠ 0 := by omega
    try rw [if_pos hn0]
    have e8 := vsub_s (P.2 (nx P.1 i)) (P.2 i)
    rw [vsub_eq (a := P.2 (nx P.1 i)) (b := P.2 i) (hsP _) (hsP _), Option.bind_some]
    have hl2 : (fun i' => renL (lookF [] 34) (List.getD (List.map Rii.enc [((P.2 i).1, (P.2 i).2), ((P.2 (nx P.1 i)).1, (P.2 (nx P.1 i)).2)]) i' (Rii.enc (0, 0)))) = fun j => Rii.enc ([P.2 i, P.2 (nx P.1 i)].getD j (0, 0)) := lit_rows_ren _ (Rii_ren _) _ _
    rw [hl2]
    exact lmixed_loop 1000000 999997 P.1 b.pos (normOf P.1 P.2 i) (vsub (P.2 (nx P.1 i)) (P.2 i)) (P.2 i) (P.2 (nx P.1 i)) b.r s i hb.pos (normOf_s _ _ _) e8 (hP.s _) (hP.s _) hb.r.i hlt hP.few H hval hs _ _ _ _ _ _ _ _ _ _ _ _ _ _ _ _ _ _ _ _ _
end Go.Proofs.Ytejlappndcakeaa.Y
