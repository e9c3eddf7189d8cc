/- touch.cut, touch.polygons, touch.Of: what they give. -/
import Derived.Test.YtejlappndcakeaaYTm
namespace Go.Proofs.Ytejlappndcakeaa.Y
open Go Go.RowKit Go.Proofs.Ytejlappndcakeaa.E Go.Proofs.Ytejlappndcakeaa.Ma Go.Proofs.Ytejlappndcakeaa.Fw
set_option linter.unusedVariables false
set_option linter.unusedSimpArgs false
set_option maxRecDepth 100000

theorem z4_row : (fun _ : Nat => Riiii.enc (0, 0, 0, 0)) = fun i => Riiii.enc ((fun _ : Nat => z4) i) := rfl
theorem row1 (x : Int × Int × Int × Int) : (fun i => cloL (if i = 0 then Riiii.enc x else Riiii.enc (0, 0, 0, 0))) = fun i => Riiii.enc (upd1 (fun _ => z4) 0 x i) := row_upd_clo Riiii_clo (fun _ => z4) 0 x
theorem row2 (x y : Int × Int × Int × Int) : (fun i => cloL (if i = 1 then Riiii.enc y else if i = 0 then Riiii.enc x else Riiii.enc (0, 0, 0, 0))) = fun i => Riiii.enc (upd1 (upd1 (fun _ => z4) 0 x) 1 y i) := by
  rw [← row_upd_clo Riiii_clo (upd1 (fun _ => z4) 0 x) 1 y]
  funext i
  congr 1
  split
  · rfl
  · unfold upd1
    split <;> rfl
theorem cut_loop (nv v w tt : P2) (hN : S2 nv) (hv : S2 v) (hw : S2 w) (ht : S2 tt) (Q : Pl) (hQ : PlOk Q) (key : Int) (hk : 0 ≤ key ∧ key ≤ 100000) (N : Nat → P2) (hNq : ∀ j, j < Q.1 → N j = normOf Q.1 Q.2 j) (k0 : Nat) :
    ∀ (d i K : Nat), i + d = Q.1 → d < K →
    touch.cut.l0 k0 K v.1 v.2 w.1 w.2 nv.1 nv.2 tt.1 tt.2 Q.1 (fun i => Rii.enc (Q.2 i)) key ((ls (fun j => dot nv (N j)) i).2 : Int) (ls (fun j => dot nv (N j)) i).1 Q.1 (fun i => Rii.enc (N i)) (Q.1 : Int) (i : Int) = some (cutB nv v w tt (edgeOf nv Q) key)
  | 0, i, K, h1, h2 => by
    obtain ⟨K, rfl⟩ : ∃ m, K = m + 1 := ⟨K - 1, by omega⟩
    have : i = Q.1 := by omega
    subst this
    have e0 : ls (fun j => dot nv (N j)) Q.1 = ls (fun j => dot nv (normOf Q.1 Q.2 j)) Q.1 := ls_congr _ fun j hj => by rw [hNq j hj]
    have hlt := edgeP_lt (nv := nv) hQ
    have hne : 0 < Q.1 := by omega
    have hq := nx_lt (i := edgeP nv Q) hne
    have sQ := hQ.s
    rw [touch.cut.l0_eq, e0]
    have ee : (ls (fun j => dot nv (normOf Q.1 Q.2 j)) Q.1).2 = edgeP nv Q := rfl
    rw [ee]
    simp only [tmod_next hlt hQ.few]
    rw [show (edgeP nv Q + 1) % Q.1 = nx Q.1 (edgeP nv Q) from rfl]
    simp only [Bool.cond_decide, ix_ok hlt, ix_ok hq, cond_true, Int.toNat_natCast]
    rw [if_neg (by omega), if_pos (show ((Q.1 : Nat) : Int) ≠ 0 by omega)]
    have c1 := clip_eq (e := edgeOf nv Q) (a := v) (way := tt) (sQ _).i (sQ _).i hv.i ht.i
    have s1 := clipP_s (e := edgeOf nv Q) (a := v) (way := tt) (sQ _) (sQ _)
    simp only [edgeOf] at c1
    rw [c1, Option.bind_some]
    have fold : clipP (Q.2 (edgeP nv Q), Q.2 (nx Q.1 (edgeP nv Q))) v tt = clipP (edgeOf nv Q) v tt := rfl
    rw [fold]
    unfold cutB
    generalize clipP (edgeOf nv Q) v tt = C at *
    obtain ⟨ok, c⟩ := C
    simp only at s1 ⊢
    cases ok with
    | false => rw [if_pos rfl, Bool.not_false, cond_true]; exact tdec_none
    | true =>
      rw [if_neg (by decide), Bool.not_true, cond_false, vneg_eq (a := tt) ht.i, Option.bind_some]
      have c2 := clip_eq (e := c) (a := w) (way := vneg tt) s1.1.i s1.2.i hw.i (vneg_s ht.i).i
      have s2 := clipP_s (e := c) (a := w) (way := vneg tt) s1.1 s1.2
      rw [c2, Option.bind_some]
      generalize clipP c w (vneg tt) = C at *
      obtain ⟨ok, b⟩ := C
      simp only at s2 ⊢
      cases ok with
      | false => rw [if_pos rfl, Bool.not_false, cond_true]; exact tdec_none
      | true =>
        have k0' : IntKind.i64.wrap (key + 0) = key := by rw [w64 (by unfold I64; omega)]; omega
        have k1' : IntKind.i64.wrap (key + 1) = key + 1 := w64 (by unfold I64; omega)
        have q1 := vsub_s b.1 v
        have q2 := vsub_s b.2 v
        have hA : vec.Sub.f ((b.1.1, b.1.2), (v.1, v.2)) = some (vsub b.1 v) := vsub_eq (a := b.1) (b := v) s2.1.i hv.i
        have hB : vec.Sub.f ((b.2.1, b.2.2), (v.1, v.2)) = some (vsub b.2 v) := vsub_eq (a := b.2) (b := v) s2.2.i hv.i
        have hC : vec.Dot.f ((nv.1, nv.2), ((vsub b.1 v).1, (vsub b.1 v).2)) = some (dot nv (vsub b.1 v)) := dot_eq (a := nv) (b := vsub b.1 v) hN.i q1.i
        have hD : vec.Dot.f ((nv.1, nv.2), ((vsub b.2 v).1, (vsub b.2 v).2)) = some (dot nv (vsub b.2 v)) := dot_eq (a := nv) (b := vsub b.2 v) hN.i q2.i
        have hE : fix.Neg.f (dot nv (vsub b.1 v)) = some (neg (dot nv (vsub b.1 v))) := neg_eq (dot_s _ _).i
        have hF : fix.Neg.f (dot nv (vsub b.2 v)) = some (neg (dot nv (vsub b.2 v))) := neg_eq (dot_s _ _).i
        rw [if_neg (by decide), Bool.not_true, cond_false]
        simp only [hA, hB, hC, hD, hE, hF, Option.bind_some, k0', k1', row1, row2]
        unfold endsP
        generalize neg (dot nv (vsub b.1 v)) = x
        generalize neg (dot nv (vsub b.2 v)) = y
        by_cases hx : x > 0
        · by_cases hy : y > 0
          · simp only [if_pos hx, if_pos hy]; exact tdec_some _ _ _ _ _ _
          · simp only [if_pos hx, if_neg hy]; exact tdec_some _ _ _ _ _ _
        · by_cases hy : y > 0
          · simp only [if_neg hx, if_pos hy]; exact tdec_some _ _ _ _ _ _
          · simp only [if_neg hx, if_neg hy]; exact tdec_none
  | d + 1, i, K, h1, h2 => by
    obtain ⟨K, rfl⟩ : ∃ m, K = m + 1 := ⟨K - 1, by omega⟩
    have hi : i < Q.1 := by omega
    have ih := cut_loop nv v w tt hN hv hw ht Q hQ key hk N hNq k0 d (i + 1) K (by omega) (by omega)
    have sN : S2 (N i) := by rw [hNq i hi]; exact normOf_s _ _ _
    rw [touch.cut.l0_eq]
    simp only [Bool.cond_decide, ix_ok hi, cond_true, Int.toNat_natCast, wsucc hi hQ.few]
    rw [if_pos (by omega), dot_eq (a := nv) (b := N i) hN.i sN.i, Option.bind_some]
    have e : ls (fun j => dot nv (N j)) (i + 1) = if i = 0 ∨ dot nv (N i) < (ls (fun j => dot nv (N j)) i).1 then (dot nv (N i), i) else ls (fun j => dot nv (N j)) i := rfl
    rw [e] at ih
    by_cases h0 : i = 0
    · rw [if_pos (.inl h0)] at ih
      have : ((i : Int) == 0) = true := by simp [h0]
      rw [this, cond_true]
      exact ih
    · have : ((i : Int) == 0) = false := by simp [h0]
      rw [this, cond_false]
      split
      · rename_i hc; rw [if_pos (.inr hc)] at ih; exact ih
      · rename_i hc; rw [if_neg (by omega)] at ih; exact ih
theorem cut_eq {P Q : Pl} (hP : PlOk P) (hQ : PlOk Q) {i : Nat} (hi : i < P.1) (key : Int) (hk : 0 ≤ key ∧ key ≤ 100000) : touch.cut.f ((P.1, fun i => Rii.enc (P.2 i)), (Q.1, fun i => Rii.enc (Q.2 i)), (i : Int), key) = some (cutP P Q i key) := by
  have hne : 0 < P.1 := by omega
  have hq := nx_lt (i := i) hne
  have sP := hP.s
  show touch.cut.g 1000000 _ = _
  rw [touch.cut.eq]
  simp only [tmod_next hi hP.few]
  rw [show (i + 1) % P.1 = nx P.1 i from rfl]
  simp only [Bool.cond_decide, ix_ok hi, ix_ok hq, cond_true, Int.toNat_natCast]
  rw [if_pos (show ((P.1 : Nat) : Int) ≠ 0 by omega), Normals_ex P.1 hP.few P.2 (fun i _ => (sP i).i), Option.bind_some]
  simp only [ix_ok hi, cond_true]
  have e1 := vsub_s (P.2 (nx P.1 i)) (P.2 i)
  rw [vsub_eq (a := P.2 (nx P.1 i)) (b := P.2 i) (sP _).i (sP _).i, Option.bind_some, unit_eq (a := vsub (P.2 (nx P.1 i)) (P.2 i)) e1.i, Option.bind_some, Normals_ex Q.1 hQ.few Q.2 (fun i _ => (hQ.s i).i), Option.bind_some]
  simp only [cut0_lt hi]
  exact cut_loop (normOf P.1 P.2 i) (P.2 i) (P.2 (nx P.1 i)) (vunit (vsub (P.2 (nx P.1 i)) (P.2 i))).1 (normOf_s _ _ _) (sP _) (sP _) (vunit_s e1.i) Q hQ key hk (cut0 (0, 0) Q.1 (normOf Q.1 Q.2)) (fun j hj => cut0_lt hj) 1000000 Q.1 0 1000000 (by omega) (by have := hQ.few; omega)
theorem cutB_n {nv v w tt : P2} {e : P2 × P2} {key : Int} (hN : S2 nv) : I2 ((cutB nv v w tt e key).1.1, (cutB nv v w tt e key).1.2.1) := by
  have z : I2 ((0 : Int), (0 : Int)) := by unfold I2 I64; simp
  unfold cutB endsP
  repeat' split
  all_goals first | exact z | exact hN.i
theorem turned_eq (x : Tch) (h : I2 (x.1.1, x.1.2.1)) (h2 : x.2 = true) : touch.turned.f ((x.1.1, x.1.2.1, (x.1.2.2.1, fun i => Riiii.enc (x.1.2.2.2 i))), true) = some (turnT x) := by
  rw [touch.turned.eq, vneg_eq h, Option.bind_some]
  unfold turnT
  rw [h2]
  exact tdec_some _ _ _ _ _ _
theorem polygons_eq {P Q : Pl} (hP : PlOk P) (hQ : PlOk Q) : touch.polygons.f ((P.1, fun i => Rii.enc (P.2 i)), (Q.1, fun i => Rii.enc (Q.2 i))) = some (polyP P Q) := by
  have hl1 := gapI_lt (Q := Q) hP
  have hl2 := gapI_lt (Q := P) hQ
  have f1 := hP.few
  have f2 := hQ.few
  rw [touch.polygons.eq, Gap_eq hP.few hQ.few (fun i _ => (hP.s i).i) (fun i _ => (hQ.s i).i), Option.bind_some, Gap_eq hQ.few hP.few (fun i _ => (hQ.s i).i) (fun i _ => (hP.s i).i), Option.bind_some]
  have e1 : gs (gOf P.1 P.2 Q.1 Q.2) P.1 = gapI P Q := rfl
  have e2 : gs (gOf Q.1 Q.2 P.1 P.2) Q.1 = gapI Q P := rfl
  rw [e1, e2]
  unfold polyP
  generalize gapI P Q = G at *
  generalize gapI Q P = H at *
  simp only [Bool.cond_decide]
  have w1 : IntKind.i64.wrap (32 + IntKind.i64.wrap (2 * (G.2 : Int))) = 32 + 2 * (G.2 : Int) := by rw [w64 (x := 2 * (G.2 : Int)) (by unfold I64; omega), w64 (by unfold I64; omega)]
  have w2 : IntKind.i64.wrap (64 + IntKind.i64.wrap (2 * (H.2 : Int))) = 64 + 2 * (H.2 : Int) := by rw [w64 (x := 2 * (H.2 : Int)) (by unfold I64; omega), w64 (by unfold I64; omega)]
  split
  · exact tdec_none
  · split
    · exact tdec_none
    · split
      · rw [w1, cut_eq hP hQ hl1 _ (by omega), Option.bind_some]
        exact redec _
      · rw [w2, cut_eq hQ hP hl2 _ (by omega), Option.bind_some]
        have hn : I2 ((cutP Q P H.2 (64 + 2 * (H.2 : Int))).1.1, (cutP Q P H.2 (64 + 2 * (H.2 : Int))).1.2.1) := cutB_n (normOf_s _ _ _)
        generalize cutP Q P H.2 (64 + 2 * (H.2 : Int)) = x at *
        cases hx : x.2 with
        | false => rw [if_pos rfl, Bool.not_false, cond_true]; exact tdec_none
        | true =>
          rw [if_neg (by decide), Bool.not_true, cond_false, turned_eq x hn hx, Option.bind_some]
          exact redec _

/-! ### By kinds -/
structure Bd where
  kd : Int
  r : Int
  n : Nat
  g : Nat → P2
  pos : P2
  ang : Int
noncomputable def Bd.pl (b : Bd) : Pl := cornersP b.kd b.n b.g b.pos b.ang
structure BdOk (b : Bd) : Prop where
  kind : b.kd = 1 ∨ b.kd = 2
  r : S63 b.r
  pos : S2 b.pos
  few : b.n ≤ 1000
  g : ∀ i, i < b.n → I2 (b.g i)
  three : b.kd = 2 → 3 ≤ b.n
theorem BdOk.pl {b : Bd} (h : BdOk b) (h2 : b.kd = 2) : PlOk b.pl := by
  refine ⟨?_, cornersP_n _ _ _ _ _ h.few, cornersP_s _ _ _ _ _⟩
  unfold Bd.pl cornersP
  rw [if_pos h2]
  exact h.three h2
noncomputable def ofP (a b : Bd) : Tch :=
  if a.kd = 1 then
    if b.kd = 1 then circP a.pos a.r b.pos b.r
    else if (mixP b.pl a.pos a.r).2 = false then ((mixP b.pl a.pos a.r).1, false) else turnT (mixP b.pl a.pos a.r)
  else if b.kd = 1 then mixP a.pl b.pos b.r else polyP a.pl b.pl
theorem mix_n {P : Pl} {c : P2} {r : Int} (hc : S2 c) : I2 ((mixP P c r).1.1, (mixP P c r).1.2.1) := by
  have z : I2 ((0 : Int), (0 : Int)) := by unfold I2 I64; simp
  have co : ∀ {nrm a way : P2} {r key : Int}, S2 nrm → I2 way → I2 ((cornP nrm a way r key).1.1, (cornP nrm a way r key).1.2.1) := by
    intro nrm a way r key h1 h2
    unfold cornP
    split
    · exact z
    · show I2 (if vlen way = 0 then nrm else (vunit way).1)
      split
      · exact h1.i
      · exact (vunit_s h2).i
  unfold mixP mixA
  repeat' split
  · exact z
  · exact (normOf_s _ _ _).i
  · exact co (normOf_s _ _ _) (vsub_s _ _).i
  · exact co (normOf_s _ _ _) (vsub_s _ _).i
  · exact (normOf_s _ _ _).i
theorem Of_eq {a b : Bd} (ha : BdOk a) (hb : BdOk b) (x0 x3 x4 x6 x7 y0 y3 y4 y6 y7 : Int) :
    touch.Of.f ((x0, a.pos.1, a.pos.2, x3, x4, a.ang, x6, x7, a.kd, a.r, (a.n, fun i => Rii.enc (a.g i))), (y0, b.pos.1, b.pos.2, y3, y4, b.ang, y6, y7, b.kd, b.r, (b.n, fun i => Rii.enc (b.g i)))) = some (ofP a b) := by
  unfold ofP
  by_cases h1 : a.kd = 1
  · by_cases h2 : b.kd = 1
    · rw [if_pos h1, if_pos h2, h1, h2]
      exact of_circ ha.pos.i hb.pos.i ha.r.i hb.r.i _ _ _ _ _ _ _ _ _ _ _ _ _ _ _ _
    · have hb2 : b.kd = 2 := by have := hb.kind; omega
      rw [if_pos h1, if_neg h2, touch.Of.eq]
      have e1 : (a.kd == 1) = true := by simp [h1]
      have e2 : (b.kd == 1) = false := by simp [h2]
      simp only [e1, e2, cond_true, cond_false]
      rw [mixed_eq _ _ _ _ _ _ _ _ _ _ _ _ _ _ _ _ b.pos a.pos hb.pos.i ha.pos ha.r.i b.n hb.few b.g hb.g a.n a.g (hb.pl hb2), Option.bind_some]
      have hn := mix_n (P := b.pl) (r := a.r) ha.pos
      have ef : cornersP b.kd b.n b.g b.pos b.ang = b.pl := rfl
      rw [ef]
      generalize mixP b.pl a.pos a.r = x at *
      cases hx : x.2 with
      | false => rw [if_pos rfl, Bool.not_false, cond_true]; exact tdec_some _ _ _ _ _ _
      | true =>
        rw [if_neg (by decide), Bool.not_true, cond_false, turned_eq x hn hx, Option.bind_some]
        exact redec _
  · have ha2 : a.kd = 2 := by have := ha.kind; omega
    have e1 : (a.kd == 1) = false := by simp [h1]
    rw [if_neg h1, touch.Of.eq]
    simp only [e1, cond_false]
    by_cases h2 : b.kd = 1
    · have e2 : (b.kd == 1) = true := by simp [h2]
      rw [if_pos h2]
      simp only [e2, cond_true]
      rw [mixed_eq _ _ _ _ _ _ _ _ _ _ _ _ _ _ _ _ a.pos b.pos ha.pos.i hb.pos hb.r.i a.n ha.few a.g ha.g b.n b.g (ha.pl ha2), Option.bind_some]
      exact redec _
    · have hb2 : b.kd = 2 := by have := hb.kind; omega
      have e2 : (b.kd == 1) = false := by simp [h2]
      rw [if_neg h2]
      simp only [e2, cond_false]
      rw [tcorners_eq _ _ _ _ _ _ _ _ a.pos ha.pos.i a.n ha.few a.g ha.g, Option.bind_some, tcorners_eq _ _ _ _ _ _ _ _ b.pos hb.pos.i b.n hb.few b.g hb.g, Option.bind_some]
      have := polygons_eq (ha.pl ha2) (hb.pl hb2)
      unfold Bd.pl at this ⊢
      rw [this, Option.bind_some]
      exact redec _
/-- A place's body, in short. -/
theorem Body_bd (a b c d e f ang : Int) : ∃ B : Bd, BdOk B ∧ law06.Place.Body.f (a, b, c, d, e, f, ang) = some (0, B.pos.1, B.pos.2, 0, 0, B.ang, 0, 0, B.kd, B.r, B.n, B.g) ∧ B.kd = seedKd a ∧ B.pos = bodyPos e f ∧ B.ang = ang % 4294967296 ∧ B.r = seedR a c ∧ B.n = seedN a b ∧ ∀ i, i < B.n → B.g i = seedPt a b c d i := by
  obtain ⟨g, h1, h2⟩ := Body_eq a b c d e f ang
  have hp := bodyPos_b e f
  have hn := seedN_b a b
  refine ⟨⟨seedKd a, seedR a c, seedN a b, g, bodyPos e f, ang % 4294967296⟩, ⟨?_, ?_, ?_, ?_, seed_i h2, fun h => ?_⟩, h1, rfl, rfl, rfl, rfl, rfl, h2⟩
  · show seedKd a = 1 ∨ seedKd a = 2
    unfold seedKd
    split
    · exact .inl rfl
    · exact .inr rfl
  · show S63 (seedR a c)
    unfold seedR S63
    split <;> omega
  · show S2 (bodyPos e f)
    unfold S2 S63; omega
  · show seedN a b ≤ 1000
    omega
  · show 3 ≤ seedN a b
    have h' : seedKd a = 2 := h
    unfold seedKd at h'
    unfold seedN
    split at h'
    · omega
    · rename_i h0
      rw [if_neg h0]
      split <;> omega
end Go.Proofs.Ytejlappndcakeaa.Y
