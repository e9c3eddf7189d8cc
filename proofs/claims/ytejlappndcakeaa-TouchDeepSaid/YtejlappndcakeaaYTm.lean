/- touch.Of in plain words: a polygon and a circle, two polygons, by kinds. -/
import Derived.Test.YtejlappndcakeaaYLg
namespace Go.Proofs.Ytejlappndcakeaa.Y
open Go Go.RowKit Go.Proofs.Ytejlappndcakeaa.E Go.Proofs.Ytejlappndcakeaa.Ma Go.Proofs.Ytejlappndcakeaa.Fw
set_option linter.unusedVariables false
set_option linter.unusedSimpArgs false
set_option maxRecDepth 100000

abbrev Pl := Nat × (Nat → P2)
structure PlOk (P : Pl) : Prop where
  three : 3 ≤ P.1
  few : P.1 ≤ 1000
  s : ∀ i, S2 (P.2 i)
def nx (n i : Nat) : Nat := (i + 1) % n
theorem nx_lt {n i : Nat} (h : 0 < n) : nx n i < n := Nat.mod_lt _ h
def cornP (nrm a way : P2) (r key : Int) : Tch := if vlen way ≥ r then t0 else t1 (if vlen way = 0 then nrm else (vunit way).1) a (sub r (vlen way)) key
def gapI (P Q : Pl) : Int × Nat := gs (gOf P.1 P.2 Q.1 Q.2) P.1
theorem gapI_lt {P Q : Pl} (h : PlOk P) : (gapI P Q).2 < P.1 := gs_lt _ _ (by have := h.three; omega)
theorem gl_s (nv pv : P2) (q : Nat → P2) : ∀ m, S63 (gl nv pv q m)
  | 0 => by unfold gl S63; omega
  | m + 1 => by
    unfold gl
    split
    · exact dot_s _ _
    · exact gl_s nv pv q m
theorem gapI_s {P Q : Pl} (h : PlOk P) : S63 (gapI P Q).1 := by
  unfold gapI
  rw [gs_val _ _ (by have := h.three; omega)]
  exact gl_s _ _ _ _
def ptL (c : P2) : Pl := (1, fun i => [c].getD i (0, 0))
theorem ptL_s {c : P2} (h : S2 c) : ∀ i, S2 ((ptL c).2 i) := fun i => by
  cases i with
  | zero => exact h
  | succ i => show S2 (0, 0); unfold S2 S63; simp
/-- A polygon and a circle, the side and the gap being told. -/
def mixA (P : Pl) (c : P2) (r : Int) (i : Nat) (s : Int) : Tch :=
  if s ≥ r then t0 else
  if s ≤ 0 then t1 (normOf P.1 P.2 i) (vsub c (vscale (normOf P.1 P.2 i) r)) (sub r s) (16 + (i : Int)) else
  if dot (vsub c (P.2 i)) (vsub (P.2 (nx P.1 i)) (P.2 i)) ≤ 0 then cornP (normOf P.1 P.2 i) (P.2 i) (vsub c (P.2 i)) r (2 * (i : Int)) else
  if dot (vsub c (P.2 (nx P.1 i))) (vneg (vsub (P.2 (nx P.1 i)) (P.2 i))) ≤ 0 then cornP (normOf P.1 P.2 i) (P.2 (nx P.1 i)) (vsub c (P.2 (nx P.1 i))) r (2 * (i : Int) + 1) else
  t1 (normOf P.1 P.2 i) (vsub c (vscale (normOf P.1 P.2 i) r)) (sub r s) (16 + (i : Int))
def mixP (P : Pl) (c : P2) (r : Int) : Tch := mixA P c r (gapI P (ptL c)).2 (gapI P (ptL c)).1
theorem redec (r : Tch) : tdec (.tup [.agg [.val (.int .i64 r.1.1), .val (.int .i64 r.1.2.1), .lst 4 r.1.2.2.1 none (fun i => Riiii.enc (r.1.2.2.2 i))], .val (.bool r.2)]) = some r := tdec_some _ _ _ _ _ _
theorem vunit_2 (a : P2) : (vunit a).2 = !decide (vlen a = 0) := by
  unfold vunit
  split
  · rename_i h; simp [h]
  · rename_i h; simp [h]
theorem corn_eq {nrm a way : P2} {r key : Int} (hw : I2 way) (hr : I64 r) : touch.corner.f ((nrm.1, nrm.2), (a.1, a.2), (way.1, way.2), r, key) = some (cornP nrm a way r key) := by
  rw [touch.corner.eq, len_eq (a := way) hw, Option.bind_some]
  unfold cornP
  simp only [Bool.cond_decide]
  split
  · exact tdec_none
  · rw [unit_eq (a := way) hw, Option.bind_some, vunit_2]
    by_cases h : vlen way = 0
    · rw [if_pos h, decide_eq_true h, Bool.not_true, cond_false, sub_eq' hr (vlen_s _).i, Option.bind_some, one_eq, Option.bind_some]
      exact redec _
    · rw [if_neg h, decide_eq_false h, Bool.not_false, cond_true, sub_eq' hr (vlen_s _).i, Option.bind_some, one_eq, Option.bind_some]
      exact redec _
theorem small {i : Nat} (h : i ≤ 1000) : IntKind.i64.wrap (16 + (i : Int)) = 16 + (i : Int) ∧ IntKind.i64.wrap (2 * (i : Int)) = 2 * (i : Int) ∧ IntKind.i64.wrap (2 * (i : Int) + 1) = 2 * (i : Int) + 1 := by
  refine ⟨w64 ?_, w64 ?_, w64 ?_⟩ <;> (unfold I64; omega)
theorem mixed_eq (x0 x3 x4 ang x6 x7 kd r' y0 y3 y4 y5 y6 y7 y8 r : Int) (pos c : P2) (hp : I2 pos) (hc : S2 c) (hr : I64 r) (n : Nat) (hn : n ≤ 1000) (g : Nat → P2) (hg : ∀ i, i < n → I2 (g i)) (m : Nat) (g' : Nat → P2) (hP : PlOk (cornersP kd n g pos ang)) :
    touch.mixed.f ((x0, pos.1, pos.2, x3, x4, ang, x6, x7, kd, r', (n, fun i => Rii.enc (g i))), (y0, c.1, c.2, y3, y4, y5, y6, y7, y8, r, (m, fun i => Rii.enc (g' i)))) = some (mixP (cornersP kd n g pos ang) c r) := by
  rw [touch.mixed.eq, tcorners_eq _ _ _ _ _ _ _ _ pos hp n hn g hg, Option.bind_some]
  generalize cornersP kd n g pos ang = P at *
  have hr3 : (fun i => cloL (List.getD (List.map Rii.enc [(c.1, c.2)]) i (Rii.enc (0, 0)))) = fun i => Rii.enc ((ptL c).2 i) := lit_rows Rii_clo _ _
  have hsP := fun i => (hP.s i).i
  have hlt := gapI_lt (Q := ptL c) hP
  rw [hr3, Gap_eq hP.few (by omega) (fun i _ => hsP i) (fun i _ => (ptL_s hc i).i), Option.bind_some]
  have e : gs (gOf P.1 P.2 1 (ptL c).2) P.1 = gapI P (ptL c) := rfl
  rw [e]
  unfold mixP
  have hs := gapI_s (Q := ptL c) hP
  generalize gapI P (ptL c) = G at *
  obtain ⟨s, i⟩ := G
  simp only at hlt hs ⊢
  have hne : 0 < P.1 := by omega
  have hq := nx_lt (i := i) hne
  have sm := small (i := i) (by have := hP.few; omega)
  simp only [tmod_next hlt hP.few]
  rw [show (i + 1) % P.1 = nx P.1 i from rfl]
  simp only [Bool.cond_decide]
  unfold mixA
  split
  · exact tdec_none
  · rw [Normals_ex P.1 hP.few P.2 (fun i _ => hsP i), Option.bind_some]
    have hN := (normOf_s P.1 P.2 i)
    simp only [ix_ok hlt, ix_ok hq, cond_true, Int.toNat_natCast, cut0_lt hlt, sm.1, sm.2.1, sm.2.2]
    have hsI := hs.i
    have hfin : ((vec.Scale.f (((normOf P.1 P.2 i).1, (normOf P.1 P.2 i).2), r)).bind fun r16 => (vec.Sub.f ((c.1, c.2), (r16.1, r16.2))).bind fun r17 => (fix.Sub.f (r, s)).bind fun r18 =>
        (touch.one.f (((normOf P.1 P.2 i).1, (normOf P.1 P.2 i).2), (r17.1, r17.2), r18, 16 + (i : Int))).bind fun r19 => tdec (.tup [.agg [.val (.int .i64 r19.1.1), .val (.int .i64 r19.1.2.1), .lst 4 r19.1.2.2.1 none (fun i => Riiii.enc (r19.1.2.2.2 i))], .val (.bool r19.2)])) =
        some (t1 (normOf P.1 P.2 i) (vsub c (vscale (normOf P.1 P.2 i) r)) (sub r s) (16 + (i : Int))) := by
      rw [vscale_eq (a := normOf P.1 P.2 i) hN.i hr, Option.bind_some, vsub_eq (a := c) (b := vscale (normOf P.1 P.2 i) r) hc.i (vscale_s hN.i hr).i, Option.bind_some, sub_eq' hr hsI, Option.bind_some, one_eq, Option.bind_some]
      exact redec _
    have hn0 : ((P.1 : Nat) : Int) ≠ 0 := by omega
    split
    · exact hfin
    · try rw [if_pos hn0]
      have e8 := vsub_s (P.2 (nx P.1 i)) (P.2 i)
      have e9 := vsub_s c (P.2 i)
      have e10 := vsub_s c (P.2 (nx P.1 i))
      rw [vsub_eq (a := P.2 (nx P.1 i)) (b := P.2 i) (hsP _) (hsP _), Option.bind_some, vsub_eq (a := c) (b := P.2 i) hc.i (hsP _), Option.bind_some, vsub_eq (a := c) (b := P.2 (nx P.1 i)) hc.i (hsP _), Option.bind_some,
        dot_eq (a := vsub c (P.2 i)) (b := vsub (P.2 (nx P.1 i)) (P.2 i)) e9.i e8.i, Option.bind_some]
      split
      · rw [corn_eq (nrm := normOf P.1 P.2 i) (a := P.2 i) (way := vsub c (P.2 i)) e9.i hr, Option.bind_some]
        exact redec _
      · rw [vneg_eq (a := vsub (P.2 (nx P.1 i)) (P.2 i)) e8.i, Option.bind_some, dot_eq (a := vsub c (P.2 (nx P.1 i))) (b := vneg (vsub (P.2 (nx P.1 i)) (P.2 i))) e10.i (vneg_s e8.i).i, Option.bind_some]
        split
        · rw [corn_eq (nrm := normOf P.1 P.2 i) (a := P.2 (nx P.1 i)) (way := vsub c (P.2 (nx P.1 i))) e10.i hr, Option.bind_some]
          exact redec _
        · exact hfin

/-! ### Two polygons -/
def clipP (e : P2 × P2) (a way : P2) : Bool × (P2 × P2) :=
  if dot way (vsub e.1 a) < 0 then
    if dot way (vsub e.2 a) < 0 then (false, e) else (true, (vadd e.1 (vscale (vsub e.2 e.1) (div (dot way (vsub e.1 a)) (sub (dot way (vsub e.1 a)) (dot way (vsub e.2 a))))), e.2))
  else if dot way (vsub e.2 a) < 0 then (true, (e.1, vadd e.2 (vscale (vsub e.1 e.2) (div (dot way (vsub e.2 a)) (sub (dot way (vsub e.2 a)) (dot way (vsub e.1 a)))))))
  else (true, e)
theorem clipP_s {e : P2 × P2} {a way : P2} (h1 : S2 e.1) (h2 : S2 e.2) : S2 (clipP e a way).2.1 ∧ S2 (clipP e a way).2.2 := by
  unfold clipP
  repeat' split
  · exact ⟨h1, h2⟩
  · exact ⟨vadd_s _ _, h2⟩
  · exact ⟨h1, vadd_s _ _⟩
  · exact ⟨h1, h2⟩
theorem clip_eq {e : P2 × P2} {a way : P2} (h1 : I2 e.1) (h2 : I2 e.2) (ha : I2 a) (hw : I2 way) : touch.clip.f ((e.1.1, e.1.2, e.2.1, e.2.2), ((a.1, a.2), (way.1, way.2))) = some ((clipP e a way).1, ((clipP e a way).2.1.1, (clipP e a way).2.1.2, (clipP e a way).2.2.1, (clipP e a way).2.2.2)) := by
  have s1 := vsub_s e.1 a
  have s2 := vsub_s e.2 a
  rw [touch.clip.eq, vsub_eq (a := e.1) (b := a) h1 ha, Option.bind_some, dot_eq (a := way) (b := vsub e.1 a) hw s1.i, Option.bind_some, vsub_eq (a := e.2) (b := a) h2 ha, Option.bind_some, dot_eq (a := way) (b := vsub e.2 a) hw s2.i, Option.bind_some]
  have d1 := dot_s way (vsub e.1 a)
  have d2 := dot_s way (vsub e.2 a)
  unfold clipP
  simp only [Bool.cond_decide]
  generalize dot way (vsub e.1 a) = x at *
  generalize dot way (vsub e.2 a) = y at *
  have key : ∀ (b c : P2) (u v : Int), I2 b → I2 c → S63 u → S63 v → ((vec.Sub.f ((b.1, b.2), (c.1, c.2))).bind fun r5 => (fix.Sub.f (u, v)).bind fun r6 => (fix.Div.f (u, r6)).bind fun r7 => (vec.Scale.f ((r5.1, r5.2), r7)).bind fun r8 => (vec.Add.f ((c.1, c.2), (r8.1, r8.2)))) = some (vadd c (vscale (vsub b c) (div u (sub u v)))) := by
    intro b c u v hb hc hu hv
    have q1 := vsub_s b c
    have q2 := sub_s u v
    have q3 := div_s hu.i q2.i
    rw [vsub_eq (a := b) (b := c) hb hc, Option.bind_some, sub_eq' hu.i hv.i, Option.bind_some, div_eq hu.i q2.i, Option.bind_some, vscale_eq (a := vsub b c) q1.i q3.i, Option.bind_some, vadd_eq (a := c) (b := vscale _ _) hc (vscale_s q1.i q3.i).i]
  have fin1 : ((vec.Sub.f ((e.2.1, e.2.2), (e.1.1, e.1.2))).bind fun r5 => (fix.Sub.f (x, y)).bind fun r6 => (fix.Div.f (x, r6)).bind fun r7 => (vec.Scale.f ((r5.1, r5.2), r7)).bind fun r8 => (vec.Add.f ((e.1.1, e.1.2), (r8.1, r8.2))).bind fun r9 => some (true, (r9.1, r9.2, e.2.1, e.2.2))) =
      some (true, ((vadd e.1 (vscale (vsub e.2 e.1) (div x (sub x y)))).1, (vadd e.1 (vscale (vsub e.2 e.1) (div x (sub x y)))).2, e.2.1, e.2.2)) := by
    have := key e.2 e.1 x y h2 h1 d1 d2
    simp only [Option.bind_eq_some_iff] at this ⊢
    obtain ⟨a1, b1, a2, b2, a3, b3, a4, b4, b5⟩ := this
    exact ⟨a1, b1, a2, b2, a3, b3, a4, b4, _, b5, rfl⟩
  have fin2 : ((vec.Sub.f ((e.1.1, e.1.2), (e.2.1, e.2.2))).bind fun r5 => (fix.Sub.f (y, x)).bind fun r6 => (fix.Div.f (y, r6)).bind fun r7 => (vec.Scale.f ((r5.1, r5.2), r7)).bind fun r8 => (vec.Add.f ((e.2.1, e.2.2), (r8.1, r8.2))).bind fun r9 => some (true, (e.1.1, e.1.2, r9.1, r9.2))) =
      some (true, (e.1.1, e.1.2, (vadd e.2 (vscale (vsub e.1 e.2) (div y (sub y x)))).1, (vadd e.2 (vscale (vsub e.1 e.2) (div y (sub y x)))).2)) := by
    have := key e.1 e.2 y x h1 h2 d2 d1
    simp only [Option.bind_eq_some_iff] at this ⊢
    obtain ⟨a1, b1, a2, b2, a3, b3, a4, b4, b5⟩ := this
    exact ⟨a1, b1, a2, b2, a3, b3, a4, b4, _, b5, rfl⟩
  by_cases hx : x < 0
  · by_cases hy : y < 0
    · simp only [if_pos hx, if_pos hy]
    · simp only [if_pos hx, if_neg hy]; exact fin1
  · by_cases hy : y < 0
    · simp only [if_neg hx, if_pos hy]; exact fin2
    · simp only [if_neg hx, if_neg hy]
/-- The least one of the first i, and where it stands first. -/
def ls (h : Nat → Int) : Nat → Int × Nat
  | 0 => (0, 0)
  | i + 1 => if i = 0 ∨ h i < (ls h i).1 then (h i, i) else ls h i
theorem ls_lt (h : Nat → Int) : ∀ n, 0 < n → (ls h n).2 < n
  | 0, h0 => by omega
  | n + 1, _ => by
    unfold ls
    split
    · show n < n + 1; omega
    · rename_i hc
      have := ls_lt h n (by omega)
      omega
theorem ls_val (h : Nat → Int) : ∀ n, 0 < n → (ls h n).1 = h (ls h n).2
  | 0, h0 => by omega
  | n + 1, _ => by
    unfold ls
    split
    · rfl
    · exact ls_val h n (by omega)
theorem ls_congr {h g : Nat → Int} : ∀ n, (∀ i, i < n → h i = g i) → ls h n = ls g n
  | 0, _ => rfl
  | n + 1, e => by
    unfold ls
    rw [ls_congr n fun i hi => e i (by omega), e n (by omega)]
def edgeP (nv : P2) (Q : Pl) : Nat := (ls (fun j => dot nv (normOf Q.1 Q.2 j)) Q.1).2
theorem edgeP_lt {nv : P2} {Q : Pl} (h : PlOk Q) : edgeP nv Q < Q.1 := ls_lt _ _ (by have := h.three; omega)
def z4 : Int × Int × Int × Int := (0, 0, 0, 0)
/-- What is left of an edge, as a touch. -/
def endsP (nv v : P2) (c d : P2) (key : Int) : Tch :=
  if neg (dot nv (vsub c v)) > 0 then
    if neg (dot nv (vsub d v)) > 0 then ((nv.1, nv.2, 2, upd1 (upd1 (fun _ => z4) 0 (c.1, c.2, neg (dot nv (vsub c v)), key)) 1 (d.1, d.2, neg (dot nv (vsub d v)), key + 1)), true)
    else ((nv.1, nv.2, 1, upd1 (fun _ => z4) 0 (c.1, c.2, neg (dot nv (vsub c v)), key)), true)
  else if neg (dot nv (vsub d v)) > 0 then ((nv.1, nv.2, 1, upd1 (fun _ => z4) 0 (d.1, d.2, neg (dot nv (vsub d v)), key + 1)), true)
  else t0
def cutB (nv v w tt : P2) (e : P2 × P2) (key : Int) : Tch :=
  if (clipP e v tt).1 = false then t0 else
  if (clipP (clipP e v tt).2 w (vneg tt)).1 = false then t0 else
  endsP nv v (clipP (clipP e v tt).2 w (vneg tt)).2.1 (clipP (clipP e v tt).2 w (vneg tt)).2.2 key
def cutA (P : Pl) (i : Nat) (e : P2 × P2) (key : Int) : Tch := cutB (normOf P.1 P.2 i) (P.2 i) (P.2 (nx P.1 i)) (vunit (vsub (P.2 (nx P.1 i)) (P.2 i))).1 e key
def edgeOf (nv : P2) (Q : Pl) : P2 × P2 := (Q.2 (edgeP nv Q), Q.2 (nx Q.1 (edgeP nv Q)))
def cutP (P Q : Pl) (i : Nat) (key : Int) : Tch := cutA P i (edgeOf (normOf P.1 P.2 i) Q) key
def turnT (x : Tch) : Tch := (((vneg (x.1.1, x.1.2.1)).1, (vneg (x.1.1, x.1.2.1)).2, x.1.2.2), x.2)
def polyP (P Q : Pl) : Tch :=
  if (gapI P Q).1 ≥ 0 then t0 else if (gapI Q P).1 ≥ 0 then t0 else
  if (gapI P Q).1 ≥ (gapI Q P).1 then cutP P Q (gapI P Q).2 (32 + 2 * ((gapI P Q).2 : Int)) else
  if (cutP Q P (gapI Q P).2 (64 + 2 * ((gapI Q P).2 : Int))).2 = false then t0 else turnT (cutP Q P (gapI Q P).2 (64 + 2 * ((gapI Q P).2 : Int)))
end Go.Proofs.Ytejlappndcakeaa.Y
