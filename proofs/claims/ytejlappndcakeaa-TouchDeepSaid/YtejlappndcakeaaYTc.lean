/- Two circles; the law's fit; what two circles give. -/
import Derived.Test.YtejlappndcakeaaYTg
namespace Go.Proofs.Ytejlappndcakeaa.Y
open Go Go.RowKit Go.Proofs.Ytejlappndcakeaa.E Go.Proofs.Ytejlappndcakeaa.Ma Go.Proofs.Ytejlappndcakeaa.Fw
set_option linter.unusedVariables false
set_option linter.unusedSimpArgs false
set_option maxRecDepth 100000

abbrev Tch := (Int × Int × (Nat × (Nat → (Int × Int × Int × Int)))) × Bool
noncomputable abbrev tdec : AV → Option Tch := (tT (tCons (tG (tCons (tI .i64) (tCons (tI .i64) (tOne (tTL Riiii 4 (0, 0, 0, 0)))))) (tOne tB))).dec
def t0 : Tch := ((0, 0, 0, fun _ => (0, 0, 0, 0)), false)
def lit1 (x : Int × Int × Int × Int) : Nat → Int × Int × Int × Int := fun i => [x].getD i (0, 0, 0, 0)
def t1 (nv at_ : P2) (d key : Int) : Tch := ((nv.1, nv.2, 1, lit1 (at_.1, at_.2, d, key)), true)
theorem tdec_none : tdec (.tup [.agg [.val (.int .i64 0), .val (.int .i64 0), .val (.slice none 0 0)], .val (.bool false)]) = some t0 := by
  simp only [dec_tT, dec_tG, dec_tCons, dec_tOne, dec_tI, dec_tB, dec_tTL0, Option.bind_some]; rfl
theorem tdec_some (a b : Int) (n : Nat) (c : Option Nat) (g : Nat → Int × Int × Int × Int) (ok : Bool) : tdec (.tup [.agg [.val (.int .i64 a), .val (.int .i64 b), .lst 4 n c (fun i => Riiii.enc (g i))], .val (.bool ok)]) = some ((a, b, n, g), ok) := by
  simp only [dec_tT, dec_tG, dec_tCons, dec_tOne, dec_tI, dec_tB, dec_tTL, decRows_enc Riiii_dec, Option.bind_some]
theorem tdec_lit (a b : Int) (c : Option Nat) (x : Int × Int × Int × Int) (ok : Bool) : tdec (.tup [.agg [.val (.int .i64 a), .val (.int .i64 b), .lst 4 1 c (fun i => cloL (List.getD (List.map Riiii.enc [x]) i (Riiii.enc (0, 0, 0, 0))))], .val (.bool ok)]) = some ((a, b, 1, lit1 x), ok) := by
  have h := decRows_lit Riiii_dec Riiii_clo (0, 0, 0, 0) [x]
  simp only [dec_tT, dec_tG, dec_tCons, dec_tOne, dec_tI, dec_tB, dec_tTL, Option.bind_some]
  have h' : decRows Riiii (0, 0, 0, 0) 1 (fun i => cloL (List.getD (List.map Riiii.enc [x]) i (Riiii.enc (0, 0, 0, 0)))) = some (1, lit1 x) := h
  rw [h']; rfl
theorem one_eq (nv a : P2) (d key : Int) : touch.one.f ((nv.1, nv.2), (a.1, a.2), d, key) = some (t1 nv a d key) := by
  rw [touch.one.eq]; exact tdec_lit _ _ _ _ _
theorem point_eq (nv a : P2) (d key : Int) : law07.point.f ((nv.1, nv.2), (a.1, a.2), d, key) = some (t1 nv a d key) := by
  rw [law07.point.eq]; exact tdec_lit _ _ _ _ _
theorem of2 : fix.Of.f 2 = some 8589934592 := by rw [fix.Of.eq]; rfl

theorem circles_raw (p0_0 : Int) (p0_1 : Int) (p0_2 : Int) (p0_3 : Int) (p0_4 : Int) (p0_5 : Int) (p0_6 : Int) (p0_7 : Int) (p0_8 : Int) (p0_9 : Int) (n : Nat) (G : Nat → List AV) (p1_0 : Int) (p1_1 : Int) (p1_2 : Int) (p1_3 : Int) (p1_4 : Int) (p1_5 : Int) (p1_6 : Int) (p1_7 : Int) (p1_8 : Int) (p1_9 : Int) (m : Nat) (G' : Nat → List AV) : touch.circles.f ((p0_0, p0_1, p0_2, p0_3, p0_4, p0_5, p0_6, p0_7, p0_8, p0_9, (n, G)), (p1_0, p1_1, p1_2, p1_3, p1_4, p1_5, p1_6, p1_7, p1_8, p1_9, (m, G'))) =
  (vec.Sub.f ((p1_1, p1_2), (p0_1, p0_2))).bind fun r1 =>
  (vec.Len.f (r1.1, r1.2)).bind fun r2 =>
  (fix.Add.f (p0_9, p1_9)).bind fun r3 =>
  bif (decide (r2 ≥ r3)) then
    tdec (.tup [.agg [.val (.int .i64 0), .val (.int .i64 0), .val (.slice none 0 0)], .val (.bool false)])
  else
  (vec.Unit.f (r1.1, r1.2)).bind fun r4 =>
  bif (!r4.2) then
    (fix.Sub.f (r3, r2)).bind fun r5 =>
    (fix.Of.f 2).bind fun r6 =>
    (fix.Div.f (r5, r6)).bind fun r7 =>
    (fix.Sub.f (p0_9, r7)).bind fun r8 =>
    (vec.Scale.f ((4294967296, 0), r8)).bind fun r9 =>
    (vec.Add.f ((p0_1, p0_2), (r9.1, r9.2))).bind fun r10 =>
    (touch.one.f ((4294967296, 0), (r10.1, r10.2), r5, 0)).bind fun r11 =>
    tdec (.tup [.agg [.val (.int .i64 r11.1.1), .val (.int .i64 r11.1.2.1), .lst 4 r11.1.2.2.1 none (fun i => Riiii.enc (r11.1.2.2.2 i))], .val (.bool r11.2)])
  else
  (fix.Sub.f (r3, r2)).bind fun r12 =>
  (fix.Of.f 2).bind fun r13 =>
  (fix.Div.f (r12, r13)).bind fun r14 =>
  (fix.Sub.f (p0_9, r14)).bind fun r15 =>
  (vec.Scale.f ((r4.1.1, r4.1.2), r15)).bind fun r16 =>
  (vec.Add.f ((p0_1, p0_2), (r16.1, r16.2))).bind fun r17 =>
  (touch.one.f ((r4.1.1, r4.1.2), (r17.1, r17.2), r12, 0)).bind fun r18 =>
  tdec (.tup [.agg [.val (.int .i64 r18.1.1), .val (.int .i64 r18.1.2.1), .lst 4 r18.1.2.2.1 none (fun i => Riiii.enc (r18.1.2.2.2 i))], .val (.bool r18.2)]) := by kernel_rfl
theorem of_raw (p0_0 p0_1 p0_2 p0_3 p0_4 p0_5 p0_6 p0_7 p0_9 : Int) (n : Nat) (G : Nat → List AV) (p1_0 p1_1 p1_2 p1_3 p1_4 p1_5 p1_6 p1_7 p1_9 : Int) (m : Nat) (G' : Nat → List AV) :
    touch.Of.f ((p0_0, p0_1, p0_2, p0_3, p0_4, p0_5, p0_6, p0_7, 1, p0_9, (n, G)), (p1_0, p1_1, p1_2, p1_3, p1_4, p1_5, p1_6, p1_7, 1, p1_9, (m, G'))) =
      (touch.circles.f ((p0_0, p0_1, p0_2, p0_3, p0_4, p0_5, p0_6, p0_7, 1, p0_9, (n, G)), (p1_0, p1_1, p1_2, p1_3, p1_4, p1_5, p1_6, p1_7, 1, p1_9, (m, G')))).bind fun r1 =>
      tdec (.tup [.agg [.val (.int .i64 r1.1.1), .val (.int .i64 r1.1.2.1), .lst 4 r1.1.2.2.1 none (fun i => Riiii.enc (r1.1.2.2.2 i))], .val (.bool r1.2)]) := by kernel_rfl

/-- Two circles. -/
def circP (pa : P2) (ra : Int) (pb : P2) (rb : Int) : Tch :=
  let d := vsub pb pa
  if vlen d ≥ add ra rb then t0 else
    let u := if vlen d = 0 then (4294967296, 0) else (div d.1 (vlen d), div d.2 (vlen d))
    let depth := sub (add ra rb) (vlen d)
    t1 u (vadd pa (vscale u (sub ra (div depth 8589934592)))) depth 0
theorem circles_eq {pa pb : P2} {ra rb : Int} (ha : I2 pa) (hb : I2 pb) (hra : I64 ra) (hrb : I64 rb) (x0 x3 x4 x5 x6 x7 x8 y0 y3 y4 y5 y6 y7 y8 : Int) (n m : Nat) (G G' : Nat → List AV) :
    touch.circles.f ((x0, pa.1, pa.2, x3, x4, x5, x6, x7, x8, ra, (n, G)), (y0, pb.1, pb.2, y3, y4, y5, y6, y7, y8, rb, (m, G'))) = some (circP pa ra pb rb) := by
  have hd := vsub_s pb pa
  have hs := (add_s ra rb).i
  rw [circles_raw, vsub_eq (a := pb) (b := pa) hb ha, Option.bind_some, len_eq (a := vsub pb pa) hd.i, Option.bind_some, add_eq' hra hrb, Option.bind_some]
  unfold circP
  simp only [Bool.cond_decide]
  split
  · exact tdec_none
  · rw [unit_eq (a := vsub pb pa) hd.i, Option.bind_some, sub_eq' hs (vlen_s _).i]
    have hsub := (sub_s (add ra rb) (vlen (vsub pb pa))).i
    have h8 : I64 8589934592 := by unfold I64; omega
    have fin : ∀ u : P2, I2 u → ((some (sub (add ra rb) (vlen (vsub pb pa)))).bind fun r5 => (fix.Of.f 2).bind fun r6 => (fix.Div.f (r5, r6)).bind fun r7 => (fix.Sub.f (ra, r7)).bind fun r8 => (vec.Scale.f ((u.1, u.2), r8)).bind fun r9 => (vec.Add.f ((pa.1, pa.2), (r9.1, r9.2))).bind fun r10 =>
        (touch.one.f ((u.1, u.2), (r10.1, r10.2), r5, 0)).bind fun r11 => tdec (.tup [.agg [.val (.int .i64 r11.1.1), .val (.int .i64 r11.1.2.1), .lst 4 r11.1.2.2.1 none (fun i => Riiii.enc (r11.1.2.2.2 i))], .val (.bool r11.2)])) =
        some (t1 u (vadd pa (vscale u (sub ra (div (sub (add ra rb) (vlen (vsub pb pa))) 8589934592)))) (sub (add ra rb) (vlen (vsub pb pa))) 0) := by
      intro u hu
      have hdv := (div_s hsub h8).i
      have hsr := (sub_s ra (div (sub (add ra rb) (vlen (vsub pb pa))) 8589934592)).i
      rw [Option.bind_some, of2, Option.bind_some, div_eq hsub h8, Option.bind_some, sub_eq' hra hdv, Option.bind_some, vscale_eq (a := u) hu hsr, Option.bind_some, vadd_eq (a := pa) (b := vscale u _) ha (vscale_s hu hsr).i, Option.bind_some, one_eq, Option.bind_some]
      exact tdec_some _ _ _ _ _ _
    unfold vunit
    by_cases h0 : vlen (vsub pb pa) = 0
    · rw [if_pos h0, if_pos h0]
      have := fin (4294967296, 0) (by unfold I2 I64; simp)
      simp only [Bool.not_false, cond_true] at this ⊢
      exact this
    · rw [if_neg h0, if_neg h0]
      simp only [Bool.not_true, cond_false]
      exact fin (div (vsub pb pa).1 (vlen (vsub pb pa)), div (vsub pb pa).2 (vlen (vsub pb pa))) ⟨(div_s hd.i.1 (vlen_s _).i).i, (div_s hd.i.2 (vlen_s _).i).i⟩
theorem of_circ {pa pb : P2} {ra rb : Int} (ha : I2 pa) (hb : I2 pb) (hra : I64 ra) (hrb : I64 rb) (x0 x3 x4 x5 x6 x7 y0 y3 y4 y5 y6 y7 : Int) (n m : Nat) (G G' : Nat → List AV) :
    touch.Of.f ((x0, pa.1, pa.2, x3, x4, x5, x6, x7, 1, ra, (n, G)), (y0, pb.1, pb.2, y3, y4, y5, y6, y7, 1, rb, (m, G'))) = some (circP pa ra pb rb) := by
  rw [of_raw, circles_eq ha hb hra hrb, Option.bind_some]
  exact tdec_some _ _ _ _ _ _
/-! ### The law's fit -/
theorem fit1 : circP (0, 0) 4294967296 (4294967296, 0) 4294967296 = t1 (4294967296, 0) (2147483648, 0) 4294967296 0 := by
  have e : vlen (vsub ((4294967296 : Int), (0 : Int)) (0, 0)) = 4294967296 := by decide +kernel
  unfold circP
  simp only [e]
  rw [if_neg (by decide)]
  have e2 : (vadd (0, 0) (vscale (if (4294967296 : Int) = 0 then (4294967296, 0) else (div (vsub ((4294967296 : Int), (0 : Int)) (0, 0)).1 4294967296, div (vsub ((4294967296 : Int), (0 : Int)) (0, 0)).2 4294967296)) (sub 4294967296 (div (sub (add 4294967296 4294967296) 4294967296) 8589934592)))) = (2147483648, 0) := by decide +kernel
  have e3 : (if (4294967296 : Int) = 0 then (4294967296, 0) else (div (vsub ((4294967296 : Int), (0 : Int)) (0, 0)).1 4294967296, div (vsub ((4294967296 : Int), (0 : Int)) (0, 0)).2 4294967296)) = ((4294967296 : Int), (0 : Int)) := by decide +kernel
  have e4 : sub (add 4294967296 4294967296) 4294967296 = 4294967296 := by decide
  rw [e2, e3, e4]
theorem fit2 : circP (0, 0) 4294967296 (12884901888, 0) 4294967296 = t0 := by
  have e : vlen (vsub ((12884901888 : Int), (0 : Int)) (0, 0)) = 12884901888 := by decide +kernel
  unfold circP
  simp only [e]
  rw [if_pos (by decide)]
theorem fit_eq : law07.fit.f () = some true := by
  rw [law07.fit.eq]
  have z : I2 ((0 : Int), (0 : Int)) := by unfold I2 I64; simp
  have o : I64 4294967296 := by unfold I64; omega
  have a := of_circ (pa := (0, 0)) (pb := (4294967296, 0)) (ra := 4294967296) (rb := 4294967296) z (by unfold I2 I64; simp) o o 0 0 0 0 0 0 0 0 0 0 0 0 0 0 (fun _ => Rii.enc (0, 0)) (fun _ => Rii.enc (0, 0))
  have b := of_circ (pa := (0, 0)) (pb := (12884901888, 0)) (ra := 4294967296) (rb := 4294967296) z (by unfold I2 I64; simp) o o 0 0 0 0 0 0 0 0 0 0 0 0 0 0 (fun _ => Rii.enc (0, 0)) (fun _ => Rii.enc (0, 0))
  rw [fit1] at a
  rw [fit2] at b
  simp only at a b
  rw [a, Option.bind_some, b]
  rfl
end Go.Proofs.Ytejlappndcakeaa.Y
