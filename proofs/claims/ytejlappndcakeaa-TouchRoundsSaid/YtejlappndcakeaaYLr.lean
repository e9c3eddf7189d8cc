/- TouchRounds: what the law gives. -/
import Derived.Test.YtejlappndcakeaaYLg
namespace Go.Proofs.Ytejlappndcakeaa.Y
open Go Go.RowKit Go.Proofs.Ytejlappndcakeaa.E Go.Proofs.Ytejlappndcakeaa.Ma Go.Proofs.Ytejlappndcakeaa.Fw
set_option linter.unusedVariables false
set_option linter.unusedSimpArgs false
set_option maxRecDepth 100000

theorem radius {r : Int} (h0 : 0 ≤ r) (h1 : r ≤ 255) : IntKind.i64.wrap (Int.tdiv (IntKind.i64.wrap ((IntKind.i64.wrap (1 + IntKind.i64.wrap r)) * 4294967296)) 8) = (1 + r) * 536870912 := by
  rw [w64 (x := r) (by unfold I64; omega), w64 (x := 1 + r) (by unfold I64; omega), w64 (x := (1 + r) * 4294967296) (by unfold I64; omega), Int.tdiv_eq_ediv_of_nonneg (by omega), w64 (by unfold I64; omega)]
  omega
theorem vlen_zero {a : P2} (h : a = (0, 0)) : vlen a = 0 := by subst h; decide +kernel
theorem TouchRounds_eq (a b c d r s : Int) (hr : 0 ≤ r ∧ r ≤ 255) (hs : 0 ≤ s ∧ s ≤ 255) : law07.TouchRounds.f ((a, b), (c, d), (r, s)) = some true := by
  rw [law07.TouchRounds.eq, fit_eq, Option.bind_some]
  simp only [Bool.not_true, cond_false, radius hr.1 hr.2, radius hs.1 hs.2]
  rw [bring2_eq (by omega) (by omega), Option.bind_some, bring2_eq (by omega) (by omega), Option.bind_some]
  have b1 := bringI_b (a := a) (m := 2147483648000) (by omega)
  have b2 := bringI_b (a := b) (m := 2147483648000) (by omega)
  have b3 := bringI_b (a := c) (m := 2147483648000) (by omega)
  have b4 := bringI_b (a := d) (m := 2147483648000) (by omega)
  have i1 : S2 (bring2 (a, b) 2147483648000) := by unfold bring2 S2 S63; simp only; omega
  have i2 : S2 (bring2 (c, d) 2147483648000) := by unfold bring2 S2 S63; simp only; omega
  generalize bring2 (a, b) 2147483648000 = p at *
  generalize bring2 (c, d) 2147483648000 = q at *
  have jr : I64 ((1 + r) * 536870912) := by unfold I64; omega
  have js : I64 ((1 + s) * 536870912) := by unfold I64; omega
  rw [of_circ (pa := p) (pb := q) i1.i i2.i jr js, Option.bind_some, of_circ (pa := q) (pb := p) i2.i i1.i js jr, Option.bind_some, vsub_eq (a := q) (b := p) i2.i i1.i, Option.bind_some, len_eq (a := vsub q p) (vsub_s _ _).i, Option.bind_some]
  -- the sum
  have hR : add ((1 + r) * 536870912) ((1 + s) * 536870912) = (1 + r) * 536870912 + (1 + s) * 536870912 := add_id (by unfold S63; omega) (by unfold S63; omega) (by unfold S63; omega)
  have hR' : add ((1 + s) * 536870912) ((1 + r) * 536870912) = (1 + r) * 536870912 + (1 + s) * 536870912 := by rw [add_id (by unfold S63; omega) (by unfold S63; omega) (by unfold S63; omega)]; omega
  have hw : IntKind.i64.wrap ((1 + r) * 536870912 + (1 + s) * 536870912) = (1 + r) * 536870912 + (1 + s) * 536870912 := w64 (by unfold I64; omega)
  have hl : vlen (vsub p q) = vlen (vsub q p) := vlen_swap i2 i1
  have hl0 : 0 ≤ vlen (vsub q p) := by
    unfold vlen sqrt
    split
    · omega
    · omega
  simp only [circP, hR, hR', hw, hl]
  have hls := vlen_s (vsub q p)
  have hneg1 : (vsub p q).1 = -(vsub q p).1 := sub_swap i2.1 i1.1
  have hneg2 : (vsub p q).2 = -(vsub q p).2 := sub_swap i2.2 i1.2
  have hds := vsub_s q p
  generalize hRR : (1 + r) * 536870912 + (1 + s) * 536870912 = R at *
  generalize hL : vlen (vsub q p) = L at *
  by_cases h1 : L ≥ R
  · simp only [if_pos h1]
    have : decide (L < R) = false := by simp; omega
    rw [this]
    simp [t0]
  · simp only [if_neg h1]
    have : decide (L < R) = true := by simp; omega
    rw [this]
    have hsub : sub R L = R - L := sub_id (by unfold S63; omega) hls (by unfold S63 at *; omega)
    have hwr : IntKind.i64.wrap (R - L) = R - L := w64 (by unfold I64; unfold S63 at hls; omega)
    by_cases h0 : L = 0
    · have hsub0 : sub R 0 = R := by have := hsub; rw [h0] at this; simpa using this
      simp [t1, lit1, h0, hsub0, hw]
    · have hb : (L == 0) = false := by simpa using h0
      simp only [if_neg h0, hb]
      have v1 := (div_s hds.1.i (show I64 L from hls.i))
      have v2 := (div_s hds.2.i (show I64 L from hls.i))
      have d1 : div (vsub p q).1 L = -div (vsub q p).1 L := by rw [hneg1, div_negl hds.1 (by omega)]
      have d2 : div (vsub p q).2 L = -div (vsub q p).2 L := by rw [hneg2, div_negl hds.2 (by omega)]
      simp only [t1, lit1, hsub, hwr, d1, d2]
      have w : S2 (-div (vsub q p).1 L, -div (vsub q p).2 L) := by unfold S2 S63 at *; simp only; omega
      have := vneg_eq w.i
      rw [vneg_id w] at this
      simp only [Int.neg_neg] at this
      simp [this]
theorem TouchRounds_true (a b c d r s : Int) (h0 : (Lit.int .i64 a).wf = true) (h1 : (Lit.int .i64 b).wf = true) (h2 : (Lit.int .i64 c).wf = true) (h3 : (Lit.int .i64 d).wf = true) (h4 : (Lit.int .u8 r).wf = true) (h5 : (Lit.int .u8 s).wf = true) :
    law07.TouchRounds.f ((a, b), (c, d), (r, s)) = some true := TouchRounds_eq a b c d r s (bounds_u8 h4) (bounds_u8 h5)
end Go.Proofs.Ytejlappndcakeaa.Y
