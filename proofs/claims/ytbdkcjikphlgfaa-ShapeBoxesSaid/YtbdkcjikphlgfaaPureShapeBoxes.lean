/- For all numbers w and h, brought below 2^40: the rectangle of them may be just if it has an area and isn't too great; mirrored it may not; no condition. -/
import Derived.OpenShut
import Derived.Test.YtbdkcjikphlgfaaPShx11
import Derived.Test.YtbdkcjikphlgfaaPShx4
import Derived.Test.YtbdkcjikphlgfaaPShx9
import Derived.Test.YtbdkcjikphlgfaaSa
import Derived.Test.YtbdkcjikphlgfaaSr
set_option linter.unusedSimpArgs false
set_option linter.unusedVariables false
namespace Go.Proofs.Ytbdkcjikphlgfaa.Pure
open Go.RowKit Go.Proofs.YtbdkcjikphlgfaaW.PrintWords Go.Proofs.YtbdkcjikphlgfaaW.PrintLast Go.Proofs.YtbdkcjikphlgfaaW.PrintMore Go.Proofs.Ytbdkcjikphlgfaa.PSh Go.Proofs.Ytbdkcjikphlgfaa.Ma Go.Proofs.Ytbdkcjikphlgfaa.Fx Go.Proofs.Ytbdkcjikphlgfaa.Dv Go.Proofs.Ytbdkcjikphlgfaa.Vc Go.Proofs.Ytbdkcjikphlgfaa.Tm Go.Proofs.Ytbdkcjikphlgfaa.Ln Go.Proofs.Ytbdkcjikphlgfaa.Sh Go.Proofs.Ytbdkcjikphlgfaa.Sr

theorem fit_eq {k : Nat} (hk : 200 ≤ k) : bagatellelaw04_fit.f k = some true :=
  at_rounds bagatellelaw04_fit.mono hk (by decide +kernel)
theorem nb {a b c d : Int} (h1 : a = c) (h2 : b = d) : ¬ ((!(a == c) || (!(b == d))) = true) := by rw [h1, h2]; simp
theorem m40 (x : Int) : Go.bits .and .i64 x 1099511627775 = x % 1099511627776 := mask (m := 40) (by omega) x
theorem box_len (w h : Int) : (boxPts w h).length = 4 := rfl
theorem box_i {w h : Int} (hw : S63 w) (hh : S63 h) : ∀ p ∈ boxPts w h, I64 p.f0 ∧ I64 p.f1 := by
  intro p hp
  unfold S63 at hw hh
  simp only [boxPts, List.mem_cons, List.not_mem_nil, or_false] at hp
  rcases hp with rfl | rfl | rfl | rfl <;> (unfold I64; simp only; omega)
theorem box_f {w h : Int} (hf : Fit2 w h) : ∀ p ∈ boxPts w h, Fit2 p.f0 p.f1 := by
  intro p hp
  unfold Fit2 at hf ⊢
  simp only [boxPts, List.mem_cons, List.not_mem_nil, or_false] at hp
  rcases hp with rfl | rfl | rfl | rfl <;> (simp only; omega)
theorem b0 (w h : Int) : rd_T34 (boxPts w h) ((0 : Nat) : Int) = ⟨-w, -h⟩ := rfl
theorem b1 (w h : Int) : rd_T34 (boxPts w h) ((1 : Nat) : Int) = ⟨w, -h⟩ := rfl
theorem b2 (w h : Int) : rd_T34 (boxPts w h) ((2 : Nat) : Int) = ⟨w, h⟩ := rfl
theorem b3 (w h : Int) : rd_T34 (boxPts w h) ((3 : Nat) : Int) = ⟨-w, h⟩ := rfl
theorem cr_box {w h : Int} (hw : -2199023255552 ≤ w ∧ w ≤ 2199023255552) (hh : -2199023255552 ≤ h ∧ h ≤ 2199023255552) (i j : Nat) (hi : i < 4) (hj : j < 4) (h1 : j ≠ i) (h2 : j ≠ (i + 1) % 4) : cr (boxPts w h) i ((i + 1) % 4) j = Ma.mul (2 * w) (2 * h) := by
  have s0 : ∀ x : Int, -2199023255552 ≤ x ∧ x ≤ 2199023255552 → Ma.sub x x = 0 := fun x hx => by rw [sub_id (by unfold S63; omega) (by unfold S63; omega) (by unfold S63; omega)]; omega
  have sp : ∀ x : Int, -2199023255552 ≤ x ∧ x ≤ 2199023255552 → Ma.sub x (-x) = 2 * x := fun x hx => by rw [sub_id (by unfold S63; omega) (by unfold S63; omega) (by unfold S63; omega)]; omega
  have sn : ∀ x : Int, -2199023255552 ≤ x ∧ x ≤ 2199023255552 → Ma.sub (-x) x = -(2 * x) := fun x hx => by rw [sub_id (by unfold S63; omega) (by unfold S63; omega) (by unfold S63; omega)]; omega
  have nw : -2199023255552 ≤ -w ∧ -w ≤ 2199023255552 := by omega
  have nh : -2199023255552 ≤ -h ∧ -h ≤ 2199023255552 := by omega
  have SW : S63 (2 * w) := by unfold S63; omega
  have SH : S63 (2 * h) := by unfold S63; omega
  have SM := mul_s SW.i SH.i
  have z0 : S63 0 := by unfold S63; omega
  have SN : S63 (-(2 * w)) := by unfold S63; omega
  have SK : S63 (-(2 * h)) := by unfold S63; omega
  have e1 : Ma.mul (2 * h) (-(2 * w)) = -Ma.mul (2 * w) (2 * h) := by rw [Ma.mul_neg SH.i SW, Ma.mul_comm]
  have e2 : Ma.mul (-(2 * w)) (-(2 * h)) = Ma.mul (2 * w) (2 * h) := by rw [Ma.mul_neg SN.i SH, Ma.neg_mul SW SH.i, Int.neg_neg]
  have e3 : Ma.mul (-(2 * h)) (2 * w) = -Ma.mul (2 * w) (2 * h) := by rw [Ma.neg_mul SH SW.i, Ma.mul_comm]
  have e4 : Ma.mul (-(2 * h)) (-(2 * w)) = Ma.mul (2 * w) (2 * h) := by rw [Ma.mul_neg SK.i SW, Ma.neg_mul SH SW.i, Int.neg_neg, Ma.mul_comm]
  have f1 : Ma.sub (Ma.mul (2 * w) (2 * h)) 0 = Ma.mul (2 * w) (2 * h) := by rw [sub_id SM z0 (by rw [Int.sub_zero]; exact SM), Int.sub_zero]
  have f2 : Ma.sub 0 (-Ma.mul (2 * w) (2 * h)) = Ma.mul (2 * w) (2 * h) := by
    have SM' : S63 (-Ma.mul (2 * w) (2 * h)) := by unfold S63 at SM ⊢; omega
    rw [sub_id z0 SM' (by rw [Int.zero_sub, Int.neg_neg]; exact SM), Int.zero_sub, Int.neg_neg]
  have hi' : i = 0 ∨ i = 1 ∨ i = 2 ∨ i = 3 := by omega
  have hj' : j = 0 ∨ j = 1 ∨ j = 2 ∨ j = 3 := by omega
  rcases hi' with rfl | rfl | rfl | rfl <;> rcases hj' with rfl | rfl | rfl | rfl <;> first
    | (exfalso; omega)
    | (unfold cr cross
       simp only [show (0 + 1) % 4 = 1 from rfl, show (1 + 1) % 4 = 2 from rfl, show (2 + 1) % 4 = 3 from rfl, show (3 + 1) % 4 = 0 from rfl, b0, b1, b2, b3, s0 w hw, s0 h hh, s0 (-w) nw, s0 (-h) nh, sp w hw, sp h hh, sn w hw, sn h hh, Ma.zero_mul, Ma.mul_zero, e1, e2, e3, e4, f1, f2])
theorem Right_box {k : Nat} (hk : 1100 ≤ k) {w h : Int} (hw : -1099511627776 ≤ w ∧ w ≤ 1099511627776) (hh : 0 ≤ h ∧ h ≤ 1099511627776) : shape_Right.f k 2 0 (boxPts w h) = some (decide (Fit2 w h ∧ 0 < Ma.mul (2 * w) (2 * h))) := by
  have hi := box_i (w := w) (h := h) (by unfold S63; omega) (by unfold S63; omega)
  by_cases hf : Fit2 w h
  · by_cases hM : 0 < Ma.mul (2 * w) (2 * h)
    · rw [decide_eq_true ⟨hf, hM⟩]
      exact Right_yes hk _ (by rw [box_len]; omega) (by rw [box_len]; omega) hi (box_f hf) (by
        intro i j h1 h2 h3 h4
        rw [box_len] at h1 h2 h4 ⊢
        rw [cr_box (by omega) (by omega) i j h1 h2 h3 h4]; exact hM)
    · rw [decide_eq_false (fun h => hM h.2)]
      exact Right_no hk _ (by rw [box_len]; omega) (by rw [box_len]; omega) hi (box_f hf) (by
        rw [show (1 : Nat) = (0 + 1) % 4 from rfl, cr_box (by omega) (by omega) 0 2 (by omega) (by omega) (by omega) (by omega)]; omega)
  · rw [decide_eq_false (fun h => hf h.1)]
    refine Right_far (by omega) _ (by rw [box_len]; omega) (by rw [box_len]; omega) hi ?_
    rw [show rd_T34 (boxPts w h) (0 : Int) = ⟨-w, -h⟩ from rfl]
    unfold Fit2 at hf ⊢
    simp only; omega
theorem ShapeBoxes : bagatellelaw04_ShapeBoxes.Pure := by
  intro a b _ _
  refine ⟨1203, ?_⟩
  unfold bagatellelaw04_ShapeBoxes.f
  rw [fit_eq (by omega), Option.bind_some, if_pos rfl, m40, m40]
  have hw : 0 ≤ a % 1099511627776 ∧ a % 1099511627776 < 1099511627776 := by omega
  have hh : 0 ≤ b % 1099511627776 ∧ b % 1099511627776 < 1099511627776 := by omega
  generalize a % 1099511627776 = w at *
  generalize b % 1099511627776 = h at *
  have SW : S63 (2 * w) := by unfold S63; omega
  have SH : S63 (2 * h) := by unfold S63; omega
  have M0 : 0 ≤ Ma.mul (2 * w) (2 * h) := by
    rw [mul_tdiv SW.i SH.i, wh_id SW, wh_id SH]
    have p := Int.mul_nonneg (show 0 ≤ 2 * w by omega) (show 0 ≤ 2 * h by omega)
    rw [Int.tdiv_eq_ediv_of_nonneg p]
    have q : 0 ≤ 2 * w * (2 * h) / 4294967296 := by omega
    unfold clamp; split
    · omega
    · split <;> omega
  have B1 := Box_eq (w := w) (h := h) (by unfold S63; omega) (by unfold S63; omega)
  have B2 := Box_eq (w := -w) (h := h) (by unfold S63; omega) (by unfold S63; omega)
  have wn : wrap64 (-w) = -w := w64 (by unfold I64; omega)
  have R1 := Right_box (k := 1203) (by omega) (w := w) (h := h) (by omega) (by omega)
  have R2 : shape_Right.f 1203 2 0 (boxPts (-w) h) = some false := by
    rw [Right_box (k := 1203) (by omega) (w := -w) (h := h) (by omega) (by omega), decide_eq_false]
    intro ⟨_, h'⟩
    rw [show 2 * -w = -(2 * w) by omega, Ma.neg_mul SW SH.i] at h'
    omega
  have ms : fix_Mul.f 1203 (wrap64 (2 * w)) (wrap64 (2 * h)) = some (Ma.mul (2 * w) (2 * h)) := by rw [w64 SW.i, w64 SH.i, mul_eq (by omega) SW.i SH.i]
  generalize Ma.mul (2 * w) (2 * h) = M at *
  by_cases g1 : w > 274877906944
  · have d : decide (Fit2 w h ∧ 0 < M) = false := decide_eq_false (by unfold Fit2; omega)
    rw [if_pos g1, ms, Option.bind_some, B1, Option.bind_some, R1, Option.bind_some, d, if_pos (show (false == false) = true from rfl), wn, B2, Option.bind_some, R2, Option.bind_some]; rfl
  · rw [if_neg g1, ms, Option.bind_some, B1, Option.bind_some, R1, Option.bind_some]
    by_cases g2 : h > 274877906944
    · have d : decide (Fit2 w h ∧ 0 < M) = false := decide_eq_false (by unfold Fit2; omega)
      rw [if_pos g2, d, if_pos (show (false == false) = true from rfl), wn, B2, Option.bind_some, R2, Option.bind_some]; rfl
    · have d : (decide (Fit2 w h ∧ 0 < M) == (!(M == 0))) = true := by
        by_cases hM : M = 0
        · subst hM; rw [decide_eq_false (by omega)]; rfl
        · rw [decide_eq_true (by unfold Fit2; omega)]
          rw [show (M == 0) = false from beq_eq_false_iff_ne.2 hM]; rfl
      rw [if_neg g2, if_pos d, wn, B2, Option.bind_some, R2, Option.bind_some]; rfl

end Go.Proofs.Ytbdkcjikphlgfaa.Pure
