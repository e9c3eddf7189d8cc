/- The row of ShapeRights: it gives true, whatever the input, and leaves the input as it was. -/
import Derived.Test.YtbdkcjikphlgfaaRows
import Derived.Test.YtbdkcjikphlgfaaFwX
import Derived.Test.YtbdkcjikphlgfaaYRs
import Derived.WalkKit
import Derived.ProofKit
import Derived.OpenShut
import Derived.ShutString
import Derived.ChangeOld
import Derived.Below
import Derived.SizedLaws
import Derived.Carry
namespace Go.Proofs.Ytbdkcjikphlgfaa.LawShapeRights
open Go Go.Proofs Go.Proofs.Ytbdkcjikphlgfaa Go.Proofs.Ytbdkcjikphlgfaa.Fw Go.ChangeShapes Go.WideShapes Go.ChangeAt Go.RowKit Go.Proofs.Ytbdkcjikphlgfaa
set_option linter.unusedVariables false
set_option maxRecDepth 100000
theorem own : ownKnob Try.prog.godebug = none := by kernel_rfl
theorem laidOut : laidOutB Try.prog = true := by kernel_rfl
theorem pflat25 : flat Try.prog 12 25 = some [3, 22, 23] := by kernel_rfl
theorem pcell25 : Try.prog.cellTypes Try.prog.depth 25 = some [3, 22, 23] := by kernel_rfl
theorem flat34 : flat Try.prog 12 34 = some [22, 22] := by kernel_rfl
theorem rows34 {H : Type} {enc : TypeId × Value → H} {W : World} : RowsOf enc Try.prog W 34 E.Rii (fun x => (Lit.int .i64 x.1).wf = true ∧ (Lit.int .i64 x.2).wf = true) := fun cs h => by
  obtain ⟨c0, r0, rfl, t0, c1, r1, rfl, t1, (hend : r1 = [])⟩ := trod_trs 12 34 _ flat34 cs h
  subst hend
  obtain ⟨n0, rfl, w0⟩ := leaf_int (show Try.prog.underlying 22 = some (.int .i64) by kernel_rfl) t0
  obtain ⟨n1, rfl, w1⟩ := leaf_int (show Try.prog.underlying 22 = some (.int .i64) by kernel_rfl) t1
  exact ⟨(n0, n1), ⟨w0, w1⟩, .cons (vr_int _ _) (.cons (vr_int _ _) (.nil)), by intro v hv; simp at hv; (try (rcases hv with rfl | rfl)) <;> (try subst hv) <;> rfl⟩
theorem pflat27 : flat Try.prog 12 27 = some [3, 3, 3, 3] := by kernel_rfl
theorem pcell27 : Try.prog.cellTypes Try.prog.depth 27 = some [3, 3, 3, 3] := by kernel_rfl
theorem lifted (os : Os) (started : os.Started) (H : Type) (enc : TypeId × Value → H) :
    ReturnsInHanded {} Try.checked os 3 .any (Rows.shapeRightsSpec.pre6 enc Try.prog Try.f3 Rows.shapeRightsRow.domain false) (Rows.shapeRightsSpec.post enc Try.prog Try.f3 false true false false) := by
  refine returnsInHanded_of_change_sized (C := Try.checked) own started (by kernel_rfl) Try.func3
    (ChangeSpec.witness6 (enc := enc) (C := Try.checked) false ⟨#[], #[.agg #[.int .i64 0, .int .i64 0, .slice none 0 0], .agg #[.int .i64 0, .int .i64 0, .int .i64 0, .int .i64 0]], []⟩ 8 (by kernel_rfl) (by kernel_rfl) (by kernel_rfl) (by kernel_rfl)) ?_
  intro W base args ds gs before hval0 hW hcnd0 hsz0 _
  have hval : ∀ (j : Nat) t v, Try.f3.params[j]? = some t → args[j]? = some v → Value.okWide Try.prog W .any base t v := hval0
  have hW' := hW
  obtain ⟨p, q, hA0, hV, rfl, hfz, hnd⟩ := hW
  have hA : DataW.TrodAll enc Try.prog W 0 (fun _ => true) true Try.f3.params.toList args.toList ds p := hA0
  rw [Try.params3] at hA hval
  obtain ⟨v0, vs0, d0, ds0, p0, q0, hargs, rfl, rfl, h0, r0⟩ := trodAll_cons hA
  obtain ⟨v1, vs1, d1, ds1, p1, q1, rfl, rfl, rfl, h1, r1⟩ := trodAll_cons r0
  obtain ⟨rfl, rfl, rfl⟩ := trodAll_nil r1
  obtain rfl : args = #[v0, v1] := by cases args; simp_all
  obtain ⟨rfl, rfl⟩ := trodVars_none hV
  have k0 := h0
  have lt0 : ∀ x ∈ p0, x.block < W.heap.size := by obtain ⟨m, hm⟩ := k0; exact DataW.trod_lt m _ _ _ hm
  obtain ⟨cs0, rfl, ok0⟩ := agg_ok (show isAggT Try.prog 25 = true by kernel_rfl) (hval 0 25 v0 rfl rfl) pcell25 (by kernel_rfl)
  have tr0 : Trs enc Try.prog W _ cs0 := trod_trs 12 25 _ pflat25 cs0 (by obtain ⟨fu, hf⟩ := h0; exact ⟨fu, _, by simpa [Value.cells] using hf⟩)
  obtain ⟨c0_0, r0_0, rfl, t0_0, c0_1, r0_1, rfl, t0_1, c0_2, r0_2, rfl, t0_2, (hend : r0_2 = [])⟩ := tr0
  subst hend
  obtain ⟨a0_0, rfl, w0_0⟩ := leaf_int (show Try.prog.underlying 3 = some (.int .i64) by kernel_rfl) t0_0
  obtain ⟨a0_1, rfl, w0_1⟩ := leaf_int (show Try.prog.underlying 22 = some (.int .i64) by kernel_rfl) t0_1
  obtain ⟨n0_2, g0_2, nm0_2, w0_2, vr0_2⟩ := leaf_list (show Try.prog.underlying 23 = some (.slice 34) by kernel_rfl) (show Try.prog.cellsOf 34 = 2 by kernel_rfl) (by omega) (0, 0) (rows34 (enc := enc) (W := W)) t0_2 (ok0 2 _ _ rfl rfl)
  have k1 := h1
  have lt1 : ∀ x ∈ p1, x.block < W.heap.size := by obtain ⟨m, hm⟩ := k1; exact DataW.trod_lt m _ _ _ hm
  obtain ⟨cs1, rfl, ok1⟩ := agg_ok (show isAggT Try.prog 27 = true by kernel_rfl) (hval 1 27 v1 rfl rfl) pcell27 (by kernel_rfl)
  have tr1 : Trs enc Try.prog W _ cs1 := trod_trs 12 27 _ pflat27 cs1 (by obtain ⟨fu, hf⟩ := h1; exact ⟨fu, _, by simpa [Value.cells] using hf⟩)
  obtain ⟨c1_0, r1_0, rfl, t1_0, c1_1, r1_1, rfl, t1_1, c1_2, r1_2, rfl, t1_2, c1_3, r1_3, rfl, t1_3, (hend : r1_3 = [])⟩ := tr1
  subst hend
  obtain ⟨a1_0, rfl, w1_0⟩ := leaf_int (show Try.prog.underlying 3 = some (.int .i64) by kernel_rfl) t1_0
  obtain ⟨a1_1, rfl, w1_1⟩ := leaf_int (show Try.prog.underlying 3 = some (.int .i64) by kernel_rfl) t1_1
  obtain ⟨a1_2, rfl, w1_2⟩ := leaf_int (show Try.prog.underlying 3 = some (.int .i64) by kernel_rfl) t1_2
  obtain ⟨a1_3, rfl, w1_3⟩ := leaf_int (show Try.prog.underlying 3 = some (.int .i64) by kernel_rfl) t1_3
  have hcr : CR (fun _ => none) (roAll W) noHp _ _ := CR.cons (CR.agg' (.cons (vr_int .i64 a0_0) (.cons (vr_int .i64 a0_1) (.cons (vr0_2) (.nil))))) (CR.cons (CR.agg' (.cons (vr_int .i64 a1_0) (.cons (vr_int .i64 a1_1) (.cons (vr_int .i64 a1_2) (.cons (vr_int .i64 a1_3) (.nil)))))) (CR.nil))
  refine (law_true (n := 3) (fn := Try.f3) (hint := lookH E.law04.ShapeRights.hs) E.law04.ShapeRights.cs_ok (by kernel_rfl) Try.func3 (Y.ShapeRights_true a0_0 a0_1 n0_2 g0_2 a1_0 a1_1 a1_2 a1_3 w0_0 w0_1 nm0_2 w0_2 w1_0 w1_1 w1_2 w1_3) hcr).mono fun e W' ⟨he, bel⟩ => ?_
  subst he
  exact ⟨_, rfl, _, _, _, [], _, [], hW', trodAll_mk1 (shut_bool (show Try.prog.underlying 4 = some .bool by kernel_rfl) _), (trodAll_cons_mk (Below.trod laidOut (by kernel_rfl) (of_decide_eq_true (by kernel_rfl)) k0 bel lt0) (trodAll_cons_mk (Below.trod laidOut (by kernel_rfl) (of_decide_eq_true (by kernel_rfl)) k1 bel lt1) trodAll_mk0)), rfl, bel.frame _, fun h => by cases h⟩
theorem over : Rows.shapeRightsRow.holds Try.pinned (OpenSpec.ofChange Rows.shapeRightsSpec) :=
  OpenClaim.holds_of_wide 3 Try.f3 rfl rfl rfl rfl rfl rfl rfl ⟨rfl, rfl, rfl, rfl, rfl⟩ rfl rfl rfl rfl rfl (by kernel_rfl) Try.func3 (by kernel_rfl)
    (of_decide_eq_true (by kernel_rfl)) (by unfold Func.isWrapper; first | (rw [if_pos (by decide +kernel)]; kernel_rfl) | (rw [if_neg (by decide +kernel)]; exact ⟨rfl, rfl⟩))
    (fun os started H enc _ => lifted os started H enc)
theorem proved : Rows.ShapeRightsSaid := over
end Go.Proofs.Ytbdkcjikphlgfaa.LawShapeRights
namespace Go.Proofs.Ytbdkcjikphlgfaa
/-- The row, under a short name, for the claim. -/
theorem shapeRights_holds : Rows.ShapeRightsSaid := Go.Proofs.Ytbdkcjikphlgfaa.LawShapeRights.proved
end Go.Proofs.Ytbdkcjikphlgfaa
