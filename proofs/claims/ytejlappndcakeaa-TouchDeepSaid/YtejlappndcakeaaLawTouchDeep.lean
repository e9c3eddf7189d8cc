/- The row of TouchDeep: it gives true, whatever the input, and leaves the input as it was. -/
import Derived.Test.YtejlappndcakeaaRows
import Derived.Test.YtejlappndcakeaaFwX
import Derived.Test.YtejlappndcakeaaYDu
import Derived.WalkKit
import Derived.ProofKit
import Derived.OpenShut
import Derived.ShutString
import Derived.ChangeOld
import Derived.Below
import Derived.SizedLaws
import Derived.Carry
namespace Go.Proofs.Ytejlappndcakeaa.LawTouchDeep
open Go Go.Proofs Go.Proofs.Ytejlappndcakeaa Go.Proofs.Ytejlappndcakeaa.Fw Go.ChangeShapes Go.WideShapes Go.ChangeAt Go.RowKit Go.Proofs.Ytejlappndcakeaa
set_option linter.unusedVariables false
set_option maxRecDepth 100000
set_option maxHeartbeats 2000000
theorem own : ownKnob Try.prog.godebug = none := by kernel_rfl
theorem laidOut : laidOutB Try.prog = true := by kernel_rfl
theorem pflat47 : flat Try.prog 12 47 = some [3, 3, 3, 3, 22, 22, 22] := by kernel_rfl
theorem pcell47 : Try.prog.cellTypes Try.prog.depth 47 = some [3, 3, 3, 3, 22, 22, 22] := by kernel_rfl
theorem lifted (os : Os) (started : os.Started) (H : Type) (enc : TypeId × Value → H) :
    ReturnsInHanded {} Try.checked os 8 .any (Rows.touchDeepSpec.pre6 enc Try.prog Try.f8 Rows.touchDeepRow.domain false) (Rows.touchDeepSpec.post enc Try.prog Try.f8 false true false false) := by
  refine returnsInHanded_of_change_sized (C := Try.checked) own started (by kernel_rfl) Try.func8
    (ChangeSpec.witness6 (enc := enc) (C := Try.checked) false ⟨#[], #[.agg #[.int .i64 0, .int .i64 0, .int .i64 0, .int .i64 0, .int .i64 0, .int .i64 0, .int .i64 0], .agg #[.int .i64 0, .int .i64 0, .int .i64 0, .int .i64 0, .int .i64 0, .int .i64 0, .int .i64 0]], []⟩ 8 (by kernel_rfl) (by kernel_rfl) (by kernel_rfl) (by kernel_rfl)) ?_
  intro W base args ds gs before hval0 hW hcnd0 hsz0 _
  have hval : ∀ (j : Nat) t v, Try.f8.params[j]? = some t → args[j]? = some v → Value.okWide Try.prog W .any base t v := hval0
  have hW' := hW
  obtain ⟨p, q, hA0, hV, rfl, hfz, hnd⟩ := hW
  have hA : DataW.TrodAll enc Try.prog W 0 (fun _ => true) true Try.f8.params.toList args.toList ds p := hA0
  rw [Try.params8] at hA hval
  obtain ⟨v0, vs0, d0, ds0, p0, q0, hargs, rfl, rfl, h0, r0⟩ := trodAll_cons hA
  obtain ⟨v1, vs1, d1, ds1, p1, q1, rfl, rfl, rfl, h1, r1⟩ := trodAll_cons r0
  obtain ⟨rfl, rfl, rfl⟩ := trodAll_nil r1
  obtain rfl : args = #[v0, v1] := by cases args; simp_all
  obtain ⟨rfl, rfl⟩ := trodVars_none hV
  have k0 := h0
  have lt0 : ∀ x ∈ p0, x.block < W.heap.size := by obtain ⟨m, hm⟩ := k0; exact DataW.trod_lt m _ _ _ hm
  obtain ⟨cs0, rfl, ok0⟩ := agg_ok (show isAggT Try.prog 47 = true by kernel_rfl) (hval 0 47 v0 rfl rfl) pcell47 (by kernel_rfl)
  have tr0 : Trs enc Try.prog W _ cs0 := trod_trs 12 47 _ pflat47 cs0 (by obtain ⟨fu, hf⟩ := h0; exact ⟨fu, _, by simpa [Value.cells] using hf⟩)
  obtain ⟨c0_0, r0_0, rfl, t0_0, c0_1, r0_1, rfl, t0_1, c0_2, r0_2, rfl, t0_2, c0_3, r0_3, rfl, t0_3, c0_4, r0_4, rfl, t0_4, c0_5, r0_5, rfl, t0_5, c0_6, r0_6, rfl, t0_6, (hend : r0_6 = [])⟩ := tr0
  subst hend
  obtain ⟨a0_0, rfl, w0_0⟩ := leaf_int (show Try.prog.underlying 3 = some (.int .i64) by kernel_rfl) t0_0
  obtain ⟨a0_1, rfl, w0_1⟩ := leaf_int (show Try.prog.underlying 3 = some (.int .i64) by kernel_rfl) t0_1
  obtain ⟨a0_2, rfl, w0_2⟩ := leaf_int (show Try.prog.underlying 3 = some (.int .i64) by kernel_rfl) t0_2
  obtain ⟨a0_3, rfl, w0_3⟩ := leaf_int (show Try.prog.underlying 3 = some (.int .i64) by kernel_rfl) t0_3
  obtain ⟨a0_4, rfl, w0_4⟩ := leaf_int (show Try.prog.underlying 22 = some (.int .i64) by kernel_rfl) t0_4
  obtain ⟨a0_5, rfl, w0_5⟩ := leaf_int (show Try.prog.underlying 22 = some (.int .i64) by kernel_rfl) t0_5
  obtain ⟨a0_6, rfl, w0_6⟩ := leaf_int (show Try.prog.underlying 22 = some (.int .i64) by kernel_rfl) t0_6
  have k1 := h1
  have lt1 : ∀ x ∈ p1, x.block < W.heap.size := by obtain ⟨m, hm⟩ := k1; exact DataW.trod_lt m _ _ _ hm
  obtain ⟨cs1, rfl, ok1⟩ := agg_ok (show isAggT Try.prog 47 = true by kernel_rfl) (hval 1 47 v1 rfl rfl) pcell47 (by kernel_rfl)
  have tr1 : Trs enc Try.prog W _ cs1 := trod_trs 12 47 _ pflat47 cs1 (by obtain ⟨fu, hf⟩ := h1; exact ⟨fu, _, by simpa [Value.cells] using hf⟩)
  obtain ⟨c1_0, r1_0, rfl, t1_0, c1_1, r1_1, rfl, t1_1, c1_2, r1_2, rfl, t1_2, c1_3, r1_3, rfl, t1_3, c1_4, r1_4, rfl, t1_4, c1_5, r1_5, rfl, t1_5, c1_6, r1_6, rfl, t1_6, (hend : r1_6 = [])⟩ := tr1
  subst hend
  obtain ⟨a1_0, rfl, w1_0⟩ := leaf_int (show Try.prog.underlying 3 = some (.int .i64) by kernel_rfl) t1_0
  obtain ⟨a1_1, rfl, w1_1⟩ := leaf_int (show Try.prog.underlying 3 = some (.int .i64) by kernel_rfl) t1_1
  obtain ⟨a1_2, rfl, w1_2⟩ := leaf_int (show Try.prog.underlying 3 = some (.int .i64) by kernel_rfl) t1_2
  obtain ⟨a1_3, rfl, w1_3⟩ := leaf_int (show Try.prog.underlying 3 = some (.int .i64) by kernel_rfl) t1_3
  obtain ⟨a1_4, rfl, w1_4⟩ := leaf_int (show Try.prog.underlying 22 = some (.int .i64) by kernel_rfl) t1_4
  obtain ⟨a1_5, rfl, w1_5⟩ := leaf_int (show Try.prog.underlying 22 = some (.int .i64) by kernel_rfl) t1_5
  obtain ⟨a1_6, rfl, w1_6⟩ := leaf_int (show Try.prog.underlying 22 = some (.int .i64) by kernel_rfl) t1_6
  have hcr : CR (fun _ => none) (roAll W) noHp (TyL.enc (tCons (tG (tCons (tI .i64) (tCons (tI .i64) (tCons (tI .i64) (tCons (tI .i64) (tCons (tI .i64) (tCons (tI .i64) (tOne (tI .i64))))))))) (tOne (tG (tCons (tI .i64) (tCons (tI .i64) (tCons (tI .i64) (tCons (tI .i64) (tCons (tI .i64) (tCons (tI .i64) (tOne (tI .i64))))))))))) ((a0_0, a0_1, a0_2, a0_3, a0_4, a0_5, a0_6), (a1_0, a1_1, a1_2, a1_3, a1_4, a1_5, a1_6))) _ := CR.cons (CR.agg' (.cons (vr_int .i64 a0_0) (.cons (vr_int .i64 a0_1) (.cons (vr_int .i64 a0_2) (.cons (vr_int .i64 a0_3) (.cons (vr_int .i64 a0_4) (.cons (vr_int .i64 a0_5) (.cons (vr_int .i64 a0_6) (.nil))))))))) (CR.cons (CR.agg' (.cons (vr_int .i64 a1_0) (.cons (vr_int .i64 a1_1) (.cons (vr_int .i64 a1_2) (.cons (vr_int .i64 a1_3) (.cons (vr_int .i64 a1_4) (.cons (vr_int .i64 a1_5) (.cons (vr_int .i64 a1_6) (.nil))))))))) (CR.nil))
  refine (law_sum E.law07.TouchDeep.ok (by kernel_rfl) (Y.TouchDeep_true a0_0 a0_1 a0_2 a0_3 a0_4 a0_5 a0_6 a1_0 a1_1 a1_2 a1_3 a1_4 a1_5 a1_6 w0_0 w0_1 w0_2 w0_3 w0_4 w0_5 w0_6 w1_0 w1_1 w1_2 w1_3 w1_4 w1_5 w1_6) hcr).mono fun e W' ⟨he, bel⟩ => ?_
  subst he
  exact ⟨_, rfl, _, _, _, [], _, [], hW', trodAll_mk1 (shut_bool (show Try.prog.underlying 4 = some .bool by kernel_rfl) _), (trodAll_cons_mk (Below.trod laidOut (by kernel_rfl) (of_decide_eq_true (by kernel_rfl)) k0 bel lt0) (trodAll_cons_mk (Below.trod laidOut (by kernel_rfl) (of_decide_eq_true (by kernel_rfl)) k1 bel lt1) trodAll_mk0)), rfl, bel.frame _, fun h => by cases h⟩
theorem over : Rows.touchDeepRow.holds Try.pinned (OpenSpec.ofChange Rows.touchDeepSpec) :=
  OpenClaim.holds_of_wide 8 Try.f8 rfl rfl rfl rfl rfl rfl rfl ⟨rfl, rfl, rfl, rfl, rfl⟩ rfl rfl rfl rfl rfl (by kernel_rfl) Try.func8 (by kernel_rfl)
    (of_decide_eq_true (by kernel_rfl)) (by unfold Func.isWrapper; first | (rw [if_pos (by decide +kernel)]; kernel_rfl) | (rw [if_neg (by decide +kernel)]; exact ⟨rfl, rfl⟩))
    (fun os started H enc _ => lifted os started H enc)
theorem proved : Rows.TouchDeepSaid := over
end Go.Proofs.Ytejlappndcakeaa.LawTouchDeep
namespace Go.Proofs.Ytejlappndcakeaa
/-- The row, under a short name, for the claim. -/
theorem touchDeep_holds : Rows.TouchDeepSaid := Go.Proofs.Ytejlappndcakeaa.LawTouchDeep.proved
end Go.Proofs.Ytejlappndcakeaa
