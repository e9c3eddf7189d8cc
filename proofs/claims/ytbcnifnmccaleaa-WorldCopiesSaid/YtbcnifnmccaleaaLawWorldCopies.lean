/- The row of WorldCopies: it gives true, whatever the input, and leaves the input as it was. -/
import Derived.Test.YtbcnifnmccaleaaRows
import Derived.Test.YtbcnifnmccaleaaFwX
import Derived.Test.YtbcnifnmccaleaaYWu
import Derived.WalkKit
import Derived.ProofKit
import Derived.OpenShut
import Derived.ShutString
import Derived.ChangeOld
import Derived.Below
import Derived.SizedLaws
import Derived.Carry
namespace Go.Proofs.Ytbcnifnmccaleaa.LawWorldCopies
open Go Go.Proofs Go.Proofs.Ytbcnifnmccaleaa Go.Proofs.Ytbcnifnmccaleaa.Fw Go.ChangeShapes Go.WideShapes Go.ChangeAt Go.RowKit Go.Proofs.Ytbcnifnmccaleaa
set_option linter.unusedVariables false
set_option maxRecDepth 100000
set_option maxHeartbeats 2000000
theorem own : ownKnob Try.prog.godebug = none := by kernel_rfl
theorem laidOut : laidOutB Try.prog = true := by kernel_rfl
theorem flat26 : flat Try.prog 12 26 = some [24, 24] := by kernel_rfl
theorem rows26 {H : Type} {enc : TypeId × Value → H} {W : World} : RowsOf enc Try.prog W 26 E.Rii (fun x => (Lit.int .i64 x.1).wf = true ∧ (Lit.int .i64 x.2).wf = true) := fun cs h => by
  obtain ⟨c0, r0, rfl, t0, c1, r1, rfl, t1, (hend : r1 = [])⟩ := trod_trs 12 26 _ flat26 cs h
  subst hend
  obtain ⟨n0, rfl, w0⟩ := leaf_int (show Try.prog.underlying 24 = some (.int .i64) by kernel_rfl) t0
  obtain ⟨n1, rfl, w1⟩ := leaf_int (show Try.prog.underlying 24 = some (.int .i64) by kernel_rfl) t1
  exact ⟨(n0, n1), ⟨w0, w1⟩, .cons (vr_int _ _) (.cons (vr_int _ _) (.nil)), by intro v hv; simp at hv; (try (rcases hv with rfl | rfl)) <;> (try subst hv) <;> rfl⟩
theorem flat45 : flat Try.prog 12 45 = some [3, 3, 3, 3, 3, 24, 24, 24, 24, 24, 24, 24, 3, 3, 24, 24, 24, 24, 24, 3, 24, 24, 24, 24, 24, 24, 24, 3, 24, 39] := by kernel_rfl
theorem rows45 {H : Type} {enc : TypeId × Value → H} {W : World} : RowsOf enc Try.prog W 45 E.RiiiiiiiiiiiiiiiiiiiiiiiiiiiiiL2 (fun x => (Lit.int .i64 x.1).wf = true ∧ (Lit.int .i64 x.2.1).wf = true ∧ (Lit.int .i64 x.2.2.1).wf = true ∧ (Lit.int .i64 x.2.2.2.1).wf = true ∧ (Lit.int .i64 x.2.2.2.2.1).wf = true ∧ (Lit.int .i64 x.2.2.2.2.2.1).wf = true ∧ (Lit.int .i64 x.2.2.2.2.2.2.1).wf = true ∧ (Lit.int .i64 x.2.2.2.2.2.2.2.1).wf = true ∧ (Lit.int .i64 x.2.2.2.2.2.2.2.2.1).wf = true ∧ (Lit.int .i64 x.2.2.2.2.2.2.2.2.2.1).wf = true ∧ (Lit.int .i64 x.2.2.2.2.2.2.2.2.2.2.1).wf = true ∧ (Lit.int .i64 x.2.2.2.2.2.2.2.2.2.2.2.1).wf = true ∧ (Lit.int .i64 x.2.2.2.2.2.2.2.2.2.2.2.2.1).wf = true ∧ (Lit.int .i64 x.2.2.2.2.2.2.2.2.2.2.2.2.2.1).wf = true ∧ (Lit.int .i64 x.2.2.2.2.2.2.2.2.2.2.2.2.2.2.1).wf = true ∧ (Lit.int .i64 x.2.2.2.2.2.2.2.2.2.2.2.2.2.2.2.1).wf = true ∧ (Lit.int .i64 x.2.2.2.2.2.2.2.2.2.2.2.2.2.2.2.2.1).wf = true ∧ (Lit.int .i64 x.2.2.2.2.2.2.2.2.2.2.2.2.2.2.2.2.2.1).wf = true ∧ (Lit.int .i64 x.2.2.2.2.2.2.2.2.2.2.2.2.2.2.2.2.2.2.1).wf = true ∧ (Lit.int .i64 x.2.2.2.2.2.2.2.2.2.2.2.2.2.2.2.2.2.2.2.1).wf = true ∧ (Lit.int .i64 x.2.2.2.2.2.2.2.2.2.2.2.2.2.2.2.2.2.2.2.2.1).wf = true ∧ (Lit.int .i64 x.2.2.2.2.2.2.2.2.2.2.2.2.2.2.2.2.2.2.2.2.2.1).wf = true ∧ (Lit.int .i64 x.2.2.2.2.2.2.2.2.2.2.2.2.2.2.2.2.2.2.2.2.2.2.1).wf = true ∧ (Lit.int .i64 x.2.2.2.2.2.2.2.2.2.2.2.2.2.2.2.2.2.2.2.2.2.2.2.1).wf = true ∧ (Lit.int .i64 x.2.2.2.2.2.2.2.2.2.2.2.2.2.2.2.2.2.2.2.2.2.2.2.2.1).wf = true ∧ (Lit.int .i64 x.2.2.2.2.2.2.2.2.2.2.2.2.2.2.2.2.2.2.2.2.2.2.2.2.2.1).wf = true ∧ (Lit.int .i64 x.2.2.2.2.2.2.2.2.2.2.2.2.2.2.2.2.2.2.2.2.2.2.2.2.2.2.1).wf = true ∧ (Lit.int .i64 x.2.2.2.2.2.2.2.2.2.2.2.2.2.2.2.2.2.2.2.2.2.2.2.2.2.2.2.1).wf = true ∧ (Lit.int .i64 x.2.2.2.2.2.2.2.2.2.2.2.2.2.2.2.2.2.2.2.2.2.2.2.2.2.2.2.2.1).wf = true ∧ (∃ h : Nat → (Int × Int), (x.2.2.2.2.2.2.2.2.2.2.2.2.2.2.2.2.2.2.2.2.2.2.2.2.2.2.2.2.2).2 = (fun i => E.Rii.enc (h i)) ∧ ∀ i, i < (x.2.2.2.2.2.2.2.2.2.2.2.2.2.2.2.2.2.2.2.2.2.2.2.2.2.2.2.2.2).1 → (fun x => (Lit.int .i64 x.1).wf = true ∧ (Lit.int .i64 x.2).wf = true) (h i))) := fun cs h => by
  obtain ⟨c0, r0, rfl, t0, c1, r1, rfl, t1, c2, r2, rfl, t2, c3, r3, rfl, t3, c4, r4, rfl, t4, c5, r5, rfl, t5, c6, r6, rfl, t6, c7, r7, rfl, t7, c8, r8, rfl, t8, c9, r9, rfl, t9, c10, r10, rfl, t10, c11, r11, rfl, t11, c12, r12, rfl, t12, c13, r13, rfl, t13, c14, r14, rfl, t14, c15, r15, rfl, t15, c16, r16, rfl, t16, c17, r17, rfl, t17, c18, r18, rfl, t18, c19, r19, rfl, t19, c20, r20, rfl, t20, c21, r21, rfl, t21, c22, r22, rfl, t22, c23, r23, rfl, t23, c24, r24, rfl, t24, c25, r25, rfl, t25, c26, r26, rfl, t26, c27, r27, rfl, t27, c28, r28, rfl, t28, c29, r29, rfl, t29, (hend : r29 = [])⟩ := trod_trs 12 45 _ flat45 cs h
  subst hend
  obtain ⟨n0, rfl, w0⟩ := leaf_int (show Try.prog.underlying 3 = some (.int .i64) by kernel_rfl) t0
  obtain ⟨n1, rfl, w1⟩ := leaf_int (show Try.prog.underlying 3 = some (.int .i64) by kernel_rfl) t1
  obtain ⟨n2, rfl, w2⟩ := leaf_int (show Try.prog.underlying 3 = some (.int .i64) by kernel_rfl) t2
  obtain ⟨n3, rfl, w3⟩ := leaf_int (show Try.prog.underlying 3 = some (.int .i64) by kernel_rfl) t3
  obtain ⟨n4, rfl, w4⟩ := leaf_int (show Try.prog.underlying 3 = some (.int .i64) by kernel_rfl) t4
  obtain ⟨n5, rfl, w5⟩ := leaf_int (show Try.prog.underlying 24 = some (.int .i64) by kernel_rfl) t5
  obtain ⟨n6, rfl, w6⟩ := leaf_int (show Try.prog.underlying 24 = some (.int .i64) by kernel_rfl) t6
  obtain ⟨n7, rfl, w7⟩ := leaf_int (show Try.prog.underlying 24 = some (.int .i64) by kernel_rfl) t7
  obtain ⟨n8, rfl, w8⟩ := leaf_int (show Try.prog.underlying 24 = some (.int .i64) by kernel_rfl) t8
  obtain ⟨n9, rfl, w9⟩ := leaf_int (show Try.prog.underlying 24 = some (.int .i64) by kernel_rfl) t9
  obtain ⟨n10, rfl, w10⟩ := leaf_int (show Try.prog.underlying 24 = some (.int .i64) by kernel_rfl) t10
  obtain ⟨n11, rfl, w11⟩ := leaf_int (show Try.prog.underlying 24 = some (.int .i64) by kernel_rfl) t11
  obtain ⟨n12, rfl, w12⟩ := leaf_int (show Try.prog.underlying 3 = some (.int .i64) by kernel_rfl) t12
  obtain ⟨n13, rfl, w13⟩ := leaf_int (show Try.prog.underlying 3 = some (.int .i64) by kernel_rfl) t13
  obtain ⟨n14, rfl, w14⟩ := leaf_int (show Try.prog.underlying 24 = some (.int .i64) by kernel_rfl) t14
  obtain ⟨n15, rfl, w15⟩ := leaf_int (show Try.prog.underlying 24 = some (.int .i64) by kernel_rfl) t15
  obtain ⟨n16, rfl, w16⟩ := leaf_int (show Try.prog.underlying 24 = some (.int .i64) by kernel_rfl) t16
  obtain ⟨n17, rfl, w17⟩ := leaf_int (show Try.prog.underlying 24 = some (.int .i64) by kernel_rfl) t17
  obtain ⟨n18, rfl, w18⟩ := leaf_int (show Try.prog.underlying 24 = some (.int .i64) by kernel_rfl) t18
  obtain ⟨n19, rfl, w19⟩ := leaf_int (show Try.prog.underlying 3 = some (.int .i64) by kernel_rfl) t19
  obtain ⟨n20, rfl, w20⟩ := leaf_int (show Try.prog.underlying 24 = some (.int .i64) by kernel_rfl) t20
  obtain ⟨n21, rfl, w21⟩ := leaf_int (show Try.prog.underlying 24 = some (.int .i64) by kernel_rfl) t21
  obtain ⟨n22, rfl, w22⟩ := leaf_int (show Try.prog.underlying 24 = some (.int .i64) by kernel_rfl) t22
  obtain ⟨n23, rfl, w23⟩ := leaf_int (show Try.prog.underlying 24 = some (.int .i64) by kernel_rfl) t23
  obtain ⟨n24, rfl, w24⟩ := leaf_int (show Try.prog.underlying 24 = some (.int .i64) by kernel_rfl) t24
  obtain ⟨n25, rfl, w25⟩ := leaf_int (show Try.prog.underlying 24 = some (.int .i64) by kernel_rfl) t25
  obtain ⟨n26, rfl, w26⟩ := leaf_int (show Try.prog.underlying 24 = some (.int .i64) by kernel_rfl) t26
  obtain ⟨n27, rfl, w27⟩ := leaf_int (show Try.prog.underlying 3 = some (.int .i64) by kernel_rfl) t27
  obtain ⟨n28, rfl, w28⟩ := leaf_int (show Try.prog.underlying 24 = some (.int .i64) by kernel_rfl) t28
  obtain ⟨n29, g29, nm29, w29, vr29⟩ := leaf_list_in (show Try.prog.underlying 39 = some (.slice 26) by kernel_rfl) (show Try.prog.cellsOf 26 = 2 by kernel_rfl) (by omega) (0, 0) (rows26 (enc := enc) (W := W)) t29
  exact ⟨(n0, n1, n2, n3, n4, n5, n6, n7, n8, n9, n10, n11, n12, n13, n14, n15, n16, n17, n18, n19, n20, n21, n22, n23, n24, n25, n26, n27, n28, (n29, fun i => E.Rii.enc (g29 i))), ⟨w0, w1, w2, w3, w4, w5, w6, w7, w8, w9, w10, w11, w12, w13, w14, w15, w16, w17, w18, w19, w20, w21, w22, w23, w24, w25, w26, w27, w28, ⟨g29, rfl, w29⟩⟩, .cons (vr_int _ _) (.cons (vr_int _ _) (.cons (vr_int _ _) (.cons (vr_int _ _) (.cons (vr_int _ _) (.cons (vr_int _ _) (.cons (vr_int _ _) (.cons (vr_int _ _) (.cons (vr_int _ _) (.cons (vr_int _ _) (.cons (vr_int _ _) (.cons (vr_int _ _) (.cons (vr_int _ _) (.cons (vr_int _ _) (.cons (vr_int _ _) (.cons (vr_int _ _) (.cons (vr_int _ _) (.cons (vr_int _ _) (.cons (vr_int _ _) (.cons (vr_int _ _) (.cons (vr_int _ _) (.cons (vr_int _ _) (.cons (vr_int _ _) (.cons (vr_int _ _) (.cons (vr_int _ _) (.cons (vr_int _ _) (.cons (vr_int _ _) (.cons (vr_int _ _) (.cons (vr_int _ _) (.cons (vr29) (.nil)))))))))))))))))))))))))))))), by intro v hv; simp at hv; (try (rcases hv with rfl | rfl | rfl | rfl | rfl | rfl | rfl | rfl | rfl | rfl | rfl | rfl | rfl | rfl | rfl | rfl | rfl | rfl | rfl | rfl | rfl | rfl | rfl | rfl | rfl | rfl | rfl | rfl | rfl | rfl)) <;> (try subst hv) <;> first | rfl | exact vr29.cell rfl⟩
theorem pflat45 : flat Try.prog 12 45 = some [3, 3, 3, 3, 3, 24, 24, 24, 24, 24, 24, 24, 3, 3, 24, 24, 24, 24, 24, 3, 24, 24, 24, 24, 24, 24, 24, 3, 24, 39] := by kernel_rfl
theorem pcell45 : Try.prog.cellTypes Try.prog.depth 45 = some [3, 3, 3, 3, 3, 24, 24, 24, 24, 24, 24, 24, 3, 3, 24, 24, 24, 24, 24, 3, 24, 24, 24, 24, 24, 24, 24, 3, 24, 39] := by kernel_rfl
theorem lifted (os : Os) (started : os.Started) (H : Type) (enc : TypeId × Value → H) :
    ReturnsInHanded {} Try.checked os 7 .any (Rows.worldCopiesSpec.pre6 enc Try.prog Try.f7 Rows.worldCopiesRow.domain false) (Rows.worldCopiesSpec.post enc Try.prog Try.f7 false true false false) := by
  refine returnsInHanded_of_change_sized (C := Try.checked) own started (by kernel_rfl) Try.func7
    (ChangeSpec.witness6 (enc := enc) (C := Try.checked) false ⟨#[], #[.slice none 0 0, .agg #[.int .i64 0, .int .i64 0, .int .i64 0, .int .i64 0, .int .i64 0, .int .i64 0, .int .i64 0, .int .i64 0, .int .i64 0, .int .i64 0, .int .i64 0, .int .i64 0, .int .i64 0, .int .i64 0, .int .i64 0, .int .i64 0, .int .i64 0, .int .i64 0, .int .i64 0, .int .i64 0, .int .i64 0, .int .i64 0, .int .i64 0, .int .i64 0, .int .i64 0, .int .i64 0, .int .i64 0, .int .i64 0, .int .i64 0, .slice none 0 0], .int .i64 0], []⟩ 8 (by kernel_rfl) (by kernel_rfl) (by kernel_rfl) (by kernel_rfl)) ?_
  intro W base args ds gs before hval0 hW hcnd0 hsz0 _
  have hval : ∀ (j : Nat) t v, Try.f7.params[j]? = some t → args[j]? = some v → Value.okWide Try.prog W .any base t v := hval0
  have hW' := hW
  obtain ⟨p, q, hA0, hV, rfl, hfz, hnd⟩ := hW
  have hA : DataW.TrodAll enc Try.prog W 0 (fun _ => true) true Try.f7.params.toList args.toList ds p := hA0
  rw [Try.params7] at hA hval
  obtain ⟨v0, vs0, d0, ds0, p0, q0, hargs, rfl, rfl, h0, r0⟩ := trodAll_cons hA
  obtain ⟨v1, vs1, d1, ds1, p1, q1, rfl, rfl, rfl, h1, r1⟩ := trodAll_cons r0
  obtain ⟨v2, vs2, d2, ds2, p2, q2, rfl, rfl, rfl, h2, r2⟩ := trodAll_cons r1
  obtain ⟨rfl, rfl, rfl⟩ := trodAll_nil r2
  obtain rfl : args = #[v0, v1, v2] := by cases args; simp_all
  obtain ⟨rfl, rfl⟩ := trodVars_none hV
  have k0 := h0
  have lt0 : ∀ x ∈ p0, x.block < W.heap.size := by obtain ⟨m, hm⟩ := k0; exact DataW.trod_lt m _ _ _ hm
  have q0 : Value.okWide Try.prog W .any base 22 v0 := hval 0 22 v0 rfl rfl
  obtain ⟨sa0, sl0, sc0, rfl⟩ := okWide_slice (show Try.prog.underlying 22 = some (.slice 45) by kernel_rfl) q0
  obtain ⟨n0, g0, nm0, w0, vr0⟩ := leaf_list (show Try.prog.underlying 22 = some (.slice 45) by kernel_rfl) (show Try.prog.cellsOf 45 = 30 by kernel_rfl) (by omega) (0, 0, 0, 0, 0, 0, 0, 0, 0, 0, 0, 0, 0, 0, 0, 0, 0, 0, 0, 0, 0, 0, 0, 0, 0, 0, 0, 0, 0, (0, fun _ => [])) (rows45 (enc := enc) (W := W)) (by obtain ⟨fu, hf⟩ := h0; exact ⟨fu, _, hf⟩) (show Cell.okWide Try.prog W .any base 22 _ from by simpa [Value.okWide, (show Try.prog.underlying 22 = some (.slice 45) by kernel_rfl)] using q0)
  have k1 := h1
  have lt1 : ∀ x ∈ p1, x.block < W.heap.size := by obtain ⟨m, hm⟩ := k1; exact DataW.trod_lt m _ _ _ hm
  obtain ⟨cs1, rfl, ok1⟩ := agg_ok (show isAggT Try.prog 45 = true by kernel_rfl) (hval 1 45 v1 rfl rfl) pcell45 (by kernel_rfl)
  have tr1 : Trs enc Try.prog W _ cs1 := trod_trs 12 45 _ pflat45 cs1 (by obtain ⟨fu, hf⟩ := h1; exact ⟨fu, _, by simpa [Value.cells] using hf⟩)
  obtain ⟨c1_0, r1_0, rfl, t1_0, c1_1, r1_1, rfl, t1_1, c1_2, r1_2, rfl, t1_2, c1_3, r1_3, rfl, t1_3, c1_4, r1_4, rfl, t1_4, c1_5, r1_5, rfl, t1_5, c1_6, r1_6, rfl, t1_6, c1_7, r1_7, rfl, t1_7, c1_8, r1_8, rfl, t1_8, c1_9, r1_9, rfl, t1_9, c1_10, r1_10, rfl, t1_10, c1_11, r1_11, rfl, t1_11, c1_12, r1_12, rfl, t1_12, c1_13, r1_13, rfl, t1_13, c1_14, r1_14, rfl, t1_14, c1_15, r1_15, rfl, t1_15, c1_16, r1_16, rfl, t1_16, c1_17, r1_17, rfl, t1_17, c1_18, r1_18, rfl, t1_18, c1_19, r1_19, rfl, t1_19, c1_20, r1_20, rfl, t1_20, c1_21, r1_21, rfl, t1_21, c1_22, r1_22, rfl, t1_22, c1_23, r1_23, rfl, t1_23, c1_24, r1_24, rfl, t1_24, c1_25, r1_25, rfl, t1_25, c1_26, r1_26, rfl, t1_26, c1_27, r1_27, rfl, t1_27, c1_28, r1_28, rfl, t1_28, c1_29, r1_29, rfl, t1_29, (hend : r1_29 = [])⟩ := tr1
  subst hend
  obtain ⟨a1_0, rfl, w1_0⟩ := leaf_int (show Try.prog.underlying 3 = some (.int .i64) by kernel_rfl) t1_0
  obtain ⟨a1_1, rfl, w1_1⟩ := leaf_int (show Try.prog.underlying 3 = some (.int .i64) by kernel_rfl) t1_1
  obtain ⟨a1_2, rfl, w1_2⟩ := leaf_int (show Try.prog.underlying 3 = some (.int .i64) by kernel_rfl) t1_2
  obtain ⟨a1_3, rfl, w1_3⟩ := leaf_int (show Try.prog.underlying 3 = some (.int .i64) by kernel_rfl) t1_3
  obtain ⟨a1_4, rfl, w1_4⟩ := leaf_int (show Try.prog.underlying 3 = some (.int .i64) by kernel_rfl) t1_4
  obtain ⟨a1_5, rfl, w1_5⟩ := leaf_int (show Try.prog.underlying 24 = some (.int .i64) by kernel_rfl) t1_5
  obtain ⟨a1_6, rfl, w1_6⟩ := leaf_int (show Try.prog.underlying 24 = some (.int .i64) by kernel_rfl) t1_6
  obtain ⟨a1_7, rfl, w1_7⟩ := leaf_int (show Try.prog.underlying 24 = some (.int .i64) by kernel_rfl) t1_7
  obtain ⟨a1_8, rfl, w1_8⟩ := leaf_int (show Try.prog.underlying 24 = some (.int .i64) by kernel_rfl) t1_8
  obtain ⟨a1_9, rfl, w1_9⟩ := leaf_int (show Try.prog.underlying 24 = some (.int .i64) by kernel_rfl) t1_9
  obtain ⟨a1_10, rfl, w1_10⟩ := leaf_int (show Try.prog.underlying 24 = some (.int .i64) by kernel_rfl) t1_10
  obtain ⟨a1_11, rfl, w1_11⟩ := leaf_int (show Try.prog.underlying 24 = some (.int .i64) by kernel_rfl) t1_11
  obtain ⟨a1_12, rfl, w1_12⟩ := leaf_int (show Try.prog.underlying 3 = some (.int .i64) by kernel_rfl) t1_12
  obtain ⟨a1_13, rfl, w1_13⟩ := leaf_int (show Try.prog.underlying 3 = some (.int .i64) by kernel_rfl) t1_13
  obtain ⟨a1_14, rfl, w1_14⟩ := leaf_int (show Try.prog.underlying 24 = some (.int .i64) by kernel_rfl) t1_14
  obtain ⟨a1_15, rfl, w1_15⟩ := leaf_int (show Try.prog.underlying 24 = some (.int .i64) by kernel_rfl) t1_15
  obtain ⟨a1_16, rfl, w1_16⟩ := leaf_int (show Try.prog.underlying 24 = some (.int .i64) by kernel_rfl) t1_16
  obtain ⟨a1_17, rfl, w1_17⟩ := leaf_int (show Try.prog.underlying 24 = some (.int .i64) by kernel_rfl) t1_17
  obtain ⟨a1_18, rfl, w1_18⟩ := leaf_int (show Try.prog.underlying 24 = some (.int .i64) by kernel_rfl) t1_18
  obtain ⟨a1_19, rfl, w1_19⟩ := leaf_int (show Try.prog.underlying 3 = some (.int .i64) by kernel_rfl) t1_19
  obtain ⟨a1_20, rfl, w1_20⟩ := leaf_int (show Try.prog.underlying 24 = some (.int .i64) by kernel_rfl) t1_20
  obtain ⟨a1_21, rfl, w1_21⟩ := leaf_int (show Try.prog.underlying 24 = some (.int .i64) by kernel_rfl) t1_21
  obtain ⟨a1_22, rfl, w1_22⟩ := leaf_int (show Try.prog.underlying 24 = some (.int .i64) by kernel_rfl) t1_22
  obtain ⟨a1_23, rfl, w1_23⟩ := leaf_int (show Try.prog.underlying 24 = some (.int .i64) by kernel_rfl) t1_23
  obtain ⟨a1_24, rfl, w1_24⟩ := leaf_int (show Try.prog.underlying 24 = some (.int .i64) by kernel_rfl) t1_24
  obtain ⟨a1_25, rfl, w1_25⟩ := leaf_int (show Try.prog.underlying 24 = some (.int .i64) by kernel_rfl) t1_25
  obtain ⟨a1_26, rfl, w1_26⟩ := leaf_int (show Try.prog.underlying 24 = some (.int .i64) by kernel_rfl) t1_26
  obtain ⟨a1_27, rfl, w1_27⟩ := leaf_int (show Try.prog.underlying 3 = some (.int .i64) by kernel_rfl) t1_27
  obtain ⟨a1_28, rfl, w1_28⟩ := leaf_int (show Try.prog.underlying 24 = some (.int .i64) by kernel_rfl) t1_28
  obtain ⟨n1_29, g1_29, nm1_29, w1_29, vr1_29⟩ := leaf_list (show Try.prog.underlying 39 = some (.slice 26) by kernel_rfl) (show Try.prog.cellsOf 26 = 2 by kernel_rfl) (by omega) (0, 0) (rows26 (enc := enc) (W := W)) t1_29 (ok1 29 _ _ rfl rfl)
  have k2 := h2
  have lt2 : ∀ x ∈ p2, x.block < W.heap.size := by obtain ⟨m, hm⟩ := k2; exact DataW.trod_lt m _ _ _ hm
  have q2 : Value.okWide Try.prog W .any base 3 v2 := hval 2 3 v2 rfl rfl
  obtain ⟨a2, rfl⟩ := okWide_int (show Try.prog.underlying 3 = some (.int .i64) by kernel_rfl) q2
  have w2 : (Lit.int .i64 a2).wf = true := by
    obtain ⟨fu, hf⟩ := h2
    obtain ⟨n, e, w⟩ := leaf_int (enc := enc) (P := Try.prog) (W := W) (show Try.prog.underlying 3 = some (.int .i64) by kernel_rfl) ⟨fu, _, hf⟩
    cases e; exact w
  have hcr : CR (fun _ => none) (roAll W) noHp (TyL.enc (tCons (tLz 30 (E.RiiiiiiiiiiiiiiiiiiiiiiiiiiiiiL2.enc (0, 0, 0, 0, 0, 0, 0, 0, 0, 0, 0, 0, 0, 0, 0, 0, 0, 0, 0, 0, 0, 0, 0, 0, 0, 0, 0, 0, 0, (0, fun _ => [])))) (tCons (tG (tCons (tI .i64) (tCons (tI .i64) (tCons (tI .i64) (tCons (tI .i64) (tCons (tI .i64) (tCons (tI .i64) (tCons (tI .i64) (tCons (tI .i64) (tCons (tI .i64) (tCons (tI .i64) (tCons (tI .i64) (tCons (tI .i64) (tCons (tI .i64) (tCons (tI .i64) (tCons (tI .i64) (tCons (tI .i64) (tCons (tI .i64) (tCons (tI .i64) (tCons (tI .i64) (tCons (tI .i64) (tCons (tI .i64) (tCons (tI .i64) (tCons (tI .i64) (tCons (tI .i64) (tCons (tI .i64) (tCons (tI .i64) (tCons (tI .i64) (tCons (tI .i64) (tCons (tI .i64) (tOne (tLz 2 (E.Rii.enc (0, 0)))))))))))))))))))))))))))))))))) (tOne (tI .i64)))) ((n0, fun i => E.RiiiiiiiiiiiiiiiiiiiiiiiiiiiiiL2.enc (g0 i)), (a1_0, a1_1, a1_2, a1_3, a1_4, a1_5, a1_6, a1_7, a1_8, a1_9, a1_10, a1_11, a1_12, a1_13, a1_14, a1_15, a1_16, a1_17, a1_18, a1_19, a1_20, a1_21, a1_22, a1_23, a1_24, a1_25, a1_26, a1_27, a1_28, (n1_29, fun i => E.Rii.enc (g1_29 i))), a2)) _ := CR.cons vr0 (CR.cons (CR.agg' (.cons (vr_int .i64 a1_0) (.cons (vr_int .i64 a1_1) (.cons (vr_int .i64 a1_2) (.cons (vr_int .i64 a1_3) (.cons (vr_int .i64 a1_4) (.cons (vr_int .i64 a1_5) (.cons (vr_int .i64 a1_6) (.cons (vr_int .i64 a1_7) (.cons (vr_int .i64 a1_8) (.cons (vr_int .i64 a1_9) (.cons (vr_int .i64 a1_10) (.cons (vr_int .i64 a1_11) (.cons (vr_int .i64 a1_12) (.cons (vr_int .i64 a1_13) (.cons (vr_int .i64 a1_14) (.cons (vr_int .i64 a1_15) (.cons (vr_int .i64 a1_16) (.cons (vr_int .i64 a1_17) (.cons (vr_int .i64 a1_18) (.cons (vr_int .i64 a1_19) (.cons (vr_int .i64 a1_20) (.cons (vr_int .i64 a1_21) (.cons (vr_int .i64 a1_22) (.cons (vr_int .i64 a1_23) (.cons (vr_int .i64 a1_24) (.cons (vr_int .i64 a1_25) (.cons (vr_int .i64 a1_26) (.cons (vr_int .i64 a1_27) (.cons (vr_int .i64 a1_28) (.cons (vr1_29) (.nil)))))))))))))))))))))))))))))))) (CR.cons (vr_int .i64 a2) (CR.nil)))
  refine (law_sum Y.copies_ok (by kernel_rfl) (Y.WorldCopies_true n0 g0 a1_0 a1_1 a1_2 a1_3 a1_4 a1_5 a1_6 a1_7 a1_8 a1_9 a1_10 a1_11 a1_12 a1_13 a1_14 a1_15 a1_16 a1_17 a1_18 a1_19 a1_20 a1_21 a1_22 a1_23 a1_24 a1_25 a1_26 a1_27 a1_28 n1_29 g1_29 a2 nm0 w0 w1_0 w1_1 w1_2 w1_3 w1_4 w1_5 w1_6 w1_7 w1_8 w1_9 w1_10 w1_11 w1_12 w1_13 w1_14 w1_15 w1_16 w1_17 w1_18 w1_19 w1_20 w1_21 w1_22 w1_23 w1_24 w1_25 w1_26 w1_27 w1_28 nm1_29 w1_29 w2) hcr).mono fun e W' ⟨he, bel⟩ => ?_
  subst he
  exact ⟨_, rfl, _, _, _, [], _, [], hW', trodAll_mk1 (shut_bool (show Try.prog.underlying 4 = some .bool by kernel_rfl) _), (trodAll_cons_mk (Below.trod laidOut (by kernel_rfl) (of_decide_eq_true (by kernel_rfl)) k0 bel lt0) (trodAll_cons_mk (Below.trod laidOut (by kernel_rfl) (of_decide_eq_true (by kernel_rfl)) k1 bel lt1) (trodAll_cons_mk (Below.trod laidOut (by kernel_rfl) (of_decide_eq_true (by kernel_rfl)) k2 bel lt2) trodAll_mk0))), rfl, bel.frame _, fun h => by cases h⟩
theorem over : Rows.worldCopiesRow.holds Try.pinned (OpenSpec.ofChange Rows.worldCopiesSpec) :=
  OpenClaim.holds_of_wide 7 Try.f7 rfl rfl rfl rfl rfl rfl rfl ⟨rfl, rfl, rfl, rfl, rfl⟩ rfl rfl rfl rfl rfl (by kernel_rfl) Try.func7 (by kernel_rfl)
    (of_decide_eq_true (by kernel_rfl)) (by unfold Func.isWrapper; first | (rw [if_pos (by decide +kernel)]; kernel_rfl) | (rw [if_neg (by decide +kernel)]; exact ⟨rfl, rfl⟩))
    (fun os started H enc _ => lifted os started H enc)
theorem proved : Rows.WorldCopiesSaid := over
end Go.Proofs.Ytbcnifnmccaleaa.LawWorldCopies
namespace Go.Proofs.Ytbcnifnmccaleaa
/-- The row, under a short name, for the claim. -/
theorem worldCopies_holds : Rows.WorldCopiesSaid := Go.Proofs.Ytbcnifnmccaleaa.LawWorldCopies.proved
end Go.Proofs.Ytbcnifnmccaleaa
