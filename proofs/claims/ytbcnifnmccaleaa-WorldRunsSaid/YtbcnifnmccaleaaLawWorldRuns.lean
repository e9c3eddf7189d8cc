/- The row of WorldRuns: it gives true, whatever the input, and leaves the input as it was. -/
import Derived.Test.YtbcnifnmccaleaaRows
import Derived.Test.YtbcnifnmccaleaaFwX
import Derived.Test.YtbcnifnmccaleaaYWr
import Derived.WalkKit
import Derived.ProofKit
import Derived.OpenShut
import Derived.ShutString
import Derived.ChangeOld
import Derived.Below
import Derived.SizedLaws
import Derived.Carry
namespace Go.Proofs.Ytbcnifnmccaleaa.LawWorldRuns
open Go Go.Proofs Go.Proofs.Ytbcnifnmccaleaa Go.Proofs.Ytbcnifnmccaleaa.Fw Go.ChangeShapes Go.WideShapes Go.ChangeAt Go.RowKit Go.Proofs.Ytbcnifnmccaleaa
set_option linter.unusedVariables false
set_option maxRecDepth 100000
set_option maxHeartbeats 2000000
theorem own : ownKnob Try.prog.godebug = none := by kernel_rfl
theorem laidOut : laidOutB Try.prog = true := by kernel_rfl
theorem flat26 : flat Try.prog 12 26 = some [24, 24] := by kernel_rfl
theorem rows26 {H : Type} {enc : TypeId × Value → H} {W : World} : RowsOf enc Try.prog W 26 E.Rii (fun x => (Lit.int .i64 x.1).wf = true ∧ (Lit.int .i64 x.2).wf = true) := fun cs h => by
  obtain ⟨c0, r0, rfl, t0, c1, r1, rfl, t1, (hend : r1 = [])⟩ := trod_trs 12 26 _ flat26 cs h
  subst hend
  obtain ⟨n0, rfl, w0⟩ := leaf_int (show Try.prog.underlying 24 = some (.int .i64) by kernel_rfl) t0
  obtain ⟨n1, rfl, w1⟩ := leaf_int (show Try.prog.underlying 24 = some (.int .i64) by kernel_rfl) t1
  exact ⟨(n0, n1), ⟨w0, w1⟩, .cons (vr_int _ _) (.cons (vr_int _ _) (.nil)), by intro v hv; simp at hv; (try (rcases hv with rfl | rfl)) <;> (try subst hv) <;> rfl⟩
theorem flat45 : flat Try.prog 12 45 = some [3, 3, 3, 3, 3, 24, 24, 24, 24, 24, 24, 24, 3, 3, 24, 24, 24, 24, 24, 3, 24, 24, 24, 24, 24, 24, 24, 3, 24, 39] := by kernel_rfl
theorem rows45 {H : Type} {enc : TypeId × Value → H} {W : World} : RowsOf enc Try.prog W 45 E.RiiiiiiiiiiiiiiiiiiiiiiiiiiiiiL2 (fun x => (Lit.int .i64 x.1).wf = true ∧ (Lit.int .i64 x.2.1).wf = true ∧ (Lit.int .i64 x.2.2.1).wf = true ∧ (Lit.int .i64 x.2.2.2.1).wf = true ∧ (Lit.int .i64 x.2.2.2.2.1).wf = true ∧ (Lit.int .i64 x.2.2.2.2.2.1).wf = true ∧ (Lit.int .i64 x.2.2.2.2.2.2.1).wf = true ∧ (Lit.int .i64 x.2.2.2.2.2.2.2.1).wf = true ∧ (Lit.int .i64 x.2.2.2.2.2.2.2.2.1).wf = true ∧ (Lit.int .i64 x.2.2.2.2.2.2.2.2.2.1).wf = true ∧ (Lit.int .i64 x.2.2.2.2.2.2.2.2.2.2.1).wf = true ∧ (Lit.int .i64 x.2.2.2.2.2.2.2.2.2.2.2.1).wf = true ∧ (Lit.int .i64 x.2.2.2.2.2.2.2.2.2.2.2.2.1).wf = true ∧ (Lit.int .i64 x.2.2.2.2.2.2.2.2.2.2.2.2.2.1).wf = true ∧ (Lit.int .i64 x.2.2.2.2.2.2.2.2.2.2.2.2.2.2.1).wf = true ∧ (Lit.int .i64 x.2.2.2.2.2.2.2.2.2.2.2.2.2.2.2.1).wf = true ∧ (Lit.int .i64 x.2.2.2.2.2.2.2.2.2.2.2.2.2.2.2.2.1).wf = true ∧ (Lit.int .i64 x.2.2.2.2.2.2.2.2.2.2.2.2.2.2.2.2.2.1).wf = true ∧ (Lit.int .i64 x.2.2.2.2.2.2.2.2.2.2.2.2.2.2.2.2.2.2.1).wf = true ∧ (Lit.int .i64 x.2.2.2.2.2.2.2.2.2.2.2.2.2.2.2.2.2.2.2.1).wf = true ∧ (Lit.int .i64 x.2.2.2.2.2.2.2.2.2.2.2.2.2.2.2.2.2.2.2.2.1).wf = true ∧ (Lit.int .i64 x.2.2.2.2.2.2.2.2.2.2.2.2.2.2.2.2.2.2.2.2.2.1).wf = true ∧ (Lit.int .i64 x.2.2.2.2.2.2.2.2.2.2.2.2.2.2.2.2.2.2.2.2.2.2.1).wf = true ∧ (Lit.int .i64 x.2.2.2.2.2.2.2.2.2.2.2.2.2.2.2.2.2.2.2.2.2.2.2.1).wf = true ∧ (Lit.int .i64 x.2.2.2.2.2.2.2.2.2.2.2.2.2.2.2.2.2.2.2.2.2.2.2.2.1).wf = true ∧ (Lit.int .i64 x.2.2.2.2.2.2.2.2.2.2.2.2.2.2.2.2.2.2.2.2.2.2.2.2.2.1).wf = true ∧ (Lit.int .i64 x.2.2.2.2.2.2.2.2.2.2.2.2.2.2.2.2.2.2.2.2.2.2.2.2.2.2.1).wf = true ∧ (Lit.int .i64 x.2.2.2.2.2.2.2.2.2.2.2.2.2.2.2.2.2.2.2.2.2.2.2.2.2.2.2.1).wf = true ∧ (Lit.int .i64 x.2.2.2.2.2.2.2.2.2.2.2.2.2.2.2.2.2.2.2.2.2.2.2.2.2.2.2.2.1).wf = true ∧ (∃ h : Nat → (Int × Int), (x.2.2.2.2.2.2.2.2.2.2.2.2.2.2.2.2.2.2.2.2.2.2.2.2.2.2.2.2.2).2 = (fun i => E.Rii.enc (h i)) ∧ ∀ i, i < (x.2.2.2.2.2.2.2.2.2.2.2.2.2.2.2.2.2.2.2.2.2.2.2.2.2.2.2.2.2).1 → (fun x => (Lit.int .i64 x.1).wf = true ∧ (Lit.int .i64 x.2).wf = true) (h i))) := fun cs h => by
  obtain ⟨c0, r0, rfl, t0, c1, r1, rfl, t1, c2, r2, rfl, t2, c3, r3, rfl, t3, c4, r4, rfl, t4, c5, r5, rfl, t5, c6, r6, rfl, t6, c7, r7, rfl, t7, c8, r8, rfl, t8, c9, r9, rfl, t9, c10, r10, rfl, t10, c11, r11, rfl, t11, c12, r12, rfl, t12, c13, r13, rfl, t13, c14, r14, rfl, t14, c15, r15, rfl, t15, c16, r16, rfl, t16, c17, r17, rfl, t17, c18, r18, rfl, t18, c19, r19, rfl, t19, c20, r20, rfl, t20, c21, r21, rfl, t21, c22, r22, rfl, t22, c23, r23, rfl, t23, c24, r24, rfl, t24, c25, r25, rfl, t25, c26, r26, rfl, t26, c27, r27, rfl, t27, c28, r28, rfl, t28, c29, r29, rfl, t29, (hend : r29 = [])⟩ := trod_trs 12 45 _ flat45 cs h
  subst hend
  obtain ⟨n0, rfl, w0⟩ := leaf_int (show Try.prog.underlying 3 = some (.int .i64) by kernel_rfl) t0
  obtain ⟨n1, rfl, w1⟩ := leaf_int (show Try.prog.underlying 3 = some (.int .i64) by kernel_rfl) t1
  obtain ⟨n2, rfl, w2⟩ := leaf_int (show Try.prog.underlying 3 = some (.int .i64) by kernel_rfl) t2
  obtain ⟨n3, rfl, w3⟩ := leaf_int (show Try.prog.underlying 3 = some (.int .i64) by kernel_rfl) t3
  obtain ⟨n4, rfl, w4⟩ := leaf_int (show Try.prog.underlying 3 = some (.int .i64) by kernel_rfl) t4
  obtain ⟨n5, rfl, w5⟩ := leaf_int (show Try.prog.underlying 24 = some (.int .i64) by kernel_rfl) t5
  obtain ⟨n6, rfl, w6⟩ := leaf_int (show Try.prog.underlying 24 = some (.int .i64) by kernel_rfl) t6
  obtain ⟨n7, rfl, w7⟩ := leaf_int (show Try.prog.underlying 24 = some (.int .i64) by kernel_rfl) t7
  obtain ⟨n8, rfl, w8⟩ := leaf_int (show Try.prog.underlying 24 = some (.int .i64) by kernel_rfl) t8
  obtain ⟨n9, rfl, w9⟩ := leaf_int (show Try.prog.underlying 24 = some (.int .i64) by kernel_rfl) t9
  obtain ⟨n10, rfl, w10⟩ := leaf_int (show Try.prog.underlying 24 = some (.int .i64) by kernel_rfl) t10
  obtain ⟨n11, rfl, w11⟩ := leaf_int (show Try.prog.underlying 24 = some (.int .i64) by kernel_rfl) t11
  obtain ⟨n12, rfl, w12⟩ := leaf_int (show Try.prog.underlying 3 = some (.int .i64) by kernel_rfl) t12
  obtain ⟨n13, rfl, w13⟩ := leaf_int (show Try.prog.underlying 3 = some (.int .i64) by kernel_rfl) t13
  obtain ⟨n14, rfl, w14⟩ := leaf_int (show Try.prog.underlying 24 = some (.int .i64) by kernel_rfl) t14
  obtain ⟨n15, rfl, w15⟩ := leaf_int (show Try.prog.underlying 24 = some (.int .i64) by kernel_rfl) t15
  obtain ⟨n16, rfl, w16⟩ := leaf_int (show Try.prog.underlying 24 = some (.int .i64) by kernel_rfl) t16
  obtain ⟨n17, rfl, w17⟩ := leaf_int (show Try.prog.underlying 24 = some (.int .i64) by kernel_rfl) t17
  obtain ⟨n18, rfl, w18⟩ := leaf_int (show Try.prog.underlying 24 = some (.int .i64) by kernel_rfl) t18
  obtain ⟨n19, rfl, w19⟩ := leaf_int (show Try.prog.underlying 3 = some (.int .i64) by kernel_rfl) t19
  obtain ⟨n20, rfl, w20⟩ := leaf_int (show Try.prog.underlying 24 = some (.int .i64) by kernel_rfl) t20
  obtain ⟨n21, rfl, w21⟩ := leaf_int (show Try.prog.underlying 24 = some (.int .i64) by kernel_rfl) t21
  obtain ⟨n22, rfl, w22⟩ := leaf_int (show Try.prog.underlying 24 = some (.int .i64) by kernel_rfl) t22
  obtain ⟨n23, rfl, w23⟩ := leaf_int (show Try.prog.underlying 24 = some (.int .i64) by kernel_rfl) t23
  obtain ⟨n24, rfl, w24⟩ := leaf_int (show Try.prog.underlying 24 = some (.int .i64) by kernel_rfl) t24
  obtain ⟨n25, rfl, w25⟩ := leaf_int (show Try.prog.underlying 24 = some (.int .i64) by kernel_rfl) t25
  obtain ⟨n26, rfl, w26⟩ := leaf_int (show Try.prog.underlying 24 = some (.int .i64) by kernel_rfl) t26
  obtain ⟨n27, rfl, w27⟩ := leaf_int (show Try.prog.underlying 3 = some (.int .i64) by kernel_rfl) t27
  obtain ⟨n28, rfl, w28⟩ := leaf_int (show Try.prog.underlying 24 = some (.int .i64) by kernel_rfl) t28
  obtain ⟨n29, g29, nm29, w29, vr29⟩ := leaf_list_in (show Try.prog.underlying 39 = some (.slice 26) by kernel_rfl) (show Try.prog.cellsOf 26 = 2 by kernel_rfl) (by omega) (0, 0) (rows26 (enc := enc) (W := W)) t29
  exact ⟨(n0, n1, n2, n3, n4, n5, n6, n7, n8, n9, n10, n11, n12, n13, n14, n15, n16, n17, n18, n19, n20, n21, n22, n23, n24, n25, n26, n27, n28, (n29, fun i => E.Rii.enc (g29 i))), ⟨w0, w1, w2, w3, w4, w5, w6, w7, w8, w9, w10, w11, w12, w13, w14, w15, w16, w17, w18, w19, w20, w21, w22, w23, w24, w25, w26, w27, w28, ⟨g29, rfl, w29⟩⟩, .cons (vr_int _ _) (.cons (vr_int _ _) (.cons (vr_int _ _) (.cons (vr_int _ _) (.cons (vr_int _ _) (.cons (vr_int _ _) (.cons (vr_int _ _) (.cons (vr_int _ _) (.cons (vr_int _ _) (.cons (vr_int _ _) (.cons (vr_int _ _) (.cons (vr_int _ _) (.cons (vr_int _ _) (.cons (vr_int _ _) (.cons (vr_int _ _) (.cons (vr_int _ _) (.cons (vr_int _ _) (.cons (vr_int _ _) (.cons (vr_int _ _) (.cons (vr_int _ _) (.cons (vr_int _ _) (.cons (vr_int _ _) (.cons (vr_int _ _) (.cons (vr_int _ _) (.cons (vr_int _ _) (.cons (vr_int _ _) (.cons (vr_int _ _) (.cons (vr_int _ _) (.cons (vr_int _ _) (.cons (vr29) (.nil)))))))))))))))))))))))))))))), by intro v hv; simp at hv; (try (rcases hv with rfl | rfl | rfl | rfl | rfl | rfl | rfl | rfl | rfl | rfl | rfl | rfl | rfl | rfl | rfl | rfl | rfl | rfl | rfl | rfl | rfl | rfl | rfl | rfl | rfl | rfl | rfl | rfl | rfl | rfl)) <;> (try subst hv) <;> first | rfl | exact vr29.cell rfl⟩
theorem lifted (os : Os) (started : os.Started) (H : Type) (enc : TypeId × Value → H) :
    ReturnsInHanded {} Try.checked os 3 .any (Rows.worldRunsSpec.pre6 enc Try.prog Try.f3 Rows.worldRunsRow.domain false) (Rows.worldRunsSpec.post enc Try.prog Try.f3 false true false false) := by
  refine returnsInHanded_of_change_sized (C := Try.checked) own started (by kernel_rfl) Try.func3
    (ChangeSpec.witness6 (enc := enc) (C := Try.checked) false ⟨#[], #[.slice none 0 0], []⟩ 8 (by kernel_rfl) (by kernel_rfl) (by kernel_rfl) (by kernel_rfl)) ?_
  intro W base args ds gs before hval0 hW hcnd0 hsz0 _
  have hval : ∀ (j : Nat) t v, Try.f3.params[j]? = some t → args[j]? = some v → Value.okWide Try.prog W .any base t v := hval0
  have hW' := hW
  obtain ⟨p, q, hA0, hV, rfl, hfz, hnd⟩ := hW
  have hA : DataW.TrodAll enc Try.prog W 0 (fun _ => true) true Try.f3.params.toList args.toList ds p := hA0
  rw [Try.params3] at hA hval
  obtain ⟨v0, vs0, d0, ds0, p0, q0, hargs, rfl, rfl, h0, r0⟩ := trodAll_cons hA
  obtain ⟨rfl, rfl, rfl⟩ := trodAll_nil r0
  obtain rfl : args = #[v0] := by cases args; simp_all
  obtain ⟨rfl, rfl⟩ := trodVars_none hV
  have k0 := h0
  have lt0 : ∀ x ∈ p0, x.block < W.heap.size := by obtain ⟨m, hm⟩ := k0; exact DataW.trod_lt m _ _ _ hm
  have q0 : Value.okWide Try.prog W .any base 22 v0 := hval 0 22 v0 rfl rfl
  obtain ⟨sa0, sl0, sc0, rfl⟩ := okWide_slice (show Try.prog.underlying 22 = some (.slice 45) by kernel_rfl) q0
  obtain ⟨n0, g0, nm0, w0, vr0⟩ := leaf_list (show Try.prog.underlying 22 = some (.slice 45) by kernel_rfl) (show Try.prog.cellsOf 45 = 30 by kernel_rfl) (by omega) (0, 0, 0, 0, 0, 0, 0, 0, 0, 0, 0, 0, 0, 0, 0, 0, 0, 0, 0, 0, 0, 0, 0, 0, 0, 0, 0, 0, 0, (0, fun _ => [])) (rows45 (enc := enc) (W := W)) (by obtain ⟨fu, hf⟩ := h0; exact ⟨fu, _, hf⟩) (show Cell.okWide Try.prog W .any base 22 _ from by simpa [Value.okWide, (show Try.prog.underlying 22 = some (.slice 45) by kernel_rfl)] using q0)
  have hcr : CR (fun _ => none) (roAll W) noHp (TyL.enc (tOne (tLz 30 (E.RiiiiiiiiiiiiiiiiiiiiiiiiiiiiiL2.enc (0, 0, 0, 0, 0, 0, 0, 0, 0, 0, 0, 0, 0, 0, 0, 0, 0, 0, 0, 0, 0, 0, 0, 0, 0, 0, 0, 0, 0, (0, fun _ => []))))) (n0, fun i => E.RiiiiiiiiiiiiiiiiiiiiiiiiiiiiiL2.enc (g0 i))) _ := CR.cons vr0 (CR.nil)
  refine (law_sum E.law09.WorldRuns.ok (by kernel_rfl) (Y.WorldRuns_true n0 g0 nm0 w0) hcr).mono fun e W' ⟨he, bel⟩ => ?_
  subst he
  exact ⟨_, rfl, _, _, _, [], _, [], hW', trodAll_mk1 (shut_bool (show Try.prog.underlying 4 = some .bool by kernel_rfl) _), (trodAll_cons_mk (Below.trod laidOut (by kernel_rfl) (of_decide_eq_true (by kernel_rfl)) k0 bel lt0) trodAll_mk0), rfl, bel.frame _, fun h => by cases h⟩
theorem over : Rows.worldRunsRow.holds Try.pinned (OpenSpec.ofChange Rows.worldRunsSpec) :=
  OpenClaim.holds_of_wide 3 Try.f3 rfl rfl rfl rfl rfl rfl rfl ⟨rfl, rfl, rfl, rfl, rfl⟩ rfl rfl rfl rfl rfl (by kernel_rfl) Try.func3 (by kernel_rfl)
    (of_decide_eq_true (by kernel_rfl)) (by unfold Func.isWrapper; first | (rw [if_pos (by decide +kernel)]; kernel_rfl) | (rw [if_neg (by decide +kernel)]; exact ⟨rfl, rfl⟩))
    (fun os started H enc _ => lifted os started H enc)
theorem proved : Rows.WorldRunsSaid := over
end Go.Proofs.Ytbcnifnmccaleaa.LawWorldRuns
namespace Go.Proofs.Ytbcnifnmccaleaa
/-- The row, under a short name, for the claim. -/
theorem worldRuns_holds : Rows.WorldRunsSaid := Go.Proofs.Ytbcnifnmccaleaa.LawWorldRuns.proved
end Go.Proofs.Ytbcnifnmccaleaa
