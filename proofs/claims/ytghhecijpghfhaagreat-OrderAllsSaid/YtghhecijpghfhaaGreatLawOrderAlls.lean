/- The row of OrderAlls: it gives true, whatever the input, and leaves the input as it was. -/
import Derived.Test.YtghhecijpghfhaaGreatRows
import Derived.Test.YtghhecijpghfhaaGreatFwX
import Derived.Test.YtghhecijpghfhaaGreatYXk
import Derived.WalkKit
import Derived.ProofKit
import Derived.OpenShut
import Derived.ShutString
import Derived.ChangeOld
import Derived.Below
import Derived.SizedLaws
import Derived.Carry
namespace Go.Proofs.YtghhecijpghfhaaGreat.LawOrderAlls
open Go Go.Proofs Go.Proofs.YtghhecijpghfhaaGreat Go.Proofs.YtghhecijpghfhaaGreat.Fw Go.ChangeShapes Go.WideShapes Go.ChangeAt Go.RowKit Go.Proofs.YtghhecijpghfhaaGreat
set_option linter.unusedVariables false
set_option maxRecDepth 100000
set_option maxHeartbeats 2000000
theorem own : ownKnob Tryz.prog.godebug = none := by kernel_rfl
theorem laidOut : laidOutB Tryz.prog = true := by kernel_rfl
theorem flat27 : flat Tryz.prog 12 27 = some [25, 25] := by kernel_rfl
theorem rows27 {H : Type} {enc : TypeId × Value → H} {W : World} : RowsOf enc Tryz.prog W 27 E.Rii (fun x => (Lit.int .i64 x.1).wf = true ∧ (Lit.int .i64 x.2).wf = true) := fun cs h => by
  obtain ⟨c0, r0, rfl, t0, c1, r1, rfl, t1, (hend : r1 = [])⟩ := trod_trs 12 27 _ flat27 cs h
  subst hend
  obtain ⟨n0, rfl, w0⟩ := leaf_int (show Tryz.prog.underlying 25 = some (.int .i64) by kernel_rfl) t0
  obtain ⟨n1, rfl, w1⟩ := leaf_int (show Tryz.prog.underlying 25 = some (.int .i64) by kernel_rfl) t1
  exact ⟨(n0, n1), ⟨w0, w1⟩, .cons (vr_int _ _) (.cons (vr_int _ _) (.nil)), by intro v hv; simp at hv; (try (rcases hv with rfl | rfl)) <;> (try subst hv) <;> rfl⟩
theorem flat36 : flat Tryz.prog 12 36 = some [3, 3, 3, 3, 3, 25, 25, 25, 25, 25, 25, 25, 3, 3, 25, 25, 25, 25, 25, 3, 25, 25, 25, 25, 25, 25, 25, 3, 25, 30] := by kernel_rfl
theorem rows36 {H : Type} {enc : TypeId × Value → H} {W : World} : RowsOf enc Tryz.prog W 36 E.RiiiiiiiiiiiiiiiiiiiiiiiiiiiiiL2 (fun x => (Lit.int .i64 x.1).wf = true ∧ (Lit.int .i64 x.2.1).wf = true ∧ (Lit.int .i64 x.2.2.1).wf = true ∧ (Lit.int .i64 x.2.2.2.1).wf = true ∧ (Lit.int .i64 x.2.2.2.2.1).wf = true ∧ (Lit.int .i64 x.2.2.2.2.2.1).wf = true ∧ (Lit.int .i64 x.2.2.2.2.2.2.1).wf = true ∧ (Lit.int .i64 x.2.2.2.2.2.2.2.1).wf = true ∧ (Lit.int .i64 x.2.2.2.2.2.2.2.2.1).wf = true ∧ (Lit.int .i64 x.2.2.2.2.2.2.2.2.2.1).wf = true ∧ (Lit.int .i64 x.2.2.2.2.2.2.2.2.2.2.1).wf = true ∧ (Lit.int .i64 x.2.2.2.2.2.2.2.2.2.2.2.1).wf = true ∧ (Lit.int .i64 x.2.2.2.2.2.2.2.2.2.2.2.2.1).wf = true ∧ (Lit.int .i64 x.2.2.2.2.2.2.2.2.2.2.2.2.2.1).wf = true ∧ (Lit.int .i64 x.2.2.2.2.2.2.2.2.2.2.2.2.2.2.1).wf = true ∧ (Lit.int .i64 x.2.2.2.2.2.2.2.2.2.2.2.2.2.2.2.1).wf = true ∧ (Lit.int .i64 x.2.2.2.2.2.2.2.2.2.2.2.2.2.2.2.2.1).wf = true ∧ (Lit.int .i64 x.2.2.2.2.2.2.2.2.2.2.2.2.2.2.2.2.2.1).wf = true ∧ (Lit.int .i64 x.2.2.2.2.2.2.2.2.2.2.2.2.2.2.2.2.2.2.1).wf = true ∧ (Lit.int .i64 x.2.2.2.2.2.2.2.2.2.2.2.2.2.2.2.2.2.2.2.1).wf = true ∧ (Lit.int .i64 x.2.2.2.2.2.2.2.2.2.2.2.2.2.2.2.2.2.2.2.2.1).wf = true ∧ (Lit.int .i64 x.2.2.2.2.2.2.2.2.2.2.2.2.2.2.2.2.2.2.2.2.2.1).wf = true ∧ (Lit.int .i64 x.2.2.2.2.2.2.2.2.2.2.2.2.2.2.2.2.2.2.2.2.2.2.1).wf = true ∧ (Lit.int .i64 x.2.2.2.2.2.2.2.2.2.2.2.2.2.2.2.2.2.2.2.2.2.2.2.1).wf = true ∧ (Lit.int .i64 x.2.2.2.2.2.2.2.2.2.2.2.2.2.2.2.2.2.2.2.2.2.2.2.2.1).wf = true ∧ (Lit.int .i64 x.2.2.2.2.2.2.2.2.2.2.2.2.2.2.2.2.2.2.2.2.2.2.2.2.2.1).wf = true ∧ (Lit.int .i64 x.2.2.2.2.2.2.2.2.2.2.2.2.2.2.2.2.2.2.2.2.2.2.2.2.2.2.1).wf = true ∧ (Lit.int .i64 x.2.2.2.2.2.2.2.2.2.2.2.2.2.2.2.2.2.2.2.2.2.2.2.2.2.2.2.1).wf = true ∧ (Lit.int .i64 x.2.2.2.2.2.2.2.2.2.2.2.2.2.2.2.2.2.2.2.2.2.2.2.2.2.2.2.2.1).wf = true ∧ (∃ h : Nat → (Int × Int), (x.2.2.2.2.2.2.2.2.2.2.2.2.2.2.2.2.2.2.2.2.2.2.2.2.2.2.2.2.2).2 = (fun i => E.Rii.enc (h i)) ∧ ∀ i, i < (x.2.2.2.2.2.2.2.2.2.2.2.2.2.2.2.2.2.2.2.2.2.2.2.2.2.2.2.2.2).1 → (fun x => (Lit.int .i64 x.1).wf = true ∧ (Lit.int .i64 x.2).wf = true) (h i))) := fun cs h => by
  obtain ⟨c0, r0, rfl, t0, c1, r1, rfl, t1, c2, r2, rfl, t2, c3, r3, rfl, t3, c4, r4, rfl, t4, c5, r5, rfl, t5, c6, r6, rfl, t6, c7, r7, rfl, t7, c8, r8, rfl, t8, c9, r9, rfl, t9, c10, r10, rfl, t10, c11, r11, rfl, t11, c12, r12, rfl, t12, c13, r13, rfl, t13, c14, r14, rfl, t14, c15, r15, rfl, t15, c16, r16, rfl, t16, c17, r17, rfl, t17, c18, r18, rfl, t18, c19, r19, rfl, t19, c20, r20, rfl, t20, c21, r21, rfl, t21, c22, r22, rfl, t22, c23, r23, rfl, t23, c24, r24, rfl, t24, c25, r25, rfl, t25, c26, r26, rfl, t26, c27, r27, rfl, t27, c28, r28, rfl, t28, c29, r29, rfl, t29, (hend : r29 = [])⟩ := trod_trs 12 36 _ flat36 cs h
  subst hend
  obtain ⟨n0, rfl, w0⟩ := leaf_int (show Tryz.prog.underlying 3 = some (.int .i64) by kernel_rfl) t0
  obtain ⟨n1, rfl, w1⟩ := leaf_int (show Tryz.prog.underlying 3 = some (.int .i64) by kernel_rfl) t1
  obtain ⟨n2, rfl, w2⟩ := leaf_int (show Tryz.prog.underlying 3 = some (.int .i64) by kernel_rfl) t2
  obtain ⟨n3, rfl, w3⟩ := leaf_int (show Tryz.prog.underlying 3 = some (.int .i64) by kernel_rfl) t3
  obtain ⟨n4, rfl, w4⟩ := leaf_int (show Tryz.prog.underlying 3 = some (.int .i64) by kernel_rfl) t4
  obtain ⟨n5, rfl, w5⟩ := leaf_int (show Tryz.prog.underlying 25 = some (.int .i64) by kernel_rfl) t5
  obtain ⟨n6, rfl, w6⟩ := leaf_int (show Tryz.prog.underlying 25 = some (.int .i64) by kernel_rfl) t6
  obtain ⟨n7, rfl, w7⟩ := leaf_int (show Tryz.prog.underlying 25 = some (.int .i64) by kernel_rfl) t7
  obtain ⟨n8, rfl, w8⟩ := leaf_int (show Tryz.prog.underlying 25 = some (.int .i64) by kernel_rfl) t8
  obtain ⟨n9, rfl, w9⟩ := leaf_int (show Tryz.prog.underlying 25 = some (.int .i64) by kernel_rfl) t9
  obtain ⟨n10, rfl, w10⟩ := leaf_int (show Tryz.prog.underlying 25 = some (.int .i64) by kernel_rfl) t10
  obtain ⟨n11, rfl, w11⟩ := leaf_int (show Tryz.prog.underlying 25 = some (.int .i64) by kernel_rfl) t11
  obtain ⟨n12, rfl, w12⟩ := leaf_int (show Tryz.prog.underlying 3 = some (.int .i64) by kernel_rfl) t12
  obtain ⟨n13, rfl, w13⟩ := leaf_int (show Tryz.prog.underlying 3 = some (.int .i64) by kernel_rfl) t13
  obtain ⟨n14, rfl, w14⟩ := leaf_int (show Tryz.prog.underlying 25 = some (.int .i64) by kernel_rfl) t14
  obtain ⟨n15, rfl, w15⟩ := leaf_int (show Tryz.prog.underlying 25 = some (.int .i64) by kernel_rfl) t15
  obtain ⟨n16, rfl, w16⟩ := leaf_int (show Tryz.prog.underlying 25 = some (.int .i64) by kernel_rfl) t16
  obtain ⟨n17, rfl, w17⟩ := leaf_int (show Tryz.prog.underlying 25 = some (.int .i64) by kernel_rfl) t17
  obtain ⟨n18, rfl, w18⟩ := leaf_int (show Tryz.prog.underlying 25 = some (.int .i64) by kernel_rfl) t18
  obtain ⟨n19, rfl, w19⟩ := leaf_int (show Tryz.prog.underlying 3 = some (.int .i64) by kernel_rfl) t19
  obtain ⟨n20, rfl, w20⟩ := leaf_int (show Tryz.prog.underlying 25 = some (.int .i64) by kernel_rfl) t20
  obtain ⟨n21, rfl, w21⟩ := leaf_int (show Tryz.prog.underlying 25 = some (.int .i64) by kernel_rfl) t21
  obtain ⟨n22, rfl, w22⟩ := leaf_int (show Tryz.prog.underlying 25 = some (.int .i64) by kernel_rfl) t22
  obtain ⟨n23, rfl, w23⟩ := leaf_int (show Tryz.prog.underlying 25 = some (.int .i64) by kernel_rfl) t23
  obtain ⟨n24, rfl, w24⟩ := leaf_int (show Tryz.prog.underlying 25 = some (.int .i64) by kernel_rfl) t24
  obtain ⟨n25, rfl, w25⟩ := leaf_int (show Tryz.prog.underlying 25 = some (.int .i64) by kernel_rfl) t25
  obtain ⟨n26, rfl, w26⟩ := leaf_int (show Tryz.prog.underlying 25 = some (.int .i64) by kernel_rfl) t26
  obtain ⟨n27, rfl, w27⟩ := leaf_int (show Tryz.prog.underlying 3 = some (.int .i64) by kernel_rfl) t27
  obtain ⟨n28, rfl, w28⟩ := leaf_int (show Tryz.prog.underlying 25 = some (.int .i64) by kernel_rfl) t28
  obtain ⟨n29, g29, nm29, w29, vr29⟩ := leaf_list_in (show Tryz.prog.underlying 30 = some (.slice 27) by kernel_rfl) (show Tryz.prog.cellsOf 27 = 2 by kernel_rfl) (by omega) (0, 0) (rows27 (enc := enc) (W := W)) t29
  exact ⟨(n0, n1, n2, n3, n4, n5, n6, n7, n8, n9, n10, n11, n12, n13, n14, n15, n16, n17, n18, n19, n20, n21, n22, n23, n24, n25, n26, n27, n28, (n29, fun i => E.Rii.enc (g29 i))), ⟨w0, w1, w2, w3, w4, w5, w6, w7, w8, w9, w10, w11, w12, w13, w14, w15, w16, w17, w18, w19, w20, w21, w22, w23, w24, w25, w26, w27, w28, ⟨g29, rfl, w29⟩⟩, .cons (vr_int _ _) (.cons (vr_int _ _) (.cons (vr_int _ _) (.cons (vr_int _ _) (.cons (vr_int _ _) (.cons (vr_int _ _) (.cons (vr_int _ _) (.cons (vr_int _ _) (.cons (vr_int _ _) (.cons (vr_int _ _) (.cons (vr_int _ _) (.cons (vr_int _ _) (.cons (vr_int _ _) (.cons (vr_int _ _) (.cons (vr_int _ _) (.cons (vr_int _ _) (.cons (vr_int _ _) (.cons (vr_int _ _) (.cons (vr_int _ _) (.cons (vr_int _ _) (.cons (vr_int _ _) (.cons (vr_int _ _) (.cons (vr_int _ _) (.cons (vr_int _ _) (.cons (vr_int _ _) (.cons (vr_int _ _) (.cons (vr_int _ _) (.cons (vr_int _ _) (.cons (vr_int _ _) (.cons (vr29) (.nil)))))))))))))))))))))))))))))), by intro v hv; simp at hv; (try (rcases hv with rfl | rfl | rfl | rfl | rfl | rfl | rfl | rfl | rfl | rfl | rfl | rfl | rfl | rfl | rfl | rfl | rfl | rfl | rfl | rfl | rfl | rfl | rfl | rfl | rfl | rfl | rfl | rfl | rfl | rfl)) <;> (try subst hv) <;> first | rfl | exact vr29.cell rfl⟩
theorem lifted (os : Os) (started : os.Started) (H : Type) (enc : TypeId × Value → H) :
    ReturnsInHanded {} Tryz.checked os 4 .any (Rows.orderAllsSpec.pre6 enc Tryz.prog Tryz.f4 Rows.orderAllsRow.domain false) (Rows.orderAllsSpec.post enc Tryz.prog Tryz.f4 false true false false) := by
  refine returnsInHanded_of_change_sized (C := Tryz.checked) own started (by kernel_rfl) Tryz.func4
    (ChangeSpec.witness6 (enc := enc) (C := Tryz.checked) false ⟨#[], #[.slice none 0 0, .slice none 0 0, .int .i64 0], []⟩ 8 (by kernel_rfl) (by kernel_rfl) (by kernel_rfl) (by kernel_rfl)) ?_
  intro W base args ds gs before hval0 hW hcnd0 hsz0 _
  have hval : ∀ (j : Nat) t v, Tryz.f4.params[j]? = some t → args[j]? = some v → Value.okWide Tryz.prog W .any base t v := hval0
  have hW' := hW
  obtain ⟨p, q, hA0, hV, rfl, hfz, hnd⟩ := hW
  have hA : DataW.TrodAll enc Tryz.prog W 0 (fun _ => true) true Tryz.f4.params.toList args.toList ds p := hA0
  rw [Tryz.params4] at hA hval
  obtain ⟨v0, vs0, d0, ds0, p0, q0, hargs, rfl, rfl, h0, r0⟩ := trodAll_cons hA
  obtain ⟨v1, vs1, d1, ds1, p1, q1, rfl, rfl, rfl, h1, r1⟩ := trodAll_cons r0
  obtain ⟨v2, vs2, d2, ds2, p2, q2, rfl, rfl, rfl, h2, r2⟩ := trodAll_cons r1
  obtain ⟨rfl, rfl, rfl⟩ := trodAll_nil r2
  obtain rfl : args = #[v0, v1, v2] := by cases args; simp_all
  obtain ⟨rfl, rfl⟩ := trodVars_none hV
  have k0 := h0
  have lt0 : ∀ x ∈ p0, x.block < W.heap.size := by obtain ⟨m, hm⟩ := k0; exact DataW.trod_lt m _ _ _ hm
  have q0 : Value.okWide Tryz.prog W .any base 22 v0 := hval 0 22 v0 rfl rfl
  obtain ⟨sa0, sl0, sc0, rfl⟩ := okWide_slice (show Tryz.prog.underlying 22 = some (.slice 36) by kernel_rfl) q0
  obtain ⟨n0, g0, nm0, w0, vr0⟩ := leaf_list (show Tryz.prog.underlying 22 = some (.slice 36) by kernel_rfl) (show Tryz.prog.cellsOf 36 = 30 by kernel_rfl) (by omega) (0, 0, 0, 0, 0, 0, 0, 0, 0, 0, 0, 0, 0, 0, 0, 0, 0, 0, 0, 0, 0, 0, 0, 0, 0, 0, 0, 0, 0, (0, fun _ => [])) (rows36 (enc := enc) (W := W)) (by obtain ⟨fu, hf⟩ := h0; exact ⟨fu, _, hf⟩) (show Cell.okWide Tryz.prog W .any base 22 _ from by simpa [Value.okWide, (show Tryz.prog.underlying 22 = some (.slice 36) by kernel_rfl)] using q0)
  have k1 := h1
  have lt1 : ∀ x ∈ p1, x.block < W.heap.size := by obtain ⟨m, hm⟩ := k1; exact DataW.trod_lt m _ _ _ hm
  have q1 : Value.okWide Tryz.prog W .any base 22 v1 := hval 1 22 v1 rfl rfl
  obtain ⟨sa1, sl1, sc1, rfl⟩ := okWide_slice (show Tryz.prog.underlying 22 = some (.slice 36) by kernel_rfl) q1
  obtain ⟨n1, g1, nm1, w1, vr1⟩ := leaf_list (show Tryz.prog.underlying 22 = some (.slice 36) by kernel_rfl) (show Tryz.prog.cellsOf 36 = 30 by kernel_rfl) (by omega) (0, 0, 0, 0, 0, 0, 0, 0, 0, 0, 0, 0, 0, 0, 0, 0, 0, 0, 0, 0, 0, 0, 0, 0, 0, 0, 0, 0, 0, (0, fun _ => [])) (rows36 (enc := enc) (W := W)) (by obtain ⟨fu, hf⟩ := h1; exact ⟨fu, _, hf⟩) (show Cell.okWide Tryz.prog W .any base 22 _ from by simpa [Value.okWide, (show Tryz.prog.underlying 22 = some (.slice 36) by kernel_rfl)] using q1)
  have k2 := h2
  have lt2 : ∀ x ∈ p2, x.block < W.heap.size := by obtain ⟨m, hm⟩ := k2; exact DataW.trod_lt m _ _ _ hm
  have q2 : Value.okWide Tryz.prog W .any base 3 v2 := hval 2 3 v2 rfl rfl
  obtain ⟨a2, rfl⟩ := okWide_int (show Tryz.prog.underlying 3 = some (.int .i64) by kernel_rfl) q2
  have w2 : (Lit.int .i64 a2).wf = true := by
    obtain ⟨fu, hf⟩ := h2
    obtain ⟨n, e, w⟩ := leaf_int (enc := enc) (P := Tryz.prog) (W := W) (show Tryz.prog.underlying 3 = some (.int .i64) by kernel_rfl) ⟨fu, _, hf⟩
    cases e; exact w
  have hcr : CR (fun _ => none) (roAll W) noHp (TyL.enc (tCons (tLz 30 (E.RiiiiiiiiiiiiiiiiiiiiiiiiiiiiiL2.enc (0, 0, 0, 0, 0, 0, 0, 0, 0, 0, 0, 0, 0, 0, 0, 0, 0, 0, 0, 0, 0, 0, 0, 0, 0, 0, 0, 0, 0, (0, fun _ => [])))) (tCons (tLz 30 (E.RiiiiiiiiiiiiiiiiiiiiiiiiiiiiiL2.enc (0, 0, 0, 0, 0, 0, 0, 0, 0, 0, 0, 0, 0, 0, 0, 0, 0, 0, 0, 0, 0, 0, 0, 0, 0, 0, 0, 0, 0, (0, fun _ => [])))) (tOne (tI .i64)))) ((n0, fun i => E.RiiiiiiiiiiiiiiiiiiiiiiiiiiiiiL2.enc (g0 i)), (n1, fun i => E.RiiiiiiiiiiiiiiiiiiiiiiiiiiiiiL2.enc (g1 i)), a2)) _ := CR.cons vr0 (CR.cons vr1 (CR.cons (vr_int .i64 a2) (CR.nil)))
  refine (law_sum E.law10.OrderAlls.ok (by kernel_rfl) (Y.OrderAlls_true n0 g0 n1 g1 a2 nm0 w0 nm1 w1 w2) hcr).mono fun e W' ⟨he, bel⟩ => ?_
  subst he
  exact ⟨_, rfl, _, _, _, [], _, [], hW', trodAll_mk1 (shut_bool (show Tryz.prog.underlying 4 = some .bool by kernel_rfl) _), (trodAll_cons_mk (Below.trod laidOut (by kernel_rfl) (of_decide_eq_true (by kernel_rfl)) k0 bel lt0) (trodAll_cons_mk (Below.trod laidOut (by kernel_rfl) (of_decide_eq_true (by kernel_rfl)) k1 bel lt1) (trodAll_cons_mk (Below.trod laidOut (by kernel_rfl) (of_decide_eq_true (by kernel_rfl)) k2 bel lt2) trodAll_mk0))), rfl, bel.frame _, fun h => by cases h⟩
theorem over : Rows.orderAllsRow.holds Tryz.pinned (OpenSpec.ofChange Rows.orderAllsSpec) :=
  OpenClaim.holds_of_wide 4 Tryz.f4 rfl rfl rfl rfl rfl rfl rfl ⟨rfl, rfl, rfl, rfl, rfl⟩ rfl rfl rfl rfl rfl (by kernel_rfl) Tryz.func4 (by kernel_rfl)
    (of_decide_eq_true (by kernel_rfl)) (by unfold Func.isWrapper; first | (rw [if_pos (by decide +kernel)]; kernel_rfl) | (rw [if_neg (by decide +kernel)]; exact ⟨rfl, rfl⟩))
    (fun os started H enc _ => lifted os started H enc)
theorem proved : Rows.OrderAllsSaid := over
end Go.Proofs.YtghhecijpghfhaaGreat.LawOrderAlls
namespace Go.Proofs.YtghhecijpghfhaaGreat
/-- The row, under a short name, for the claim. -/
theorem orderAlls_holds : Rows.OrderAllsSaid := Go.Proofs.YtghhecijpghfhaaGreat.LawOrderAlls.proved
end Go.Proofs.YtghhecijpghfhaaGreat
