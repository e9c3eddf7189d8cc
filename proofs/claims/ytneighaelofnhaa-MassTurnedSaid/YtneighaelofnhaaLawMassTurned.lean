/- The row of MassTurned: it gives true, whatever the input, and leaves the input as it was. -/
import Derived.Test.YtneighaelofnhaaRows
import Derived.Test.YtneighaelofnhaaFwX
import Derived.Test.YtneighaelofnhaaYMt
import Derived.WalkKit
import Derived.ProofKit
import Derived.OpenShut
import Derived.ShutString
import Derived.ChangeOld
import Derived.Below
import Derived.SizedLaws
import Derived.Carry
namespace Go.Proofs.Ytneighaelofnhaa.LawMassTurned
open Go Go.Proofs Go.Proofs.Ytneighaelofnhaa Go.Proofs.Ytneighaelofnhaa.Fw Go.ChangeShapes Go.WideShapes Go.ChangeAt Go.RowKit Go.Proofs.Ytneighaelofnhaa
set_option linter.unusedVariables false
set_option maxRecDepth 100000
set_option maxHeartbeats 2000000
theorem own : ownKnob Try.prog.godebug = none := by kernel_rfl
theorem laidOut : laidOutB Try.prog = true := by kernel_rfl
theorem pflat23 : flat Try.prog 12 23 = some [3, 3, 3, 3] := by kernel_rfl
theorem pcell23 : Try.prog.cellTypes Try.prog.depth 23 = some [3, 3, 3, 3] := by kernel_rfl
theorem lifted (os : Os) (started : os.Started) (H : Type) (enc : TypeId × Value → H) :
    ReturnsInHanded {} Try.checked os 6 .any (Rows.massTurnedSpec.pre6 enc Try.prog Try.f6 Rows.massTurnedRow.domain false) (Rows.massTurnedSpec.post enc Try.prog Try.f6 false true false false) := by
  refine returnsInHanded_of_change_sized (C := Try.checked) own started (by kernel_rfl) Try.func6
    (ChangeSpec.witness6 (enc := enc) (C := Try.checked) false ⟨#[], #[.agg #[.int .i64 0, .int .i64 0, .int .i64 0, .int .i64 0], .int .i64 0], []⟩ 8 (by kernel_rfl) (by kernel_rfl) (by kernel_rfl) (by kernel_rfl)) ?_
  intro W base args ds gs before hval0 hW hcnd0 hsz0 _
  have hval : ∀ (j : Nat) t v, Try.f6.params[j]? = some t → args[j]? = some v → Value.okWide Try.prog W .any base t v := hval0
  have hW' := hW
  obtain ⟨p, q, hA0, hV, rfl, hfz, hnd⟩ := hW
  have hA : DataW.TrodAll enc Try.prog W 0 (fun _ => true) true Try.f6.params.toList args.toList ds p := hA0
  rw [Try.params6] at hA hval
  obtain ⟨v0, vs0, d0, ds0, p0, q0, hargs, rfl, rfl, h0, r0⟩ := trodAll_cons hA
  obtain ⟨v1, vs1, d1, ds1, p1, q1, rfl, rfl, rfl, h1, r1⟩ := trodAll_cons r0
  obtain ⟨rfl, rfl, rfl⟩ := trodAll_nil r1
  obtain rfl : args = #[v0, v1] := by cases args; simp_all
  obtain ⟨rfl, rfl⟩ := trodVars_none hV
  have k0 := h0
  have lt0 : ∀ x ∈ p0, x.block < W.heap.size := by obtain ⟨m, hm⟩ := k0; exact DataW.trod_lt m _ _ _ hm
  obtain ⟨cs0, rfl, ok0⟩ := agg_ok (show isAggT Try.prog 23 = true by kernel_rfl) (hval 0 23 v0 rfl rfl) pcell23 (by kernel_rfl)
  have tr0 : Trs enc Try.prog W _ cs0 := trod_trs 12 23 _ pflat23 cs0 (by obtain ⟨fu, hf⟩ := h0; exact ⟨fu, _, by simpa [Value.cells] using hf⟩)
  obtain ⟨c0_0, r0_0, rfl, t0_0, c0_1, r0_1, rfl, t0_1, c0_2, r0_2, rfl, t0_2, c0_3, r0_3, rfl, t0_3, (hend : r0_3 = [])⟩ := tr0
  subst hend
  obtain ⟨a0_0, rfl, w0_0⟩ := leaf_int (show Try.prog.underlying 3 = some (.int .i64) by kernel_rfl) t0_0
  obtain ⟨a0_1, rfl, w0_1⟩ := leaf_int (show Try.prog.underlying 3 = some (.int .i64) by kernel_rfl) t0_1
  obtain ⟨a0_2, rfl, w0_2⟩ := leaf_int (show Try.prog.underlying 3 = some (.int .i64) by kernel_rfl) t0_2
  obtain ⟨a0_3, rfl, w0_3⟩ := leaf_int (show Try.prog.underlying 3 = some (.int .i64) by kernel_rfl) t0_3
  have k1 := h1
  have lt1 : ∀ x ∈ p1, x.block < W.heap.size := by obtain ⟨m, hm⟩ := k1; exact DataW.trod_lt m _ _ _ hm
  have q1 : Value.okWide Try.prog W .any base 3 v1 := hval 1 3 v1 rfl rfl
  obtain ⟨a1, rfl⟩ := okWide_int (show Try.prog.underlying 3 = some (.int .i64) by kernel_rfl) q1
  have w1 : (Lit.int .i64 a1).wf = true := by
    obtain ⟨fu, hf⟩ := h1
    obtain ⟨n, e, w⟩ := leaf_int (enc := enc) (P := Try.prog) (W := W) (show Try.prog.underlying 3 = some (.int .i64) by kernel_rfl) ⟨fu, _, hf⟩
    cases e; exact w
  have hcr : CR (fun _ => none) (roAll W) noHp (TyL.enc (tCons (tG (tCons (tI .i64) (tCons (tI .i64) (tCons (tI .i64) (tOne (tI .i64)))))) (tOne (tI .i64))) ((a0_0, a0_1, a0_2, a0_3), a1)) _ := CR.cons (CR.agg' (.cons (vr_int .i64 a0_0) (.cons (vr_int .i64 a0_1) (.cons (vr_int .i64 a0_2) (.cons (vr_int .i64 a0_3) (.nil)))))) (CR.cons (vr_int .i64 a1) (CR.nil))
  refine (law_sum E.law05.MassTurned.ok (by kernel_rfl) (Y.MassTurned_true a0_0 a0_1 a0_2 a0_3 a1 w0_0 w0_1 w0_2 w0_3 w1) hcr).mono fun e W' ⟨he, bel⟩ => ?_
  subst he
  exact ⟨_, rfl, _, _, _, [], _, [], hW', trodAll_mk1 (shut_bool (show Try.prog.underlying 4 = some .bool by kernel_rfl) _), (trodAll_cons_mk (Below.trod laidOut (by kernel_rfl) (of_decide_eq_true (by kernel_rfl)) k0 bel lt0) (trodAll_cons_mk (Below.trod laidOut (by kernel_rfl) (of_decide_eq_true (by kernel_rfl)) k1 bel lt1) trodAll_mk0)), rfl, bel.frame _, fun h => by cases h⟩
theorem over : Rows.massTurnedRow.holds Try.pinned (OpenSpec.ofChange Rows.massTurnedSpec) :=
  OpenClaim.holds_of_wide 6 Try.f6 rfl rfl rfl rfl rfl rfl rfl ⟨rfl, rfl, rfl, rfl, rfl⟩ rfl rfl rfl rfl rfl (by kernel_rfl) Try.func6 (by kernel_rfl)
    (of_decide_eq_true (by kernel_rfl)) (by unfold Func.isWrapper; first | (rw [if_pos (by decide +kernel)]; kernel_rfl) | (rw [if_neg (by decide +kernel)]; exact ⟨rfl, rfl⟩))
    (fun os started H enc _ => lifted os started H enc)
theorem proved : Rows.MassTurnedSaid := over
end Go.Proofs.Ytneighaelofnhaa.LawMassTurned
namespace Go.Proofs.Ytneighaelofnhaa
/-- The row, under a short name, for the claim. -/
theorem massTurned_holds : Rows.MassTurnedSaid := Go.Proofs.Ytneighaelofnhaa.LawMassTurned.proved
end Go.Proofs.Ytneighaelofnhaa
