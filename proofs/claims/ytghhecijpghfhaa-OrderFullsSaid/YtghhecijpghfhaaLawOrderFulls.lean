/- The row of OrderFulls: it gives true, whatever the input, and leaves the input as it was. -/
import Derived.Test.YtghhecijpghfhaaRows
import Derived.Test.YtghhecijpghfhaaFwX
import Derived.Test.YtghhecijpghfhaaYXg
import Derived.WalkKit
import Derived.ProofKit
import Derived.OpenShut
import Derived.ShutString
import Derived.ChangeOld
import Derived.Below
import Derived.SizedLaws
import Derived.Carry
namespace Go.Proofs.Ytghhecijpghfhaa.LawOrderFulls
open Go Go.Proofs Go.Proofs.Ytghhecijpghfhaa Go.Proofs.Ytghhecijpghfhaa.Fw Go.ChangeShapes Go.WideShapes Go.ChangeAt Go.RowKit Go.Proofs.Ytghhecijpghfhaa
set_option linter.unusedVariables false
set_option maxRecDepth 100000
set_option maxHeartbeats 2000000
theorem own : ownKnob Try.prog.godebug = none := by kernel_rfl
theorem laidOut : laidOutB Try.prog = true := by kernel_rfl

theorem lifted (os : Os) (started : os.Started) (H : Type) (enc : TypeId × Value → H) :
    ReturnsInHanded {} Try.checked os 5 .any (Rows.orderFullsSpec.pre6 enc Try.prog Try.f5 Rows.orderFullsRow.domain false) (Rows.orderFullsSpec.post enc Try.prog Try.f5 false true false false) := by
  refine returnsInHanded_of_change_sized (C := Try.checked) own started (by kernel_rfl) Try.func5
    (ChangeSpec.witness6 (enc := enc) (C := Try.checked) false ⟨#[], #[.int .u8 0, .bool false], []⟩ 8 (by kernel_rfl) (by kernel_rfl) (by kernel_rfl) (by kernel_rfl)) ?_
  intro W base args ds gs before hval0 hW hcnd0 hsz0 _
  have hval : ∀ (j : Nat) t v, Try.f5.params[j]? = some t → args[j]? = some v → Value.okWide Try.prog W .any base t v := hval0
  have hW' := hW
  obtain ⟨p, q, hA0, hV, rfl, hfz, hnd⟩ := hW
  have hA : DataW.TrodAll enc Try.prog W 0 (fun _ => true) true Try.f5.params.toList args.toList ds p := hA0
  rw [Try.params5] at hA hval
  obtain ⟨v0, vs0, d0, ds0, p0, q0, hargs, rfl, rfl, h0, r0⟩ := trodAll_cons hA
  obtain ⟨v1, vs1, d1, ds1, p1, q1, rfl, rfl, rfl, h1, r1⟩ := trodAll_cons r0
  obtain ⟨rfl, rfl, rfl⟩ := trodAll_nil r1
  obtain rfl : args = #[v0, v1] := by cases args; simp_all
  obtain ⟨rfl, rfl⟩ := trodVars_none hV
  have k0 := h0
  have lt0 : ∀ x ∈ p0, x.block < W.heap.size := by obtain ⟨m, hm⟩ := k0; exact DataW.trod_lt m _ _ _ hm
  have q0 : Value.okWide Try.prog W .any base 5 v0 := hval 0 5 v0 rfl rfl
  obtain ⟨a0, rfl⟩ := okWide_int (show Try.prog.underlying 5 = some (.int .u8) by kernel_rfl) q0
  have w0 : (Lit.int .u8 a0).wf = true := by
    obtain ⟨fu, hf⟩ := h0
    obtain ⟨n, e, w⟩ := leaf_int (enc := enc) (P := Try.prog) (W := W) (show Try.prog.underlying 5 = some (.int .u8) by kernel_rfl) ⟨fu, _, hf⟩
    cases e; exact w
  have k1 := h1
  have lt1 : ∀ x ∈ p1, x.block < W.heap.size := by obtain ⟨m, hm⟩ := k1; exact DataW.trod_lt m _ _ _ hm
  have q1 : Value.okWide Try.prog W .any base 4 v1 := hval 1 4 v1 rfl rfl
  obtain ⟨a1, rfl⟩ := okWide_bool (show Try.prog.underlying 4 = some .bool by kernel_rfl) q1
  have hcr : CR (fun _ => none) (roAll W) noHp (TyL.enc (tCons (tI .u8) (tOne tB)) (a0, a1)) _ := CR.cons (vr_int .u8 a0) (CR.cons (vr_bool a1) (CR.nil))
  refine (law_sum E.law10.OrderFulls.ok (by kernel_rfl) (Y.OrderFulls_true a0 a1 w0) hcr).mono fun e W' ⟨he, bel⟩ => ?_
  subst he
  exact ⟨_, rfl, _, _, _, [], _, [], hW', trodAll_mk1 (shut_bool (show Try.prog.underlying 4 = some .bool by kernel_rfl) _), (trodAll_cons_mk (Below.trod laidOut (by kernel_rfl) (of_decide_eq_true (by kernel_rfl)) k0 bel lt0) (trodAll_cons_mk (Below.trod laidOut (by kernel_rfl) (of_decide_eq_true (by kernel_rfl)) k1 bel lt1) trodAll_mk0)), rfl, bel.frame _, fun h => by cases h⟩
theorem over : Rows.orderFullsRow.holds Try.pinned (OpenSpec.ofChange Rows.orderFullsSpec) :=
  OpenClaim.holds_of_wide 5 Try.f5 rfl rfl rfl rfl rfl rfl rfl ⟨rfl, rfl, rfl, rfl, rfl⟩ rfl rfl rfl rfl rfl (by kernel_rfl) Try.func5 (by kernel_rfl)
    (of_decide_eq_true (by kernel_rfl)) (by unfold Func.isWrapper; first | (rw [if_pos (by decide +kernel)]; kernel_rfl) | (rw [if_neg (by decide +kernel)]; exact ⟨rfl, rfl⟩))
    (fun os started H enc _ => lifted os started H enc)
theorem proved : Rows.OrderFullsSaid := over
end Go.Proofs.Ytghhecijpghfhaa.LawOrderFulls
namespace Go.Proofs.Ytghhecijpghfhaa
/-- The row, under a short name, for the claim. -/
theorem orderFulls_holds : Rows.OrderFullsSaid := Go.Proofs.Ytghhecijpghfhaa.LawOrderFulls.proved
end Go.Proofs.Ytghhecijpghfhaa
