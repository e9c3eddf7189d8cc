/- The row of NamesAny: it gives true, whatever the input, and leaves the input as it was. -/
import Derived.Test.YtooknkplmpnnnaaRows
import Derived.Test.YtooknkplmpnnnaaFwX
import Derived.Test.YtooknkplmpnnnaaYNc
import Derived.WalkKit
import Derived.ProofKit
import Derived.OpenShut
import Derived.ShutString
import Derived.ChangeOld
import Derived.Below
import Derived.SizedLaws
import Derived.Carry
namespace Go.Proofs.Ytooknkplmpnnnaa.LawNamesAny
open Go Go.Proofs Go.Proofs.Ytooknkplmpnnnaa Go.Proofs.Ytooknkplmpnnnaa.Fw Go.ChangeShapes Go.WideShapes Go.ChangeAt Go.RowKit Go.Proofs.Ytooknkplmpnnnaa
set_option linter.unusedVariables false
set_option maxRecDepth 100000
set_option maxHeartbeats 2000000
theorem own : ownKnob Try.prog.godebug = none := by kernel_rfl
theorem laidOut : laidOutB Try.prog = true := by kernel_rfl

theorem lifted (os : Os) (started : os.Started) (H : Type) (enc : TypeId × Value → H) :
    ReturnsInHanded {} Try.checked os 4 .any (Rows.namesAnySpec.pre6 enc Try.prog Try.f4 Rows.namesAnyRow.domain false) (Rows.namesAnySpec.post enc Try.prog Try.f4 false true false false) := by
  refine returnsInHanded_of_change_sized (C := Try.checked) own started (by kernel_rfl) Try.func4
    (ChangeSpec.witness6 (enc := enc) (C := Try.checked) false ⟨#[], #[.string ⟨#[]⟩], []⟩ 8 (by kernel_rfl) (by kernel_rfl) (by kernel_rfl) (by kernel_rfl)) ?_
  intro W base args ds gs before hval0 hW hcnd0 hsz0 _
  have hval : ∀ (j : Nat) t v, Try.f4.params[j]? = some t → args[j]? = some v → Value.okWide Try.prog W .any base t v := hval0
  have hW' := hW
  obtain ⟨p, q, hA0, hV, rfl, hfz, hnd⟩ := hW
  have hA : DataW.TrodAll enc Try.prog W 0 (fun _ => true) true Try.f4.params.toList args.toList ds p := hA0
  rw [Try.params4] at hA hval
  obtain ⟨v0, vs0, d0, ds0, p0, q0, hargs, rfl, rfl, h0, r0⟩ := trodAll_cons hA
  obtain ⟨rfl, rfl, rfl⟩ := trodAll_nil r0
  obtain rfl : args = #[v0] := by cases args; simp_all
  obtain ⟨rfl, rfl⟩ := trodVars_none hV
  have k0 := h0
  have lt0 : ∀ x ∈ p0, x.block < W.heap.size := by obtain ⟨m, hm⟩ := k0; exact DataW.trod_lt m _ _ _ hm
  have q0 : Value.okWide Try.prog W .any base 9 v0 := hval 0 9 v0 rfl rfl
  obtain ⟨a0, rfl⟩ := okWide_string (show Try.prog.underlying 9 = some .string by kernel_rfl) q0
  have hcr : CR (fun _ => none) (roAll W) noHp (TyL.enc (tOne tS) a0) _ := CR.cons (vr_string a0) (CR.nil)
  refine (law_sum E.law18.NamesAny.ok (by kernel_rfl) (Y.NamesAny_true a0 ) hcr).mono fun e W' ⟨he, bel⟩ => ?_
  subst he
  exact ⟨_, rfl, _, _, _, [], _, [], hW', trodAll_mk1 (shut_bool (show Try.prog.underlying 4 = some .bool by kernel_rfl) _), (trodAll_cons_mk (Below.trod laidOut (by kernel_rfl) (of_decide_eq_true (by kernel_rfl)) k0 bel lt0) trodAll_mk0), rfl, bel.frame _, fun h => by cases h⟩
theorem over : Rows.namesAnyRow.holds Try.pinned (OpenSpec.ofChange Rows.namesAnySpec) :=
  OpenClaim.holds_of_wide 4 Try.f4 rfl rfl rfl rfl rfl rfl rfl ⟨rfl, rfl, rfl, rfl, rfl⟩ rfl rfl rfl rfl rfl (by kernel_rfl) Try.func4 (by kernel_rfl)
    (of_decide_eq_true (by kernel_rfl)) (by unfold Func.isWrapper; first | (rw [if_pos (by decide +kernel)]; kernel_rfl) | (rw [if_neg (by decide +kernel)]; exact ⟨rfl, rfl⟩))
    (fun os started H enc _ => lifted os started H enc)
theorem proved : Rows.NamesAnySaid := over
end Go.Proofs.Ytooknkplmpnnnaa.LawNamesAny
namespace Go.Proofs.Ytooknkplmpnnnaa
/-- The row, under a short name, for the claim. -/
theorem namesAny_holds : Rows.NamesAnySaid := Go.Proofs.Ytooknkplmpnnnaa.LawNamesAny.proved
end Go.Proofs.Ytooknkplmpnnnaa
