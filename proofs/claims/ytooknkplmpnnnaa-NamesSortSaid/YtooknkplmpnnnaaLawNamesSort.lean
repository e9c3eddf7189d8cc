/- The row of NamesSort: it gives true, whatever the input, and leaves the input as it was. -/
import Derived.Test.YtooknkplmpnnnaaRows
import Derived.Test.YtooknkplmpnnnaaFwX
import Derived.Test.YtooknkplmpnnnaaYNd
import Derived.WalkKit
import Derived.ProofKit
import Derived.OpenShut
import Derived.ShutString
import Derived.ChangeOld
import Derived.Below
import Derived.SizedLaws
import Derived.Carry
namespace Go.Proofs.Ytooknkplmpnnnaa.LawNamesSort
open Go Go.Proofs Go.Proofs.Ytooknkplmpnnnaa Go.Proofs.Ytooknkplmpnnnaa.Fw Go.ChangeShapes Go.WideShapes Go.ChangeAt Go.RowKit Go.Proofs.Ytooknkplmpnnnaa
set_option linter.unusedVariables false
set_option maxRecDepth 100000
set_option maxHeartbeats 2000000
theorem own : ownKnob Try.prog.godebug = none := by kernel_rfl
theorem laidOut : laidOutB Try.prog = true := by kernel_rfl
theorem flat3 : flat Try.prog 12 3 = some [3] := by kernel_rfl
theorem rows3 {H : Type} {enc : TypeId × Value → H} {W : World} : RowsOf enc Try.prog W 3 E.Ri (fun x => (Lit.int .i64 x).wf = true) := fun cs h => by
  obtain ⟨c0, r0, rfl, t0, (hend : r0 = [])⟩ := trod_trs 12 3 _ flat3 cs h
  subst hend
  obtain ⟨n0, rfl, w0⟩ := leaf_int (show Try.prog.underlying 3 = some (.int .i64) by kernel_rfl) t0
  exact ⟨n0, w0, .cons (vr_int _ _) (.nil), by intro v hv; simp at hv; (try (rcases hv with rfl)) <;> (try subst hv) <;> rfl⟩
theorem flat9 : flat Try.prog 12 9 = some [9] := by kernel_rfl
theorem rows9 {H : Type} {enc : TypeId × Value → H} {W : World} : RowsOf enc Try.prog W 9 E.Rs (fun x => True) := fun cs h => by
  obtain ⟨c0, r0, rfl, t0, (hend : r0 = [])⟩ := trod_trs 12 9 _ flat9 cs h
  subst hend
  obtain ⟨n0, rfl, w0⟩ := leaf_string (show Try.prog.underlying 9 = some .string by kernel_rfl) t0
  exact ⟨n0, trivial, .cons (vr_string _) (.nil), by intro v hv; simp at hv; (try (rcases hv with rfl)) <;> (try subst hv) <;> rfl⟩
theorem lifted (os : Os) (started : os.Started) (H : Type) (enc : TypeId × Value → H) :
    ReturnsInHanded {} Try.checked os 6 .any (Rows.namesSortSpec.pre6 enc Try.prog Try.f6 Rows.namesSortRow.domain false) (Rows.namesSortSpec.post enc Try.prog Try.f6 false true false false) := by
  refine returnsInHanded_of_change_sized (C := Try.checked) own started (by kernel_rfl) Try.func6
    (ChangeSpec.witness6 (enc := enc) (C := Try.checked) false ⟨#[], #[.slice none 0 0, .slice none 0 0], []⟩ 8 (by kernel_rfl) (by kernel_rfl) (by kernel_rfl) (by kernel_rfl)) ?_
  intro W base args ds gs before hval0 hW hcnd0 hsz0 _
  have hval : ∀ (j : Nat) t v, Try.f6.params[j]? = some t → args[j]? = some v → Value.okWide Try.prog W .any base t v := hval0
  have hW' := hW
  obtain ⟨p, q, hA0, hV, rfl, hfz, hnd⟩ := hW
  have hA : DataW.TrodAll enc Try.prog W 0 (fun _ => true) true Try.f6.params.toList args.toList ds p := hA0
  rw [Try.params6] at hA hval
  obtain ⟨v0, vs0, d0, ds0, p0, q0, hargs, rfl, rfl, h0, r0⟩ := trodAll_cons hA
  obtain ⟨v1, vs1, d1, ds1, p1, q1, rfl, rfl, rfl, h1, r1⟩ := trodAll_cons r0
  obtain ⟨rfl, rfl, rfl⟩ := trodAll_nil r1
  obtain rfl : args = #[v0, v1] := by cases args; simp_all
  obtain ⟨rfl, rfl⟩ := trodVars_none hV
  have k0 := h0
  have lt0 : ∀ x ∈ p0, x.block < W.heap.size := by obtain ⟨m, hm⟩ := k0; exact DataW.trod_lt m _ _ _ hm
  have q0 : Value.okWide Try.prog W .any base 32 v0 := hval 0 32 v0 rfl rfl
  obtain ⟨sa0, sl0, sc0, rfl⟩ := okWide_slice (show Try.prog.underlying 32 = some (.slice 3) by kernel_rfl) q0
  obtain ⟨n0, g0, nm0, w0, vr0⟩ := leaf_list (show Try.prog.underlying 32 = some (.slice 3) by kernel_rfl) (show Try.prog.cellsOf 3 = 1 by kernel_rfl) (by omega) 0 (rows3 (enc := enc) (W := W)) (by obtain ⟨fu, hf⟩ := h0; exact ⟨fu, _, hf⟩) (show Cell.okWide Try.prog W .any base 32 _ from by simpa [Value.okWide, (show Try.prog.underlying 32 = some (.slice 3) by kernel_rfl)] using q0)
  have k1 := h1
  have lt1 : ∀ x ∈ p1, x.block < W.heap.size := by obtain ⟨m, hm⟩ := k1; exact DataW.trod_lt m _ _ _ hm
  have q1 : Value.okWide Try.prog W .any base 33 v1 := hval 1 33 v1 rfl rfl
  obtain ⟨sa1, sl1, sc1, rfl⟩ := okWide_slice (show Try.prog.underlying 33 = some (.slice 9) by kernel_rfl) q1
  obtain ⟨n1, g1, nm1, w1, vr1⟩ := leaf_list (show Try.prog.underlying 33 = some (.slice 9) by kernel_rfl) (show Try.prog.cellsOf 9 = 1 by kernel_rfl) (by omega) ⟨#[]⟩ (rows9 (enc := enc) (W := W)) (by obtain ⟨fu, hf⟩ := h1; exact ⟨fu, _, hf⟩) (show Cell.okWide Try.prog W .any base 33 _ from by simpa [Value.okWide, (show Try.prog.underlying 33 = some (.slice 9) by kernel_rfl)] using q1)
  have hcr : CR (fun _ => none) (roAll W) noHp (TyL.enc (tCons (tLz 1 (E.Ri.enc 0)) (tOne (tLz 1 (E.Rs.enc ⟨#[]⟩)))) ((n0, fun i => E.Ri.enc (g0 i)), (n1, fun i => E.Rs.enc (g1 i)))) _ := CR.cons vr0 (CR.cons vr1 (CR.nil))
  refine (law_sum E.law18.NamesSort.ok (by kernel_rfl) (Y.NamesSort_true n0 g0 n1 g1 nm0 w0 nm1 w1) hcr).mono fun e W' ⟨he, bel⟩ => ?_
  subst he
  exact ⟨_, rfl, _, _, _, [], _, [], hW', trodAll_mk1 (shut_bool (show Try.prog.underlying 4 = some .bool by kernel_rfl) _), (trodAll_cons_mk (Below.trod laidOut (by kernel_rfl) (of_decide_eq_true (by kernel_rfl)) k0 bel lt0) (trodAll_cons_mk (Below.trod laidOut (by kernel_rfl) (of_decide_eq_true (by kernel_rfl)) k1 bel lt1) trodAll_mk0)), rfl, bel.frame _, fun h => by cases h⟩
theorem over : Rows.namesSortRow.holds Try.pinned (OpenSpec.ofChange Rows.namesSortSpec) :=
  OpenClaim.holds_of_wide 6 Try.f6 rfl rfl rfl rfl rfl rfl rfl ⟨rfl, rfl, rfl, rfl, rfl⟩ rfl rfl rfl rfl rfl (by kernel_rfl) Try.func6 (by kernel_rfl)
    (of_decide_eq_true (by kernel_rfl)) (by unfold Func.isWrapper; first | (rw [if_pos (by decide +kernel)]; kernel_rfl) | (rw [if_neg (by decide +kernel)]; exact ⟨rfl, rfl⟩))
    (fun os started H enc _ => lifted os started H enc)
theorem proved : Rows.NamesSortSaid := over
end Go.Proofs.Ytooknkplmpnnnaa.LawNamesSort
namespace Go.Proofs.Ytooknkplmpnnnaa
/-- The row, under a short name, for the claim. -/
theorem namesSort_holds : Rows.NamesSortSaid := Go.Proofs.Ytooknkplmpnnnaa.LawNamesSort.proved
end Go.Proofs.Ytooknkplmpnnnaa
