import Derived.Test.YtbcnifnmccaleaaEc
import Derived.Test.YtbcnifnmccaleaaProg
namespace Go.Proofs.Ytbcnifnmccaleaa.E
open Go Go.Proofs Go.Proofs.Ytbcnifnmccaleaa Go.Proofs.Ytbcnifnmccaleaa.Fw Go.RowKit
set_option maxRecDepth 100000
set_option linter.unusedVariables false
/-! ### bagatelle/shape.Copy -/
noncomputable def shape.Copy_w.cs : List (Nat × Fw.Summ) := []
theorem shape.Copy_w.cs_ok : SumsOk Try.prog shape.Copy_w.cs := .nil
def shape.Copy_w.hs : List (Nat × LHint) := []
noncomputable def shape.Copy_w.G : Ctx := ⟨Try.prog, sumAt shape.Copy_w.cs, lookH shape.Copy_w.hs, true⟩
noncomputable def shape.Copy_w.g (k0 : Nat) (x : (Int × Int × (Nat × (Nat → List AV)))) : Option ((Int × Int) × (Nat × (Nat → (Int × Int)))) := evW shape.Copy_w.G k0 Try.f50 ((tOne (tG (tCons (tI .i64) (tCons (tI .i64) (tOne (tLz 2 (Rii.enc (0, 0)))))))).enc x) (OwnT.mk (tCons (tI .i64) (tOne (tI .i64))) Rii 26 2 (0, 0)).dec
noncomputable def shape.Copy_w.f (x : (Int × Int × (Nat × (Nat → List AV)))) : Option ((Int × Int) × (Nat × (Nat → (Int × Int)))) := shape.Copy_w.g (0) x
noncomputable def shape.Copy_w.s : Fw.Summ := .mkW (tOne (tG (tCons (tI .i64) (tCons (tI .i64) (tOne (tLz 2 (Rii.enc (0, 0)))))))) (OwnT.mk (tCons (tI .i64) (tOne (tI .i64))) Rii 26 2 (0, 0)) shape.Copy_w.f
theorem shape.Copy_w.ok : shape.Copy_w.s.Ok Try.prog 50 :=
  wsumm_ok (hint := lookH shape.Copy_w.hs) (fn := Try.f50) (fun x => 0) shape.Copy_w.cs_ok (by kernel_rfl) (by kernel_rfl) (by kernel_rfl) (by kernel_rfl) (tOne_ok (tG_ok (tCons_ok (tI_ok _) (tCons_ok (tI_ok _) (tOne_ok (tLz_ok _ _)))))) ⟨(tCons_ok (tI_ok _) (tOne_ok (tI_ok _))), Rii_ok⟩ (fun _ => rfl)
theorem shape.Copy_w.eq (k0 : Nat) (p0_0 : Int) (p0_1 : Int) (p0_2_n : Nat) (p0_2_g : Nat → (Int × Int)) : shape.Copy_w.g k0 (p0_0, p0_1, (p0_2_n, (fun i => Rii.enc (p0_2_g i)))) =
  bif (decide (p0_2_n * 16 ≤ 140737488355328)) then
  (OwnT.mk (tCons (tI .i64) (tOne (tI .i64))) Rii 26 2 (0, 0)).dec (.agg [.val (.int .i64 p0_0), .val (.int .i64 p0_1), .slc 0 0 none none]) ⟨true, 26, 2, p0_2_n, (fun i => cloL (if i < 0 then (fun _ => Rii.enc (0, 0)) i else (fun i => Rii.enc (p0_2_g i)) (i - 0))), none⟩
  else none := by kernel_rfl
/-! ### bagatelle/world.Copy -/
noncomputable def world.Copy_d.cs : List (Nat × Fw.Summ) := [(54, slices.Clone_lBody_Body.s), (50, shape.Copy_w.s), (55, slices.Clone_lJoint_Joint.s), (56, slices.Clone_lContact_Contact.s)]
theorem world.Copy_d.cs_ok : SumsOk Try.prog world.Copy_d.cs := .cons slices.Clone_lBody_Body.ok (.cons shape.Copy_w.ok (.cons slices.Clone_lJoint_Joint.ok (.cons slices.Clone_lContact_Contact.ok (.nil))))
def world.Copy_d.hs : List (Nat × LHint) := [(0, { mat := [], live := [1, 2, 10, 11], ren := [], cfr := [39], peel := some (fun s => match s.op (.tmp 10), s.op (.tmp 11) with | .val (.int _ n), .val (.int _ i) => some (decide (i + 1 = n)) | _, _ => none) }), (1000000, { xt := true, told := [], pre := [], deep := [], stop := [(13, 39)] })]
noncomputable def world.Copy_d.G : Ctx := ⟨Try.prog, sumAt world.Copy_d.cs, lookH world.Copy_d.hs, true⟩
noncomputable def world.Copy_d.g (k0 : Nat) (x : (Int × Int × Int × Int × Int × (Nat × (Nat → List AV)) × (Nat × (Nat → List AV)) × (Nat × (Nat → List AV)))) : Option ((Int × Int × Int × Int × Int) × ((Nat × (Nat → (Int × Int × Int × Int × Int × Int × Int × Int × Int × Int × (Nat × (Nat → List AV))))) × (Int × Int × Int × Int × Int × Int × Int × Int × Int × Int)) × ((Nat × (Nat → (Int × Int × Int × Int × Int × Int × Int × Int))) × ((Nat × (Nat → (Int × Int × Int × Int × Int))) × (Nat × (Nat → (Int × Int)))))) := evM world.Copy_d.G k0 Try.f24 ((tOne (tG (tCons (tI .i64) (tCons (tI .i64) (tCons (tI .i64) (tCons (tI .i64) (tCons (tI .i64) (tCons (tLz 11 (RiiiiiiiiiiL2.enc (0, 0, 0, 0, 0, 0, 0, 0, 0, 0, (0, fun _ => [])))) (tCons (tLz 8 (Riiiiiiii.enc (0, 0, 0, 0, 0, 0, 0, 0))) (tOne (tLz 5 (Riiiii.enc (0, 0, 0, 0, 0))))))))))))).enc x) (fun _ => [39]) (DeepT.mk (tCons (tI .i64) (tCons (tI .i64) (tCons (tI .i64) (tCons (tI .i64) (tOne (tI .i64)))))) (RowT.mk RiiiiiiiiiiL2 43 11 (0, 0, 0, 0, 0, 0, 0, 0, 0, 0, (0, fun _ => []))) Riiiiiiiiii (oCons (RowT.mk Riiiiiiii 51 8 (0, 0, 0, 0, 0, 0, 0, 0)) (oCons (RowT.mk Riiiii 69 5 (0, 0, 0, 0, 0)) (oOne (RowT.mk Rii 26 2 (0, 0)))))).dec
noncomputable def world.Copy_d.f (x : (Int × Int × Int × Int × Int × (Nat × (Nat → List AV)) × (Nat × (Nat → List AV)) × (Nat × (Nat → List AV)))) : Option ((Int × Int × Int × Int × Int) × ((Nat × (Nat → (Int × Int × Int × Int × Int × Int × Int × Int × Int × Int × (Nat × (Nat → List AV))))) × (Int × Int × Int × Int × Int × Int × Int × Int × Int × Int)) × ((Nat × (Nat → (Int × Int × Int × Int × Int × Int × Int × Int))) × ((Nat × (Nat → (Int × Int × Int × Int × Int))) × (Nat × (Nat → (Int × Int)))))) := world.Copy_d.g (1000000) x
noncomputable def world.Copy_d.s : Fw.Summ := .mkM (moD (tOne (tG (tCons (tI .i64) (tCons (tI .i64) (tCons (tI .i64) (tCons (tI .i64) (tCons (tI .i64) (tCons (tLz 11 (RiiiiiiiiiiL2.enc (0, 0, 0, 0, 0, 0, 0, 0, 0, 0, (0, fun _ => [])))) (tCons (tLz 8 (Riiiiiiii.enc (0, 0, 0, 0, 0, 0, 0, 0))) (tOne (tLz 5 (Riiiii.enc (0, 0, 0, 0, 0))))))))))))) (DeepT.mk (tCons (tI .i64) (tCons (tI .i64) (tCons (tI .i64) (tCons (tI .i64) (tOne (tI .i64)))))) (RowT.mk RiiiiiiiiiiL2 43 11 (0, 0, 0, 0, 0, 0, 0, 0, 0, 0, (0, fun _ => []))) Riiiiiiiiii (oCons (RowT.mk Riiiiiiii 51 8 (0, 0, 0, 0, 0, 0, 0, 0)) (oCons (RowT.mk Riiiii 69 5 (0, 0, 0, 0, 0)) (oOne (RowT.mk Rii 26 2 (0, 0)))))) world.Copy_d.f)
theorem world.Copy_d.ok : world.Copy_d.s.Ok Try.prog 24 :=
  dsumm_ok (ext := fun _ => [39]) (hint := lookH world.Copy_d.hs) (fn := Try.f24) (fun x => 1000000) world.Copy_d.cs_ok (by kernel_rfl) (by kernel_rfl) (by kernel_rfl) (by kernel_rfl) (tOne_ok (tG_ok (tCons_ok (tI_ok _) (tCons_ok (tI_ok _) (tCons_ok (tI_ok _) (tCons_ok (tI_ok _) (tCons_ok (tI_ok _) (tCons_ok (tLz_ok _ _) (tCons_ok (tLz_ok _ _) (tOne_ok (tLz_ok _ _))))))))))) ⟨(tCons_ok (tI_ok _) (tCons_ok (tI_ok _) (tCons_ok (tI_ok _) (tCons_ok (tI_ok _) (tOne_ok (tI_ok _)))))), RiiiiiiiiiiL2_ok, Riiiiiiiiii_ok, (oCons_ok Riiiiiiii_ok (oCons_ok Riiiii_ok (oOne_ok Rii_ok)))⟩ (fun _ => rfl)
noncomputable def world.Copy_d.l0 (k0 k1 : Nat) (v1 : Int) (v2 : Int) (v3 : Int) (v4 : Int) (v5 : Int) (v6 : Nat) (v7 : Nat → List AV) (v8 : Nat) (v9 : Nat → List AV) (v10 : Nat) (v11 : Nat → List AV) (v12 : Int) (v13 : Int) : Option ((Int × Int × Int × Int × Int) × ((Nat × (Nat → (Int × Int × Int × Int × Int × Int × Int × Int × Int × Int × (Nat × (Nat → List AV))))) × (Int × Int × Int × Int × Int × Int × Int × Int × Int × Int)) × ((Nat × (Nat → (Int × Int × Int × Int × Int × Int × Int × Int))) × ((Nat × (Nat → (Int × Int × Int × Int × Int))) × (Nat × (Nat → (Int × Int)))))) :=
  evLoop (lookH world.Copy_d.hs 0) 3 (ev world.Copy_d.G k0 (codeAt [1, 1, 0, 1, 0, 0] (bodyOf Try.f24)) 0) k1
  ⟨[.top, .ptr 0 0 0, .ptr 1 0 0, .top, .top, .top, .top, .top, .top, .top, .val (.int .i64 v12), .val (.int .i64 v13), .top, .top, .top, .top, .top, .top, .top, .top, .top, .top, .top, .top, .top, .top, .top, .top, .top, .top, .top, .top, .top, .top, .top, .top], [.live ⟨false, 31, 8, 1, fun _ => [.val (.int .i64 v1), .val (.int .i64 v2), .val (.int .i64 v3), .val (.int .i64 v4), .val (.int .i64 v5), .slc 2 0 none none, .lst 8 v6 none v7, .lst 5 v8 none v9], none⟩, .live ⟨false, 31, 8, 1, fun _ => [.val (.int .i64 0), .val (.int .i64 0), .val (.int .i64 0), .val (.int .i64 0), .val (.int .i64 0), .val (.slice none 0 0), .val (.slice none 0 0), .val (.slice none 0 0)], none⟩, .live ⟨true, 43, 11, v10, v11, none⟩]⟩
  (kBlock world.Copy_d.G 0 (kSeq world.Copy_d.G k0 (codeAt [1, 1, 1] (bodyOf Try.f24)) 0 (kFinM world.Copy_d.G Try.f24 (fun _ => [39]) (DeepT.mk (tCons (tI .i64) (tCons (tI .i64) (tCons (tI .i64) (tCons (tI .i64) (tOne (tI .i64)))))) (RowT.mk RiiiiiiiiiiL2 43 11 (0, 0, 0, 0, 0, 0, 0, 0, 0, 0, (0, fun _ => []))) Riiiiiiiiii (oCons (RowT.mk Riiiiiiii 51 8 (0, 0, 0, 0, 0, 0, 0, 0)) (oCons (RowT.mk Riiiii 69 5 (0, 0, 0, 0, 0)) (oOne (RowT.mk Rii 26 2 (0, 0)))))).dec)))
theorem world.Copy_d.l0_eq (k0 k1 : Nat) (v1 : Int) (v2 : Int) (v3 : Int) (v4 : Int) (v5 : Int) (v6 : Nat) (v7 : Nat → (Int × Int × Int × Int × Int × Int × Int × Int)) (v8 : Nat) (v9 : Nat → (Int × Int × Int × Int × Int)) (v10 : Nat) (v11 : Nat → (Int × Int × Int × Int × Int × Int × Int × Int × Int × Int × (Nat × (Nat → List AV)))) (v12 : Int) (v13 : Int) : world.Copy_d.l0 k0 (k1 + 1) v1 v2 v3 v4 v5 v6 (fun i => Riiiiiiii.enc (v7 i)) v8 (fun i => Riiiii.enc (v9 i)) v10 (fun i => RiiiiiiiiiiL2.enc (v11 i)) v12 v13 =
  bif (decide (v13 + 1 = v12)) then
    bif (decide (v13 < v12)) then
      bif ((decide (0 ≤ v13)) && (decide (v13 < ((v10 : Nat) : Int)))) then
      (shape.Copy_w.f ((v11 (Int.toNat v13)).2.2.2.2.2.2.2.2.1, (v11 (Int.toNat v13)).2.2.2.2.2.2.2.2.2.1, ((v11 (Int.toNat v13)).2.2.2.2.2.2.2.2.2.2.1, (v11 (Int.toNat v13)).2.2.2.2.2.2.2.2.2.2.2))).bind fun r5 =>
      bif ((decide (0 ≤ v13)) && (decide (v13 < ((v10 : Nat) : Int)))) then
      bif (decide ((IntKind.i64.wrap (v13 + 1)) < v12)) then
        none
      else
      (slices.Clone_lJoint_Joint.f (v6, (fun i => Riiiiiiii.enc (v7 i)))).bind fun r6 =>
      (slices.Clone_lContact_Contact.f (v8, (fun i => Riiiii.enc (v9 i)))).bind fun r7 =>
      (DeepT.mk (tCons (tI .i64) (tCons (tI .i64) (tCons (tI .i64) (tCons (tI .i64) (tOne (tI .i64)))))) (RowT.mk RiiiiiiiiiiL2 43 11 (0, 0, 0, 0, 0, 0, 0, 0, 0, 0, (0, fun _ => []))) Riiiiiiiiii (oCons (RowT.mk Riiiiiiii 51 8 (0, 0, 0, 0, 0, 0, 0, 0)) (oCons (RowT.mk Riiiii 69 5 (0, 0, 0, 0, 0)) (oOne (RowT.mk Rii 26 2 (0, 0)))))).dec (.agg [.val (.int .i64 v1), .val (.int .i64 v2), .val (.int .i64 v3), .val (.int .i64 v4), .val (.int .i64 v5), .slc 0 0 none none, .slc 1 0 none none, .slc 2 0 none none]) [⟨true, 43, 11, v10, (fun i => renL (posF [2, 63, 75, 39]) (if i = (Int.toNat v13) then [.val (.int .i64 (v11 (Int.toNat v13)).1), .val (.int .i64 (v11 (Int.toNat v13)).2.1), .val (.int .i64 (v11 (Int.toNat v13)).2.2.1), .val (.int .i64 (v11 (Int.toNat v13)).2.2.2.1), .val (.int .i64 (v11 (Int.toNat v13)).2.2.2.2.1), .val (.int .i64 (v11 (Int.toNat v13)).2.2.2.2.2.1), .val (.int .i64 (v11 (Int.toNat v13)).2.2.2.2.2.2.1), .val (.int .i64 (v11 (Int.toNat v13)).2.2.2.2.2.2.2.1), .val (.int .i64 r5.1.1), .val (.int .i64 r5.1.2), .slc 39 0 none none] else RiiiiiiiiiiL2.enc (v11 i))), none⟩, ⟨true, 51, 8, r6.1, (fun i => Riiiiiiii.enc (r6.2 i)), none⟩, ⟨true, 69, 5, r7.1, (fun i => Riiiii.enc (r7.2 i)), none⟩, ⟨true, 26, 2, r5.2.1, (fun i => Rii.enc (r5.2.2 i)), none⟩]
      else none
      else none
    else
    (slices.Clone_lJoint_Joint.f (v6, (fun i => Riiiiiiii.enc (v7 i)))).bind fun r8 =>
    (slices.Clone_lContact_Contact.f (v8, (fun i => Riiiii.enc (v9 i)))).bind fun r9 =>
    none
  else
  bif (decide (v13 < v12)) then
    bif ((decide (0 ≤ v13)) && (decide (v13 < ((v10 : Nat) : Int)))) then
    (shape.Copy_w.f ((v11 (Int.toNat v13)).2.2.2.2.2.2.2.2.1, (v11 (Int.toNat v13)).2.2.2.2.2.2.2.2.2.1, ((v11 (Int.toNat v13)).2.2.2.2.2.2.2.2.2.2.1, (v11 (Int.toNat v13)).2.2.2.2.2.2.2.2.2.2.2))).bind fun r2 =>
    bif ((decide (0 ≤ v13)) && (decide (v13 < ((v10 : Nat) : Int)))) then
    world.Copy_d.l0 k0 k1 v1 v2 v3 v4 v5 v6 (fun i => Riiiiiiii.enc (v7 i)) v8 (fun i => Riiiii.enc (v9 i)) v10 (fun i => renL (lookF [] 3) (frzC 39 ⟨true, 26, 2, r2.2.1, (fun i => Rii.enc (r2.2.2 i)), none⟩ (if i = (Int.toNat v13) then [.val (.int .i64 (v11 (Int.toNat v13)).1), .val (.int .i64 (v11 (Int.toNat v13)).2.1), .val (.int .i64 (v11 (Int.toNat v13)).2.2.1), .val (.int .i64 (v11 (Int.toNat v13)).2.2.2.1), .val (.int .i64 (v11 (Int.toNat v13)).2.2.2.2.1), .val (.int .i64 (v11 (Int.toNat v13)).2.2.2.2.2.1), .val (.int .i64 (v11 (Int.toNat v13)).2.2.2.2.2.2.1), .val (.int .i64 (v11 (Int.toNat v13)).2.2.2.2.2.2.2.1), .val (.int .i64 r2.1.1), .val (.int .i64 r2.1.2), .slc 39 0 none none] else RiiiiiiiiiiL2.enc (v11 i)))) v12 (IntKind.i64.wrap (v13 + 1))
    else none
    else none
  else
  (slices.Clone_lJoint_Joint.f (v6, (fun i => Riiiiiiii.enc (v7 i)))).bind fun r3 =>
  (slices.Clone_lContact_Contact.f (v8, (fun i => Riiiii.enc (v9 i)))).bind fun r4 =>
  none := by kernel_rfl
theorem world.Copy_d.eq (k0 : Nat) (p0_0 : Int) (p0_1 : Int) (p0_2 : Int) (p0_3 : Int) (p0_4 : Int) (p0_5_n : Nat) (p0_5_g : Nat → (Int × Int × Int × Int × Int × Int × Int × Int × Int × Int × (Nat × (Nat → List AV)))) (p0_6_n : Nat) (p0_6_g : Nat → (Int × Int × Int × Int × Int × Int × Int × Int)) (p0_7_n : Nat) (p0_7_g : Nat → (Int × Int × Int × Int × Int)) : world.Copy_d.g k0 (p0_0, p0_1, p0_2, p0_3, p0_4, (p0_5_n, (fun i => RiiiiiiiiiiL2.enc (p0_5_g i))), (p0_6_n, (fun i => Riiiiiiii.enc (p0_6_g i))), (p0_7_n, (fun i => Riiiii.enc (p0_7_g i)))) =
  (slices.Clone_lBody_Body.f (p0_5_n, (fun i => RiiiiiiiiiiL2.enc (p0_5_g i)))).bind fun r1 =>
  world.Copy_d.l0 k0 k0 p0_0 p0_1 p0_2 p0_3 p0_4 p0_6_n (fun i => Riiiiiiii.enc (p0_6_g i)) p0_7_n (fun i => Riiiii.enc (p0_7_g i)) r1.1 (fun i => RiiiiiiiiiiL2.enc (r1.2 i)) ((r1.1 : Nat) : Int) 0 := by kernel_rfl
/-! ### bagatelle/bagatellelaw09.WorldCopies -/
noncomputable def law09.WorldCopies_d.cs : List (Nat × Fw.Summ) := [(8, law09.fit.s), (18, law09.Made.s), (24, world.Copy_d.s), (25, world.Same.s), (10, law09.Deed.Do.s), (15, world.Right.s)]
theorem law09.WorldCopies_d.cs_ok : SumsOk Try.prog law09.WorldCopies_d.cs := .cons law09.fit.ok (.cons law09.Made.ok (.cons world.Copy_d.ok (.cons world.Same.ok (.cons law09.Deed.Do.ok (.cons world.Right.ok (.nil))))))
def law09.WorldCopies_d.hs : List (Nat × LHint) := [(1000000, { xt := true, told := [(97, none), (105, none), (114, none), (124, none), (73, (some (.slc 17 0 none none))), (86, (some (.slc 17 0 none none))), (79, none)], pre := [(45, [9, 6, 7, 8])], deep := [(6, [9]), (14, [17])], stop := [] })]
noncomputable def law09.WorldCopies_d.G : Ctx := ⟨Try.prog, sumAt law09.WorldCopies_d.cs, lookH law09.WorldCopies_d.hs, true⟩
noncomputable def law09.WorldCopies_d.f (x : ((Nat × (Nat → List AV)) × (Int × Int × Int × Int × Int × Int × Int × Int × Int × Int × Int × Int × Int × Int × Int × Int × Int × Int × Int × Int × Int × Int × Int × Int × Int × Int × Int × Int × Int × (Nat × (Nat → List AV))) × Int)) : Option Bool := evF law09.WorldCopies_d.G 0 Try.f7 ((tCons (tLz 30 (RiiiiiiiiiiiiiiiiiiiiiiiiiiiiiL2.enc (0, 0, 0, 0, 0, 0, 0, 0, 0, 0, 0, 0, 0, 0, 0, 0, 0, 0, 0, 0, 0, 0, 0, 0, 0, 0, 0, 0, 0, (0, fun _ => [])))) (tCons (tG (tCons (tI .i64) (tCons (tI .i64) (tCons (tI .i64) (tCons (tI .i64) (tCons (tI .i64) (tCons (tI .i64) (tCons (tI .i64) (tCons (tI .i64) (tCons (tI .i64) (tCons (tI .i64) (tCons (tI .i64) (tCons (tI .i64) (tCons (tI .i64) (tCons (tI .i64) (tCons (tI .i64) (tCons (tI .i64) (tCons (tI .i64) (tCons (tI .i64) (tCons (tI .i64) (tCons (tI .i64) (tCons (tI .i64) (tCons (tI .i64) (tCons (tI .i64) (tCons (tI .i64) (tCons (tI .i64) (tCons (tI .i64) (tCons (tI .i64) (tCons (tI .i64) (tCons (tI .i64) (tOne (tLz 2 (Rii.enc (0, 0)))))))))))))))))))))))))))))))))) (tOne (tI .i64)))).enc x) tB.dec
noncomputable def law09.WorldCopies_d.s : Fw.Summ := .mk' (tCons (tLz 30 (RiiiiiiiiiiiiiiiiiiiiiiiiiiiiiL2.enc (0, 0, 0, 0, 0, 0, 0, 0, 0, 0, 0, 0, 0, 0, 0, 0, 0, 0, 0, 0, 0, 0, 0, 0, 0, 0, 0, 0, 0, (0, fun _ => [])))) (tCons (tG (tCons (tI .i64) (tCons (tI .i64) (tCons (tI .i64) (tCons (tI .i64) (tCons (tI .i64) (tCons (tI .i64) (tCons (tI .i64) (tCons (tI .i64) (tCons (tI .i64) (tCons (tI .i64) (tCons (tI .i64) (tCons (tI .i64) (tCons (tI .i64) (tCons (tI .i64) (tCons (tI .i64) (tCons (tI .i64) (tCons (tI .i64) (tCons (tI .i64) (tCons (tI .i64) (tCons (tI .i64) (tCons (tI .i64) (tCons (tI .i64) (tCons (tI .i64) (tCons (tI .i64) (tCons (tI .i64) (tCons (tI .i64) (tCons (tI .i64) (tCons (tI .i64) (tCons (tI .i64) (tOne (tLz 2 (Rii.enc (0, 0)))))))))))))))))))))))))))))))))) (tOne (tI .i64)))) tB law09.WorldCopies_d.f
theorem law09.WorldCopies_d.ok : law09.WorldCopies_d.s.Ok Try.prog 7 :=
  summ_ok (hint := lookH law09.WorldCopies_d.hs) (fn := Try.f7) (fun x => 0) law09.WorldCopies_d.cs_ok (by kernel_rfl) (by kernel_rfl) (by kernel_rfl) (by kernel_rfl) (tCons_ok (tLz_ok _ _) (tCons_ok (tG_ok (tCons_ok (tI_ok _) (tCons_ok (tI_ok _) (tCons_ok (tI_ok _) (tCons_ok (tI_ok _) (tCons_ok (tI_ok _) (tCons_ok (tI_ok _) (tCons_ok (tI_ok _) (tCons_ok (tI_ok _) (tCons_ok (tI_ok _) (tCons_ok (tI_ok _) (tCons_ok (tI_ok _) (tCons_ok (tI_ok _) (tCons_ok (tI_ok _) (tCons_ok (tI_ok _) (tCons_ok (tI_ok _) (tCons_ok (tI_ok _) (tCons_ok (tI_ok _) (tCons_ok (tI_ok _) (tCons_ok (tI_ok _) (tCons_ok (tI_ok _) (tCons_ok (tI_ok _) (tCons_ok (tI_ok _) (tCons_ok (tI_ok _) (tCons_ok (tI_ok _) (tCons_ok (tI_ok _) (tCons_ok (tI_ok _) (tCons_ok (tI_ok _) (tCons_ok (tI_ok _) (tCons_ok (tI_ok _) (tOne_ok (tLz_ok _ _)))))))))))))))))))))))))))))))) (tOne_ok (tI_ok _)))) tB_ok (fun _ => rfl)
theorem law09.WorldCopies_d.eq (p0_n : Nat) (p0_g : Nat → (Int × Int × Int × Int × Int × Int × Int × Int × Int × Int × Int × Int × Int × Int × Int × Int × Int × Int × Int × Int × Int × Int × Int × Int × Int × Int × Int × Int × Int × (Nat × (Nat → List AV)))) (p1_0 : Int) (p1_1 : Int) (p1_2 : Int) (p1_3 : Int) (p1_4 : Int) (p1_5 : Int) (p1_6 : Int) (p1_7 : Int) (p1_8 : Int) (p1_9 : Int) (p1_10 : Int) (p1_11 : Int) (p1_12 : Int) (p1_13 : Int) (p1_14 : Int) (p1_15 : Int) (p1_16 : Int) (p1_17 : Int) (p1_18 : Int) (p1_19 : Int) (p1_20 : Int) (p1_21 : Int) (p1_22 : Int) (p1_23 : Int) (p1_24 : Int) (p1_25 : Int) (p1_26 : Int) (p1_27 : Int) (p1_28 : Int) (p1_29_n : Nat) (p1_29_g : Nat → (Int × Int)) (p2 : Int) : law09.WorldCopies_d.f ((p0_n, (fun i => RiiiiiiiiiiiiiiiiiiiiiiiiiiiiiL2.enc (p0_g i))), (p1_0, p1_1, p1_2, p1_3, p1_4, p1_5, p1_6, p1_7, p1_8, p1_9, p1_10, p1_11, p1_12, p1_13, p1_14, p1_15, p1_16, p1_17, p1_18, p1_19, p1_20, p1_21, p1_22, p1_23, p1_24, p1_25, p1_26, p1_27, p1_28, (p1_29_n, (fun i => Rii.enc (p1_29_g i)))), p2) =
  (law09.fit.f ()).bind fun r1 =>
  bif (!r1) then
    some false
  else
  bif (decide (((p1_29_n : Nat) : Int) > 12)) then
    some true
  else
  (law09.Made.f ((p0_n, (fun i => RiiiiiiiiiiiiiiiiiiiiiiiiiiiiiL2.enc (p0_g i))), 12)).bind fun r2 =>
  (world.Copy_d.f (r2.1, r2.2.1, r2.2.2.1, r2.2.2.2.1, r2.2.2.2.2.1, (r2.2.2.2.2.2.1.1, (fun i => RiiiiiiiiiiL2.enc (r2.2.2.2.2.2.1.2 i))), (r2.2.2.2.2.2.2.1.1, (fun i => Riiiiiiii.enc (r2.2.2.2.2.2.2.1.2 i))), (r2.2.2.2.2.2.2.2.1, (fun i => Riiiii.enc (r2.2.2.2.2.2.2.2.2 i))))).bind fun r3 =>
  (world.Copy_d.f (r2.1, r2.2.1, r2.2.2.1, r2.2.2.2.1, r2.2.2.2.2.1, (r2.2.2.2.2.2.1.1, (fun i => RiiiiiiiiiiL2.enc (r2.2.2.2.2.2.1.2 i))), (r2.2.2.2.2.2.2.1.1, (fun i => Riiiiiiii.enc (r2.2.2.2.2.2.2.1.2 i))), (r2.2.2.2.2.2.2.2.1, (fun i => Riiiii.enc (r2.2.2.2.2.2.2.2.2 i))))).bind fun r4 =>
  (world.Same.f ((r2.1, r2.2.1, r2.2.2.1, r2.2.2.2.1, r2.2.2.2.2.1, (r2.2.2.2.2.2.1.1, (fun i => RiiiiiiiiiiL2.enc (r2.2.2.2.2.2.1.2 i))), (r2.2.2.2.2.2.2.1.1, (fun i => Riiiiiiii.enc (r2.2.2.2.2.2.2.1.2 i))), (r2.2.2.2.2.2.2.2.1, (fun i => Riiiii.enc (r2.2.2.2.2.2.2.2.2 i)))), (r3.1.1, r3.1.2.1, r3.1.2.2.1, r3.1.2.2.2.1, r3.1.2.2.2.2, ((r3.2.1.1.1 + 1), (fun i => cloL (frzC 9 ⟨true, 26, 2, r3.2.2.2.2.1, (fun i => Rii.enc (r3.2.2.2.2.2 i)), none⟩ (renL (shF 6 4) (if i = r3.2.1.1.1 then Riiiiiiiiii.enc r3.2.1.2 ++ slcs 3 1 else RiiiiiiiiiiL2.enc (r3.2.1.1.2 i)))))), (r3.2.2.1.1, (fun i => Riiiiiiii.enc (r3.2.2.1.2 i))), (r3.2.2.2.1.1, (fun i => Riiiii.enc (r3.2.2.2.1.2 i)))))).bind fun r5 =>
  bif (!r5) then
    some false
  else
  (world.Same.f ((r3.1.1, r3.1.2.1, r3.1.2.2.1, r3.1.2.2.2.1, r3.1.2.2.2.2, ((r3.2.1.1.1 + 1), (fun i => cloL (frzC 9 ⟨true, 26, 2, r3.2.2.2.2.1, (fun i => Rii.enc (r3.2.2.2.2.2 i)), none⟩ (renL (shF 6 4) (if i = r3.2.1.1.1 then Riiiiiiiiii.enc r3.2.1.2 ++ slcs 3 1 else RiiiiiiiiiiL2.enc (r3.2.1.1.2 i)))))), (r3.2.2.1.1, (fun i => Riiiiiiii.enc (r3.2.2.1.2 i))), (r3.2.2.2.1.1, (fun i => Riiiii.enc (r3.2.2.2.1.2 i)))), (r4.1.1, r4.1.2.1, r4.1.2.2.1, r4.1.2.2.2.1, r4.1.2.2.2.2, ((r4.2.1.1.1 + 1), (fun i => cloL (frzC 17 ⟨true, 26, 2, r4.2.2.2.2.1, (fun i => Rii.enc (r4.2.2.2.2.2 i)), none⟩ (frzC 8 ⟨true, 69, 5, r3.2.2.2.1.1, (fun i => Riiiii.enc (r3.2.2.2.1.2 i)), none⟩ (frzC 7 ⟨true, 51, 8, r3.2.2.1.1, (fun i => Riiiiiiii.enc (r3.2.2.1.2 i)), none⟩ (frzC 6 ⟨true, 43, 11, (r3.2.1.1.1 + 1), (fun i => frzC 9 ⟨true, 26, 2, r3.2.2.2.2.1, (fun i => Rii.enc (r3.2.2.2.2.2 i)), none⟩ (renL (shF 6 4) (if i = r3.2.1.1.1 then Riiiiiiiiii.enc r3.2.1.2 ++ slcs 3 1 else RiiiiiiiiiiL2.enc (r3.2.1.1.2 i)))), none⟩ (frzC 9 ⟨true, 26, 2, r3.2.2.2.2.1, (fun i => Rii.enc (r3.2.2.2.2.2 i)), none⟩ (renL (shF 14 4) (if i = r4.2.1.1.1 then Riiiiiiiiii.enc r4.2.1.2 ++ slcs 3 1 else RiiiiiiiiiiL2.enc (r4.2.1.1.2 i)))))))))), (r4.2.2.1.1, (fun i => Riiiiiiii.enc (r4.2.2.1.2 i))), (r4.2.2.2.1.1, (fun i => Riiiii.enc (r4.2.2.2.1.2 i)))))).bind fun r6 =>
  bif (!r6) then
    some false
  else
  bif ((Go.bits .and .i64 p1_0 7) == 4) then
    bif ((Go.bits .and .i64 p1_0 7) == 4) then
      (law09.Deed.Joint.f (p1_0, p1_1, p1_2, p1_3, p1_4, p1_5, p1_6, p1_7, p1_8, p1_9, p1_10, p1_11, p1_12, p1_13, p1_14, p1_15, p1_16, p1_17, p1_18, p1_19, p1_20, p1_21, p1_22, p1_23, p1_24, p1_25, p1_26, p1_27, p1_28, (p1_29_n, (fun i => Rii.enc (p1_29_g i))))).bind fun r7 =>
      (world.AddJoint.f ((r3.1.1, r3.1.2.1, r3.1.2.2.1, r3.1.2.2.2.1, r3.1.2.2.2.2, ((r3.2.1.1.1 + 1), (fun i => cloL (frzC 9 ⟨true, 26, 2, r3.2.2.2.2.1, (fun i => Rii.enc (r3.2.2.2.2.2 i)), none⟩ (renL (shF 6 4) (if i = r3.2.1.1.1 then Riiiiiiiiii.enc r3.2.1.2 ++ slcs 3 1 else RiiiiiiiiiiL2.enc (r3.2.1.1.2 i)))))), (r3.2.2.1.1, (fun i => Riiiiiiii.enc (r3.2.2.1.2 i))), (r3.2.2.2.1.1, (fun i => Riiiii.enc (r3.2.2.2.1.2 i)))), (r7.1, r7.2.1, r7.2.2.1, r7.2.2.2.1, r7.2.2.2.2.1, r7.2.2.2.2.2.1, r7.2.2.2.2.2.2.1, r7.2.2.2.2.2.2.2))).bind fun r8 =>
      (world.Same.f ((r2.1, r2.2.1, r2.2.2.1, r2.2.2.2.1, r2.2.2.2.2.1, (r2.2.2.2.2.2.1.1, (fun i => RiiiiiiiiiiL2.enc (r2.2.2.2.2.2.1.2 i))), (r2.2.2.2.2.2.2.1.1, (fun i => Riiiiiiii.enc (r2.2.2.2.2.2.2.1.2 i))), (r2.2.2.2.2.2.2.2.1, (fun i => Riiiii.enc (r2.2.2.2.2.2.2.2.2 i)))), (r4.1.1, r4.1.2.1, r4.1.2.2.1, r4.1.2.2.2.1, r4.1.2.2.2.2, ((r4.2.1.1.1 + 1), (fun i => cloL (frzC 17 ⟨true, 26, 2, r4.2.2.2.2.1, (fun i => Rii.enc (r4.2.2.2.2.2 i)), none⟩ (frzC 8 ⟨true, 69, 5, r3.2.2.2.1.1, (fun i => Riiiii.enc (r3.2.2.2.1.2 i)), none⟩ (frzC 7 ⟨true, 51, 8, r3.2.2.1.1, (fun i => Riiiiiiii.enc (r3.2.2.1.2 i)), none⟩ (frzC 6 ⟨true, 43, 11, (r3.2.1.1.1 + 1), (fun i => frzC 9 ⟨true, 26, 2, r3.2.2.2.2.1, (fun i => Rii.enc (r3.2.2.2.2.2 i)), none⟩ (renL (shF 6 4) (if i = r3.2.1.1.1 then Riiiiiiiiii.enc r3.2.1.2 ++ slcs 3 1 else RiiiiiiiiiiL2.enc (r3.2.1.1.2 i)))), none⟩ (frzC 9 ⟨true, 26, 2, r3.2.2.2.2.1, (fun i => Rii.enc (r3.2.2.2.2.2 i)), none⟩ (renL (shF 14 4) (if i = r4.2.1.1.1 then Riiiiiiiiii.enc r4.2.1.2 ++ slcs 3 1 else RiiiiiiiiiiL2.enc (r4.2.1.1.2 i)))))))))), (r4.2.2.1.1, (fun i => Riiiiiiii.enc (r4.2.2.1.2 i))), (r4.2.2.2.1.1, (fun i => Riiiii.enc (r4.2.2.2.1.2 i)))))).bind fun r9 =>
      bif (!r9) then
        some false
      else
      bif ((IntKind.i64.wrap (((r2.2.2.2.2.2.1.1 : Nat) : Int) + ((r2.2.2.2.2.2.2.1.1 : Nat) : Int))) != (IntKind.i64.wrap (((r2.2.2.2.2.2.1.1 : Nat) : Int) + ((r2.2.2.2.2.2.2.1.1 : Nat) : Int)))) then
        some false
      else
      bif ((Go.bits .and .i64 p2 3) == 0) then
        none
      else
      bif ((Go.bits .and .i64 p2 3) == 1) then
        none
      else
      bif ((((r4.2.1.1.1 + 1) : Nat) : Int) == 0) then
        none
      else
      bif ((Go.bits .and .i64 p2 4) == 0) then
        none
      else
      bif ((decide (0 ≤ (IntKind.i64.wrap ((((r4.2.1.1.1 + 1) : Nat) : Int) - 1)))) && (decide ((IntKind.i64.wrap ((((r4.2.1.1.1 + 1) : Nat) : Int) - 1)) < (((r4.2.1.1.1 + 1) : Nat) : Int)))) then
      bif (@decide (((fun i => frzC 8 ⟨true, 69, 5, r3.2.2.2.1.1, (fun i => Riiiii.enc (r3.2.2.2.1.2 i)), none⟩ (frzC 7 ⟨true, 51, 8, r3.2.2.1.1, (fun i => Riiiiiiii.enc (r3.2.2.1.2 i)), none⟩ (frzC 6 ⟨true, 43, 11, (r3.2.1.1.1 + 1), (fun i => frzC 9 ⟨true, 26, 2, r3.2.2.2.2.1, (fun i => Rii.enc (r3.2.2.2.2.2 i)), none⟩ (renL (shF 6 4) (if i = r3.2.1.1.1 then Riiiiiiiiii.enc r3.2.1.2 ++ slcs 3 1 else RiiiiiiiiiiL2.enc (r3.2.1.1.2 i)))), none⟩ (frzC 9 ⟨true, 26, 2, r3.2.2.2.2.1, (fun i => Rii.enc (r3.2.2.2.2.2 i)), none⟩ (renL (shF 14 4) (if i = r4.2.1.1.1 then Riiiiiiiiii.enc r4.2.1.2 ++ slcs 3 1 else RiiiiiiiiiiL2.enc (r4.2.1.1.2 i))))))) (Int.toNat (IntKind.i64.wrap ((((r4.2.1.1.1 + 1) : Nat) : Int) - 1))))[10]? = some (.slc 17 0 none none)) (Classical.propDecidable _)) then
      bif (((r4.2.2.2.2.1 : Nat) : Int) == 0) then
        none
      else
      bif (@decide (((fun i => frzC 8 ⟨true, 69, 5, r3.2.2.2.1.1, (fun i => Riiiii.enc (r3.2.2.2.1.2 i)), none⟩ (frzC 7 ⟨true, 51, 8, r3.2.2.1.1, (fun i => Riiiiiiii.enc (r3.2.2.1.2 i)), none⟩ (frzC 6 ⟨true, 43, 11, (r3.2.1.1.1 + 1), (fun i => frzC 9 ⟨true, 26, 2, r3.2.2.2.2.1, (fun i => Rii.enc (r3.2.2.2.2.2 i)), none⟩ (renL (shF 6 4) (if i = r3.2.1.1.1 then Riiiiiiiiii.enc r3.2.1.2 ++ slcs 3 1 else RiiiiiiiiiiL2.enc (r3.2.1.1.2 i)))), none⟩ (frzC 9 ⟨true, 26, 2, r3.2.2.2.2.1, (fun i => Rii.enc (r3.2.2.2.2.2 i)), none⟩ (renL (shF 14 4) (if i = r4.2.1.1.1 then Riiiiiiiiii.enc r4.2.1.2 ++ slcs 3 1 else RiiiiiiiiiiL2.enc (r4.2.1.1.2 i))))))) (Int.toNat (IntKind.i64.wrap ((((r4.2.1.1.1 + 1) : Nat) : Int) - 1))))[10]? = some (.slc 17 0 none none)) (Classical.propDecidable _)) then
      bif (decide (0 < ((r4.2.2.2.2.1 : Nat) : Int))) then
      bif (decide (0 < ((r4.2.2.2.2.1 : Nat) : Int))) then
      (world.Same.f ((r2.1, r2.2.1, r2.2.2.1, r2.2.2.2.1, r2.2.2.2.2.1, (r2.2.2.2.2.2.1.1, (fun i => RiiiiiiiiiiL2.enc (r2.2.2.2.2.2.1.2 i))), (r2.2.2.2.2.2.2.1.1, (fun i => Riiiiiiii.enc (r2.2.2.2.2.2.2.1.2 i))), (r2.2.2.2.2.2.2.2.1, (fun i => Riiiii.enc (r2.2.2.2.2.2.2.2.2 i)))), (r4.1.1, r4.1.2.1, r4.1.2.2.1, r4.1.2.2.2.1, r4.1.2.2.2.2, ((r4.2.1.1.1 + 1), (fun i => cloL (frzC 17 ⟨true, 26, 2, r4.2.2.2.2.1, (fun i => if i = 0 then Rii.enc ((IntKind.i64.wrap ((r4.2.2.2.2.2 0).1 + 1)), (r4.2.2.2.2.2 0).2) else Rii.enc (r4.2.2.2.2.2 i)), none⟩ (frzC 8 ⟨true, 69, 5, r3.2.2.2.1.1, (fun i => Riiiii.enc (r3.2.2.2.1.2 i)), none⟩ (frzC 7 ⟨true, 51, 8, r3.2.2.1.1, (fun i => Riiiiiiii.enc (r3.2.2.1.2 i)), none⟩ (frzC 6 ⟨true, 43, 11, (r3.2.1.1.1 + 1), (fun i => frzC 9 ⟨true, 26, 2, r3.2.2.2.2.1, (fun i => Rii.enc (r3.2.2.2.2.2 i)), none⟩ (renL (shF 6 4) (if i = r3.2.1.1.1 then Riiiiiiiiii.enc r3.2.1.2 ++ slcs 3 1 else RiiiiiiiiiiL2.enc (r3.2.1.1.2 i)))), none⟩ (frzC 9 ⟨true, 26, 2, r3.2.2.2.2.1, (fun i => Rii.enc (r3.2.2.2.2.2 i)), none⟩ (renL (shF 14 4) (if i = r4.2.1.1.1 then Riiiiiiiiii.enc r4.2.1.2 ++ slcs 3 1 else RiiiiiiiiiiL2.enc (r4.2.1.1.2 i)))))))))), (r4.2.2.1.1, (fun i => Riiiiiiii.enc (r4.2.2.1.2 i))), (r4.2.2.2.1.1, (fun i => Riiiii.enc (r4.2.2.2.1.2 i)))))).bind fun r10 =>
      bif (!r10) then
        (world.Right.f (r2.1, r2.2.1, r2.2.2.1, r2.2.2.2.1, r2.2.2.2.2.1, (r2.2.2.2.2.2.1.1, (fun i => RiiiiiiiiiiL2.enc (r2.2.2.2.2.2.1.2 i))), (r2.2.2.2.2.2.2.1.1, (fun i => Riiiiiiii.enc (r2.2.2.2.2.2.2.1.2 i))), (r2.2.2.2.2.2.2.2.1, (fun i => Riiiii.enc (r2.2.2.2.2.2.2.2.2 i))))).bind fun r11 =>
        some r11
      else
      some false
      else none
      else none
      else none
      else none
      else none
    else
    bif ((Go.bits .and .i64 p1_0 7) == 6) then
      (world.RemoveBody.f ((r3.1.1, r3.1.2.1, r3.1.2.2.1, r3.1.2.2.2.1, r3.1.2.2.2.2, ((r3.2.1.1.1 + 1), (fun i => cloL (frzC 9 ⟨true, 26, 2, r3.2.2.2.2.1, (fun i => Rii.enc (r3.2.2.2.2.2 i)), none⟩ (renL (shF 6 4) (if i = r3.2.1.1.1 then Riiiiiiiiii.enc r3.2.1.2 ++ slcs 3 1 else RiiiiiiiiiiL2.enc (r3.2.1.1.2 i)))))), (r3.2.2.1.1, (fun i => Riiiiiiii.enc (r3.2.2.1.2 i))), (r3.2.2.2.1.1, (fun i => Riiiii.enc (r3.2.2.2.1.2 i)))), (Go.bits .and .i64 p1_12 15))).bind fun r12 =>
      (world.Same.f ((r2.1, r2.2.1, r2.2.2.1, r2.2.2.2.1, r2.2.2.2.2.1, (r2.2.2.2.2.2.1.1, (fun i => RiiiiiiiiiiL2.enc (r2.2.2.2.2.2.1.2 i))), (r2.2.2.2.2.2.2.1.1, (fun i => Riiiiiiii.enc (r2.2.2.2.2.2.2.1.2 i))), (r2.2.2.2.2.2.2.2.1, (fun i => Riiiii.enc (r2.2.2.2.2.2.2.2.2 i)))), (r4.1.1, r4.1.2.1, r4.1.2.2.1, r4.1.2.2.2.1, r4.1.2.2.2.2, ((r4.2.1.1.1 + 1), (fun i => cloL (frzC 17 ⟨true, 26, 2, r4.2.2.2.2.1, (fun i => Rii.enc (r4.2.2.2.2.2 i)), none⟩ (frzC 8 ⟨true, 69, 5, r3.2.2.2.1.1, (fun i => Riiiii.enc (r3.2.2.2.1.2 i)), none⟩ (frzC 7 ⟨true, 51, 8, r3.2.2.1.1, (fun i => Riiiiiiii.enc (r3.2.2.1.2 i)), none⟩ (frzC 6 ⟨true, 43, 11, (r3.2.1.1.1 + 1), (fun i => frzC 9 ⟨true, 26, 2, r3.2.2.2.2.1, (fun i => Rii.enc (r3.2.2.2.2.2 i)), none⟩ (renL (shF 6 4) (if i = r3.2.1.1.1 then Riiiiiiiiii.enc r3.2.1.2 ++ slcs 3 1 else RiiiiiiiiiiL2.enc (r3.2.1.1.2 i)))), none⟩ (frzC 9 ⟨true, 26, 2, r3.2.2.2.2.1, (fun i => Rii.enc (r3.2.2.2.2.2 i)), none⟩ (renL (shF 14 4) (if i = r4.2.1.1.1 then Riiiiiiiiii.enc r4.2.1.2 ++ slcs 3 1 else RiiiiiiiiiiL2.enc (r4.2.1.1.2 i)))))))))), (r4.2.2.1.1, (fun i => Riiiiiiii.enc (r4.2.2.1.2 i))), (r4.2.2.2.1.1, (fun i => Riiiii.enc (r4.2.2.2.1.2 i)))))).bind fun r13 =>
      bif (!r13) then
        some false
      else
      bif ((IntKind.i64.wrap (((r2.2.2.2.2.2.1.1 : Nat) : Int) + ((r2.2.2.2.2.2.2.1.1 : Nat) : Int))) != (IntKind.i64.wrap (((r2.2.2.2.2.2.1.1 : Nat) : Int) + ((r2.2.2.2.2.2.2.1.1 : Nat) : Int)))) then
        some false
      else
      bif ((Go.bits .and .i64 p2 3) == 0) then
        none
      else
      bif ((Go.bits .and .i64 p2 3) == 1) then
        none
      else
      bif ((((r4.2.1.1.1 + 1) : Nat) : Int) == 0) then
        none
      else
      bif ((Go.bits .and .i64 p2 4) == 0) then
        none
      else
      bif ((decide (0 ≤ (IntKind.i64.wrap ((((r4.2.1.1.1 + 1) : Nat) : Int) - 1)))) && (decide ((IntKind.i64.wrap ((((r4.2.1.1.1 + 1) : Nat) : Int) - 1)) < (((r4.2.1.1.1 + 1) : Nat) : Int)))) then
      bif (@decide (((fun i => frzC 8 ⟨true, 69, 5, r3.2.2.2.1.1, (fun i => Riiiii.enc (r3.2.2.2.1.2 i)), none⟩ (frzC 7 ⟨true, 51, 8, r3.2.2.1.1, (fun i => Riiiiiiii.enc (r3.2.2.1.2 i)), none⟩ (frzC 6 ⟨true, 43, 11, (r3.2.1.1.1 + 1), (fun i => frzC 9 ⟨true, 26, 2, r3.2.2.2.2.1, (fun i => Rii.enc (r3.2.2.2.2.2 i)), none⟩ (renL (shF 6 4) (if i = r3.2.1.1.1 then Riiiiiiiiii.enc r3.2.1.2 ++ slcs 3 1 else RiiiiiiiiiiL2.enc (r3.2.1.1.2 i)))), none⟩ (frzC 9 ⟨true, 26, 2, r3.2.2.2.2.1, (fun i => Rii.enc (r3.2.2.2.2.2 i)), none⟩ (renL (shF 14 4) (if i = r4.2.1.1.1 then Riiiiiiiiii.enc r4.2.1.2 ++ slcs 3 1 else RiiiiiiiiiiL2.enc (r4.2.1.1.2 i))))))) (Int.toNat (IntKind.i64.wrap ((((r4.2.1.1.1 + 1) : Nat) : Int) - 1))))[10]? = some (.slc 17 0 none none)) (Classical.propDecidable _)) then
      bif (((r4.2.2.2.2.1 : Nat) : Int) == 0) then
        none
      else
      bif (@decide (((fun i => frzC 8 ⟨true, 69, 5, r3.2.2.2.1.1, (fun i => Riiiii.enc (r3.2.2.2.1.2 i)), none⟩ (frzC 7 ⟨true, 51, 8, r3.2.2.1.1, (fun i => Riiiiiiii.enc (r3.2.2.1.2 i)), none⟩ (frzC 6 ⟨true, 43, 11, (r3.2.1.1.1 + 1), (fun i => frzC 9 ⟨true, 26, 2, r3.2.2.2.2.1, (fun i => Rii.enc (r3.2.2.2.2.2 i)), none⟩ (renL (shF 6 4) (if i = r3.2.1.1.1 then Riiiiiiiiii.enc r3.2.1.2 ++ slcs 3 1 else RiiiiiiiiiiL2.enc (r3.2.1.1.2 i)))), none⟩ (frzC 9 ⟨true, 26, 2, r3.2.2.2.2.1, (fun i => Rii.enc (r3.2.2.2.2.2 i)), none⟩ (renL (shF 14 4) (if i = r4.2.1.1.1 then Riiiiiiiiii.enc r4.2.1.2 ++ slcs 3 1 else RiiiiiiiiiiL2.enc (r4.2.1.1.2 i))))))) (Int.toNat (IntKind.i64.wrap ((((r4.2.1.1.1 + 1) : Nat) : Int) - 1))))[10]? = some (.slc 17 0 none none)) (Classical.propDecidable _)) then
      bif (decide (0 < ((r4.2.2.2.2.1 : Nat) : Int))) then
      bif (decide (0 < ((r4.2.2.2.2.1 : Nat) : Int))) then
      (world.Same.f ((r2.1, r2.2.1, r2.2.2.1, r2.2.2.2.1, r2.2.2.2.2.1, (r2.2.2.2.2.2.1.1, (fun i => RiiiiiiiiiiL2.enc (r2.2.2.2.2.2.1.2 i))), (r2.2.2.2.2.2.2.1.1, (fun i => Riiiiiiii.enc (r2.2.2.2.2.2.2.1.2 i))), (r2.2.2.2.2.2.2.2.1, (fun i => Riiiii.enc (r2.2.2.2.2.2.2.2.2 i)))), (r4.1.1, r4.1.2.1, r4.1.2.2.1, r4.1.2.2.2.1, r4.1.2.2.2.2, ((r4.2.1.1.1 + 1), (fun i => cloL (frzC 17 ⟨true, 26, 2, r4.2.2.2.2.1, (fun i => if i = 0 then Rii.enc ((IntKind.i64.wrap ((r4.2.2.2.2.2 0).1 + 1)), (r4.2.2.2.2.2 0).2) else Rii.enc (r4.2.2.2.2.2 i)), none⟩ (frzC 8 ⟨true, 69, 5, r3.2.2.2.1.1, (fun i => Riiiii.enc (r3.2.2.2.1.2 i)), none⟩ (frzC 7 ⟨true, 51, 8, r3.2.2.1.1, (fun i => Riiiiiiii.enc (r3.2.2.1.2 i)), none⟩ (frzC 6 ⟨true, 43, 11, (r3.2.1.1.1 + 1), (fun i => frzC 9 ⟨true, 26, 2, r3.2.2.2.2.1, (fun i => Rii.enc (r3.2.2.2.2.2 i)), none⟩ (renL (shF 6 4) (if i = r3.2.1.1.1 then Riiiiiiiiii.enc r3.2.1.2 ++ slcs 3 1 else RiiiiiiiiiiL2.enc (r3.2.1.1.2 i)))), none⟩ (frzC 9 ⟨true, 26, 2, r3.2.2.2.2.1, (fun i => Rii.enc (r3.2.2.2.2.2 i)), none⟩ (renL (shF 14 4) (if i = r4.2.1.1.1 then Riiiiiiiiii.enc r4.2.1.2 ++ slcs 3 1 else RiiiiiiiiiiL2.enc (r4.2.1.1.2 i)))))))))), (r4.2.2.1.1, (fun i => Riiiiiiii.enc (r4.2.2.1.2 i))), (r4.2.2.2.1.1, (fun i => Riiiii.enc (r4.2.2.2.1.2 i)))))).bind fun r14 =>
      bif (!r14) then
        (world.Right.f (r2.1, r2.2.1, r2.2.2.1, r2.2.2.2.1, r2.2.2.2.2.1, (r2.2.2.2.2.2.1.1, (fun i => RiiiiiiiiiiL2.enc (r2.2.2.2.2.2.1.2 i))), (r2.2.2.2.2.2.2.1.1, (fun i => Riiiiiiii.enc (r2.2.2.2.2.2.2.1.2 i))), (r2.2.2.2.2.2.2.2.1, (fun i => Riiiii.enc (r2.2.2.2.2.2.2.2.2 i))))).bind fun r15 =>
        some r15
      else
      some false
      else none
      else none
      else none
      else none
      else none
    else
    bif ((Go.bits .and .i64 p1_0 7) == 3) then
      (world.RemoveJoint.f ((r3.1.1, r3.1.2.1, r3.1.2.2.1, r3.1.2.2.2.1, r3.1.2.2.2.2, ((r3.2.1.1.1 + 1), (fun i => cloL (frzC 9 ⟨true, 26, 2, r3.2.2.2.2.1, (fun i => Rii.enc (r3.2.2.2.2.2 i)), none⟩ (renL (shF 6 4) (if i = r3.2.1.1.1 then Riiiiiiiiii.enc r3.2.1.2 ++ slcs 3 1 else RiiiiiiiiiiL2.enc (r3.2.1.1.2 i)))))), (r3.2.2.1.1, (fun i => Riiiiiiii.enc (r3.2.2.1.2 i))), (r3.2.2.2.1.1, (fun i => Riiiii.enc (r3.2.2.2.1.2 i)))), (Go.bits .and .i64 p1_12 15))).bind fun r16 =>
      (world.Same.f ((r2.1, r2.2.1, r2.2.2.1, r2.2.2.2.1, r2.2.2.2.2.1, (r2.2.2.2.2.2.1.1, (fun i => RiiiiiiiiiiL2.enc (r2.2.2.2.2.2.1.2 i))), (r2.2.2.2.2.2.2.1.1, (fun i => Riiiiiiii.enc (r2.2.2.2.2.2.2.1.2 i))), (r2.2.2.2.2.2.2.2.1, (fun i => Riiiii.enc (r2.2.2.2.2.2.2.2.2 i)))), (r4.1.1, r4.1.2.1, r4.1.2.2.1, r4.1.2.2.2.1, r4.1.2.2.2.2, ((r4.2.1.1.1 + 1), (fun i => cloL (frzC 17 ⟨true, 26, 2, r4.2.2.2.2.1, (fun i => Rii.enc (r4.2.2.2.2.2 i)), none⟩ (frzC 8 ⟨true, 69, 5, r3.2.2.2.1.1, (fun i => Riiiii.enc (r3.2.2.2.1.2 i)), none⟩ (frzC 7 ⟨true, 51, 8, r3.2.2.1.1, (fun i => Riiiiiiii.enc (r3.2.2.1.2 i)), none⟩ (frzC 6 ⟨true, 43, 11, (r3.2.1.1.1 + 1), (fun i => frzC 9 ⟨true, 26, 2, r3.2.2.2.2.1, (fun i => Rii.enc (r3.2.2.2.2.2 i)), none⟩ (renL (shF 6 4) (if i = r3.2.1.1.1 then Riiiiiiiiii.enc r3.2.1.2 ++ slcs 3 1 else RiiiiiiiiiiL2.enc (r3.2.1.1.2 i)))), none⟩ (frzC 9 ⟨true, 26, 2, r3.2.2.2.2.1, (fun i => Rii.enc (r3.2.2.2.2.2 i)), none⟩ (renL (shF 14 4) (if i = r4.2.1.1.1 then Riiiiiiiiii.enc r4.2.1.2 ++ slcs 3 1 else RiiiiiiiiiiL2.enc (r4.2.1.1.2 i)))))))))), (r4.2.2.1.1, (fun i => Riiiiiiii.enc (r4.2.2.1.2 i))), (r4.2.2.2.1.1, (fun i => Riiiii.enc (r4.2.2.2.1.2 i)))))).bind fun r17 =>
      bif (!r17) then
        some false
      else
      bif ((IntKind.i64.wrap (((r2.2.2.2.2.2.1.1 : Nat) : Int) + ((r2.2.2.2.2.2.2.1.1 : Nat) : Int))) != (IntKind.i64.wrap (((r2.2.2.2.2.2.1.1 : Nat) : Int) + ((r2.2.2.2.2.2.2.1.1 : Nat) : Int)))) then
        some false
      else
      bif ((Go.bits .and .i64 p2 3) == 0) then
        none
      else
      bif ((Go.bits .and .i64 p2 3) == 1) then
        none
      else
      bif ((((r4.2.1.1.1 + 1) : Nat) : Int) == 0) then
        none
      else
      bif ((Go.bits .and .i64 p2 4) == 0) then
        none
      else
      bif ((decide (0 ≤ (IntKind.i64.wrap ((((r4.2.1.1.1 + 1) : Nat) : Int) - 1)))) && (decide ((IntKind.i64.wrap ((((r4.2.1.1.1 + 1) : Nat) : Int) - 1)) < (((r4.2.1.1.1 + 1) : Nat) : Int)))) then
      bif (@decide (((fun i => frzC 8 ⟨true, 69, 5, r3.2.2.2.1.1, (fun i => Riiiii.enc (r3.2.2.2.1.2 i)), none⟩ (frzC 7 ⟨true, 51, 8, r3.2.2.1.1, (fun i => Riiiiiiii.enc (r3.2.2.1.2 i)), none⟩ (frzC 6 ⟨true, 43, 11, (r3.2.1.1.1 + 1), (fun i => frzC 9 ⟨true, 26, 2, r3.2.2.2.2.1, (fun i => Rii.enc (r3.2.2.2.2.2 i)), none⟩ (renL (shF 6 4) (if i = r3.2.1.1.1 then Riiiiiiiiii.enc r3.2.1.2 ++ slcs 3 1 else RiiiiiiiiiiL2.enc (r3.2.1.1.2 i)))), none⟩ (frzC 9 ⟨true, 26, 2, r3.2.2.2.2.1, (fun i => Rii.enc (r3.2.2.2.2.2 i)), none⟩ (renL (shF 14 4) (if i = r4.2.1.1.1 then Riiiiiiiiii.enc r4.2.1.2 ++ slcs 3 1 else RiiiiiiiiiiL2.enc (r4.2.1.1.2 i))))))) (Int.toNat (IntKind.i64.wrap ((((r4.2.1.1.1 + 1) : Nat) : Int) - 1))))[10]? = some (.slc 17 0 none none)) (Classical.propDecidable _)) then
      bif (((r4.2.2.2.2.1 : Nat) : Int) == 0) then
        none
      else
      bif (@decide (((fun i => frzC 8 ⟨true, 69, 5, r3.2.2.2.1.1, (fun i => Riiiii.enc (r3.2.2.2.1.2 i)), none⟩ (frzC 7 ⟨true, 51, 8, r3.2.2.1.1, (fun i => Riiiiiiii.enc (r3.2.2.1.2 i)), none⟩ (frzC 6 ⟨true, 43, 11, (r3.2.1.1.1 + 1), (fun i => frzC 9 ⟨true, 26, 2, r3.2.2.2.2.1, (fun i => Rii.enc (r3.2.2.2.2.2 i)), none⟩ (renL (shF 6 4) (if i = r3.2.1.1.1 then Riiiiiiiiii.enc r3.2.1.2 ++ slcs 3 1 else RiiiiiiiiiiL2.enc (r3.2.1.1.2 i)))), none⟩ (frzC 9 ⟨true, 26, 2, r3.2.2.2.2.1, (fun i => Rii.enc (r3.2.2.2.2.2 i)), none⟩ (renL (shF 14 4) (if i = r4.2.1.1.1 then Riiiiiiiiii.enc r4.2.1.2 ++ slcs 3 1 else RiiiiiiiiiiL2.enc (r4.2.1.1.2 i))))))) (Int.toNat (IntKind.i64.wrap ((((r4.2.1.1.1 + 1) : Nat) : Int) - 1))))[10]? = some (.slc 17 0 none none)) (Classical.propDecidable _)) then
      bif (decide (0 < ((r4.2.2.2.2.1 : Nat) : Int))) then
      bif (decide (0 < ((r4.2.2.2.2.1 : Nat) : Int))) then
      (world.Same.f ((r2.1, r2.2.1, r2.2.2.1, r2.2.2.2.1, r2.2.2.2.2.1, (r2.2.2.2.2.2.1.1, (fun i => RiiiiiiiiiiL2.enc (r2.2.2.2.2.2.1.2 i))), (r2.2.2.2.2.2.2.1.1, (fun i => Riiiiiiii.enc (r2.2.2.2.2.2.2.1.2 i))), (r2.2.2.2.2.2.2.2.1, (fun i => Riiiii.enc (r2.2.2.2.2.2.2.2.2 i)))), (r4.1.1, r4.1.2.1, r4.1.2.2.1, r4.1.2.2.2.1, r4.1.2.2.2.2, ((r4.2.1.1.1 + 1), (fun i => cloL (frzC 17 ⟨true, 26, 2, r4.2.2.2.2.1, (fun i => if i = 0 then Rii.enc ((IntKind.i64.wrap ((r4.2.2.2.2.2 0).1 + 1)), (r4.2.2.2.2.2 0).2) else Rii.enc (r4.2.2.2.2.2 i)), none⟩ (frzC 8 ⟨true, 69, 5, r3.2.2.2.1.1, (fun i => Riiiii.enc (r3.2.2.2.1.2 i)), none⟩ (frzC 7 ⟨true, 51, 8, r3.2.2.1.1, (fun i => Riiiiiiii.enc (r3.2.2.1.2 i)), none⟩ (frzC 6 ⟨true, 43, 11, (r3.2.1.1.1 + 1), (fun i => frzC 9 ⟨true, 26, 2, r3.2.2.2.2.1, (fun i => Rii.enc (r3.2.2.2.2.2 i)), none⟩ (renL (shF 6 4) (if i = r3.2.1.1.1 then Riiiiiiiiii.enc r3.2.1.2 ++ slcs 3 1 else RiiiiiiiiiiL2.enc (r3.2.1.1.2 i)))), none⟩ (frzC 9 ⟨true, 26, 2, r3.2.2.2.2.1, (fun i => Rii.enc (r3.2.2.2.2.2 i)), none⟩ (renL (shF 14 4) (if i = r4.2.1.1.1 then Riiiiiiiiii.enc r4.2.1.2 ++ slcs 3 1 else RiiiiiiiiiiL2.enc (r4.2.1.1.2 i)))))))))), (r4.2.2.1.1, (fun i => Riiiiiiii.enc (r4.2.2.1.2 i))), (r4.2.2.2.1.1, (fun i => Riiiii.enc (r4.2.2.2.1.2 i)))))).bind fun r18 =>
      bif (!r18) then
        (world.Right.f (r2.1, r2.2.1, r2.2.2.1, r2.2.2.2.1, r2.2.2.2.2.1, (r2.2.2.2.2.2.1.1, (fun i => RiiiiiiiiiiL2.enc (r2.2.2.2.2.2.1.2 i))), (r2.2.2.2.2.2.2.1.1, (fun i => Riiiiiiii.enc (r2.2.2.2.2.2.2.1.2 i))), (r2.2.2.2.2.2.2.2.1, (fun i => Riiiii.enc (r2.2.2.2.2.2.2.2.2 i))))).bind fun r19 =>
        some r19
      else
      some false
      else none
      else none
      else none
      else none
      else none
    else
    (law09.Deed.Body.f (p1_0, p1_1, p1_2, p1_3, p1_4, p1_5, p1_6, p1_7, p1_8, p1_9, p1_10, p1_11, p1_12, p1_13, p1_14, p1_15, p1_16, p1_17, p1_18, p1_19, p1_20, p1_21, p1_22, p1_23, p1_24, p1_25, p1_26, p1_27, p1_28, (p1_29_n, (fun i => Rii.enc (p1_29_g i))))).bind fun r20 =>
    (world.AddBody.f ((r3.1.1, r3.1.2.1, r3.1.2.2.1, r3.1.2.2.2.1, r3.1.2.2.2.2, ((r3.2.1.1.1 + 1), (fun i => cloL (frzC 9 ⟨true, 26, 2, r3.2.2.2.2.1, (fun i => Rii.enc (r3.2.2.2.2.2 i)), none⟩ (renL (shF 6 4) (if i = r3.2.1.1.1 then Riiiiiiiiii.enc r3.2.1.2 ++ slcs 3 1 else RiiiiiiiiiiL2.enc (r3.2.1.1.2 i)))))), (r3.2.2.1.1, (fun i => Riiiiiiii.enc (r3.2.2.1.2 i))), (r3.2.2.2.1.1, (fun i => Riiiii.enc (r3.2.2.2.1.2 i)))), (r20.1, r20.2.1, r20.2.2.1, r20.2.2.2.1, r20.2.2.2.2.1, r20.2.2.2.2.2.1, r20.2.2.2.2.2.2.1, r20.2.2.2.2.2.2.2.1, r20.2.2.2.2.2.2.2.2.1, r20.2.2.2.2.2.2.2.2.2.1, (r20.2.2.2.2.2.2.2.2.2.2.1, (fun i => Rii.enc (r20.2.2.2.2.2.2.2.2.2.2.2 i)))))).bind fun r21 =>
    (world.Same.f ((r2.1, r2.2.1, r2.2.2.1, r2.2.2.2.1, r2.2.2.2.2.1, (r2.2.2.2.2.2.1.1, (fun i => RiiiiiiiiiiL2.enc (r2.2.2.2.2.2.1.2 i))), (r2.2.2.2.2.2.2.1.1, (fun i => Riiiiiiii.enc (r2.2.2.2.2.2.2.1.2 i))), (r2.2.2.2.2.2.2.2.1, (fun i => Riiiii.enc (r2.2.2.2.2.2.2.2.2 i)))), (r4.1.1, r4.1.2.1, r4.1.2.2.1, r4.1.2.2.2.1, r4.1.2.2.2.2, ((r4.2.1.1.1 + 1), (fun i => cloL (frzC 17 ⟨true, 26, 2, r4.2.2.2.2.1, (fun i => Rii.enc (r4.2.2.2.2.2 i)), none⟩ (frzC 8 ⟨true, 69, 5, r3.2.2.2.1.1, (fun i => Riiiii.enc (r3.2.2.2.1.2 i)), none⟩ (frzC 7 ⟨true, 51, 8, r3.2.2.1.1, (fun i => Riiiiiiii.enc (r3.2.2.1.2 i)), none⟩ (frzC 6 ⟨true, 43, 11, (r3.2.1.1.1 + 1), (fun i => frzC 9 ⟨true, 26, 2, r3.2.2.2.2.1, (fun i => Rii.enc (r3.2.2.2.2.2 i)), none⟩ (renL (shF 6 4) (if i = r3.2.1.1.1 then Riiiiiiiiii.enc r3.2.1.2 ++ slcs 3 1 else RiiiiiiiiiiL2.enc (r3.2.1.1.2 i)))), none⟩ (frzC 9 ⟨true, 26, 2, r3.2.2.2.2.1, (fun i => Rii.enc (r3.2.2.2.2.2 i)), none⟩ (renL (shF 14 4) (if i = r4.2.1.1.1 then Riiiiiiiiii.enc r4.2.1.2 ++ slcs 3 1 else RiiiiiiiiiiL2.enc (r4.2.1.1.2 i)))))))))), (r4.2.2.1.1, (fun i => Riiiiiiii.enc (r4.2.2.1.2 i))), (r4.2.2.2.1.1, (fun i => Riiiii.enc (r4.2.2.2.1.2 i)))))).bind fun r22 =>
    bif (!r22) then
      some false
    else
    bif ((IntKind.i64.wrap (((r2.2.2.2.2.2.1.1 : Nat) : Int) + ((r2.2.2.2.2.2.2.1.1 : Nat) : Int))) != (IntKind.i64.wrap (((r2.2.2.2.2.2.1.1 : Nat) : Int) + ((r2.2.2.2.2.2.2.1.1 : Nat) : Int)))) then
      some false
    else
    bif ((Go.bits .and .i64 p2 3) == 0) then
      none
    else
    bif ((Go.bits .and .i64 p2 3) == 1) then
      none
    else
    bif ((((r4.2.1.1.1 + 1) : Nat) : Int) == 0) then
      none
    else
    bif ((Go.bits .and .i64 p2 4) == 0) then
      none
    else
    bif ((decide (0 ≤ (IntKind.i64.wrap ((((r4.2.1.1.1 + 1) : Nat) : Int) - 1)))) && (decide ((IntKind.i64.wrap ((((r4.2.1.1.1 + 1) : Nat) : Int) - 1)) < (((r4.2.1.1.1 + 1) : Nat) : Int)))) then
    bif (@decide (((fun i => frzC 8 ⟨true, 69, 5, r3.2.2.2.1.1, (fun i => Riiiii.enc (r3.2.2.2.1.2 i)), none⟩ (frzC 7 ⟨true, 51, 8, r3.2.2.1.1, (fun i => Riiiiiiii.enc (r3.2.2.1.2 i)), none⟩ (frzC 6 ⟨true, 43, 11, (r3.2.1.1.1 + 1), (fun i => frzC 9 ⟨true, 26, 2, r3.2.2.2.2.1, (fun i => Rii.enc (r3.2.2.2.2.2 i)), none⟩ (renL (shF 6 4) (if i = r3.2.1.1.1 then Riiiiiiiiii.enc r3.2.1.2 ++ slcs 3 1 else RiiiiiiiiiiL2.enc (r3.2.1.1.2 i)))), none⟩ (frzC 9 ⟨true, 26, 2, r3.2.2.2.2.1, (fun i => Rii.enc (r3.2.2.2.2.2 i)), none⟩ (renL (shF 14 4) (if i = r4.2.1.1.1 then Riiiiiiiiii.enc r4.2.1.2 ++ slcs 3 1 else RiiiiiiiiiiL2.enc (r4.2.1.1.2 i))))))) (Int.toNat (IntKind.i64.wrap ((((r4.2.1.1.1 + 1) : Nat) : Int) - 1))))[10]? = some (.slc 17 0 none none)) (Classical.propDecidable _)) then
    bif (((r4.2.2.2.2.1 : Nat) : Int) == 0) then
      none
    else
    bif (@decide (((fun i => frzC 8 ⟨true, 69, 5, r3.2.2.2.1.1, (fun i => Riiiii.enc (r3.2.2.2.1.2 i)), none⟩ (frzC 7 ⟨true, 51, 8, r3.2.2.1.1, (fun i => Riiiiiiii.enc (r3.2.2.1.2 i)), none⟩ (frzC 6 ⟨true, 43, 11, (r3.2.1.1.1 + 1), (fun i => frzC 9 ⟨true, 26, 2, r3.2.2.2.2.1, (fun i => Rii.enc (r3.2.2.2.2.2 i)), none⟩ (renL (shF 6 4) (if i = r3.2.1.1.1 then Riiiiiiiiii.enc r3.2.1.2 ++ slcs 3 1 else RiiiiiiiiiiL2.enc (r3.2.1.1.2 i)))), none⟩ (frzC 9 ⟨true, 26, 2, r3.2.2.2.2.1, (fun i => Rii.enc (r3.2.2.2.2.2 i)), none⟩ (renL (shF 14 4) (if i = r4.2.1.1.1 then Riiiiiiiiii.enc r4.2.1.2 ++ slcs 3 1 else RiiiiiiiiiiL2.enc (r4.2.1.1.2 i))))))) (Int.toNat (IntKind.i64.wrap ((((r4.2.1.1.1 + 1) : Nat) : Int) - 1))))[10]? = some (.slc 17 0 none none)) (Classical.propDecidable _)) then
    bif (decide (0 < ((r4.2.2.2.2.1 : Nat) : Int))) then
    bif (decide (0 < ((r4.2.2.2.2.1 : Nat) : Int))) then
    (world.Same.f ((r2.1, r2.2.1, r2.2.2.1, r2.2.2.2.1, r2.2.2.2.2.1, (r2.2.2.2.2.2.1.1, (fun i => RiiiiiiiiiiL2.enc (r2.2.2.2.2.2.1.2 i))), (r2.2.2.2.2.2.2.1.1, (fun i => Riiiiiiii.enc (r2.2.2.2.2.2.2.1.2 i))), (r2.2.2.2.2.2.2.2.1, (fun i => Riiiii.enc (r2.2.2.2.2.2.2.2.2 i)))), (r4.1.1, r4.1.2.1, r4.1.2.2.1, r4.1.2.2.2.1, r4.1.2.2.2.2, ((r4.2.1.1.1 + 1), (fun i => cloL (frzC 17 ⟨true, 26, 2, r4.2.2.2.2.1, (fun i => if i = 0 then Rii.enc ((IntKind.i64.wrap ((r4.2.2.2.2.2 0).1 + 1)), (r4.2.2.2.2.2 0).2) else Rii.enc (r4.2.2.2.2.2 i)), none⟩ (frzC 8 ⟨true, 69, 5, r3.2.2.2.1.1, (fun i => Riiiii.enc (r3.2.2.2.1.2 i)), none⟩ (frzC 7 ⟨true, 51, 8, r3.2.2.1.1, (fun i => Riiiiiiii.enc (r3.2.2.1.2 i)), none⟩ (frzC 6 ⟨true, 43, 11, (r3.2.1.1.1 + 1), (fun i => frzC 9 ⟨true, 26, 2, r3.2.2.2.2.1, (fun i => Rii.enc (r3.2.2.2.2.2 i)), none⟩ (renL (shF 6 4) (if i = r3.2.1.1.1 then Riiiiiiiiii.enc r3.2.1.2 ++ slcs 3 1 else RiiiiiiiiiiL2.enc (r3.2.1.1.2 i)))), none⟩ (frzC 9 ⟨true, 26, 2, r3.2.2.2.2.1, (fun i => Rii.enc (r3.2.2.2.2.2 i)), none⟩ (renL (shF 14 4) (if i = r4.2.1.1.1 then Riiiiiiiiii.enc r4.2.1.2 ++ slcs 3 1 else RiiiiiiiiiiL2.enc (r4.2.1.1.2 i)))))))))), (r4.2.2.1.1, (fun i => Riiiiiiii.enc (r4.2.2.1.2 i))), (r4.2.2.2.1.1, (fun i => Riiiii.enc (r4.2.2.2.1.2 i)))))).bind fun r23 =>
    bif (!r23) then
      (world.Right.f (r2.1, r2.2.1, r2.2.2.1, r2.2.2.2.1, r2.2.2.2.2.1, (r2.2.2.2.2.2.1.1, (fun i => RiiiiiiiiiiL2.enc (r2.2.2.2.2.2.1.2 i))), (r2.2.2.2.2.2.2.1.1, (fun i => Riiiiiiii.enc (r2.2.2.2.2.2.2.1.2 i))), (r2.2.2.2.2.2.2.2.1, (fun i => Riiiii.enc (r2.2.2.2.2.2.2.2.2 i))))).bind fun r24 =>
      some r24
    else
    some false
    else none
    else none
    else none
    else none
    else none
  else
  bif ((Go.bits .and .i64 p1_0 7) == 5) then
    (law09.Deed.Joint.f (p1_0, p1_1, p1_2, p1_3, p1_4, p1_5, p1_6, p1_7, p1_8, p1_9, p1_10, p1_11, p1_12, p1_13, p1_14, p1_15, p1_16, p1_17, p1_18, p1_19, p1_20, p1_21, p1_22, p1_23, p1_24, p1_25, p1_26, p1_27, p1_28, (p1_29_n, (fun i => Rii.enc (p1_29_g i))))).bind fun r25 =>
    (world.AddJoint.f ((r3.1.1, r3.1.2.1, r3.1.2.2.1, r3.1.2.2.2.1, r3.1.2.2.2.2, ((r3.2.1.1.1 + 1), (fun i => cloL (frzC 9 ⟨true, 26, 2, r3.2.2.2.2.1, (fun i => Rii.enc (r3.2.2.2.2.2 i)), none⟩ (renL (shF 6 4) (if i = r3.2.1.1.1 then Riiiiiiiiii.enc r3.2.1.2 ++ slcs 3 1 else RiiiiiiiiiiL2.enc (r3.2.1.1.2 i)))))), (r3.2.2.1.1, (fun i => Riiiiiiii.enc (r3.2.2.1.2 i))), (r3.2.2.2.1.1, (fun i => Riiiii.enc (r3.2.2.2.1.2 i)))), (r25.1, r25.2.1, r25.2.2.1, r25.2.2.2.1, r25.2.2.2.2.1, r25.2.2.2.2.2.1, r25.2.2.2.2.2.2.1, r25.2.2.2.2.2.2.2))).bind fun r26 =>
    (world.Same.f ((r2.1, r2.2.1, r2.2.2.1, r2.2.2.2.1, r2.2.2.2.2.1, (r2.2.2.2.2.2.1.1, (fun i => RiiiiiiiiiiL2.enc (r2.2.2.2.2.2.1.2 i))), (r2.2.2.2.2.2.2.1.1, (fun i => Riiiiiiii.enc (r2.2.2.2.2.2.2.1.2 i))), (r2.2.2.2.2.2.2.2.1, (fun i => Riiiii.enc (r2.2.2.2.2.2.2.2.2 i)))), (r4.1.1, r4.1.2.1, r4.1.2.2.1, r4.1.2.2.2.1, r4.1.2.2.2.2, ((r4.2.1.1.1 + 1), (fun i => cloL (frzC 17 ⟨true, 26, 2, r4.2.2.2.2.1, (fun i => Rii.enc (r4.2.2.2.2.2 i)), none⟩ (frzC 8 ⟨true, 69, 5, r3.2.2.2.1.1, (fun i => Riiiii.enc (r3.2.2.2.1.2 i)), none⟩ (frzC 7 ⟨true, 51, 8, r3.2.2.1.1, (fun i => Riiiiiiii.enc (r3.2.2.1.2 i)), none⟩ (frzC 6 ⟨true, 43, 11, (r3.2.1.1.1 + 1), (fun i => frzC 9 ⟨true, 26, 2, r3.2.2.2.2.1, (fun i => Rii.enc (r3.2.2.2.2.2 i)), none⟩ (renL (shF 6 4) (if i = r3.2.1.1.1 then Riiiiiiiiii.enc r3.2.1.2 ++ slcs 3 1 else RiiiiiiiiiiL2.enc (r3.2.1.1.2 i)))), none⟩ (frzC 9 ⟨true, 26, 2, r3.2.2.2.2.1, (fun i => Rii.enc (r3.2.2.2.2.2 i)), none⟩ (renL (shF 14 4) (if i = r4.2.1.1.1 then Riiiiiiiiii.enc r4.2.1.2 ++ slcs 3 1 else RiiiiiiiiiiL2.enc (r4.2.1.1.2 i)))))))))), (r4.2.2.1.1, (fun i => Riiiiiiii.enc (r4.2.2.1.2 i))), (r4.2.2.2.1.1, (fun i => Riiiii.enc (r4.2.2.2.1.2 i)))))).bind fun r27 =>
    bif (!r27) then
      some false
    else
    bif ((IntKind.i64.wrap (((r2.2.2.2.2.2.1.1 : Nat) : Int) + ((r2.2.2.2.2.2.2.1.1 : Nat) : Int))) != (IntKind.i64.wrap (((r2.2.2.2.2.2.1.1 : Nat) : Int) + ((r2.2.2.2.2.2.2.1.1 : Nat) : Int)))) then
      some false
    else
    bif ((Go.bits .and .i64 p2 3) == 0) then
      none
    else
    bif ((Go.bits .and .i64 p2 3) == 1) then
      none
    else
    bif ((((r4.2.1.1.1 + 1) : Nat) : Int) == 0) then
      none
    else
    bif ((Go.bits .and .i64 p2 4) == 0) then
      none
    else
    bif ((decide (0 ≤ (IntKind.i64.wrap ((((r4.2.1.1.1 + 1) : Nat) : Int) - 1)))) && (decide ((IntKind.i64.wrap ((((r4.2.1.1.1 + 1) : Nat) : Int) - 1)) < (((r4.2.1.1.1 + 1) : Nat) : Int)))) then
    bif (@decide (((fun i => frzC 8 ⟨true, 69, 5, r3.2.2.2.1.1, (fun i => Riiiii.enc (r3.2.2.2.1.2 i)), none⟩ (frzC 7 ⟨true, 51, 8, r3.2.2.1.1, (fun i => Riiiiiiii.enc (r3.2.2.1.2 i)), none⟩ (frzC 6 ⟨true, 43, 11, (r3.2.1.1.1 + 1), (fun i => frzC 9 ⟨true, 26, 2, r3.2.2.2.2.1, (fun i => Rii.enc (r3.2.2.2.2.2 i)), none⟩ (renL (shF 6 4) (if i = r3.2.1.1.1 then Riiiiiiiiii.enc r3.2.1.2 ++ slcs 3 1 else RiiiiiiiiiiL2.enc (r3.2.1.1.2 i)))), none⟩ (frzC 9 ⟨true, 26, 2, r3.2.2.2.2.1, (fun i => Rii.enc (r3.2.2.2.2.2 i)), none⟩ (renL (shF 14 4) (if i = r4.2.1.1.1 then Riiiiiiiiii.enc r4.2.1.2 ++ slcs 3 1 else RiiiiiiiiiiL2.enc (r4.2.1.1.2 i))))))) (Int.toNat (IntKind.i64.wrap ((((r4.2.1.1.1 + 1) : Nat) : Int) - 1))))[10]? = some (.slc 17 0 none none)) (Classical.propDecidable _)) then
    bif (((r4.2.2.2.2.1 : Nat) : Int) == 0) then
      none
    else
    bif (@decide (((fun i => frzC 8 ⟨true, 69, 5, r3.2.2.2.1.1, (fun i => Riiiii.enc (r3.2.2.2.1.2 i)), none⟩ (frzC 7 ⟨true, 51, 8, r3.2.2.1.1, (fun i => Riiiiiiii.enc (r3.2.2.1.2 i)), none⟩ (frzC 6 ⟨true, 43, 11, (r3.2.1.1.1 + 1), (fun i => frzC 9 ⟨true, 26, 2, r3.2.2.2.2.1, (fun i => Rii.enc (r3.2.2.2.2.2 i)), none⟩ (renL (shF 6 4) (if i = r3.2.1.1.1 then Riiiiiiiiii.enc r3.2.1.2 ++ slcs 3 1 else RiiiiiiiiiiL2.enc (r3.2.1.1.2 i)))), none⟩ (frzC 9 ⟨true, 26, 2, r3.2.2.2.2.1, (fun i => Rii.enc (r3.2.2.2.2.2 i)), none⟩ (renL (shF 14 4) (if i = r4.2.1.1.1 then Riiiiiiiiii.enc r4.2.1.2 ++ slcs 3 1 else RiiiiiiiiiiL2.enc (r4.2.1.1.2 i))))))) (Int.toNat (IntKind.i64.wrap ((((r4.2.1.1.1 + 1) : Nat) : Int) - 1))))[10]? = some (.slc 17 0 none none)) (Classical.propDecidable _)) then
    bif (decide (0 < ((r4.2.2.2.2.1 : Nat) : Int))) then
    bif (decide (0 < ((r4.2.2.2.2.1 : Nat) : Int))) then
    (world.Same.f ((r2.1, r2.2.1, r2.2.2.1, r2.2.2.2.1, r2.2.2.2.2.1, (r2.2.2.2.2.2.1.1, (fun i => RiiiiiiiiiiL2.enc (r2.2.2.2.2.2.1.2 i))), (r2.2.2.2.2.2.2.1.1, (fun i => Riiiiiiii.enc (r2.2.2.2.2.2.2.1.2 i))), (r2.2.2.2.2.2.2.2.1, (fun i => Riiiii.enc (r2.2.2.2.2.2.2.2.2 i)))), (r4.1.1, r4.1.2.1, r4.1.2.2.1, r4.1.2.2.2.1, r4.1.2.2.2.2, ((r4.2.1.1.1 + 1), (fun i => cloL (frzC 17 ⟨true, 26, 2, r4.2.2.2.2.1, (fun i => if i = 0 then Rii.enc ((IntKind.i64.wrap ((r4.2.2.2.2.2 0).1 + 1)), (r4.2.2.2.2.2 0).2) else Rii.enc (r4.2.2.2.2.2 i)), none⟩ (frzC 8 ⟨true, 69, 5, r3.2.2.2.1.1, (fun i => Riiiii.enc (r3.2.2.2.1.2 i)), none⟩ (frzC 7 ⟨true, 51, 8, r3.2.2.1.1, (fun i => Riiiiiiii.enc (r3.2.2.1.2 i)), none⟩ (frzC 6 ⟨true, 43, 11, (r3.2.1.1.1 + 1), (fun i => frzC 9 ⟨true, 26, 2, r3.2.2.2.2.1, (fun i => Rii.enc (r3.2.2.2.2.2 i)), none⟩ (renL (shF 6 4) (if i = r3.2.1.1.1 then Riiiiiiiiii.enc r3.2.1.2 ++ slcs 3 1 else RiiiiiiiiiiL2.enc (r3.2.1.1.2 i)))), none⟩ (frzC 9 ⟨true, 26, 2, r3.2.2.2.2.1, (fun i => Rii.enc (r3.2.2.2.2.2 i)), none⟩ (renL (shF 14 4) (if i = r4.2.1.1.1 then Riiiiiiiiii.enc r4.2.1.2 ++ slcs 3 1 else RiiiiiiiiiiL2.enc (r4.2.1.1.2 i)))))))))), (r4.2.2.1.1, (fun i => Riiiiiiii.enc (r4.2.2.1.2 i))), (r4.2.2.2.1.1, (fun i => Riiiii.enc (r4.2.2.2.1.2 i)))))).bind fun r28 =>
    bif (!r28) then
      (world.Right.f (r2.1, r2.2.1, r2.2.2.1, r2.2.2.2.1, r2.2.2.2.2.1, (r2.2.2.2.2.2.1.1, (fun i => RiiiiiiiiiiL2.enc (r2.2.2.2.2.2.1.2 i))), (r2.2.2.2.2.2.2.1.1, (fun i => Riiiiiiii.enc (r2.2.2.2.2.2.2.1.2 i))), (r2.2.2.2.2.2.2.2.1, (fun i => Riiiii.enc (r2.2.2.2.2.2.2.2.2 i))))).bind fun r29 =>
      some r29
    else
    some false
    else none
    else none
    else none
    else none
    else none
  else
  bif ((Go.bits .and .i64 p1_0 7) == 6) then
    (world.RemoveBody.f ((r3.1.1, r3.1.2.1, r3.1.2.2.1, r3.1.2.2.2.1, r3.1.2.2.2.2, ((r3.2.1.1.1 + 1), (fun i => cloL (frzC 9 ⟨true, 26, 2, r3.2.2.2.2.1, (fun i => Rii.enc (r3.2.2.2.2.2 i)), none⟩ (renL (shF 6 4) (if i = r3.2.1.1.1 then Riiiiiiiiii.enc r3.2.1.2 ++ slcs 3 1 else RiiiiiiiiiiL2.enc (r3.2.1.1.2 i)))))), (r3.2.2.1.1, (fun i => Riiiiiiii.enc (r3.2.2.1.2 i))), (r3.2.2.2.1.1, (fun i => Riiiii.enc (r3.2.2.2.1.2 i)))), (Go.bits .and .i64 p1_12 15))).bind fun r30 =>
    (world.Same.f ((r2.1, r2.2.1, r2.2.2.1, r2.2.2.2.1, r2.2.2.2.2.1, (r2.2.2.2.2.2.1.1, (fun i => RiiiiiiiiiiL2.enc (r2.2.2.2.2.2.1.2 i))), (r2.2.2.2.2.2.2.1.1, (fun i => Riiiiiiii.enc (r2.2.2.2.2.2.2.1.2 i))), (r2.2.2.2.2.2.2.2.1, (fun i => Riiiii.enc (r2.2.2.2.2.2.2.2.2 i)))), (r4.1.1, r4.1.2.1, r4.1.2.2.1, r4.1.2.2.2.1, r4.1.2.2.2.2, ((r4.2.1.1.1 + 1), (fun i => cloL (frzC 17 ⟨true, 26, 2, r4.2.2.2.2.1, (fun i => Rii.enc (r4.2.2.2.2.2 i)), none⟩ (frzC 8 ⟨true, 69, 5, r3.2.2.2.1.1, (fun i => Riiiii.enc (r3.2.2.2.1.2 i)), none⟩ (frzC 7 ⟨true, 51, 8, r3.2.2.1.1, (fun i => Riiiiiiii.enc (r3.2.2.1.2 i)), none⟩ (frzC 6 ⟨true, 43, 11, (r3.2.1.1.1 + 1), (fun i => frzC 9 ⟨true, 26, 2, r3.2.2.2.2.1, (fun i => Rii.enc (r3.2.2.2.2.2 i)), none⟩ (renL (shF 6 4) (if i = r3.2.1.1.1 then Riiiiiiiiii.enc r3.2.1.2 ++ slcs 3 1 else RiiiiiiiiiiL2.enc (r3.2.1.1.2 i)))), none⟩ (frzC 9 ⟨true, 26, 2, r3.2.2.2.2.1, (fun i => Rii.enc (r3.2.2.2.2.2 i)), none⟩ (renL (shF 14 4) (if i = r4.2.1.1.1 then Riiiiiiiiii.enc r4.2.1.2 ++ slcs 3 1 else RiiiiiiiiiiL2.enc (r4.2.1.1.2 i)))))))))), (r4.2.2.1.1, (fun i => Riiiiiiii.enc (r4.2.2.1.2 i))), (r4.2.2.2.1.1, (fun i => Riiiii.enc (r4.2.2.2.1.2 i)))))).bind fun r31 =>
    bif (!r31) then
      some false
    else
    bif ((IntKind.i64.wrap (((r2.2.2.2.2.2.1.1 : Nat) : Int) + ((r2.2.2.2.2.2.2.1.1 : Nat) : Int))) != (IntKind.i64.wrap (((r2.2.2.2.2.2.1.1 : Nat) : Int) + ((r2.2.2.2.2.2.2.1.1 : Nat) : Int)))) then
      some false
    else
    bif ((Go.bits .and .i64 p2 3) == 0) then
      none
    else
    bif ((Go.bits .and .i64 p2 3) == 1) then
      none
    else
    bif ((((r4.2.1.1.1 + 1) : Nat) : Int) == 0) then
      none
    else
    bif ((Go.bits .and .i64 p2 4) == 0) then
      none
    else
    bif ((decide (0 ≤ (IntKind.i64.wrap ((((r4.2.1.1.1 + 1) : Nat) : Int) - 1)))) && (decide ((IntKind.i64.wrap ((((r4.2.1.1.1 + 1) : Nat) : Int) - 1)) < (((r4.2.1.1.1 + 1) : Nat) : Int)))) then
    bif (@decide (((fun i => frzC 8 ⟨true, 69, 5, r3.2.2.2.1.1, (fun i => Riiiii.enc (r3.2.2.2.1.2 i)), none⟩ (frzC 7 ⟨true, 51, 8, r3.2.2.1.1, (fun i => Riiiiiiii.enc (r3.2.2.1.2 i)), none⟩ (frzC 6 ⟨true, 43, 11, (r3.2.1.1.1 + 1), (fun i => frzC 9 ⟨true, 26, 2, r3.2.2.2.2.1, (fun i => Rii.enc (r3.2.2.2.2.2 i)), none⟩ (renL (shF 6 4) (if i = r3.2.1.1.1 then Riiiiiiiiii.enc r3.2.1.2 ++ slcs 3 1 else RiiiiiiiiiiL2.enc (r3.2.1.1.2 i)))), none⟩ (frzC 9 ⟨true, 26, 2, r3.2.2.2.2.1, (fun i => Rii.enc (r3.2.2.2.2.2 i)), none⟩ (renL (shF 14 4) (if i = r4.2.1.1.1 then Riiiiiiiiii.enc r4.2.1.2 ++ slcs 3 1 else RiiiiiiiiiiL2.enc (r4.2.1.1.2 i))))))) (Int.toNat (IntKind.i64.wrap ((((r4.2.1.1.1 + 1) : Nat) : Int) - 1))))[10]? = some (.slc 17 0 none none)) (Classical.propDecidable _)) then
    bif (((r4.2.2.2.2.1 : Nat) : Int) == 0) then
      none
    else
    bif (@decide (((fun i => frzC 8 ⟨true, 69, 5, r3.2.2.2.1.1, (fun i => Riiiii.enc (r3.2.2.2.1.2 i)), none⟩ (frzC 7 ⟨true, 51, 8, r3.2.2.1.1, (fun i => Riiiiiiii.enc (r3.2.2.1.2 i)), none⟩ (frzC 6 ⟨true, 43, 11, (r3.2.1.1.1 + 1), (fun i => frzC 9 ⟨true, 26, 2, r3.2.2.2.2.1, (fun i => Rii.enc (r3.2.2.2.2.2 i)), none⟩ (renL (shF 6 4) (if i = r3.2.1.1.1 then Riiiiiiiiii.enc r3.2.1.2 ++ slcs 3 1 else RiiiiiiiiiiL2.enc (r3.2.1.1.2 i)))), none⟩ (frzC 9 ⟨true, 26, 2, r3.2.2.2.2.1, (fun i => Rii.enc (r3.2.2.2.2.2 i)), none⟩ (renL (shF 14 4) (if i = r4.2.1.1.1 then Riiiiiiiiii.enc r4.2.1.2 ++ slcs 3 1 else RiiiiiiiiiiL2.enc (r4.2.1.1.2 i))))))) (Int.toNat (IntKind.i64.wrap ((((r4.2.1.1.1 + 1) : Nat) : Int) - 1))))[10]? = some (.slc 17 0 none none)) (Classical.propDecidable _)) then
    bif (decide (0 < ((r4.2.2.2.2.1 : Nat) : Int))) then
    bif (decide (0 < ((r4.2.2.2.2.1 : Nat) : Int))) then
    (world.Same.f ((r2.1, r2.2.1, r2.2.2.1, r2.2.2.2.1, r2.2.2.2.2.1, (r2.2.2.2.2.2.1.1, (fun i => RiiiiiiiiiiL2.enc (r2.2.2.2.2.2.1.2 i))), (r2.2.2.2.2.2.2.1.1, (fun i => Riiiiiiii.enc (r2.2.2.2.2.2.2.1.2 i))), (r2.2.2.2.2.2.2.2.1, (fun i => Riiiii.enc (r2.2.2.2.2.2.2.2.2 i)))), (r4.1.1, r4.1.2.1, r4.1.2.2.1, r4.1.2.2.2.1, r4.1.2.2.2.2, ((r4.2.1.1.1 + 1), (fun i => cloL (frzC 17 ⟨true, 26, 2, r4.2.2.2.2.1, (fun i => if i = 0 then Rii.enc ((IntKind.i64.wrap ((r4.2.2.2.2.2 0).1 + 1)), (r4.2.2.2.2.2 0).2) else Rii.enc (r4.2.2.2.2.2 i)), none⟩ (frzC 8 ⟨true, 69, 5, r3.2.2.2.1.1, (fun i => Riiiii.enc (r3.2.2.2.1.2 i)), none⟩ (frzC 7 ⟨true, 51, 8, r3.2.2.1.1, (fun i => Riiiiiiii.enc (r3.2.2.1.2 i)), none⟩ (frzC 6 ⟨true, 43, 11, (r3.2.1.1.1 + 1), (fun i => frzC 9 ⟨true, 26, 2, r3.2.2.2.2.1, (fun i => Rii.enc (r3.2.2.2.2.2 i)), none⟩ (renL (shF 6 4) (if i = r3.2.1.1.1 then Riiiiiiiiii.enc r3.2.1.2 ++ slcs 3 1 else RiiiiiiiiiiL2.enc (r3.2.1.1.2 i)))), none⟩ (frzC 9 ⟨true, 26, 2, r3.2.2.2.2.1, (fun i => Rii.enc (r3.2.2.2.2.2 i)), none⟩ (renL (shF 14 4) (if i = r4.2.1.1.1 then Riiiiiiiiii.enc r4.2.1.2 ++ slcs 3 1 else RiiiiiiiiiiL2.enc (r4.2.1.1.2 i)))))))))), (r4.2.2.1.1, (fun i => Riiiiiiii.enc (r4.2.2.1.2 i))), (r4.2.2.2.1.1, (fun i => Riiiii.enc (r4.2.2.2.1.2 i)))))).bind fun r32 =>
    bif (!r32) then
      (world.Right.f (r2.1, r2.2.1, r2.2.2.1, r2.2.2.2.1, r2.2.2.2.2.1, (r2.2.2.2.2.2.1.1, (fun i => RiiiiiiiiiiL2.enc (r2.2.2.2.2.2.1.2 i))), (r2.2.2.2.2.2.2.1.1, (fun i => Riiiiiiii.enc (r2.2.2.2.2.2.2.1.2 i))), (r2.2.2.2.2.2.2.2.1, (fun i => Riiiii.enc (r2.2.2.2.2.2.2.2.2 i))))).bind fun r33 =>
      some r33
    else
    some false
    else none
    else none
    else none
    else none
    else none
  else
  bif ((Go.bits .and .i64 p1_0 7) == 3) then
    (world.RemoveJoint.f ((r3.1.1, r3.1.2.1, r3.1.2.2.1, r3.1.2.2.2.1, r3.1.2.2.2.2, ((r3.2.1.1.1 + 1), (fun i => cloL (frzC 9 ⟨true, 26, 2, r3.2.2.2.2.1, (fun i => Rii.enc (r3.2.2.2.2.2 i)), none⟩ (renL (shF 6 4) (if i = r3.2.1.1.1 then Riiiiiiiiii.enc r3.2.1.2 ++ slcs 3 1 else RiiiiiiiiiiL2.enc (r3.2.1.1.2 i)))))), (r3.2.2.1.1, (fun i => Riiiiiiii.enc (r3.2.2.1.2 i))), (r3.2.2.2.1.1, (fun i => Riiiii.enc (r3.2.2.2.1.2 i)))), (Go.bits .and .i64 p1_12 15))).bind fun r34 =>
    (world.Same.f ((r2.1, r2.2.1, r2.2.2.1, r2.2.2.2.1, r2.2.2.2.2.1, (r2.2.2.2.2.2.1.1, (fun i => RiiiiiiiiiiL2.enc (r2.2.2.2.2.2.1.2 i))), (r2.2.2.2.2.2.2.1.1, (fun i => Riiiiiiii.enc (r2.2.2.2.2.2.2.1.2 i))), (r2.2.2.2.2.2.2.2.1, (fun i => Riiiii.enc (r2.2.2.2.2.2.2.2.2 i)))), (r4.1.1, r4.1.2.1, r4.1.2.2.1, r4.1.2.2.2.1, r4.1.2.2.2.2, ((r4.2.1.1.1 + 1), (fun i => cloL (frzC 17 ⟨true, 26, 2, r4.2.2.2.2.1, (fun i => Rii.enc (r4.2.2.2.2.2 i)), none⟩ (frzC 8 ⟨true, 69, 5, r3.2.2.2.1.1, (fun i => Riiiii.enc (r3.2.2.2.1.2 i)), none⟩ (frzC 7 ⟨true, 51, 8, r3.2.2.1.1, (fun i => Riiiiiiii.enc (r3.2.2.1.2 i)), none⟩ (frzC 6 ⟨true, 43, 11, (r3.2.1.1.1 + 1), (fun i => frzC 9 ⟨true, 26, 2, r3.2.2.2.2.1, (fun i => Rii.enc (r3.2.2.2.2.2 i)), none⟩ (renL (shF 6 4) (if i = r3.2.1.1.1 then Riiiiiiiiii.enc r3.2.1.2 ++ slcs 3 1 else RiiiiiiiiiiL2.enc (r3.2.1.1.2 i)))), none⟩ (frzC 9 ⟨true, 26, 2, r3.2.2.2.2.1, (fun i => Rii.enc (r3.2.2.2.2.2 i)), none⟩ (renL (shF 14 4) (if i = r4.2.1.1.1 then Riiiiiiiiii.enc r4.2.1.2 ++ slcs 3 1 else RiiiiiiiiiiL2.enc (r4.2.1.1.2 i)))))))))), (r4.2.2.1.1, (fun i => Riiiiiiii.enc (r4.2.2.1.2 i))), (r4.2.2.2.1.1, (fun i => Riiiii.enc (r4.2.2.2.1.2 i)))))).bind fun r35 =>
    bif (!r35) then
      some false
    else
    bif ((IntKind.i64.wrap (((r2.2.2.2.2.2.1.1 : Nat) : Int) + ((r2.2.2.2.2.2.2.1.1 : Nat) : Int))) != (IntKind.i64.wrap (((r2.2.2.2.2.2.1.1 : Nat) : Int) + ((r2.2.2.2.2.2.2.1.1 : Nat) : Int)))) then
      some false
    else
    bif ((Go.bits .and .i64 p2 3) == 0) then
      none
    else
    bif ((Go.bits .and .i64 p2 3) == 1) then
      none
    else
    bif ((((r4.2.1.1.1 + 1) : Nat) : Int) == 0) then
      none
    else
    bif ((Go.bits .and .i64 p2 4) == 0) then
      none
    else
    bif ((decide (0 ≤ (IntKind.i64.wrap ((((r4.2.1.1.1 + 1) : Nat) : Int) - 1)))) && (decide ((IntKind.i64.wrap ((((r4.2.1.1.1 + 1) : Nat) : Int) - 1)) < (((r4.2.1.1.1 + 1) : Nat) : Int)))) then
    bif (@decide (((fun i => frzC 8 ⟨true, 69, 5, r3.2.2.2.1.1, (fun i => Riiiii.enc (r3.2.2.2.1.2 i)), none⟩ (frzC 7 ⟨true, 51, 8, r3.2.2.1.1, (fun i => Riiiiiiii.enc (r3.2.2.1.2 i)), none⟩ (frzC 6 ⟨true, 43, 11, (r3.2.1.1.1 + 1), (fun i => frzC 9 ⟨true, 26, 2, r3.2.2.2.2.1, (fun i => Rii.enc (r3.2.2.2.2.2 i)), none⟩ (renL (shF 6 4) (if i = r3.2.1.1.1 then Riiiiiiiiii.enc r3.2.1.2 ++ slcs 3 1 else RiiiiiiiiiiL2.enc (r3.2.1.1.2 i)))), none⟩ (frzC 9 ⟨true, 26, 2, r3.2.2.2.2.1, (fun i => Rii.enc (r3.2.2.2.2.2 i)), none⟩ (renL (shF 14 4) (if i = r4.2.1.1.1 then Riiiiiiiiii.enc r4.2.1.2 ++ slcs 3 1 else RiiiiiiiiiiL2.enc (r4.2.1.1.2 i))))))) (Int.toNat (IntKind.i64.wrap ((((r4.2.1.1.1 + 1) : Nat) : Int) - 1))))[10]? = some (.slc 17 0 none none)) (Classical.propDecidable _)) then
    bif (((r4.2.2.2.2.1 : Nat) : Int) == 0) then
      none
    else
    bif (@decide (((fun i => frzC 8 ⟨true, 69, 5, r3.2.2.2.1.1, (fun i => Riiiii.enc (r3.2.2.2.1.2 i)), none⟩ (frzC 7 ⟨true, 51, 8, r3.2.2.1.1, (fun i => Riiiiiiii.enc (r3.2.2.1.2 i)), none⟩ (frzC 6 ⟨true, 43, 11, (r3.2.1.1.1 + 1), (fun i => frzC 9 ⟨true, 26, 2, r3.2.2.2.2.1, (fun i => Rii.enc (r3.2.2.2.2.2 i)), none⟩ (renL (shF 6 4) (if i = r3.2.1.1.1 then Riiiiiiiiii.enc r3.2.1.2 ++ slcs 3 1 else RiiiiiiiiiiL2.enc (r3.2.1.1.2 i)))), none⟩ (frzC 9 ⟨true, 26, 2, r3.2.2.2.2.1, (fun i => Rii.enc (r3.2.2.2.2.2 i)), none⟩ (renL (shF 14 4) (if i = r4.2.1.1.1 then Riiiiiiiiii.enc r4.2.1.2 ++ slcs 3 1 else RiiiiiiiiiiL2.enc (r4.2.1.1.2 i))))))) (Int.toNat (IntKind.i64.wrap ((((r4.2.1.1.1 + 1) : Nat) : Int) - 1))))[10]? = some (.slc 17 0 none none)) (Classical.propDecidable _)) then
    bif (decide (0 < ((r4.2.2.2.2.1 : Nat) : Int))) then
    bif (decide (0 < ((r4.2.2.2.2.1 : Nat) : Int))) then
    (world.Same.f ((r2.1, r2.2.1, r2.2.2.1, r2.2.2.2.1, r2.2.2.2.2.1, (r2.2.2.2.2.2.1.1, (fun i => RiiiiiiiiiiL2.enc (r2.2.2.2.2.2.1.2 i))), (r2.2.2.2.2.2.2.1.1, (fun i => Riiiiiiii.enc (r2.2.2.2.2.2.2.1.2 i))), (r2.2.2.2.2.2.2.2.1, (fun i => Riiiii.enc (r2.2.2.2.2.2.2.2.2 i)))), (r4.1.1, r4.1.2.1, r4.1.2.2.1, r4.1.2.2.2.1, r4.1.2.2.2.2, ((r4.2.1.1.1 + 1), (fun i => cloL (frzC 17 ⟨true, 26, 2, r4.2.2.2.2.1, (fun i => if i = 0 then Rii.enc ((IntKind.i64.wrap ((r4.2.2.2.2.2 0).1 + 1)), (r4.2.2.2.2.2 0).2) else Rii.enc (r4.2.2.2.2.2 i)), none⟩ (frzC 8 ⟨true, 69, 5, r3.2.2.2.1.1, (fun i => Riiiii.enc (r3.2.2.2.1.2 i)), none⟩ (frzC 7 ⟨true, 51, 8, r3.2.2.1.1, (fun i => Riiiiiiii.enc (r3.2.2.1.2 i)), none⟩ (frzC 6 ⟨true, 43, 11, (r3.2.1.1.1 + 1), (fun i => frzC 9 ⟨true, 26, 2, r3.2.2.2.2.1, (fun i => Rii.enc (r3.2.2.2.2.2 i)), none⟩ (renL (shF 6 4) (if i = r3.2.1.1.1 then Riiiiiiiiii.enc r3.2.1.2 ++ slcs 3 1 else RiiiiiiiiiiL2.enc (r3.2.1.1.2 i)))), none⟩ (frzC 9 ⟨true, 26, 2, r3.2.2.2.2.1, (fun i => Rii.enc (r3.2.2.2.2.2 i)), none⟩ (renL (shF 14 4) (if i = r4.2.1.1.1 then Riiiiiiiiii.enc r4.2.1.2 ++ slcs 3 1 else RiiiiiiiiiiL2.enc (r4.2.1.1.2 i)))))))))), (r4.2.2.1.1, (fun i => Riiiiiiii.enc (r4.2.2.1.2 i))), (r4.2.2.2.1.1, (fun i => Riiiii.enc (r4.2.2.2.1.2 i)))))).bind fun r36 =>
    bif (!r36) then
      (world.Right.f (r2.1, r2.2.1, r2.2.2.1, r2.2.2.2.1, r2.2.2.2.2.1, (r2.2.2.2.2.2.1.1, (fun i => RiiiiiiiiiiL2.enc (r2.2.2.2.2.2.1.2 i))), (r2.2.2.2.2.2.2.1.1, (fun i => Riiiiiiii.enc (r2.2.2.2.2.2.2.1.2 i))), (r2.2.2.2.2.2.2.2.1, (fun i => Riiiii.enc (r2.2.2.2.2.2.2.2.2 i))))).bind fun r37 =>
      some r37
    else
    some false
    else none
    else none
    else none
    else none
    else none
  else
  (law09.Deed.Body.f (p1_0, p1_1, p1_2, p1_3, p1_4, p1_5, p1_6, p1_7, p1_8, p1_9, p1_10, p1_11, p1_12, p1_13, p1_14, p1_15, p1_16, p1_17, p1_18, p1_19, p1_20, p1_21, p1_22, p1_23, p1_24, p1_25, p1_26, p1_27, p1_28, (p1_29_n, (fun i => Rii.enc (p1_29_g i))))).bind fun r38 =>
  (world.AddBody.f ((r3.1.1, r3.1.2.1, r3.1.2.2.1, r3.1.2.2.2.1, r3.1.2.2.2.2, ((r3.2.1.1.1 + 1), (fun i => cloL (frzC 9 ⟨true, 26, 2, r3.2.2.2.2.1, (fun i => Rii.enc (r3.2.2.2.2.2 i)), none⟩ (renL (shF 6 4) (if i = r3.2.1.1.1 then Riiiiiiiiii.enc r3.2.1.2 ++ slcs 3 1 else RiiiiiiiiiiL2.enc (r3.2.1.1.2 i)))))), (r3.2.2.1.1, (fun i => Riiiiiiii.enc (r3.2.2.1.2 i))), (r3.2.2.2.1.1, (fun i => Riiiii.enc (r3.2.2.2.1.2 i)))), (r38.1, r38.2.1, r38.2.2.1, r38.2.2.2.1, r38.2.2.2.2.1, r38.2.2.2.2.2.1, r38.2.2.2.2.2.2.1, r38.2.2.2.2.2.2.2.1, r38.2.2.2.2.2.2.2.2.1, r38.2.2.2.2.2.2.2.2.2.1, (r38.2.2.2.2.2.2.2.2.2.2.1, (fun i => Rii.enc (r38.2.2.2.2.2.2.2.2.2.2.2 i)))))).bind fun r39 =>
  (world.Same.f ((r2.1, r2.2.1, r2.2.2.1, r2.2.2.2.1, r2.2.2.2.2.1, (r2.2.2.2.2.2.1.1, (fun i => RiiiiiiiiiiL2.enc (r2.2.2.2.2.2.1.2 i))), (r2.2.2.2.2.2.2.1.1, (fun i => Riiiiiiii.enc (r2.2.2.2.2.2.2.1.2 i))), (r2.2.2.2.2.2.2.2.1, (fun i => Riiiii.enc (r2.2.2.2.2.2.2.2.2 i)))), (r4.1.1, r4.1.2.1, r4.1.2.2.1, r4.1.2.2.2.1, r4.1.2.2.2.2, ((r4.2.1.1.1 + 1), (fun i => cloL (frzC 17 ⟨true, 26, 2, r4.2.2.2.2.1, (fun i => Rii.enc (r4.2.2.2.2.2 i)), none⟩ (frzC 8 ⟨true, 69, 5, r3.2.2.2.1.1, (fun i => Riiiii.enc (r3.2.2.2.1.2 i)), none⟩ (frzC 7 ⟨true, 51, 8, r3.2.2.1.1, (fun i => Riiiiiiii.enc (r3.2.2.1.2 i)), none⟩ (frzC 6 ⟨true, 43, 11, (r3.2.1.1.1 + 1), (fun i => frzC 9 ⟨true, 26, 2, r3.2.2.2.2.1, (fun i => Rii.enc (r3.2.2.2.2.2 i)), none⟩ (renL (shF 6 4) (if i = r3.2.1.1.1 then Riiiiiiiiii.enc r3.2.1.2 ++ slcs 3 1 else RiiiiiiiiiiL2.enc (r3.2.1.1.2 i)))), none⟩ (frzC 9 ⟨true, 26, 2, r3.2.2.2.2.1, (fun i => Rii.enc (r3.2.2.2.2.2 i)), none⟩ (renL (shF 14 4) (if i = r4.2.1.1.1 then Riiiiiiiiii.enc r4.2.1.2 ++ slcs 3 1 else RiiiiiiiiiiL2.enc (r4.2.1.1.2 i)))))))))), (r4.2.2.1.1, (fun i => Riiiiiiii.enc (r4.2.2.1.2 i))), (r4.2.2.2.1.1, (fun i => Riiiii.enc (r4.2.2.2.1.2 i)))))).bind fun r40 =>
  bif (!r40) then
    some false
  else
  bif ((IntKind.i64.wrap (((r2.2.2.2.2.2.1.1 : Nat) : Int) + ((r2.2.2.2.2.2.2.1.1 : Nat) : Int))) != (IntKind.i64.wrap (((r2.2.2.2.2.2.1.1 : Nat) : Int) + ((r2.2.2.2.2.2.2.1.1 : Nat) : Int)))) then
    some false
  else
  bif ((Go.bits .and .i64 p2 3) == 0) then
    none
  else
  bif ((Go.bits .and .i64 p2 3) == 1) then
    none
  else
  bif ((((r4.2.1.1.1 + 1) : Nat) : Int) == 0) then
    none
  else
  bif ((Go.bits .and .i64 p2 4) == 0) then
    none
  else
  bif ((decide (0 ≤ (IntKind.i64.wrap ((((r4.2.1.1.1 + 1) : Nat) : Int) - 1)))) && (decide ((IntKind.i64.wrap ((((r4.2.1.1.1 + 1) : Nat) : Int) - 1)) < (((r4.2.1.1.1 + 1) : Nat) : Int)))) then
  bif (@decide (((fun i => frzC 8 ⟨true, 69, 5, r3.2.2.2.1.1, (fun i => Riiiii.enc (r3.2.2.2.1.2 i)), none⟩ (frzC 7 ⟨true, 51, 8, r3.2.2.1.1, (fun i => Riiiiiiii.enc (r3.2.2.1.2 i)), none⟩ (frzC 6 ⟨true, 43, 11, (r3.2.1.1.1 + 1), (fun i => frzC 9 ⟨true, 26, 2, r3.2.2.2.2.1, (fun i => Rii.enc (r3.2.2.2.2.2 i)), none⟩ (renL (shF 6 4) (if i = r3.2.1.1.1 then Riiiiiiiiii.enc r3.2.1.2 ++ slcs 3 1 else RiiiiiiiiiiL2.enc (r3.2.1.1.2 i)))), none⟩ (frzC 9 ⟨true, 26, 2, r3.2.2.2.2.1, (fun i => Rii.enc (r3.2.2.2.2.2 i)), none⟩ (renL (shF 14 4) (if i = r4.2.1.1.1 then Riiiiiiiiii.enc r4.2.1.2 ++ slcs 3 1 else RiiiiiiiiiiL2.enc (r4.2.1.1.2 i))))))) (Int.toNat (IntKind.i64.wrap ((((r4.2.1.1.1 + 1) : Nat) : Int) - 1))))[10]? = some (.slc 17 0 none none)) (Classical.propDecidable _)) then
  bif (((r4.2.2.2.2.1 : Nat) : Int) == 0) then
    none
  else
  bif (@decide (((fun i => frzC 8 ⟨true, 69, 5, r3.2.2.2.1.1, (fun i => Riiiii.enc (r3.2.2.2.1.2 i)), none⟩ (frzC 7 ⟨true, 51, 8, r3.2.2.1.1, (fun i => Riiiiiiii.enc (r3.2.2.1.2 i)), none⟩ (frzC 6 ⟨true, 43, 11, (r3.2.1.1.1 + 1), (fun i => frzC 9 ⟨true, 26, 2, r3.2.2.2.2.1, (fun i => Rii.enc (r3.2.2.2.2.2 i)), none⟩ (renL (shF 6 4) (if i = r3.2.1.1.1 then Riiiiiiiiii.enc r3.2.1.2 ++ slcs 3 1 else RiiiiiiiiiiL2.enc (r3.2.1.1.2 i)))), none⟩ (frzC 9 ⟨true, 26, 2, r3.2.2.2.2.1, (fun i => Rii.enc (r3.2.2.2.2.2 i)), none⟩ (renL (shF 14 4) (if i = r4.2.1.1.1 then Riiiiiiiiii.enc r4.2.1.2 ++ slcs 3 1 else RiiiiiiiiiiL2.enc (r4.2.1.1.2 i))))))) (Int.toNat (IntKind.i64.wrap ((((r4.2.1.1.1 + 1) : Nat) : Int) - 1))))[10]? = some (.slc 17 0 none none)) (Classical.propDecidable _)) then
  bif (decide (0 < ((r4.2.2.2.2.1 : Nat) : Int))) then
  bif (decide (0 < ((r4.2.2.2.2.1 : Nat) : Int))) then
  (world.Same.f ((r2.1, r2.2.1, r2.2.2.1, r2.2.2.2.1, r2.2.2.2.2.1, (r2.2.2.2.2.2.1.1, (fun i => RiiiiiiiiiiL2.enc (r2.2.2.2.2.2.1.2 i))), (r2.2.2.2.2.2.2.1.1, (fun i => Riiiiiiii.enc (r2.2.2.2.2.2.2.1.2 i))), (r2.2.2.2.2.2.2.2.1, (fun i => Riiiii.enc (r2.2.2.2.2.2.2.2.2 i)))), (r4.1.1, r4.1.2.1, r4.1.2.2.1, r4.1.2.2.2.1, r4.1.2.2.2.2, ((r4.2.1.1.1 + 1), (fun i => cloL (frzC 17 ⟨true, 26, 2, r4.2.2.2.2.1, (fun i => if i = 0 then Rii.enc ((IntKind.i64.wrap ((r4.2.2.2.2.2 0).1 + 1)), (r4.2.2.2.2.2 0).2) else Rii.enc (r4.2.2.2.2.2 i)), none⟩ (frzC 8 ⟨true, 69, 5, r3.2.2.2.1.1, (fun i => Riiiii.enc (r3.2.2.2.1.2 i)), none⟩ (frzC 7 ⟨true, 51, 8, r3.2.2.1.1, (fun i => Riiiiiiii.enc (r3.2.2.1.2 i)), none⟩ (frzC 6 ⟨true, 43, 11, (r3.2.1.1.1 + 1), (fun i => frzC 9 ⟨true, 26, 2, r3.2.2.2.2.1, (fun i => Rii.enc (r3.2.2.2.2.2 i)), none⟩ (renL (shF 6 4) (if i = r3.2.1.1.1 then Riiiiiiiiii.enc r3.2.1.2 ++ slcs 3 1 else RiiiiiiiiiiL2.enc (r3.2.1.1.2 i)))), none⟩ (frzC 9 ⟨true, 26, 2, r3.2.2.2.2.1, (fun i => Rii.enc (r3.2.2.2.2.2 i)), none⟩ (renL (shF 14 4) (if i = r4.2.1.1.1 then Riiiiiiiiii.enc r4.2.1.2 ++ slcs 3 1 else RiiiiiiiiiiL2.enc (r4.2.1.1.2 i)))))))))), (r4.2.2.1.1, (fun i => Riiiiiiii.enc (r4.2.2.1.2 i))), (r4.2.2.2.1.1, (fun i => Riiiii.enc (r4.2.2.2.1.2 i)))))).bind fun r41 =>
  bif (!r41) then
    (world.Right.f (r2.1, r2.2.1, r2.2.2.1, r2.2.2.2.1, r2.2.2.2.2.1, (r2.2.2.2.2.2.1.1, (fun i => RiiiiiiiiiiL2.enc (r2.2.2.2.2.2.1.2 i))), (r2.2.2.2.2.2.2.1.1, (fun i => Riiiiiiii.enc (r2.2.2.2.2.2.2.1.2 i))), (r2.2.2.2.2.2.2.2.1, (fun i => Riiiii.enc (r2.2.2.2.2.2.2.2.2 i))))).bind fun r42 =>
    some r42
  else
  some false
  else none
  else none
  else none
  else none
  else none := by kernel_rfl
end Go.Proofs.Ytbcnifnmccaleaa.E
