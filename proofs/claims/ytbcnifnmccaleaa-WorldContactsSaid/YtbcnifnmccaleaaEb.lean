import Derived.Test.YtbcnifnmccaleaaEa
import Derived.Test.YtbcnifnmccaleaaProg
namespace Go.Proofs.Ytbcnifnmccaleaa.E
open Go Go.Proofs Go.Proofs.Ytbcnifnmccaleaa Go.Proofs.Ytbcnifnmccaleaa.Fw Go.RowKit
set_option maxRecDepth 100000
set_option linter.unusedVariables false
/-! ### bagatelle/world.Copy -/
noncomputable def world.Copy.cs : List (Nat × Fw.Summ) := [(54, slices.Clone_lBody_Body.s), (50, shape.Copy.s), (55, slices.Clone_lJoint_Joint.s), (56, slices.Clone_lContact_Contact.s)]
theorem world.Copy.cs_ok : SumsOk Try.prog world.Copy.cs := .cons slices.Clone_lBody_Body.ok (.cons shape.Copy.ok (.cons slices.Clone_lJoint_Joint.ok (.cons slices.Clone_lContact_Contact.ok (.nil))))
def world.Copy.hs : List (Nat × LHint) := [(0, { mat := [], live := [1, 2, 10, 11], ren := [] })]
noncomputable def world.Copy.G : Ctx := ⟨Try.prog, sumAt world.Copy.cs, lookH world.Copy.hs⟩
noncomputable def world.Copy.g (k0 : Nat) (x : (Int × Int × Int × Int × Int × (Nat × (Nat → List AV)) × (Nat × (Nat → List AV)) × (Nat × (Nat → List AV)))) : Option ((Int × Int × Int × Int × Int) × ((Nat × (Nat → (Int × Int × Int × Int × Int × Int × Int × Int × Int × Int × (Nat × (Nat → List AV))))) × ((Nat × (Nat → (Int × Int × Int × Int × Int × Int × Int × Int))) × (Nat × (Nat → (Int × Int × Int × Int × Int)))))) := evM world.Copy.G k0 Try.f24 ((tOne (tG (tCons (tI .i64) (tCons (tI .i64) (tCons (tI .i64) (tCons (tI .i64) (tCons (tI .i64) (tCons (tL 11) (tCons (tL 8) (tOne (tL 5))))))))))).enc x) (fun _ => []) (WsT.mk (tCons (tI .i64) (tCons (tI .i64) (tCons (tI .i64) (tCons (tI .i64) (tOne (tI .i64)))))) (oCons (RowT.mk RiiiiiiiiiiL2 43 11 (0, 0, 0, 0, 0, 0, 0, 0, 0, 0, (0, fun _ => []))) (oCons (RowT.mk Riiiiiiii 51 8 (0, 0, 0, 0, 0, 0, 0, 0)) (oOne (RowT.mk Riiiii 69 5 (0, 0, 0, 0, 0)))))).dec
noncomputable def world.Copy.f (x : (Int × Int × Int × Int × Int × (Nat × (Nat → List AV)) × (Nat × (Nat → List AV)) × (Nat × (Nat → List AV)))) : Option ((Int × Int × Int × Int × Int) × ((Nat × (Nat → (Int × Int × Int × Int × Int × Int × Int × Int × Int × Int × (Nat × (Nat → List AV))))) × ((Nat × (Nat → (Int × Int × Int × Int × Int × Int × Int × Int))) × (Nat × (Nat → (Int × Int × Int × Int × Int)))))) := world.Copy.g (1000000) x
noncomputable def world.Copy.s : Fw.Summ := .mkM (moW (tOne (tG (tCons (tI .i64) (tCons (tI .i64) (tCons (tI .i64) (tCons (tI .i64) (tCons (tI .i64) (tCons (tL 11) (tCons (tL 8) (tOne (tL 5))))))))))) (WsT.mk (tCons (tI .i64) (tCons (tI .i64) (tCons (tI .i64) (tCons (tI .i64) (tOne (tI .i64)))))) (oCons (RowT.mk RiiiiiiiiiiL2 43 11 (0, 0, 0, 0, 0, 0, 0, 0, 0, 0, (0, fun _ => []))) (oCons (RowT.mk Riiiiiiii 51 8 (0, 0, 0, 0, 0, 0, 0, 0)) (oOne (RowT.mk Riiiii 69 5 (0, 0, 0, 0, 0)))))) world.Copy.f)
theorem world.Copy.ok : world.Copy.s.Ok Try.prog 24 :=
  msumm_ok (hint := lookH world.Copy.hs) (fn := Try.f24) (fun x => 1000000) world.Copy.cs_ok (by kernel_rfl) (by kernel_rfl) (by kernel_rfl) (by kernel_rfl) (tOne_ok (tG_ok (tCons_ok (tI_ok _) (tCons_ok (tI_ok _) (tCons_ok (tI_ok _) (tCons_ok (tI_ok _) (tCons_ok (tI_ok _) (tCons_ok (tL_ok _) (tCons_ok (tL_ok _) (tOne_ok (tL_ok _))))))))))) ⟨(tCons_ok (tI_ok _) (tCons_ok (tI_ok _) (tCons_ok (tI_ok _) (tCons_ok (tI_ok _) (tOne_ok (tI_ok _)))))), (oCons_ok RiiiiiiiiiiL2_ok (oCons_ok Riiiiiiii_ok (oOne_ok Riiiii_ok)))⟩ (fun _ => rfl)
noncomputable def world.Copy.l0 (k0 k1 : Nat) (v1 : Int) (v2 : Int) (v3 : Int) (v4 : Int) (v5 : Int) (v6 : Nat) (v7 : Nat → List AV) (v8 : Nat) (v9 : Nat → List AV) (v10 : Nat) (v11 : Nat → List AV) (v12 : Int) (v13 : Int) : Option ((Int × Int × Int × Int × Int) × ((Nat × (Nat → (Int × Int × Int × Int × Int × Int × Int × Int × Int × Int × (Nat × (Nat → List AV))))) × ((Nat × (Nat → (Int × Int × Int × Int × Int × Int × Int × Int))) × (Nat × (Nat → (Int × Int × Int × Int × Int)))))) :=
  evLoop (lookH world.Copy.hs 0) 3 (ev world.Copy.G k0 (codeAt [1, 1, 0, 1, 0, 0] (bodyOf Try.f24)) 0) k1
  ⟨[.top, .ptr 0 0 0, .ptr 1 0 0, .top, .top, .top, .top, .top, .top, .top, .val (.int .i64 v12), .val (.int .i64 v13), .top, .top, .top, .top, .top, .top, .top, .top, .top, .top, .top, .top, .top, .top, .top, .top, .top, .top, .top, .top, .top, .top, .top, .top], [.live ⟨false, 31, 8, 1, fun _ => [.val (.int .i64 v1), .val (.int .i64 v2), .val (.int .i64 v3), .val (.int .i64 v4), .val (.int .i64 v5), .slc 2 0 none none, .lst 8 v6 none v7, .lst 5 v8 none v9], none⟩, .live ⟨false, 31, 8, 1, fun _ => [.val (.int .i64 0), .val (.int .i64 0), .val (.int .i64 0), .val (.int .i64 0), .val (.int .i64 0), .val (.slice none 0 0), .val (.slice none 0 0), .val (.slice none 0 0)], none⟩, .live ⟨true, 43, 11, v10, v11, none⟩]⟩
  (kBlock 0 (kSeq world.Copy.G k0 (codeAt [1, 1, 1] (bodyOf Try.f24)) 0 (kFinM world.Copy.G Try.f24 (fun _ => []) (WsT.mk (tCons (tI .i64) (tCons (tI .i64) (tCons (tI .i64) (tCons (tI .i64) (tOne (tI .i64)))))) (oCons (RowT.mk RiiiiiiiiiiL2 43 11 (0, 0, 0, 0, 0, 0, 0, 0, 0, 0, (0, fun _ => []))) (oCons (RowT.mk Riiiiiiii 51 8 (0, 0, 0, 0, 0, 0, 0, 0)) (oOne (RowT.mk Riiiii 69 5 (0, 0, 0, 0, 0)))))).dec)))
theorem world.Copy.l0_eq (k0 k1 : Nat) (v1 : Int) (v2 : Int) (v3 : Int) (v4 : Int) (v5 : Int) (v6 : Nat) (v7 : Nat → (Int × Int × Int × Int × Int × Int × Int × Int)) (v8 : Nat) (v9 : Nat → (Int × Int × Int × Int × Int)) (v10 : Nat) (v11 : Nat → (Int × Int × Int × Int × Int × Int × Int × Int × Int × Int × (Nat × (Nat → List AV)))) (v12 : Int) (v13 : Int) : world.Copy.l0 k0 (k1 + 1) v1 v2 v3 v4 v5 v6 (fun i => Riiiiiiii.enc (v7 i)) v8 (fun i => Riiiii.enc (v9 i)) v10 (fun i => RiiiiiiiiiiL2.enc (v11 i)) v12 v13 =
  bif (decide (v13 < v12)) then
    bif ((decide (0 ≤ v13)) && (decide (v13 < ((v10 : Nat) : Int)))) then
    (shape.Copy.f ((v11 (Int.toNat v13)).2.2.2.2.2.2.2.2.1, (v11 (Int.toNat v13)).2.2.2.2.2.2.2.2.2.1, ((v11 (Int.toNat v13)).2.2.2.2.2.2.2.2.2.2.1, (v11 (Int.toNat v13)).2.2.2.2.2.2.2.2.2.2.2))).bind fun r2 =>
    bif ((decide (0 ≤ v13)) && (decide (v13 < ((v10 : Nat) : Int)))) then
    world.Copy.l0 k0 k1 v1 v2 v3 v4 v5 v6 (fun i => Riiiiiiii.enc (v7 i)) v8 (fun i => Riiiii.enc (v9 i)) v10 (fun i => renL (lookF [] 3) (if i = (Int.toNat v13) then RiiiiiiiiiiL2.enc ((v11 (Int.toNat v13)).1, (v11 (Int.toNat v13)).2.1, (v11 (Int.toNat v13)).2.2.1, (v11 (Int.toNat v13)).2.2.2.1, (v11 (Int.toNat v13)).2.2.2.2.1, (v11 (Int.toNat v13)).2.2.2.2.2.1, (v11 (Int.toNat v13)).2.2.2.2.2.2.1, (v11 (Int.toNat v13)).2.2.2.2.2.2.2.1, r2.1, r2.2.1, (r2.2.2.1, (fun i => Rii.enc (r2.2.2.2 i)))) else RiiiiiiiiiiL2.enc (v11 i))) v12 (IntKind.i64.wrap (v13 + 1))
    else none
    else none
  else
  (slices.Clone_lJoint_Joint.f (v6, (fun i => Riiiiiiii.enc (v7 i)))).bind fun r3 =>
  (slices.Clone_lContact_Contact.f (v8, (fun i => Riiiii.enc (v9 i)))).bind fun r4 =>
  (WsT.mk (tCons (tI .i64) (tCons (tI .i64) (tCons (tI .i64) (tCons (tI .i64) (tOne (tI .i64)))))) (oCons (RowT.mk RiiiiiiiiiiL2 43 11 (0, 0, 0, 0, 0, 0, 0, 0, 0, 0, (0, fun _ => []))) (oCons (RowT.mk Riiiiiiii 51 8 (0, 0, 0, 0, 0, 0, 0, 0)) (oOne (RowT.mk Riiiii 69 5 (0, 0, 0, 0, 0)))))).dec (.agg [.val (.int .i64 v1), .val (.int .i64 v2), .val (.int .i64 v3), .val (.int .i64 v4), .val (.int .i64 v5), .slc 0 0 none none, .slc 1 0 none none, .slc 2 0 none none]) [⟨true, 43, 11, v10, (fun i => RiiiiiiiiiiL2.enc (v11 i)), none⟩, ⟨true, 51, 8, r3.1, (fun i => Riiiiiiii.enc (r3.2 i)), none⟩, ⟨true, 69, 5, r4.1, (fun i => Riiiii.enc (r4.2 i)), none⟩] := by kernel_rfl
theorem world.Copy.eq (k0 : Nat) (p0_0 : Int) (p0_1 : Int) (p0_2 : Int) (p0_3 : Int) (p0_4 : Int) (p0_5_n : Nat) (p0_5_g : Nat → (Int × Int × Int × Int × Int × Int × Int × Int × Int × Int × (Nat × (Nat → List AV)))) (p0_6_n : Nat) (p0_6_g : Nat → (Int × Int × Int × Int × Int × Int × Int × Int)) (p0_7_n : Nat) (p0_7_g : Nat → (Int × Int × Int × Int × Int)) : world.Copy.g k0 (p0_0, p0_1, p0_2, p0_3, p0_4, (p0_5_n, (fun i => RiiiiiiiiiiL2.enc (p0_5_g i))), (p0_6_n, (fun i => Riiiiiiii.enc (p0_6_g i))), (p0_7_n, (fun i => Riiiii.enc (p0_7_g i)))) =
  (slices.Clone_lBody_Body.f (p0_5_n, (fun i => RiiiiiiiiiiL2.enc (p0_5_g i)))).bind fun r1 =>
  world.Copy.l0 k0 k0 p0_0 p0_1 p0_2 p0_3 p0_4 p0_6_n (fun i => Riiiiiiii.enc (p0_6_g i)) p0_7_n (fun i => Riiiii.enc (p0_7_g i)) r1.1 (fun i => RiiiiiiiiiiL2.enc (r1.2 i)) ((r1.1 : Nat) : Int) 0 := by kernel_rfl
/-! ### bagatelle/bagatellelaw09.WorldRights -/
noncomputable def law09.WorldRights.cs : List (Nat × Fw.Summ) := [(8, law09.fit.s), (18, law09.Made.s), (22, world.RightBody.s), (13, law09.may.s), (23, world.RightJoint.s), (12, law09.joins.s), (15, world.Right.s), (24, world.Copy.s)]
theorem law09.WorldRights.cs_ok : SumsOk Try.prog law09.WorldRights.cs := .cons law09.fit.ok (.cons law09.Made.ok (.cons world.RightBody.ok (.cons law09.may.ok (.cons world.RightJoint.ok (.cons law09.joins.ok (.cons world.Right.ok (.cons world.Copy.ok (.nil))))))))
def law09.WorldRights.hs : List (Nat × LHint) := []
noncomputable def law09.WorldRights.G : Ctx := ⟨Try.prog, sumAt law09.WorldRights.cs, lookH law09.WorldRights.hs⟩
noncomputable def law09.WorldRights.f (x : ((Nat × (Nat → List AV)) × (Int × Int × Int × Int × Int × Int × Int × Int × Int × Int × (Nat × (Nat → List AV))) × (Int × Int))) : Option Bool := evF law09.WorldRights.G 0 Try.f6 ((tCons (tL 30) (tCons (tG (tCons (tI .i64) (tCons (tI .i64) (tCons (tI .i64) (tCons (tI .i64) (tCons (tI .i64) (tCons (tI .i64) (tCons (tI .i64) (tCons (tI .i64) (tCons (tI .i64) (tCons (tI .i64) (tOne (tL 2))))))))))))) (tOne (tG (tCons (tI .i64) (tOne (tI .i64))))))).enc x) tB.dec
noncomputable def law09.WorldRights.s : Fw.Summ := .mk' (tCons (tL 30) (tCons (tG (tCons (tI .i64) (tCons (tI .i64) (tCons (tI .i64) (tCons (tI .i64) (tCons (tI .i64) (tCons (tI .i64) (tCons (tI .i64) (tCons (tI .i64) (tCons (tI .i64) (tCons (tI .i64) (tOne (tL 2))))))))))))) (tOne (tG (tCons (tI .i64) (tOne (tI .i64))))))) tB law09.WorldRights.f
theorem law09.WorldRights.ok : law09.WorldRights.s.Ok Try.prog 6 :=
  summ_ok (hint := lookH law09.WorldRights.hs) (fn := Try.f6) (fun x => 0) law09.WorldRights.cs_ok (by kernel_rfl) (by kernel_rfl) (by kernel_rfl) (by kernel_rfl) (tCons_ok (tL_ok _) (tCons_ok (tG_ok (tCons_ok (tI_ok _) (tCons_ok (tI_ok _) (tCons_ok (tI_ok _) (tCons_ok (tI_ok _) (tCons_ok (tI_ok _) (tCons_ok (tI_ok _) (tCons_ok (tI_ok _) (tCons_ok (tI_ok _) (tCons_ok (tI_ok _) (tCons_ok (tI_ok _) (tOne_ok (tL_ok _))))))))))))) (tOne_ok (tG_ok (tCons_ok (tI_ok _) (tOne_ok (tI_ok _))))))) tB_ok (fun _ => rfl)
theorem law09.WorldRights.eq (p0_n : Nat) (p0_g : Nat → (Int × Int × Int × Int × Int × Int × Int × Int × Int × Int × Int × Int × Int × Int × Int × Int × Int × Int × Int × Int × Int × Int × Int × Int × Int × Int × Int × Int × Int × (Nat × (Nat → List AV)))) (p1_0 : Int) (p1_1 : Int) (p1_2 : Int) (p1_3 : Int) (p1_4 : Int) (p1_5 : Int) (p1_6 : Int) (p1_7 : Int) (p1_8 : Int) (p1_9 : Int) (p1_10_n : Nat) (p1_10_g : Nat → (Int × Int)) (p2_0 : Int) (p2_1 : Int) : law09.WorldRights.f ((p0_n, (fun i => RiiiiiiiiiiiiiiiiiiiiiiiiiiiiiL2.enc (p0_g i))), (p1_0, p1_1, p1_2, p1_3, p1_4, p1_5, p1_6, p1_7, p1_8, p1_9, (p1_10_n, (fun i => Rii.enc (p1_10_g i)))), (p2_0, p2_1)) =
  (law09.fit.f ()).bind fun r1 =>
  bif (!r1) then
    some false
  else
  bif (decide (((p1_10_n : Nat) : Int) > 12)) then
    some true
  else
  (law09.Made.f ((p0_n, (fun i => RiiiiiiiiiiiiiiiiiiiiiiiiiiiiiL2.enc (p0_g i))), 12)).bind fun r2 =>
  (world.RightBody.f (p1_0, p1_1, p1_2, p1_3, p1_4, p1_5, p1_6, p1_7, p1_8, p1_9, (p1_10_n, (fun i => Rii.enc (p1_10_g i))))).bind fun r3 =>
  (law09.may.f (p1_0, p1_1, p1_2, p1_3, p1_4, p1_5, p1_6, p1_7, p1_8, p1_9, (p1_10_n, (fun i => Rii.enc (p1_10_g i))))).bind fun r4 =>
  bif (!(r3 == r4)) then
    some false
  else
  (world.RightJoint.f (0, p1_0, p1_5, p1_1, p1_2, p1_3, p1_4, p1_6)).bind fun r5 =>
  (law09.joins.f (0, p1_0, p1_5, p1_1, p1_2, p1_3, p1_4, p1_6)).bind fun r6 =>
  bif (!(r5 == r6)) then
    some false
  else
  (world.Right.f (r2.1, r2.2.1, r2.2.2.1, r2.2.2.2.1, r2.2.2.2.2.1, (r2.2.2.2.2.2.1.1, (fun i => RiiiiiiiiiiL2.enc (r2.2.2.2.2.2.1.2 i))), (r2.2.2.2.2.2.2.1.1, (fun i => Riiiiiiii.enc (r2.2.2.2.2.2.2.1.2 i))), (r2.2.2.2.2.2.2.2.1, (fun i => Riiiii.enc (r2.2.2.2.2.2.2.2.2 i))))).bind fun r7 =>
  bif (!r7) then
    some false
  else
  (world.Copy.f (r2.1, r2.2.1, r2.2.2.1, r2.2.2.2.1, r2.2.2.2.2.1, (r2.2.2.2.2.2.1.1, (fun i => RiiiiiiiiiiL2.enc (r2.2.2.2.2.2.1.2 i))), (r2.2.2.2.2.2.2.1.1, (fun i => Riiiiiiii.enc (r2.2.2.2.2.2.2.1.2 i))), (r2.2.2.2.2.2.2.2.1, (fun i => Riiiii.enc (r2.2.2.2.2.2.2.2.2 i))))).bind fun r8 =>
  bif ((Go.bits .and .i64 p2_0 7) == 0) then
    (world.Right.f ((-1), r8.1.2.1, r8.1.2.2.1, r8.1.2.2.2.1, r8.1.2.2.2.2, (r8.2.1.1, (fun i => RiiiiiiiiiiL2.enc (r8.2.1.2 i))), (r8.2.2.1.1, (fun i => Riiiiiiii.enc (r8.2.2.1.2 i))), (r8.2.2.2.1, (fun i => Riiiii.enc (r8.2.2.2.2 i))))).bind fun r9 =>
    bif (!r9) then
      (world.Right.f (r2.1, r2.2.1, r2.2.2.1, r2.2.2.2.1, r2.2.2.2.2.1, (r2.2.2.2.2.2.1.1, (fun i => RiiiiiiiiiiL2.enc (r2.2.2.2.2.2.1.2 i))), (r2.2.2.2.2.2.2.1.1, (fun i => Riiiiiiii.enc (r2.2.2.2.2.2.2.1.2 i))), (r2.2.2.2.2.2.2.2.1, (fun i => Riiiii.enc (r2.2.2.2.2.2.2.2.2 i))))).bind fun r10 =>
      some r10
    else
    some false
  else
  bif ((Go.bits .and .i64 p2_0 7) == 1) then
    (world.Right.f (r8.1.1, 0, r8.1.2.2.1, r8.1.2.2.2.1, r8.1.2.2.2.2, (r8.2.1.1, (fun i => RiiiiiiiiiiL2.enc (r8.2.1.2 i))), (r8.2.2.1.1, (fun i => Riiiiiiii.enc (r8.2.2.1.2 i))), (r8.2.2.2.1, (fun i => Riiiii.enc (r8.2.2.2.2 i))))).bind fun r11 =>
    bif (!r11) then
      (world.Right.f (r2.1, r2.2.1, r2.2.2.1, r2.2.2.2.1, r2.2.2.2.2.1, (r2.2.2.2.2.2.1.1, (fun i => RiiiiiiiiiiL2.enc (r2.2.2.2.2.2.1.2 i))), (r2.2.2.2.2.2.2.1.1, (fun i => Riiiiiiii.enc (r2.2.2.2.2.2.2.1.2 i))), (r2.2.2.2.2.2.2.2.1, (fun i => Riiiii.enc (r2.2.2.2.2.2.2.2.2 i))))).bind fun r12 =>
      some r12
    else
    some false
  else
  bif ((Go.bits .and .i64 p2_0 7) == 2) then
    (world.Right.f (r8.1.1, r8.1.2.1, r8.1.2.2.1, r8.1.2.2.2.1, 17592186044417, (r8.2.1.1, (fun i => RiiiiiiiiiiL2.enc (r8.2.1.2 i))), (r8.2.2.1.1, (fun i => Riiiiiiii.enc (r8.2.2.1.2 i))), (r8.2.2.2.1, (fun i => Riiiii.enc (r8.2.2.2.2 i))))).bind fun r13 =>
    bif (!r13) then
      (world.Right.f (r2.1, r2.2.1, r2.2.2.1, r2.2.2.2.1, r2.2.2.2.2.1, (r2.2.2.2.2.2.1.1, (fun i => RiiiiiiiiiiL2.enc (r2.2.2.2.2.2.1.2 i))), (r2.2.2.2.2.2.2.1.1, (fun i => Riiiiiiii.enc (r2.2.2.2.2.2.2.1.2 i))), (r2.2.2.2.2.2.2.2.1, (fun i => Riiiii.enc (r2.2.2.2.2.2.2.2.2 i))))).bind fun r14 =>
      some r14
    else
    some false
  else
  bif ((Go.bits .and .i64 p2_0 7) == 3) then
    bif (decide ((r8.2.2.1.1 + 1) * 64 ≤ 140737488355328)) then
    (world.Right.f (r8.1.1, r8.1.2.1, r8.1.2.2.1, r8.1.2.2.2.1, r8.1.2.2.2.2, (r8.2.1.1, (fun i => RiiiiiiiiiiL2.enc (r8.2.1.2 i))), ((r8.2.2.1.1 + 1), (fun i => cloL (frzC 21 ⟨true, 43, 11, r8.2.1.1, (fun i => RiiiiiiiiiiL2.enc (r8.2.1.2 i)), none⟩ (if i = r8.2.2.1.1 then Riiiiiiii.enc ((IntKind.i64.wrap (r8.1.2.2.1 - 1)), r8.1.2.1, 1, 0, 0, 0, 0, 1) else Riiiiiiii.enc (r8.2.2.1.2 i))))), (r8.2.2.2.1, (fun i => Riiiii.enc (r8.2.2.2.2 i))))).bind fun r15 =>
    bif (!r15) then
      (world.Right.f (r2.1, r2.2.1, r2.2.2.1, r2.2.2.2.1, r2.2.2.2.2.1, (r2.2.2.2.2.2.1.1, (fun i => RiiiiiiiiiiL2.enc (r2.2.2.2.2.2.1.2 i))), (r2.2.2.2.2.2.2.1.1, (fun i => Riiiiiiii.enc (r2.2.2.2.2.2.2.1.2 i))), (r2.2.2.2.2.2.2.2.1, (fun i => Riiiii.enc (r2.2.2.2.2.2.2.2.2 i))))).bind fun r16 =>
      some r16
    else
    some false
    else none
  else
  bif ((Go.bits .and .i64 p2_0 7) == 4) then
    (world.Right.f (r8.1.1, r8.1.2.1, r8.1.2.2.1, r8.1.2.2.2.1, r8.1.2.2.2.2, (r8.2.1.1, (fun i => RiiiiiiiiiiL2.enc (r8.2.1.2 i))), (r8.2.2.1.1, (fun i => Riiiiiiii.enc (r8.2.2.1.2 i))), (1, (fun i => cloL (frzC 22 ⟨true, 51, 8, r8.2.2.1.1, (fun i => Riiiiiiii.enc (r8.2.2.1.2 i)), none⟩ (frzC 21 ⟨true, 43, 11, r8.2.1.1, (fun i => RiiiiiiiiiiL2.enc (r8.2.1.2 i)), none⟩ (List.getD (List.map Riiiii.enc [(1, 1, 0, 0, 0)]) i (Riiiii.enc (0, 0, 0, 0, 0))))))))).bind fun r17 =>
    bif (!r17) then
      (world.Right.f (r2.1, r2.2.1, r2.2.2.1, r2.2.2.2.1, r2.2.2.2.2.1, (r2.2.2.2.2.2.1.1, (fun i => RiiiiiiiiiiL2.enc (r2.2.2.2.2.2.1.2 i))), (r2.2.2.2.2.2.2.1.1, (fun i => Riiiiiiii.enc (r2.2.2.2.2.2.2.1.2 i))), (r2.2.2.2.2.2.2.2.1, (fun i => Riiiii.enc (r2.2.2.2.2.2.2.2.2 i))))).bind fun r18 =>
      some r18
    else
    some false
  else
  bif ((Go.bits .and .i64 p2_0 7) == 5) then
    (world.Right.f (r8.1.1, r8.1.2.1, (-3), r8.1.2.2.2.1, r8.1.2.2.2.2, (r8.2.1.1, (fun i => RiiiiiiiiiiL2.enc (r8.2.1.2 i))), (r8.2.2.1.1, (fun i => Riiiiiiii.enc (r8.2.2.1.2 i))), (r8.2.2.2.1, (fun i => Riiiii.enc (r8.2.2.2.2 i))))).bind fun r19 =>
    bif (!r19) then
      (world.Right.f (r2.1, r2.2.1, r2.2.2.1, r2.2.2.2.1, r2.2.2.2.2.1, (r2.2.2.2.2.2.1.1, (fun i => RiiiiiiiiiiL2.enc (r2.2.2.2.2.2.1.2 i))), (r2.2.2.2.2.2.2.1.1, (fun i => Riiiiiiii.enc (r2.2.2.2.2.2.2.1.2 i))), (r2.2.2.2.2.2.2.2.1, (fun i => Riiiii.enc (r2.2.2.2.2.2.2.2.2 i))))).bind fun r20 =>
      some r20
    else
    some false
  else
  bif (((r8.2.1.1 : Nat) : Int) == 0) then
    some true
  else
  bif (decide (((r8.2.1.1 : Nat) : Int) ≠ 0)) then
  bif ((decide (0 ≤ (Int.tmod (Go.bits .and .i64 p2_1 4095) ((r8.2.1.1 : Nat) : Int)))) && (decide ((Int.tmod (Go.bits .and .i64 p2_1 4095) ((r8.2.1.1 : Nat) : Int)) < ((r8.2.1.1 : Nat) : Int)))) then
  bif ((Go.bits .and .i64 (Int.fdiv p2_1 (2 ^ 12)) 3) == 0) then
    (world.Right.f (r8.1.1, r8.1.2.1, r8.1.2.2.1, r8.1.2.2.2.1, r8.1.2.2.2.2, (r8.2.1.1, (fun i => cloL (if i = (Int.toNat (Int.tmod (Go.bits .and .i64 p2_1 4095) ((r8.2.1.1 : Nat) : Int))) then RiiiiiiiiiiL2.enc (r8.1.2.1, (r8.2.1.2 (Int.toNat (Int.tmod (Go.bits .and .i64 p2_1 4095) ((r8.2.1.1 : Nat) : Int)))).2.1, (r8.2.1.2 (Int.toNat (Int.tmod (Go.bits .and .i64 p2_1 4095) ((r8.2.1.1 : Nat) : Int)))).2.2.1, (r8.2.1.2 (Int.toNat (Int.tmod (Go.bits .and .i64 p2_1 4095) ((r8.2.1.1 : Nat) : Int)))).2.2.2.1, (r8.2.1.2 (Int.toNat (Int.tmod (Go.bits .and .i64 p2_1 4095) ((r8.2.1.1 : Nat) : Int)))).2.2.2.2.1, (r8.2.1.2 (Int.toNat (Int.tmod (Go.bits .and .i64 p2_1 4095) ((r8.2.1.1 : Nat) : Int)))).2.2.2.2.2.1, (r8.2.1.2 (Int.toNat (Int.tmod (Go.bits .and .i64 p2_1 4095) ((r8.2.1.1 : Nat) : Int)))).2.2.2.2.2.2.1, (r8.2.1.2 (Int.toNat (Int.tmod (Go.bits .and .i64 p2_1 4095) ((r8.2.1.1 : Nat) : Int)))).2.2.2.2.2.2.2.1, (r8.2.1.2 (Int.toNat (Int.tmod (Go.bits .and .i64 p2_1 4095) ((r8.2.1.1 : Nat) : Int)))).2.2.2.2.2.2.2.2.1, (r8.2.1.2 (Int.toNat (Int.tmod (Go.bits .and .i64 p2_1 4095) ((r8.2.1.1 : Nat) : Int)))).2.2.2.2.2.2.2.2.2.1, ((r8.2.1.2 (Int.toNat (Int.tmod (Go.bits .and .i64 p2_1 4095) ((r8.2.1.1 : Nat) : Int)))).2.2.2.2.2.2.2.2.2.2.1, (r8.2.1.2 (Int.toNat (Int.tmod (Go.bits .and .i64 p2_1 4095) ((r8.2.1.1 : Nat) : Int)))).2.2.2.2.2.2.2.2.2.2.2)) else RiiiiiiiiiiL2.enc (r8.2.1.2 i)))), (r8.2.2.1.1, (fun i => Riiiiiiii.enc (r8.2.2.1.2 i))), (r8.2.2.2.1, (fun i => Riiiii.enc (r8.2.2.2.2 i))))).bind fun r21 =>
    bif (!r21) then
      (world.Right.f (r2.1, r2.2.1, r2.2.2.1, r2.2.2.2.1, r2.2.2.2.2.1, (r2.2.2.2.2.2.1.1, (fun i => RiiiiiiiiiiL2.enc (r2.2.2.2.2.2.1.2 i))), (r2.2.2.2.2.2.2.1.1, (fun i => Riiiiiiii.enc (r2.2.2.2.2.2.2.1.2 i))), (r2.2.2.2.2.2.2.2.1, (fun i => Riiiii.enc (r2.2.2.2.2.2.2.2.2 i))))).bind fun r22 =>
      some r22
    else
    some false
  else
  bif ((Go.bits .and .i64 (Int.fdiv p2_1 (2 ^ 12)) 3) == 1) then
    (world.Right.f (r8.1.1, r8.1.2.1, r8.1.2.2.1, r8.1.2.2.2.1, r8.1.2.2.2.2, (r8.2.1.1, (fun i => cloL (if i = (Int.toNat (Int.tmod (Go.bits .and .i64 p2_1 4095) ((r8.2.1.1 : Nat) : Int))) then RiiiiiiiiiiL2.enc ((r8.2.1.2 (Int.toNat (Int.tmod (Go.bits .and .i64 p2_1 4095) ((r8.2.1.1 : Nat) : Int)))).1, (r8.2.1.2 (Int.toNat (Int.tmod (Go.bits .and .i64 p2_1 4095) ((r8.2.1.1 : Nat) : Int)))).2.1, (r8.2.1.2 (Int.toNat (Int.tmod (Go.bits .and .i64 p2_1 4095) ((r8.2.1.1 : Nat) : Int)))).2.2.1, (r8.2.1.2 (Int.toNat (Int.tmod (Go.bits .and .i64 p2_1 4095) ((r8.2.1.1 : Nat) : Int)))).2.2.2.1, (r8.2.1.2 (Int.toNat (Int.tmod (Go.bits .and .i64 p2_1 4095) ((r8.2.1.1 : Nat) : Int)))).2.2.2.2.1, 4294967296, (r8.2.1.2 (Int.toNat (Int.tmod (Go.bits .and .i64 p2_1 4095) ((r8.2.1.1 : Nat) : Int)))).2.2.2.2.2.2.1, (r8.2.1.2 (Int.toNat (Int.tmod (Go.bits .and .i64 p2_1 4095) ((r8.2.1.1 : Nat) : Int)))).2.2.2.2.2.2.2.1, (r8.2.1.2 (Int.toNat (Int.tmod (Go.bits .and .i64 p2_1 4095) ((r8.2.1.1 : Nat) : Int)))).2.2.2.2.2.2.2.2.1, (r8.2.1.2 (Int.toNat (Int.tmod (Go.bits .and .i64 p2_1 4095) ((r8.2.1.1 : Nat) : Int)))).2.2.2.2.2.2.2.2.2.1, ((r8.2.1.2 (Int.toNat (Int.tmod (Go.bits .and .i64 p2_1 4095) ((r8.2.1.1 : Nat) : Int)))).2.2.2.2.2.2.2.2.2.2.1, (r8.2.1.2 (Int.toNat (Int.tmod (Go.bits .and .i64 p2_1 4095) ((r8.2.1.1 : Nat) : Int)))).2.2.2.2.2.2.2.2.2.2.2)) else RiiiiiiiiiiL2.enc (r8.2.1.2 i)))), (r8.2.2.1.1, (fun i => Riiiiiiii.enc (r8.2.2.1.2 i))), (r8.2.2.2.1, (fun i => Riiiii.enc (r8.2.2.2.2 i))))).bind fun r23 =>
    bif (!r23) then
      (world.Right.f (r2.1, r2.2.1, r2.2.2.1, r2.2.2.2.1, r2.2.2.2.2.1, (r2.2.2.2.2.2.1.1, (fun i => RiiiiiiiiiiL2.enc (r2.2.2.2.2.2.1.2 i))), (r2.2.2.2.2.2.2.1.1, (fun i => Riiiiiiii.enc (r2.2.2.2.2.2.2.1.2 i))), (r2.2.2.2.2.2.2.2.1, (fun i => Riiiii.enc (r2.2.2.2.2.2.2.2.2 i))))).bind fun r24 =>
      some r24
    else
    some false
  else
  bif ((Go.bits .and .i64 (Int.fdiv p2_1 (2 ^ 12)) 3) == 2) then
    (world.Right.f (r8.1.1, r8.1.2.1, r8.1.2.2.1, r8.1.2.2.2.1, r8.1.2.2.2.2, (r8.2.1.1, (fun i => cloL (if i = (Int.toNat (Int.tmod (Go.bits .and .i64 p2_1 4095) ((r8.2.1.1 : Nat) : Int))) then RiiiiiiiiiiL2.enc ((r8.2.1.2 (Int.toNat (Int.tmod (Go.bits .and .i64 p2_1 4095) ((r8.2.1.1 : Nat) : Int)))).1, (r8.2.1.2 (Int.toNat (Int.tmod (Go.bits .and .i64 p2_1 4095) ((r8.2.1.1 : Nat) : Int)))).2.1, (r8.2.1.2 (Int.toNat (Int.tmod (Go.bits .and .i64 p2_1 4095) ((r8.2.1.1 : Nat) : Int)))).2.2.1, (r8.2.1.2 (Int.toNat (Int.tmod (Go.bits .and .i64 p2_1 4095) ((r8.2.1.1 : Nat) : Int)))).2.2.2.1, (r8.2.1.2 (Int.toNat (Int.tmod (Go.bits .and .i64 p2_1 4095) ((r8.2.1.1 : Nat) : Int)))).2.2.2.2.1, (r8.2.1.2 (Int.toNat (Int.tmod (Go.bits .and .i64 p2_1 4095) ((r8.2.1.1 : Nat) : Int)))).2.2.2.2.2.1, (r8.2.1.2 (Int.toNat (Int.tmod (Go.bits .and .i64 p2_1 4095) ((r8.2.1.1 : Nat) : Int)))).2.2.2.2.2.2.1, (-1), (r8.2.1.2 (Int.toNat (Int.tmod (Go.bits .and .i64 p2_1 4095) ((r8.2.1.1 : Nat) : Int)))).2.2.2.2.2.2.2.2.1, (r8.2.1.2 (Int.toNat (Int.tmod (Go.bits .and .i64 p2_1 4095) ((r8.2.1.1 : Nat) : Int)))).2.2.2.2.2.2.2.2.2.1, ((r8.2.1.2 (Int.toNat (Int.tmod (Go.bits .and .i64 p2_1 4095) ((r8.2.1.1 : Nat) : Int)))).2.2.2.2.2.2.2.2.2.2.1, (r8.2.1.2 (Int.toNat (Int.tmod (Go.bits .and .i64 p2_1 4095) ((r8.2.1.1 : Nat) : Int)))).2.2.2.2.2.2.2.2.2.2.2)) else RiiiiiiiiiiL2.enc (r8.2.1.2 i)))), (r8.2.2.1.1, (fun i => Riiiiiiii.enc (r8.2.2.1.2 i))), (r8.2.2.2.1, (fun i => Riiiii.enc (r8.2.2.2.2 i))))).bind fun r25 =>
    bif (!r25) then
      (world.Right.f (r2.1, r2.2.1, r2.2.2.1, r2.2.2.2.1, r2.2.2.2.2.1, (r2.2.2.2.2.2.1.1, (fun i => RiiiiiiiiiiL2.enc (r2.2.2.2.2.2.1.2 i))), (r2.2.2.2.2.2.2.1.1, (fun i => Riiiiiiii.enc (r2.2.2.2.2.2.2.1.2 i))), (r2.2.2.2.2.2.2.2.1, (fun i => Riiiii.enc (r2.2.2.2.2.2.2.2.2 i))))).bind fun r26 =>
      some r26
    else
    some false
  else
  (world.Right.f (r8.1.1, r8.1.2.1, r8.1.2.2.1, r8.1.2.2.2.1, r8.1.2.2.2.2, (r8.2.1.1, (fun i => cloL (if i = (Int.toNat (Int.tmod (Go.bits .and .i64 p2_1 4095) ((r8.2.1.1 : Nat) : Int))) then RiiiiiiiiiiL2.enc ((r8.2.1.2 (Int.toNat (Int.tmod (Go.bits .and .i64 p2_1 4095) ((r8.2.1.1 : Nat) : Int)))).1, (r8.2.1.2 (Int.toNat (Int.tmod (Go.bits .and .i64 p2_1 4095) ((r8.2.1.1 : Nat) : Int)))).2.1, (r8.2.1.2 (Int.toNat (Int.tmod (Go.bits .and .i64 p2_1 4095) ((r8.2.1.1 : Nat) : Int)))).2.2.1, (r8.2.1.2 (Int.toNat (Int.tmod (Go.bits .and .i64 p2_1 4095) ((r8.2.1.1 : Nat) : Int)))).2.2.2.1, (r8.2.1.2 (Int.toNat (Int.tmod (Go.bits .and .i64 p2_1 4095) ((r8.2.1.1 : Nat) : Int)))).2.2.2.2.1, (r8.2.1.2 (Int.toNat (Int.tmod (Go.bits .and .i64 p2_1 4095) ((r8.2.1.1 : Nat) : Int)))).2.2.2.2.2.1, (r8.2.1.2 (Int.toNat (Int.tmod (Go.bits .and .i64 p2_1 4095) ((r8.2.1.1 : Nat) : Int)))).2.2.2.2.2.2.1, (r8.2.1.2 (Int.toNat (Int.tmod (Go.bits .and .i64 p2_1 4095) ((r8.2.1.1 : Nat) : Int)))).2.2.2.2.2.2.2.1, 3, (r8.2.1.2 (Int.toNat (Int.tmod (Go.bits .and .i64 p2_1 4095) ((r8.2.1.1 : Nat) : Int)))).2.2.2.2.2.2.2.2.2.1, ((r8.2.1.2 (Int.toNat (Int.tmod (Go.bits .and .i64 p2_1 4095) ((r8.2.1.1 : Nat) : Int)))).2.2.2.2.2.2.2.2.2.2.1, (r8.2.1.2 (Int.toNat (Int.tmod (Go.bits .and .i64 p2_1 4095) ((r8.2.1.1 : Nat) : Int)))).2.2.2.2.2.2.2.2.2.2.2)) else RiiiiiiiiiiL2.enc (r8.2.1.2 i)))), (r8.2.2.1.1, (fun i => Riiiiiiii.enc (r8.2.2.1.2 i))), (r8.2.2.2.1, (fun i => Riiiii.enc (r8.2.2.2.2 i))))).bind fun r27 =>
  bif (!r27) then
    (world.Right.f (r2.1, r2.2.1, r2.2.2.1, r2.2.2.2.1, r2.2.2.2.2.1, (r2.2.2.2.2.2.1.1, (fun i => RiiiiiiiiiiL2.enc (r2.2.2.2.2.2.1.2 i))), (r2.2.2.2.2.2.2.1.1, (fun i => Riiiiiiii.enc (r2.2.2.2.2.2.2.1.2 i))), (r2.2.2.2.2.2.2.2.1, (fun i => Riiiii.enc (r2.2.2.2.2.2.2.2.2 i))))).bind fun r28 =>
    some r28
  else
  some false
  else none
  else none := by kernel_rfl
/-! ### slices.Equal[[]bagatelle/api.V,bagatelle/api.V] -/
noncomputable def slices.Equal_lV_V.cs : List (Nat × Fw.Summ) := []
theorem slices.Equal_lV_V.cs_ok : SumsOk Try.prog slices.Equal_lV_V.cs := .nil
def slices.Equal_lV_V.hs : List (Nat × LHint) := [(0, { mat := [], live := [0, 1, 12, 13], ren := [] })]
noncomputable def slices.Equal_lV_V.G : Ctx := ⟨Try.prog, sumAt slices.Equal_lV_V.cs, lookH slices.Equal_lV_V.hs⟩
noncomputable def slices.Equal_lV_V.g (k0 : Nat) (x : ((Nat × (Nat → List AV)) × (Nat × (Nat → List AV)))) : Option Bool := evF slices.Equal_lV_V.G k0 Try.f87 ((tCons (tL 2) (tOne (tL 2))).enc x) tB.dec
noncomputable def slices.Equal_lV_V.f (x : ((Nat × (Nat → List AV)) × (Nat × (Nat → List AV)))) : Option Bool := slices.Equal_lV_V.g (1000000) x
noncomputable def slices.Equal_lV_V.s : Fw.Summ := .mk' (tCons (tL 2) (tOne (tL 2))) tB slices.Equal_lV_V.f
theorem slices.Equal_lV_V.ok : slices.Equal_lV_V.s.Ok Try.prog 87 :=
  summ_ok (hint := lookH slices.Equal_lV_V.hs) (fn := Try.f87) (fun x => 1000000) slices.Equal_lV_V.cs_ok (by kernel_rfl) (by kernel_rfl) (by kernel_rfl) (by kernel_rfl) (tCons_ok (tL_ok _) (tOne_ok (tL_ok _))) tB_ok (fun _ => rfl)
noncomputable def slices.Equal_lV_V.l0 (k0 k1 : Nat) (v1 : Nat) (v2 : Nat → List AV) (v3 : Nat) (v4 : Nat → List AV) (v5 : Int) (v6 : Int) : Option Bool :=
  evLoop (lookH slices.Equal_lV_V.hs 0) 0 (ev slices.Equal_lV_V.G k0 (codeAt [1, 1, 0, 1, 0, 0] (bodyOf Try.f87)) 0) k1
  ⟨[.lst 2 v1 none v2, .lst 2 v3 none v4, .top, .top, .top, .top, .top, .top, .top, .top, .top, .top, .val (.int .i64 v5), .val (.int .i64 v6), .top, .top, .top, .top, .top, .top, .top, .top, .top, .top, .top, .top], []⟩
  (kBlock 0 (kSeq slices.Equal_lV_V.G k0 (codeAt [1, 1, 1] (bodyOf Try.f87)) 0 (kFin slices.Equal_lV_V.G Try.f87 tB.dec)))
theorem slices.Equal_lV_V.l0_eq (k0 k1 : Nat) (v1 : Nat) (v2 : Nat → (Int × Int)) (v3 : Nat) (v4 : Nat → (Int × Int)) (v5 : Int) (v6 : Int) : slices.Equal_lV_V.l0 k0 (k1 + 1) v1 (fun i => Rii.enc (v2 i)) v3 (fun i => Rii.enc (v4 i)) v5 v6 =
  bif (decide (v6 < v5)) then
    bif ((decide (0 ≤ v6)) && (decide (v6 < ((v1 : Nat) : Int)))) then
    bif ((decide (0 ≤ v6)) && (decide (v6 < ((v3 : Nat) : Int)))) then
    bif (!(((v2 (Int.toNat v6)).1 == (v4 (Int.toNat v6)).1) && (((v2 (Int.toNat v6)).2 == (v4 (Int.toNat v6)).2) && true))) then
      some false
    else
    slices.Equal_lV_V.l0 k0 k1 v1 (fun i => Rii.enc (v2 i)) v3 (fun i => Rii.enc (v4 i)) v5 (IntKind.i64.wrap (v6 + 1))
    else none
    else none
  else
  some true := by kernel_rfl
theorem slices.Equal_lV_V.eq (k0 : Nat) (p0_n : Nat) (p0_g : Nat → (Int × Int)) (p1_n : Nat) (p1_g : Nat → (Int × Int)) : slices.Equal_lV_V.g k0 ((p0_n, (fun i => Rii.enc (p0_g i))), (p1_n, (fun i => Rii.enc (p1_g i)))) =
  bif (((p0_n : Nat) : Int) != ((p1_n : Nat) : Int)) then
    some false
  else
  slices.Equal_lV_V.l0 k0 k0 p0_n (fun i => Rii.enc (p0_g i)) p1_n (fun i => Rii.enc (p1_g i)) ((p0_n : Nat) : Int) 0 := by kernel_rfl
/-! ### bagatelle/shape.Same -/
noncomputable def shape.Same.cs : List (Nat × Fw.Summ) := [(87, slices.Equal_lV_V.s)]
theorem shape.Same.cs_ok : SumsOk Try.prog shape.Same.cs := .cons slices.Equal_lV_V.ok (.nil)
def shape.Same.hs : List (Nat × LHint) := []
noncomputable def shape.Same.G : Ctx := ⟨Try.prog, sumAt shape.Same.cs, lookH shape.Same.hs⟩
noncomputable def shape.Same.f (x : ((Int × Int × (Nat × (Nat → List AV))) × (Int × Int × (Nat × (Nat → List AV))))) : Option Bool := evF shape.Same.G 0 Try.f78 ((tCons (tG (tCons (tI .i64) (tCons (tI .i64) (tOne (tL 2))))) (tOne (tG (tCons (tI .i64) (tCons (tI .i64) (tOne (tL 2))))))).enc x) tB.dec
noncomputable def shape.Same.s : Fw.Summ := .mk' (tCons (tG (tCons (tI .i64) (tCons (tI .i64) (tOne (tL 2))))) (tOne (tG (tCons (tI .i64) (tCons (tI .i64) (tOne (tL 2))))))) tB shape.Same.f
theorem shape.Same.ok : shape.Same.s.Ok Try.prog 78 :=
  summ_ok (hint := lookH shape.Same.hs) (fn := Try.f78) (fun x => 0) shape.Same.cs_ok (by kernel_rfl) (by kernel_rfl) (by kernel_rfl) (by kernel_rfl) (tCons_ok (tG_ok (tCons_ok (tI_ok _) (tCons_ok (tI_ok _) (tOne_ok (tL_ok _))))) (tOne_ok (tG_ok (tCons_ok (tI_ok _) (tCons_ok (tI_ok _) (tOne_ok (tL_ok _))))))) tB_ok (fun _ => rfl)
theorem shape.Same.eq (p0_0 : Int) (p0_1 : Int) (p0_2_n : Nat) (p0_2_g : Nat → (Int × Int)) (p1_0 : Int) (p1_1 : Int) (p1_2_n : Nat) (p1_2_g : Nat → (Int × Int)) : shape.Same.f ((p0_0, p0_1, (p0_2_n, (fun i => Rii.enc (p0_2_g i)))), (p1_0, p1_1, (p1_2_n, (fun i => Rii.enc (p1_2_g i))))) =
  bif (p0_0 == p1_0) then
    bif (p0_1 == p1_1) then
      (slices.Equal_lV_V.f ((p0_2_n, (fun i => Rii.enc (p0_2_g i))), (p1_2_n, (fun i => Rii.enc (p1_2_g i))))).bind fun r1 =>
      some r1
    else
    some false
  else
  some false := by kernel_rfl
/-! ### bagatelle/world.sameBody -/
noncomputable def world.sameBody.cs : List (Nat × Fw.Summ) := [(78, shape.Same.s)]
theorem world.sameBody.cs_ok : SumsOk Try.prog world.sameBody.cs := .cons shape.Same.ok (.nil)
def world.sameBody.hs : List (Nat × LHint) := []
noncomputable def world.sameBody.G : Ctx := ⟨Try.prog, sumAt world.sameBody.cs, lookH world.sameBody.hs⟩
noncomputable def world.sameBody.f (x : ((Int × Int × Int × Int × Int × Int × Int × Int × Int × Int × (Nat × (Nat → List AV))) × (Int × Int × Int × Int × Int × Int × Int × Int × Int × Int × (Nat × (Nat → List AV))))) : Option Bool := evF world.sameBody.G 0 Try.f58 ((tCons (tG (tCons (tI .i64) (tCons (tI .i64) (tCons (tI .i64) (tCons (tI .i64) (tCons (tI .i64) (tCons (tI .i64) (tCons (tI .i64) (tCons (tI .i64) (tCons (tI .i64) (tCons (tI .i64) (tOne (tL 2))))))))))))) (tOne (tG (tCons (tI .i64) (tCons (tI .i64) (tCons (tI .i64) (tCons (tI .i64) (tCons (tI .i64) (tCons (tI .i64) (tCons (tI .i64) (tCons (tI .i64) (tCons (tI .i64) (tCons (tI .i64) (tOne (tL 2))))))))))))))).enc x) tB.dec
noncomputable def world.sameBody.s : Fw.Summ := .mk' (tCons (tG (tCons (tI .i64) (tCons (tI .i64) (tCons (tI .i64) (tCons (tI .i64) (tCons (tI .i64) (tCons (tI .i64) (tCons (tI .i64) (tCons (tI .i64) (tCons (tI .i64) (tCons (tI .i64) (tOne (tL 2))))))))))))) (tOne (tG (tCons (tI .i64) (tCons (tI .i64) (tCons (tI .i64) (tCons (tI .i64) (tCons (tI .i64) (tCons (tI .i64) (tCons (tI .i64) (tCons (tI .i64) (tCons (tI .i64) (tCons (tI .i64) (tOne (tL 2))))))))))))))) tB world.sameBody.f
theorem world.sameBody.ok : world.sameBody.s.Ok Try.prog 58 :=
  summ_ok (hint := lookH world.sameBody.hs) (fn := Try.f58) (fun x => 0) world.sameBody.cs_ok (by kernel_rfl) (by kernel_rfl) (by kernel_rfl) (by kernel_rfl) (tCons_ok (tG_ok (tCons_ok (tI_ok _) (tCons_ok (tI_ok _) (tCons_ok (tI_ok _) (tCons_ok (tI_ok _) (tCons_ok (tI_ok _) (tCons_ok (tI_ok _) (tCons_ok (tI_ok _) (tCons_ok (tI_ok _) (tCons_ok (tI_ok _) (tCons_ok (tI_ok _) (tOne_ok (tL_ok _))))))))))))) (tOne_ok (tG_ok (tCons_ok (tI_ok _) (tCons_ok (tI_ok _) (tCons_ok (tI_ok _) (tCons_ok (tI_ok _) (tCons_ok (tI_ok _) (tCons_ok (tI_ok _) (tCons_ok (tI_ok _) (tCons_ok (tI_ok _) (tCons_ok (tI_ok _) (tCons_ok (tI_ok _) (tOne_ok (tL_ok _))))))))))))))) tB_ok (fun _ => rfl)
theorem world.sameBody.eq (p0_0 : Int) (p0_1 : Int) (p0_2 : Int) (p0_3 : Int) (p0_4 : Int) (p0_5 : Int) (p0_6 : Int) (p0_7 : Int) (p0_8 : Int) (p0_9 : Int) (p0_10_n : Nat) (p0_10_g : Nat → (Int × Int)) (p1_0 : Int) (p1_1 : Int) (p1_2 : Int) (p1_3 : Int) (p1_4 : Int) (p1_5 : Int) (p1_6 : Int) (p1_7 : Int) (p1_8 : Int) (p1_9 : Int) (p1_10_n : Nat) (p1_10_g : Nat → (Int × Int)) : world.sameBody.f ((p0_0, p0_1, p0_2, p0_3, p0_4, p0_5, p0_6, p0_7, p0_8, p0_9, (p0_10_n, (fun i => Rii.enc (p0_10_g i)))), (p1_0, p1_1, p1_2, p1_3, p1_4, p1_5, p1_6, p1_7, p1_8, p1_9, (p1_10_n, (fun i => Rii.enc (p1_10_g i))))) =
  bif (p0_0 == p1_0) then
    bif ((p0_1 == p1_1) && ((p0_2 == p1_2) && true)) then
      bif ((p0_3 == p1_3) && ((p0_4 == p1_4) && true)) then
        bif (p0_5 == p1_5) then
          bif (p0_6 == p1_6) then
            bif (p0_7 == p1_7) then
              (shape.Same.f ((p0_8, p0_9, (p0_10_n, (fun i => Rii.enc (p0_10_g i)))), (p1_8, p1_9, (p1_10_n, (fun i => Rii.enc (p1_10_g i)))))).bind fun r1 =>
              some r1
            else
            some false
          else
          some false
        else
        some false
      else
      some false
    else
    some false
  else
  some false := by kernel_rfl
/-! ### slices.Equal[[]bagatelle/api.Joint,bagatelle/api.Joint] -/
noncomputable def slices.Equal_lJoint_Joint.cs : List (Nat × Fw.Summ) := []
theorem slices.Equal_lJoint_Joint.cs_ok : SumsOk Try.prog slices.Equal_lJoint_Joint.cs := .nil
def slices.Equal_lJoint_Joint.hs : List (Nat × LHint) := [(0, { mat := [], live := [0, 1, 12, 13], ren := [] })]
noncomputable def slices.Equal_lJoint_Joint.G : Ctx := ⟨Try.prog, sumAt slices.Equal_lJoint_Joint.cs, lookH slices.Equal_lJoint_Joint.hs⟩
noncomputable def slices.Equal_lJoint_Joint.g (k0 : Nat) (x : ((Nat × (Nat → List AV)) × (Nat × (Nat → List AV)))) : Option Bool := evF slices.Equal_lJoint_Joint.G k0 Try.f59 ((tCons (tL 8) (tOne (tL 8))).enc x) tB.dec
noncomputable def slices.Equal_lJoint_Joint.f (x : ((Nat × (Nat → List AV)) × (Nat × (Nat → List AV)))) : Option Bool := slices.Equal_lJoint_Joint.g (1000000) x
noncomputable def slices.Equal_lJoint_Joint.s : Fw.Summ := .mk' (tCons (tL 8) (tOne (tL 8))) tB slices.Equal_lJoint_Joint.f
theorem slices.Equal_lJoint_Joint.ok : slices.Equal_lJoint_Joint.s.Ok Try.prog 59 :=
  summ_ok (hint := lookH slices.Equal_lJoint_Joint.hs) (fn := Try.f59) (fun x => 1000000) slices.Equal_lJoint_Joint.cs_ok (by kernel_rfl) (by kernel_rfl) (by kernel_rfl) (by kernel_rfl) (tCons_ok (tL_ok _) (tOne_ok (tL_ok _))) tB_ok (fun _ => rfl)
noncomputable def slices.Equal_lJoint_Joint.l0 (k0 k1 : Nat) (v1 : Nat) (v2 : Nat → List AV) (v3 : Nat) (v4 : Nat → List AV) (v5 : Int) (v6 : Int) : Option Bool :=
  evLoop (lookH slices.Equal_lJoint_Joint.hs 0) 0 (ev slices.Equal_lJoint_Joint.G k0 (codeAt [1, 1, 0, 1, 0, 0] (bodyOf Try.f59)) 0) k1
  ⟨[.lst 8 v1 none v2, .lst 8 v3 none v4, .top, .top, .top, .top, .top, .top, .top, .top, .top, .top, .val (.int .i64 v5), .val (.int .i64 v6), .top, .top, .top, .top, .top, .top, .top, .top, .top, .top, .top, .top], []⟩
  (kBlock 0 (kSeq slices.Equal_lJoint_Joint.G k0 (codeAt [1, 1, 1] (bodyOf Try.f59)) 0 (kFin slices.Equal_lJoint_Joint.G Try.f59 tB.dec)))
theorem slices.Equal_lJoint_Joint.l0_eq (k0 k1 : Nat) (v1 : Nat) (v2 : Nat → (Int × Int × Int × Int × Int × Int × Int × Int)) (v3 : Nat) (v4 : Nat → (Int × Int × Int × Int × Int × Int × Int × Int)) (v5 : Int) (v6 : Int) : slices.Equal_lJoint_Joint.l0 k0 (k1 + 1) v1 (fun i => Riiiiiiii.enc (v2 i)) v3 (fun i => Riiiiiiii.enc (v4 i)) v5 v6 =
  bif (decide (v6 < v5)) then
    bif ((decide (0 ≤ v6)) && (decide (v6 < ((v1 : Nat) : Int)))) then
    bif ((decide (0 ≤ v6)) && (decide (v6 < ((v3 : Nat) : Int)))) then
    bif (!(((v2 (Int.toNat v6)).1 == (v4 (Int.toNat v6)).1) && (((v2 (Int.toNat v6)).2.1 == (v4 (Int.toNat v6)).2.1) && (((v2 (Int.toNat v6)).2.2.1 == (v4 (Int.toNat v6)).2.2.1) && ((((v2 (Int.toNat v6)).2.2.2.1 == (v4 (Int.toNat v6)).2.2.2.1) && (((v2 (Int.toNat v6)).2.2.2.2.1 == (v4 (Int.toNat v6)).2.2.2.2.1) && true)) && ((((v2 (Int.toNat v6)).2.2.2.2.2.1 == (v4 (Int.toNat v6)).2.2.2.2.2.1) && (((v2 (Int.toNat v6)).2.2.2.2.2.2.1 == (v4 (Int.toNat v6)).2.2.2.2.2.2.1) && true)) && (((v2 (Int.toNat v6)).2.2.2.2.2.2.2 == (v4 (Int.toNat v6)).2.2.2.2.2.2.2) && true))))))) then
      some false
    else
    slices.Equal_lJoint_Joint.l0 k0 k1 v1 (fun i => Riiiiiiii.enc (v2 i)) v3 (fun i => Riiiiiiii.enc (v4 i)) v5 (IntKind.i64.wrap (v6 + 1))
    else none
    else none
  else
  some true := by kernel_rfl
theorem slices.Equal_lJoint_Joint.eq (k0 : Nat) (p0_n : Nat) (p0_g : Nat → (Int × Int × Int × Int × Int × Int × Int × Int)) (p1_n : Nat) (p1_g : Nat → (Int × Int × Int × Int × Int × Int × Int × Int)) : slices.Equal_lJoint_Joint.g k0 ((p0_n, (fun i => Riiiiiiii.enc (p0_g i))), (p1_n, (fun i => Riiiiiiii.enc (p1_g i)))) =
  bif (((p0_n : Nat) : Int) != ((p1_n : Nat) : Int)) then
    some false
  else
  slices.Equal_lJoint_Joint.l0 k0 k0 p0_n (fun i => Riiiiiiii.enc (p0_g i)) p1_n (fun i => Riiiiiiii.enc (p1_g i)) ((p0_n : Nat) : Int) 0 := by kernel_rfl
/-! ### slices.Equal[[]bagatelle/api.Contact,bagatelle/api.Contact] -/
noncomputable def slices.Equal_lContact_Contact.cs : List (Nat × Fw.Summ) := []
theorem slices.Equal_lContact_Contact.cs_ok : SumsOk Try.prog slices.Equal_lContact_Contact.cs := .nil
def slices.Equal_lContact_Contact.hs : List (Nat × LHint) := [(0, { mat := [], live := [0, 1, 12, 13], ren := [] })]
noncomputable def slices.Equal_lContact_Contact.G : Ctx := ⟨Try.prog, sumAt slices.Equal_lContact_Contact.cs, lookH slices.Equal_lContact_Contact.hs⟩
noncomputable def slices.Equal_lContact_Contact.g (k0 : Nat) (x : ((Nat × (Nat → List AV)) × (Nat × (Nat → List AV)))) : Option Bool := evF slices.Equal_lContact_Contact.G k0 Try.f60 ((tCons (tL 5) (tOne (tL 5))).enc x) tB.dec
noncomputable def slices.Equal_lContact_Contact.f (x : ((Nat × (Nat → List AV)) × (Nat × (Nat → List AV)))) : Option Bool := slices.Equal_lContact_Contact.g (1000000) x
noncomputable def slices.Equal_lContact_Contact.s : Fw.Summ := .mk' (tCons (tL 5) (tOne (tL 5))) tB slices.Equal_lContact_Contact.f
theorem slices.Equal_lContact_Contact.ok : slices.Equal_lContact_Contact.s.Ok Try.prog 60 :=
  summ_ok (hint := lookH slices.Equal_lContact_Contact.hs) (fn := Try.f60) (fun x => 1000000) slices.Equal_lContact_Contact.cs_ok (by kernel_rfl) (by kernel_rfl) (by kernel_rfl) (by kernel_rfl) (tCons_ok (tL_ok _) (tOne_ok (tL_ok _))) tB_ok (fun _ => rfl)
noncomputable def slices.Equal_lContact_Contact.l0 (k0 k1 : Nat) (v1 : Nat) (v2 : Nat → List AV) (v3 : Nat) (v4 : Nat → List AV) (v5 : Int) (v6 : Int) : Option Bool :=
  evLoop (lookH slices.Equal_lContact_Contact.hs 0) 0 (ev slices.Equal_lContact_Contact.G k0 (codeAt [1, 1, 0, 1, 0, 0] (bodyOf Try.f60)) 0) k1
  ⟨[.lst 5 v1 none v2, .lst 5 v3 none v4, .top, .top, .top, .top, .top, .top, .top, .top, .top, .top, .val (.int .i64 v5), .val (.int .i64 v6), .top, .top, .top, .top, .top, .top, .top, .top, .top, .top, .top, .top], []⟩
  (kBlock 0 (kSeq slices.Equal_lContact_Contact.G k0 (codeAt [1, 1, 1] (bodyOf Try.f60)) 0 (kFin slices.Equal_lContact_Contact.G Try.f60 tB.dec)))
theorem slices.Equal_lContact_Contact.l0_eq (k0 k1 : Nat) (v1 : Nat) (v2 : Nat → (Int × Int × Int × Int × Int)) (v3 : Nat) (v4 : Nat → (Int × Int × Int × Int × Int)) (v5 : Int) (v6 : Int) : slices.Equal_lContact_Contact.l0 k0 (k1 + 1) v1 (fun i => Riiiii.enc (v2 i)) v3 (fun i => Riiiii.enc (v4 i)) v5 v6 =
  bif (decide (v6 < v5)) then
    bif ((decide (0 ≤ v6)) && (decide (v6 < ((v1 : Nat) : Int)))) then
    bif ((decide (0 ≤ v6)) && (decide (v6 < ((v3 : Nat) : Int)))) then
    bif (!(((v2 (Int.toNat v6)).1 == (v4 (Int.toNat v6)).1) && (((v2 (Int.toNat v6)).2.1 == (v4 (Int.toNat v6)).2.1) && (((v2 (Int.toNat v6)).2.2.1 == (v4 (Int.toNat v6)).2.2.1) && (((v2 (Int.toNat v6)).2.2.2.1 == (v4 (Int.toNat v6)).2.2.2.1) && (((v2 (Int.toNat v6)).2.2.2.2 == (v4 (Int.toNat v6)).2.2.2.2) && true)))))) then
      some false
    else
    slices.Equal_lContact_Contact.l0 k0 k1 v1 (fun i => Riiiii.enc (v2 i)) v3 (fun i => Riiiii.enc (v4 i)) v5 (IntKind.i64.wrap (v6 + 1))
    else none
    else none
  else
  some true := by kernel_rfl
theorem slices.Equal_lContact_Contact.eq (k0 : Nat) (p0_n : Nat) (p0_g : Nat → (Int × Int × Int × Int × Int)) (p1_n : Nat) (p1_g : Nat → (Int × Int × Int × Int × Int)) : slices.Equal_lContact_Contact.g k0 ((p0_n, (fun i => Riiiii.enc (p0_g i))), (p1_n, (fun i => Riiiii.enc (p1_g i)))) =
  bif (((p0_n : Nat) : Int) != ((p1_n : Nat) : Int)) then
    some false
  else
  slices.Equal_lContact_Contact.l0 k0 k0 p0_n (fun i => Riiiii.enc (p0_g i)) p1_n (fun i => Riiiii.enc (p1_g i)) ((p0_n : Nat) : Int) 0 := by kernel_rfl
/-! ### slices.EqualFunc[[]bagatelle/api.Body,[]bagatelle/api.Body,bagatelle/api.Body,bagatelle/api.Body] -/
noncomputable def slices.EqualFunc_lBody_lBody_Body_Body.cs : List (Nat × Fw.Summ) := [(58, world.sameBody.s)]
theorem slices.EqualFunc_lBody_lBody_Body_Body.cs_ok : SumsOk Try.prog slices.EqualFunc_lBody_lBody_Body_Body.cs := .cons world.sameBody.ok (.nil)
def slices.EqualFunc_lBody_lBody_Body_Body.hs : List (Nat × LHint) := [(0, { mat := [], live := [1, 2, 15, 16, 17], ren := [] })]
noncomputable def slices.EqualFunc_lBody_lBody_Body_Body.G : Ctx := ⟨Try.prog, sumAt slices.EqualFunc_lBody_lBody_Body_Body.cs, lookH slices.EqualFunc_lBody_lBody_Body_Body.hs⟩
noncomputable def slices.EqualFunc_lBody_lBody_Body_Body.g (k0 : Nat) (x : ((Nat × (Nat → List AV)) × (Nat × (Nat → List AV)) × Unit)) : Option Bool := evF slices.EqualFunc_lBody_lBody_Body_Body.G k0 Try.f57 ((tCons (tL 11) (tCons (tL 11) (tOne (tF 58 tNil)))).enc x) tB.dec
noncomputable def slices.EqualFunc_lBody_lBody_Body_Body.f (x : ((Nat × (Nat → List AV)) × (Nat × (Nat → List AV)) × Unit)) : Option Bool := slices.EqualFunc_lBody_lBody_Body_Body.g (1000000) x
noncomputable def slices.EqualFunc_lBody_lBody_Body_Body.s : Fw.Summ := .mk' (tCons (tL 11) (tCons (tL 11) (tOne (tF 58 tNil)))) tB slices.EqualFunc_lBody_lBody_Body_Body.f
theorem slices.EqualFunc_lBody_lBody_Body_Body.ok : slices.EqualFunc_lBody_lBody_Body_Body.s.Ok Try.prog 57 :=
  summ_ok (hint := lookH slices.EqualFunc_lBody_lBody_Body_Body.hs) (fn := Try.f57) (fun x => 1000000) slices.EqualFunc_lBody_lBody_Body_Body.cs_ok (by kernel_rfl) (by kernel_rfl) (by kernel_rfl) (by kernel_rfl) (tCons_ok (tL_ok _) (tCons_ok (tL_ok _) (tOne_ok (tF_ok _ tNil_ok)))) tB_ok (fun _ => rfl)
noncomputable def slices.EqualFunc_lBody_lBody_Body_Body.l0 (k0 k1 : Nat) (v1 : Nat) (v2 : Nat → List AV) (v3 : Nat) (v4 : Nat → List AV) (v5 : Int) (v6 : Int) : Option Bool :=
  evLoop (lookH slices.EqualFunc_lBody_lBody_Body_Body.hs 0) 0 (ev slices.EqualFunc_lBody_lBody_Body_Body.G k0 (codeAt [1, 1, 0, 1, 0, 0] (bodyOf Try.f57)) 0) k1
  ⟨[.top, .lst 11 v1 none v2, .fn 58 [], .top, .top, .top, .top, .top, .top, .top, .top, .top, .top, .top, .top, .lst 11 v3 none v4, .val (.int .i64 v5), .val (.int .i64 v6), .top, .top, .top, .top, .top, .top, .top, .top, .top, .top, .top, .top, .top, .top], []⟩
  (kBlock 0 (kSeq slices.EqualFunc_lBody_lBody_Body_Body.G k0 (codeAt [1, 1, 1] (bodyOf Try.f57)) 0 (kFin slices.EqualFunc_lBody_lBody_Body_Body.G Try.f57 tB.dec)))
theorem slices.EqualFunc_lBody_lBody_Body_Body.l0_eq (k0 k1 : Nat) (v1 : Nat) (v2 : Nat → (Int × Int × Int × Int × Int × Int × Int × Int × Int × Int × (Nat × (Nat → List AV)))) (v3 : Nat) (v4 : Nat → (Int × Int × Int × Int × Int × Int × Int × Int × Int × Int × (Nat × (Nat → List AV)))) (v5 : Int) (v6 : Int) : slices.EqualFunc_lBody_lBody_Body_Body.l0 k0 (k1 + 1) v1 (fun i => RiiiiiiiiiiL2.enc (v2 i)) v3 (fun i => RiiiiiiiiiiL2.enc (v4 i)) v5 v6 =
  bif (decide (v6 < v5)) then
    bif ((decide (0 ≤ v6)) && (decide (v6 < ((v3 : Nat) : Int)))) then
    bif ((decide (0 ≤ v6)) && (decide (v6 < ((v1 : Nat) : Int)))) then
    (world.sameBody.f (((v4 (Int.toNat v6)).1, (v4 (Int.toNat v6)).2.1, (v4 (Int.toNat v6)).2.2.1, (v4 (Int.toNat v6)).2.2.2.1, (v4 (Int.toNat v6)).2.2.2.2.1, (v4 (Int.toNat v6)).2.2.2.2.2.1, (v4 (Int.toNat v6)).2.2.2.2.2.2.1, (v4 (Int.toNat v6)).2.2.2.2.2.2.2.1, (v4 (Int.toNat v6)).2.2.2.2.2.2.2.2.1, (v4 (Int.toNat v6)).2.2.2.2.2.2.2.2.2.1, ((v4 (Int.toNat v6)).2.2.2.2.2.2.2.2.2.2.1, (v4 (Int.toNat v6)).2.2.2.2.2.2.2.2.2.2.2)), ((v2 (Int.toNat v6)).1, (v2 (Int.toNat v6)).2.1, (v2 (Int.toNat v6)).2.2.1, (v2 (Int.toNat v6)).2.2.2.1, (v2 (Int.toNat v6)).2.2.2.2.1, (v2 (Int.toNat v6)).2.2.2.2.2.1, (v2 (Int.toNat v6)).2.2.2.2.2.2.1, (v2 (Int.toNat v6)).2.2.2.2.2.2.2.1, (v2 (Int.toNat v6)).2.2.2.2.2.2.2.2.1, (v2 (Int.toNat v6)).2.2.2.2.2.2.2.2.2.1, ((v2 (Int.toNat v6)).2.2.2.2.2.2.2.2.2.2.1, (v2 (Int.toNat v6)).2.2.2.2.2.2.2.2.2.2.2)))).bind fun r1 =>
    bif (!r1) then
      some false
    else
    slices.EqualFunc_lBody_lBody_Body_Body.l0 k0 k1 v1 (fun i => RiiiiiiiiiiL2.enc (v2 i)) v3 (fun i => RiiiiiiiiiiL2.enc (v4 i)) v5 (IntKind.i64.wrap (v6 + 1))
    else none
    else none
  else
  some true := by kernel_rfl
theorem slices.EqualFunc_lBody_lBody_Body_Body.eq (k0 : Nat) (p0_n : Nat) (p0_g : Nat → (Int × Int × Int × Int × Int × Int × Int × Int × Int × Int × (Nat × (Nat → List AV)))) (p1_n : Nat) (p1_g : Nat → (Int × Int × Int × Int × Int × Int × Int × Int × Int × Int × (Nat × (Nat → List AV)))) : slices.EqualFunc_lBody_lBody_Body_Body.g k0 ((p0_n, (fun i => RiiiiiiiiiiL2.enc (p0_g i))), (p1_n, (fun i => RiiiiiiiiiiL2.enc (p1_g i))), ()) =
  bif (((p0_n : Nat) : Int) != ((p1_n : Nat) : Int)) then
    some false
  else
  slices.EqualFunc_lBody_lBody_Body_Body.l0 k0 k0 p1_n (fun i => RiiiiiiiiiiL2.enc (p1_g i)) p0_n (fun i => RiiiiiiiiiiL2.enc (p0_g i)) ((p0_n : Nat) : Int) 0 := by kernel_rfl
/-! ### bagatelle/world.Same -/
noncomputable def world.Same.cs : List (Nat × Fw.Summ) := [(57, slices.EqualFunc_lBody_lBody_Body_Body.s), (59, slices.Equal_lJoint_Joint.s), (60, slices.Equal_lContact_Contact.s)]
theorem world.Same.cs_ok : SumsOk Try.prog world.Same.cs := .cons slices.EqualFunc_lBody_lBody_Body_Body.ok (.cons slices.Equal_lJoint_Joint.ok (.cons slices.Equal_lContact_Contact.ok (.nil)))
def world.Same.hs : List (Nat × LHint) := []
noncomputable def world.Same.G : Ctx := ⟨Try.prog, sumAt world.Same.cs, lookH world.Same.hs⟩
noncomputable def world.Same.f (x : ((Int × Int × Int × Int × Int × (Nat × (Nat → List AV)) × (Nat × (Nat → List AV)) × (Nat × (Nat → List AV))) × (Int × Int × Int × Int × Int × (Nat × (Nat → List AV)) × (Nat × (Nat → List AV)) × (Nat × (Nat → List AV))))) : Option Bool := evF world.Same.G 0 Try.f25 ((tCons (tG (tCons (tI .i64) (tCons (tI .i64) (tCons (tI .i64) (tCons (tI .i64) (tCons (tI .i64) (tCons (tL 11) (tCons (tL 8) (tOne (tL 5)))))))))) (tOne (tG (tCons (tI .i64) (tCons (tI .i64) (tCons (tI .i64) (tCons (tI .i64) (tCons (tI .i64) (tCons (tL 11) (tCons (tL 8) (tOne (tL 5)))))))))))).enc x) tB.dec
noncomputable def world.Same.s : Fw.Summ := .mk' (tCons (tG (tCons (tI .i64) (tCons (tI .i64) (tCons (tI .i64) (tCons (tI .i64) (tCons (tI .i64) (tCons (tL 11) (tCons (tL 8) (tOne (tL 5)))))))))) (tOne (tG (tCons (tI .i64) (tCons (tI .i64) (tCons (tI .i64) (tCons (tI .i64) (tCons (tI .i64) (tCons (tL 11) (tCons (tL 8) (tOne (tL 5)))))))))))) tB world.Same.f
theorem world.Same.ok : world.Same.s.Ok Try.prog 25 :=
  summ_ok (hint := lookH world.Same.hs) (fn := Try.f25) (fun x => 0) world.Same.cs_ok (by kernel_rfl) (by kernel_rfl) (by kernel_rfl) (by kernel_rfl) (tCons_ok (tG_ok (tCons_ok (tI_ok _) (tCons_ok (tI_ok _) (tCons_ok (tI_ok _) (tCons_ok (tI_ok _) (tCons_ok (tI_ok _) (tCons_ok (tL_ok _) (tCons_ok (tL_ok _) (tOne_ok (tL_ok _)))))))))) (tOne_ok (tG_ok (tCons_ok (tI_ok _) (tCons_ok (tI_ok _) (tCons_ok (tI_ok _) (tCons_ok (tI_ok _) (tCons_ok (tI_ok _) (tCons_ok (tL_ok _) (tCons_ok (tL_ok _) (tOne_ok (tL_ok _)))))))))))) tB_ok (fun _ => rfl)
theorem world.Same.eq (p0_0 : Int) (p0_1 : Int) (p0_2 : Int) (p0_3 : Int) (p0_4 : Int) (p0_5_n : Nat) (p0_5_g : Nat → (Int × Int × Int × Int × Int × Int × Int × Int × Int × Int × (Nat × (Nat → List AV)))) (p0_6_n : Nat) (p0_6_g : Nat → (Int × Int × Int × Int × Int × Int × Int × Int)) (p0_7_n : Nat) (p0_7_g : Nat → (Int × Int × Int × Int × Int)) (p1_0 : Int) (p1_1 : Int) (p1_2 : Int) (p1_3 : Int) (p1_4 : Int) (p1_5_n : Nat) (p1_5_g : Nat → (Int × Int × Int × Int × Int × Int × Int × Int × Int × Int × (Nat × (Nat → List AV)))) (p1_6_n : Nat) (p1_6_g : Nat → (Int × Int × Int × Int × Int × Int × Int × Int)) (p1_7_n : Nat) (p1_7_g : Nat → (Int × Int × Int × Int × Int)) : world.Same.f ((p0_0, p0_1, p0_2, p0_3, p0_4, (p0_5_n, (fun i => RiiiiiiiiiiL2.enc (p0_5_g i))), (p0_6_n, (fun i => Riiiiiiii.enc (p0_6_g i))), (p0_7_n, (fun i => Riiiii.enc (p0_7_g i)))), (p1_0, p1_1, p1_2, p1_3, p1_4, (p1_5_n, (fun i => RiiiiiiiiiiL2.enc (p1_5_g i))), (p1_6_n, (fun i => Riiiiiiii.enc (p1_6_g i))), (p1_7_n, (fun i => Riiiii.enc (p1_7_g i))))) =
  bif (p0_0 != p1_0) then
    some false
  else
  bif (p0_1 != p1_1) then
    some false
  else
  bif (p0_2 != p1_2) then
    some false
  else
  bif (!((p0_3 == p1_3) && ((p0_4 == p1_4) && true))) then
    some false
  else
  (slices.EqualFunc_lBody_lBody_Body_Body.f ((p0_5_n, (fun i => RiiiiiiiiiiL2.enc (p0_5_g i))), (p1_5_n, (fun i => RiiiiiiiiiiL2.enc (p1_5_g i))), ())).bind fun r1 =>
  bif r1 then
    (slices.Equal_lJoint_Joint.f ((p0_6_n, (fun i => Riiiiiiii.enc (p0_6_g i))), (p1_6_n, (fun i => Riiiiiiii.enc (p1_6_g i))))).bind fun r2 =>
    bif r2 then
      (slices.Equal_lContact_Contact.f ((p0_7_n, (fun i => Riiiii.enc (p0_7_g i))), (p1_7_n, (fun i => Riiiii.enc (p1_7_g i))))).bind fun r3 =>
      some r3
    else
    some false
  else
  some false := by kernel_rfl
/-! ### slices.BinarySearchFunc[[]bagatelle/api.Contact,bagatelle/api.Contact,bagatelle/api.Contact] -/
noncomputable def slices.BinarySearchFunc_lContact_Contact_Contact.cs : List (Nat × Fw.Summ) := [(39, world.order.s)]
theorem slices.BinarySearchFunc_lContact_Contact_Contact.cs_ok : SumsOk Try.prog slices.BinarySearchFunc_lContact_Contact_Contact.cs := .cons world.order.ok (.nil)
def slices.BinarySearchFunc_lContact_Contact_Contact.hs : List (Nat × LHint) := [(0, { mat := [], live := [0, 2, 4, 8, 9, 10], ren := [] })]
noncomputable def slices.BinarySearchFunc_lContact_Contact_Contact.G : Ctx := ⟨Try.prog, sumAt slices.BinarySearchFunc_lContact_Contact_Contact.cs, lookH slices.BinarySearchFunc_lContact_Contact_Contact.hs⟩
noncomputable def slices.BinarySearchFunc_lContact_Contact_Contact.g (k0 : Nat) (x : ((Nat × (Nat → List AV)) × (Int × Int × Int × Int × Int) × Unit)) : Option (Int × Bool) := evF slices.BinarySearchFunc_lContact_Contact_Contact.G k0 Try.f52 ((tCons (tL 5) (tCons (tG (tCons (tI .i64) (tCons (tI .i64) (tCons (tI .i64) (tCons (tI .i64) (tOne (tI .i64))))))) (tOne (tF 39 tNil)))).enc x) (tT (tCons (tI .i64) (tOne tB))).dec
noncomputable def slices.BinarySearchFunc_lContact_Contact_Contact.f (x : ((Nat × (Nat → List AV)) × (Int × Int × Int × Int × Int) × Unit)) : Option (Int × Bool) := slices.BinarySearchFunc_lContact_Contact_Contact.g (1000000) x
noncomputable def slices.BinarySearchFunc_lContact_Contact_Contact.s : Fw.Summ := .mk' (tCons (tL 5) (tCons (tG (tCons (tI .i64) (tCons (tI .i64) (tCons (tI .i64) (tCons (tI .i64) (tOne (tI .i64))))))) (tOne (tF 39 tNil)))) (tT (tCons (tI .i64) (tOne tB))) slices.BinarySearchFunc_lContact_Contact_Contact.f
theorem slices.BinarySearchFunc_lContact_Contact_Contact.ok : slices.BinarySearchFunc_lContact_Contact_Contact.s.Ok Try.prog 52 :=
  summ_ok (hint := lookH slices.BinarySearchFunc_lContact_Contact_Contact.hs) (fn := Try.f52) (fun x => 1000000) slices.BinarySearchFunc_lContact_Contact_Contact.cs_ok (by kernel_rfl) (by kernel_rfl) (by kernel_rfl) (by kernel_rfl) (tCons_ok (tL_ok _) (tCons_ok (tG_ok (tCons_ok (tI_ok _) (tCons_ok (tI_ok _) (tCons_ok (tI_ok _) (tCons_ok (tI_ok _) (tOne_ok (tI_ok _))))))) (tOne_ok (tF_ok _ tNil_ok)))) (tT_ok (tCons_ok (tI_ok _) (tOne_ok tB_ok))) (fun _ => rfl)
noncomputable def slices.BinarySearchFunc_lContact_Contact_Contact.l0 (k0 k1 : Nat) (v1 : Int) (v2 : Int) (v3 : Int) (v4 : Int) (v5 : Int) (v6 : Nat) (v7 : Nat → List AV) (v8 : Int) (v9 : Int) (v10 : Int) : Option (Int × Bool) :=
  evLoop (lookH slices.BinarySearchFunc_lContact_Contact_Contact.hs 0) 1 (ev slices.BinarySearchFunc_lContact_Contact_Contact.G k0 (codeAt [1, 1, 1, 0, 0, 0] (bodyOf Try.f52)) 0) k1
  ⟨[.lst 5 v6 none v7, .top, .fn 39 [], .top, .ptr 0 0 0, .top, .top, .top, .val (.int .i64 v8), .val (.int .i64 v9), .val (.int .i64 v10), .top, .top, .top, .top, .top, .top, .top, .top, .top, .top, .top, .top, .top, .top, .top, .top, .top, .top, .top, .top, .top, .top, .top, .top, .top, .top, .top, .top, .top, .top, .top, .top, .top, .top, .top, .top, .top, .top], [.live ⟨false, 69, 5, 1, fun _ => [.val (.int .i64 v1), .val (.int .i64 v2), .val (.int .i64 v3), .val (.int .i64 v4), .val (.int .i64 v5)], none⟩]⟩
  (kBlock 0 (kSeq slices.BinarySearchFunc_lContact_Contact_Contact.G k0 (codeAt [1, 1, 1, 1] (bodyOf Try.f52)) 0 (kFin slices.BinarySearchFunc_lContact_Contact_Contact.G Try.f52 (tT (tCons (tI .i64) (tOne tB))).dec)))
theorem slices.BinarySearchFunc_lContact_Contact_Contact.l0_eq (k0 k1 : Nat) (v1 : Int) (v2 : Int) (v3 : Int) (v4 : Int) (v5 : Int) (v6 : Nat) (v7 : Nat → (Int × Int × Int × Int × Int)) (v8 : Int) (v9 : Int) (v10 : Int) : slices.BinarySearchFunc_lContact_Contact_Contact.l0 k0 (k1 + 1) v1 v2 v3 v4 v5 v6 (fun i => Riiiii.enc (v7 i)) v8 v9 v10 =
  bif (decide (v9 < v10)) then
    bif ((decide (0 ≤ (IntKind.i64.wrap (Int.fdiv (IntKind.u64.wrap (IntKind.i64.wrap (v9 + v10))) (2 ^ 1))))) && (decide ((IntKind.i64.wrap (Int.fdiv (IntKind.u64.wrap (IntKind.i64.wrap (v9 + v10))) (2 ^ 1))) < ((v6 : Nat) : Int)))) then
    (world.order.f (((v7 (Int.toNat (IntKind.i64.wrap (Int.fdiv (IntKind.u64.wrap (IntKind.i64.wrap (v9 + v10))) (2 ^ 1))))).1, (v7 (Int.toNat (IntKind.i64.wrap (Int.fdiv (IntKind.u64.wrap (IntKind.i64.wrap (v9 + v10))) (2 ^ 1))))).2.1, (v7 (Int.toNat (IntKind.i64.wrap (Int.fdiv (IntKind.u64.wrap (IntKind.i64.wrap (v9 + v10))) (2 ^ 1))))).2.2.1, (v7 (Int.toNat (IntKind.i64.wrap (Int.fdiv (IntKind.u64.wrap (IntKind.i64.wrap (v9 + v10))) (2 ^ 1))))).2.2.2.1, (v7 (Int.toNat (IntKind.i64.wrap (Int.fdiv (IntKind.u64.wrap (IntKind.i64.wrap (v9 + v10))) (2 ^ 1))))).2.2.2.2), (v1, v2, v3, v4, v5))).bind fun r1 =>
    bif (decide (r1 < 0)) then
      slices.BinarySearchFunc_lContact_Contact_Contact.l0 k0 k1 v1 v2 v3 v4 v5 v6 (fun i => Riiiii.enc (v7 i)) v8 (IntKind.i64.wrap ((IntKind.i64.wrap (Int.fdiv (IntKind.u64.wrap (IntKind.i64.wrap (v9 + v10))) (2 ^ 1))) + 1)) v10
    else
    slices.BinarySearchFunc_lContact_Contact_Contact.l0 k0 k1 v1 v2 v3 v4 v5 v6 (fun i => Riiiii.enc (v7 i)) v8 v9 (IntKind.i64.wrap (Int.fdiv (IntKind.u64.wrap (IntKind.i64.wrap (v9 + v10))) (2 ^ 1)))
    else none
  else
  bif (decide (v9 < v8)) then
    bif ((decide (0 ≤ v9)) && (decide (v9 < ((v6 : Nat) : Int)))) then
    (world.order.f (((v7 (Int.toNat v9)).1, (v7 (Int.toNat v9)).2.1, (v7 (Int.toNat v9)).2.2.1, (v7 (Int.toNat v9)).2.2.2.1, (v7 (Int.toNat v9)).2.2.2.2), (v1, v2, v3, v4, v5))).bind fun r2 =>
    some (v9, (r2 == 0))
    else none
  else
  some (v9, false) := by kernel_rfl
theorem slices.BinarySearchFunc_lContact_Contact_Contact.eq (k0 : Nat) (p0_n : Nat) (p0_g : Nat → (Int × Int × Int × Int × Int)) (p1_0 : Int) (p1_1 : Int) (p1_2 : Int) (p1_3 : Int) (p1_4 : Int) : slices.BinarySearchFunc_lContact_Contact_Contact.g k0 ((p0_n, (fun i => Riiiii.enc (p0_g i))), (p1_0, p1_1, p1_2, p1_3, p1_4), ()) =
  slices.BinarySearchFunc_lContact_Contact_Contact.l0 k0 k0 p1_0 p1_1 p1_2 p1_3 p1_4 p0_n (fun i => Riiiii.enc (p0_g i)) ((p0_n : Nat) : Int) 0 ((p0_n : Nat) : Int) := by kernel_rfl
/-! ### bagatelle/world.Contact -/
noncomputable def world.Contact.cs : List (Nat × Fw.Summ) := [(52, slices.BinarySearchFunc_lContact_Contact_Contact.s)]
theorem world.Contact.cs_ok : SumsOk Try.prog world.Contact.cs := .cons slices.BinarySearchFunc_lContact_Contact_Contact.ok (.nil)
def world.Contact.hs : List (Nat × LHint) := []
noncomputable def world.Contact.G : Ctx := ⟨Try.prog, sumAt world.Contact.cs, lookH world.Contact.hs⟩
noncomputable def world.Contact.f (x : ((Int × Int × Int × Int × Int × (Nat × (Nat → List AV)) × (Nat × (Nat → List AV)) × (Nat × (Nat → List AV))) × Int × Int × Int)) : Option ((Int × Int × Int × Int × Int) × Bool) := evF world.Contact.G 0 Try.f21 ((tCons (tG (tCons (tI .i64) (tCons (tI .i64) (tCons (tI .i64) (tCons (tI .i64) (tCons (tI .i64) (tCons (tL 11) (tCons (tL 8) (tOne (tL 5)))))))))) (tCons (tI .i64) (tCons (tI .i64) (tOne (tI .i64))))).enc x) (tT (tCons (tG (tCons (tI .i64) (tCons (tI .i64) (tCons (tI .i64) (tCons (tI .i64) (tOne (tI .i64))))))) (tOne tB))).dec
noncomputable def world.Contact.s : Fw.Summ := .mk' (tCons (tG (tCons (tI .i64) (tCons (tI .i64) (tCons (tI .i64) (tCons (tI .i64) (tCons (tI .i64) (tCons (tL 11) (tCons (tL 8) (tOne (tL 5)))))))))) (tCons (tI .i64) (tCons (tI .i64) (tOne (tI .i64))))) (tT (tCons (tG (tCons (tI .i64) (tCons (tI .i64) (tCons (tI .i64) (tCons (tI .i64) (tOne (tI .i64))))))) (tOne tB))) world.Contact.f
theorem world.Contact.ok : world.Contact.s.Ok Try.prog 21 :=
  summ_ok (hint := lookH world.Contact.hs) (fn := Try.f21) (fun x => 0) world.Contact.cs_ok (by kernel_rfl) (by kernel_rfl) (by kernel_rfl) (by kernel_rfl) (tCons_ok (tG_ok (tCons_ok (tI_ok _) (tCons_ok (tI_ok _) (tCons_ok (tI_ok _) (tCons_ok (tI_ok _) (tCons_ok (tI_ok _) (tCons_ok (tL_ok _) (tCons_ok (tL_ok _) (tOne_ok (tL_ok _)))))))))) (tCons_ok (tI_ok _) (tCons_ok (tI_ok _) (tOne_ok (tI_ok _))))) (tT_ok (tCons_ok (tG_ok (tCons_ok (tI_ok _) (tCons_ok (tI_ok _) (tCons_ok (tI_ok _) (tCons_ok (tI_ok _) (tOne_ok (tI_ok _))))))) (tOne_ok tB_ok))) (fun _ => rfl)
theorem world.Contact.eq (p0_0 : Int) (p0_1 : Int) (p0_2 : Int) (p0_3 : Int) (p0_4 : Int) (p0_5_n : Nat) (p0_5_g : Nat → (Int × Int × Int × Int × Int × Int × Int × Int × Int × Int × (Nat × (Nat → List AV)))) (p0_6_n : Nat) (p0_6_g : Nat → (Int × Int × Int × Int × Int × Int × Int × Int)) (p0_7_n : Nat) (p0_7_g : Nat → (Int × Int × Int × Int × Int)) (p1 : Int) (p2 : Int) (p3 : Int) : world.Contact.f ((p0_0, p0_1, p0_2, p0_3, p0_4, (p0_5_n, (fun i => RiiiiiiiiiiL2.enc (p0_5_g i))), (p0_6_n, (fun i => Riiiiiiii.enc (p0_6_g i))), (p0_7_n, (fun i => Riiiii.enc (p0_7_g i)))), p1, p2, p3) =
  (slices.BinarySearchFunc_lContact_Contact_Contact.f ((p0_7_n, (fun i => Riiiii.enc (p0_7_g i))), (p1, p2, p3, 0, 0), ())).bind fun r1 =>
  bif (!r1.2) then
    some ((0, 0, 0, 0, 0), false)
  else
  bif ((decide (0 ≤ r1.1)) && (decide (r1.1 < ((p0_7_n : Nat) : Int)))) then
  some (((p0_7_g (Int.toNat r1.1)).1, (p0_7_g (Int.toNat r1.1)).2.1, (p0_7_g (Int.toNat r1.1)).2.2.1, (p0_7_g (Int.toNat r1.1)).2.2.2.1, (p0_7_g (Int.toNat r1.1)).2.2.2.2), true)
  else none := by kernel_rfl
/-! ### bagatelle/world.New -/
noncomputable def world.New_z.cs : List (Nat × Fw.Summ) := []
theorem world.New_z.cs_ok : SumsOk Try.prog world.New_z.cs := .nil
def world.New_z.hs : List (Nat × LHint) := []
noncomputable def world.New_z.G : Ctx := ⟨Try.prog, sumAt world.New_z.cs, lookH world.New_z.hs⟩
noncomputable def world.New_z.f (x : Unit) : Option (Int × Int × Int × Int × Int × (Nat × (Nat → (Int × Int × Int × Int × Int × Int × Int × Int × Int × Int × (Nat × (Nat → List AV))))) × (Nat × (Nat → (Int × Int × Int × Int × Int × Int × Int × Int))) × Unit) := evF world.New_z.G 0 Try.f9 (tNil.enc x) (tG (tCons (tI .i64) (tCons (tI .i64) (tCons (tI .i64) (tCons (tI .i64) (tCons (tI .i64) (tCons (tTL RiiiiiiiiiiL2 11 (0, 0, 0, 0, 0, 0, 0, 0, 0, 0, (0, fun _ => []))) (tCons (tTL Riiiiiiii 8 (0, 0, 0, 0, 0, 0, 0, 0)) (tOne tNS))))))))).dec
noncomputable def world.New_z.s : Fw.Summ := .mk' tNil (tG (tCons (tI .i64) (tCons (tI .i64) (tCons (tI .i64) (tCons (tI .i64) (tCons (tI .i64) (tCons (tTL RiiiiiiiiiiL2 11 (0, 0, 0, 0, 0, 0, 0, 0, 0, 0, (0, fun _ => []))) (tCons (tTL Riiiiiiii 8 (0, 0, 0, 0, 0, 0, 0, 0)) (tOne tNS))))))))) world.New_z.f
theorem world.New_z.ok : world.New_z.s.Ok Try.prog 9 :=
  summ_ok (hint := lookH world.New_z.hs) (fn := Try.f9) (fun x => 0) world.New_z.cs_ok (by kernel_rfl) (by kernel_rfl) (by kernel_rfl) (by kernel_rfl) tNil_ok (tG_ok (tCons_ok (tI_ok _) (tCons_ok (tI_ok _) (tCons_ok (tI_ok _) (tCons_ok (tI_ok _) (tCons_ok (tI_ok _) (tCons_ok (tTL_ok RiiiiiiiiiiL2_ok _ _) (tCons_ok (tTL_ok Riiiiiiii_ok _ _) (tOne_ok tNS_ok))))))))) (fun _ => rfl)
theorem world.New_z.eq  : world.New_z.f () =
  (tG (tCons (tI .i64) (tCons (tI .i64) (tCons (tI .i64) (tCons (tI .i64) (tCons (tI .i64) (tCons (tTL RiiiiiiiiiiL2 11 (0, 0, 0, 0, 0, 0, 0, 0, 0, 0, (0, fun _ => []))) (tCons (tTL Riiiiiiii 8 (0, 0, 0, 0, 0, 0, 0, 0)) (tOne tNS))))))))).dec (.agg [.val (.int .i64 0), .val (.int .i64 1), .val (.int .i64 1), .val (.int .i64 0), .val (.int .i64 0), .val (.slice none 0 0), .val (.slice none 0 0), .val (.slice none 0 0)]) := by kernel_rfl
/-! ### bagatelle/world.AddJoint -/
noncomputable def world.AddJoint_z.cs : List (Nat × Fw.Summ) := [(23, world.RightJoint.s), (16, world.Body.s), (61, slices.Clip_lJoint_Joint.s)]
theorem world.AddJoint_z.cs_ok : SumsOk Try.prog world.AddJoint_z.cs := .cons world.RightJoint.ok (.cons world.Body.ok (.cons slices.Clip_lJoint_Joint.ok (.nil)))
noncomputable def world.AddJoint_z.G : Ctx := ⟨Try.prog, sumAt world.AddJoint_z.cs, fun _ => { unroll := true }⟩
noncomputable def world.AddJoint_z.f (x : (Int × Int × Int × Int × Int × (Nat × (Nat → List AV)) × (Nat × (Nat → List AV)) × Unit) × (Int × Int × Int × Int × Int × Int × Int × Int)) : Option ((Int × Int) × (Int × Int × Int × Int × Int × (Nat × (Nat → (Int × Int × Int × Int × Int × Int × Int × Int × Int × Int × (Nat × (Nat → List AV))))) × (Nat × (Nat → (Int × Int × Int × Int × Int × Int × Int × Int))) × Unit)) := evG world.AddJoint_z.G Try.f26 31 ((tCons (tI .i64) (tCons (tI .i64) (tCons (tI .i64) (tCons (tI .i64) (tCons (tI .i64) (tCons (tL 11) (tCons (tL 8) (tOne tNS)))))))).enc x.1) ((tOne (tG (tCons (tI .i64) (tCons (tI .i64) (tCons (tI .i64) (tCons (tI .i64) (tCons (tI .i64) (tCons (tI .i64) (tCons (tI .i64) (tOne (tI .i64))))))))))).enc x.2) (outD (tT (tCons (tI .i64) (tOne (tI .i64)))) (tCons (tI .i64) (tCons (tI .i64) (tCons (tI .i64) (tCons (tI .i64) (tCons (tI .i64) (tCons (tTL RiiiiiiiiiiL2 11 (0, 0, 0, 0, 0, 0, 0, 0, 0, 0, (0, fun _ => []))) (tCons (tTL Riiiiiiii 8 (0, 0, 0, 0, 0, 0, 0, 0)) (tOne tNS)))))))))
noncomputable def world.AddJoint_z.s : Fw.Summ := .mkO2 31 (tCons (tI .i64) (tCons (tI .i64) (tCons (tI .i64) (tCons (tI .i64) (tCons (tI .i64) (tCons (tL 11) (tCons (tL 8) (tOne tNS)))))))) (tCons (tI .i64) (tCons (tI .i64) (tCons (tI .i64) (tCons (tI .i64) (tCons (tI .i64) (tCons (tTL RiiiiiiiiiiL2 11 (0, 0, 0, 0, 0, 0, 0, 0, 0, 0, (0, fun _ => []))) (tCons (tTL Riiiiiiii 8 (0, 0, 0, 0, 0, 0, 0, 0)) (tOne tNS)))))))) (tOne (tG (tCons (tI .i64) (tCons (tI .i64) (tCons (tI .i64) (tCons (tI .i64) (tCons (tI .i64) (tCons (tI .i64) (tCons (tI .i64) (tOne (tI .i64))))))))))) (tT (tCons (tI .i64) (tOne (tI .i64)))) world.AddJoint_z.f
theorem world.AddJoint_z.ok : world.AddJoint_z.s.Ok Try.prog 26 :=
  osumm2_ok (fn := Try.f26) world.AddJoint_z.cs_ok (by kernel_rfl) (by kernel_rfl) (by kernel_rfl) (by kernel_rfl) (tCons_ok (tI_ok _) (tCons_ok (tI_ok _) (tCons_ok (tI_ok _) (tCons_ok (tI_ok _) (tCons_ok (tI_ok _) (tCons_ok (tL_ok _) (tCons_ok (tL_ok _) (tOne_ok tNS_ok)))))))) (tCons_ok (tI_ok _) (tCons_ok (tI_ok _) (tCons_ok (tI_ok _) (tCons_ok (tI_ok _) (tCons_ok (tI_ok _) (tCons_ok (tTL_ok RiiiiiiiiiiL2_ok _ _) (tCons_ok (tTL_ok Riiiiiiii_ok _ _) (tOne_ok tNS_ok)))))))) (tOne_ok (tG_ok (tCons_ok (tI_ok _) (tCons_ok (tI_ok _) (tCons_ok (tI_ok _) (tCons_ok (tI_ok _) (tCons_ok (tI_ok _) (tCons_ok (tI_ok _) (tCons_ok (tI_ok _) (tOne_ok (tI_ok _))))))))))) (tT_ok (tCons_ok (tI_ok _) (tOne_ok (tI_ok _)))) (fun _ => rfl)
theorem world.AddJoint_z.eq (o_0 : Int) (o_1 : Int) (o_2 : Int) (o_3 : Int) (o_4 : Int) (o_5_n : Nat) (o_5_g : Nat → (Int × Int × Int × Int × Int × Int × Int × Int × Int × Int × (Nat × (Nat → List AV)))) (o_6_n : Nat) (o_6_g : Nat → (Int × Int × Int × Int × Int × Int × Int × Int)) (p0_0 : Int) (p0_1 : Int) (p0_2 : Int) (p0_3 : Int) (p0_4 : Int) (p0_5 : Int) (p0_6 : Int) (p0_7 : Int) : world.AddJoint_z.f ((o_0, o_1, o_2, o_3, o_4, (o_5_n, (fun i => RiiiiiiiiiiL2.enc (o_5_g i))), (o_6_n, (fun i => Riiiiiiii.enc (o_6_g i))), ()), (p0_0, p0_1, p0_2, p0_3, p0_4, p0_5, p0_6, p0_7)) =
  (world.RightJoint.f (p0_0, p0_1, p0_2, p0_3, p0_4, p0_5, p0_6, p0_7)).bind fun r1 =>
  bif (!r1) then
    outD (tT (tCons (tI .i64) (tOne (tI .i64)))) (tCons (tI .i64) (tCons (tI .i64) (tCons (tI .i64) (tCons (tI .i64) (tCons (tI .i64) (tCons (tTL RiiiiiiiiiiL2 11 (0, 0, 0, 0, 0, 0, 0, 0, 0, 0, (0, fun _ => []))) (tCons (tTL Riiiiiiii 8 (0, 0, 0, 0, 0, 0, 0, 0)) (tOne tNS)))))))) (.tup [.val (.int .i64 0), .val (.int .i64 2)]) [.val (.int .i64 o_0), .val (.int .i64 o_1), .val (.int .i64 o_2), .val (.int .i64 o_3), .val (.int .i64 o_4), .lst 11 o_5_n none (fun i => RiiiiiiiiiiL2.enc (o_5_g i)), .lst 8 o_6_n none (fun i => Riiiiiiii.enc (o_6_g i)), .val (.slice none 0 0)]
  else
  (world.Body.f ((o_0, o_1, o_2, o_3, o_4, (o_5_n, (fun i => RiiiiiiiiiiL2.enc (o_5_g i))), (o_6_n, (fun i => Riiiiiiii.enc (o_6_g i))), (0, fun _ => [])), p0_1)).bind fun r2 =>
  (world.Body.f ((o_0, o_1, o_2, o_3, o_4, (o_5_n, (fun i => RiiiiiiiiiiL2.enc (o_5_g i))), (o_6_n, (fun i => Riiiiiiii.enc (o_6_g i))), (0, fun _ => [])), p0_2)).bind fun r3 =>
  bif (!r2.2) then
    outD (tT (tCons (tI .i64) (tOne (tI .i64)))) (tCons (tI .i64) (tCons (tI .i64) (tCons (tI .i64) (tCons (tI .i64) (tCons (tI .i64) (tCons (tTL RiiiiiiiiiiL2 11 (0, 0, 0, 0, 0, 0, 0, 0, 0, 0, (0, fun _ => []))) (tCons (tTL Riiiiiiii 8 (0, 0, 0, 0, 0, 0, 0, 0)) (tOne tNS)))))))) (.tup [.val (.int .i64 0), .val (.int .i64 4)]) [.val (.int .i64 o_0), .val (.int .i64 o_1), .val (.int .i64 o_2), .val (.int .i64 o_3), .val (.int .i64 o_4), .lst 11 o_5_n none (fun i => RiiiiiiiiiiL2.enc (o_5_g i)), .lst 8 o_6_n none (fun i => Riiiiiiii.enc (o_6_g i)), .val (.slice none 0 0)]
  else
  bif (!r3.2) then
    outD (tT (tCons (tI .i64) (tOne (tI .i64)))) (tCons (tI .i64) (tCons (tI .i64) (tCons (tI .i64) (tCons (tI .i64) (tCons (tI .i64) (tCons (tTL RiiiiiiiiiiL2 11 (0, 0, 0, 0, 0, 0, 0, 0, 0, 0, (0, fun _ => []))) (tCons (tTL Riiiiiiii 8 (0, 0, 0, 0, 0, 0, 0, 0)) (tOne tNS)))))))) (.tup [.val (.int .i64 0), .val (.int .i64 4)]) [.val (.int .i64 o_0), .val (.int .i64 o_1), .val (.int .i64 o_2), .val (.int .i64 o_3), .val (.int .i64 o_4), .lst 11 o_5_n none (fun i => RiiiiiiiiiiL2.enc (o_5_g i)), .lst 8 o_6_n none (fun i => Riiiiiiii.enc (o_6_g i)), .val (.slice none 0 0)]
  else
  bif (decide (((o_6_n : Nat) : Int) ≥ 1024)) then
    outD (tT (tCons (tI .i64) (tOne (tI .i64)))) (tCons (tI .i64) (tCons (tI .i64) (tCons (tI .i64) (tCons (tI .i64) (tCons (tI .i64) (tCons (tTL RiiiiiiiiiiL2 11 (0, 0, 0, 0, 0, 0, 0, 0, 0, 0, (0, fun _ => []))) (tCons (tTL Riiiiiiii 8 (0, 0, 0, 0, 0, 0, 0, 0)) (tOne tNS)))))))) (.tup [.val (.int .i64 0), .val (.int .i64 3)]) [.val (.int .i64 o_0), .val (.int .i64 o_1), .val (.int .i64 o_2), .val (.int .i64 o_3), .val (.int .i64 o_4), .lst 11 o_5_n none (fun i => RiiiiiiiiiiL2.enc (o_5_g i)), .lst 8 o_6_n none (fun i => Riiiiiiii.enc (o_6_g i)), .val (.slice none 0 0)]
  else
  bif (decide (o_2 ≥ 4611686018427387904)) then
    outD (tT (tCons (tI .i64) (tOne (tI .i64)))) (tCons (tI .i64) (tCons (tI .i64) (tCons (tI .i64) (tCons (tI .i64) (tCons (tI .i64) (tCons (tTL RiiiiiiiiiiL2 11 (0, 0, 0, 0, 0, 0, 0, 0, 0, 0, (0, fun _ => []))) (tCons (tTL Riiiiiiii 8 (0, 0, 0, 0, 0, 0, 0, 0)) (tOne tNS)))))))) (.tup [.val (.int .i64 0), .val (.int .i64 3)]) [.val (.int .i64 o_0), .val (.int .i64 o_1), .val (.int .i64 o_2), .val (.int .i64 o_3), .val (.int .i64 o_4), .lst 11 o_5_n none (fun i => RiiiiiiiiiiL2.enc (o_5_g i)), .lst 8 o_6_n none (fun i => Riiiiiiii.enc (o_6_g i)), .val (.slice none 0 0)]
  else
  (slices.Clip_lJoint_Joint.f (o_6_n, (fun i => Riiiiiiii.enc (o_6_g i)))).bind fun r4 =>
  bif ((decide (r4.1 ≤ r4.1)) && (decide ((r4.1 + 1) * 64 ≤ 140737488355328))) then
  outD (tT (tCons (tI .i64) (tOne (tI .i64)))) (tCons (tI .i64) (tCons (tI .i64) (tCons (tI .i64) (tCons (tI .i64) (tCons (tI .i64) (tCons (tTL RiiiiiiiiiiL2 11 (0, 0, 0, 0, 0, 0, 0, 0, 0, 0, (0, fun _ => []))) (tCons (tTL Riiiiiiii 8 (0, 0, 0, 0, 0, 0, 0, 0)) (tOne tNS)))))))) (.tup [.val (.int .i64 o_2), .val (.int .i64 0)]) [.val (.int .i64 o_0), .val (.int .i64 o_1), .val (.int .i64 (IntKind.i64.wrap (o_2 + 1))), .val (.int .i64 o_3), .val (.int .i64 o_4), .lst 11 o_5_n none (fun i => RiiiiiiiiiiL2.enc (o_5_g i)), .lst 8 (r4.1 + 1) none (fun i => cloL (if i = r4.1 then Riiiiiiii.enc (o_2, p0_1, p0_2, p0_3, p0_4, p0_5, p0_6, p0_7) else Riiiiiiii.enc (r4.2 i))), .val (.slice none 0 0)]
  else none := by kernel_rfl
/-! ### slices.Clone[[]bagatelle/api.Contact,bagatelle/api.Contact] -/
noncomputable def slices.Clone_lContact_Contact_in.cs : List (Nat × Fw.Summ) := []
theorem slices.Clone_lContact_Contact_in.cs_ok : SumsOk Try.prog slices.Clone_lContact_Contact_in.cs := .nil
noncomputable def slices.Clone_lContact_Contact_in.G : Ctx := ⟨Try.prog, sumAt slices.Clone_lContact_Contact_in.cs, fun _ => { unroll := true }⟩
noncomputable def slices.Clone_lContact_Contact_in.s : Fw.Summ := .mkI slices.Clone_lContact_Contact_in.G Try.f56
theorem slices.Clone_lContact_Contact_in.ok : slices.Clone_lContact_Contact_in.s.Ok Try.prog 56 := isumm_ok slices.Clone_lContact_Contact_in.cs_ok (by kernel_rfl) (by kernel_rfl) (by kernel_rfl) (by kernel_rfl)
/-! ### slices.IndexFunc[[]bagatelle/api.Contact,bagatelle/api.Contact] -/
noncomputable def slices.IndexFunc_lContact_Contact_in.cs : List (Nat × Fw.Summ) := []
theorem slices.IndexFunc_lContact_Contact_in.cs_ok : SumsOk Try.prog slices.IndexFunc_lContact_Contact_in.cs := .nil
noncomputable def slices.IndexFunc_lContact_Contact_in.G : Ctx := ⟨Try.prog, sumAt slices.IndexFunc_lContact_Contact_in.cs, fun _ => { unroll := true }⟩
noncomputable def slices.IndexFunc_lContact_Contact_in.s : Fw.Summ := .mkI slices.IndexFunc_lContact_Contact_in.G Try.f86
theorem slices.IndexFunc_lContact_Contact_in.ok : slices.IndexFunc_lContact_Contact_in.s.Ok Try.prog 86 := isumm_ok slices.IndexFunc_lContact_Contact_in.cs_ok (by kernel_rfl) (by kernel_rfl) (by kernel_rfl) (by kernel_rfl)
/-! ### slices.DeleteFunc[[]bagatelle/api.Contact,bagatelle/api.Contact] -/
noncomputable def slices.DeleteFunc_lContact_Contact_in.cs : List (Nat × Fw.Summ) := [(86, slices.IndexFunc_lContact_Contact_in.s)]
theorem slices.DeleteFunc_lContact_Contact_in.cs_ok : SumsOk Try.prog slices.DeleteFunc_lContact_Contact_in.cs := .cons slices.IndexFunc_lContact_Contact_in.ok (.nil)
noncomputable def slices.DeleteFunc_lContact_Contact_in.G : Ctx := ⟨Try.prog, sumAt slices.DeleteFunc_lContact_Contact_in.cs, fun _ => { unroll := true }⟩
noncomputable def slices.DeleteFunc_lContact_Contact_in.s : Fw.Summ := .mkI slices.DeleteFunc_lContact_Contact_in.G Try.f76
theorem slices.DeleteFunc_lContact_Contact_in.ok : slices.DeleteFunc_lContact_Contact_in.s.Ok Try.prog 76 := isumm_ok slices.DeleteFunc_lContact_Contact_in.cs_ok (by kernel_rfl) (by kernel_rfl) (by kernel_rfl) (by kernel_rfl)
/-! ### bagatelle/world.without[bagatelle/api.Contact] -/
noncomputable def world.without_Contact_in.cs : List (Nat × Fw.Summ) := [(56, slices.Clone_lContact_Contact_in.s), (76, slices.DeleteFunc_lContact_Contact_in.s)]
theorem world.without_Contact_in.cs_ok : SumsOk Try.prog world.without_Contact_in.cs := .cons slices.Clone_lContact_Contact_in.ok (.cons slices.DeleteFunc_lContact_Contact_in.ok (.nil))
noncomputable def world.without_Contact_in.G : Ctx := ⟨Try.prog, sumAt world.without_Contact_in.cs, fun _ => { unroll := true }⟩
noncomputable def world.without_Contact_in.s : Fw.Summ := .mkI world.without_Contact_in.G Try.f48
theorem world.without_Contact_in.ok : world.without_Contact_in.s.Ok Try.prog 48 := isumm_ok world.without_Contact_in.cs_ok (by kernel_rfl) (by kernel_rfl) (by kernel_rfl) (by kernel_rfl)
/-! ### bagatelle/world.RemoveBody -/
noncomputable def world.RemoveBody_z.cs : List (Nat × Fw.Summ) := [(16, world.Body.s), (44, world.without_Body.s), (46, world.without_Joint.s), (48, world.without_Contact_in.s)]
theorem world.RemoveBody_z.cs_ok : SumsOk Try.prog world.RemoveBody_z.cs := .cons world.Body.ok (.cons world.without_Body.ok (.cons world.without_Joint.ok (.cons world.without_Contact_in.ok (.nil))))
noncomputable def world.RemoveBody_z.G : Ctx := ⟨Try.prog, sumAt world.RemoveBody_z.cs, fun _ => { unroll := true }⟩
noncomputable def world.RemoveBody_z.f (x : (Int × Int × Int × Int × Int × (Nat × (Nat → List AV)) × (Nat × (Nat → List AV)) × Unit) × Int) : Option (Bool × (Int × Int × Int × Int × Int × (Nat × (Nat → (Int × Int × Int × Int × Int × Int × Int × Int × Int × Int × (Nat × (Nat → List AV))))) × (Nat × (Nat → (Int × Int × Int × Int × Int × Int × Int × Int))) × Unit)) := evG world.RemoveBody_z.G Try.f19 31 ((tCons (tI .i64) (tCons (tI .i64) (tCons (tI .i64) (tCons (tI .i64) (tCons (tI .i64) (tCons (tL 11) (tCons (tL 8) (tOne tNS)))))))).enc x.1) ((tOne (tI .i64)).enc x.2) (outD tB (tCons (tI .i64) (tCons (tI .i64) (tCons (tI .i64) (tCons (tI .i64) (tCons (tI .i64) (tCons (tTL RiiiiiiiiiiL2 11 (0, 0, 0, 0, 0, 0, 0, 0, 0, 0, (0, fun _ => []))) (tCons (tTL Riiiiiiii 8 (0, 0, 0, 0, 0, 0, 0, 0)) (tOne tNS)))))))))
noncomputable def world.RemoveBody_z.s : Fw.Summ := .mkO2 31 (tCons (tI .i64) (tCons (tI .i64) (tCons (tI .i64) (tCons (tI .i64) (tCons (tI .i64) (tCons (tL 11) (tCons (tL 8) (tOne tNS)))))))) (tCons (tI .i64) (tCons (tI .i64) (tCons (tI .i64) (tCons (tI .i64) (tCons (tI .i64) (tCons (tTL RiiiiiiiiiiL2 11 (0, 0, 0, 0, 0, 0, 0, 0, 0, 0, (0, fun _ => []))) (tCons (tTL Riiiiiiii 8 (0, 0, 0, 0, 0, 0, 0, 0)) (tOne tNS)))))))) (tOne (tI .i64)) tB world.RemoveBody_z.f
theorem world.RemoveBody_z.ok : world.RemoveBody_z.s.Ok Try.prog 19 :=
  osumm2_ok (fn := Try.f19) world.RemoveBody_z.cs_ok (by kernel_rfl) (by kernel_rfl) (by kernel_rfl) (by kernel_rfl) (tCons_ok (tI_ok _) (tCons_ok (tI_ok _) (tCons_ok (tI_ok _) (tCons_ok (tI_ok _) (tCons_ok (tI_ok _) (tCons_ok (tL_ok _) (tCons_ok (tL_ok _) (tOne_ok tNS_ok)))))))) (tCons_ok (tI_ok _) (tCons_ok (tI_ok _) (tCons_ok (tI_ok _) (tCons_ok (tI_ok _) (tCons_ok (tI_ok _) (tCons_ok (tTL_ok RiiiiiiiiiiL2_ok _ _) (tCons_ok (tTL_ok Riiiiiiii_ok _ _) (tOne_ok tNS_ok)))))))) (tOne_ok (tI_ok _)) tB_ok (fun _ => rfl)
theorem world.RemoveBody_z.eq (o_0 : Int) (o_1 : Int) (o_2 : Int) (o_3 : Int) (o_4 : Int) (o_5_n : Nat) (o_5_g : Nat → (Int × Int × Int × Int × Int × Int × Int × Int × Int × Int × (Nat × (Nat → List AV)))) (o_6_n : Nat) (o_6_g : Nat → (Int × Int × Int × Int × Int × Int × Int × Int)) (p0 : Int) : world.RemoveBody_z.f ((o_0, o_1, o_2, o_3, o_4, (o_5_n, (fun i => RiiiiiiiiiiL2.enc (o_5_g i))), (o_6_n, (fun i => Riiiiiiii.enc (o_6_g i))), ()), p0) =
  (world.Body.f ((o_0, o_1, o_2, o_3, o_4, (o_5_n, (fun i => RiiiiiiiiiiL2.enc (o_5_g i))), (o_6_n, (fun i => Riiiiiiii.enc (o_6_g i))), (0, fun _ => [])), p0)).bind fun r1 =>
  bif (!r1.2) then
    outD tB (tCons (tI .i64) (tCons (tI .i64) (tCons (tI .i64) (tCons (tI .i64) (tCons (tI .i64) (tCons (tTL RiiiiiiiiiiL2 11 (0, 0, 0, 0, 0, 0, 0, 0, 0, 0, (0, fun _ => []))) (tCons (tTL Riiiiiiii 8 (0, 0, 0, 0, 0, 0, 0, 0)) (tOne tNS)))))))) (.val (.bool false)) [.val (.int .i64 o_0), .val (.int .i64 o_1), .val (.int .i64 o_2), .val (.int .i64 o_3), .val (.int .i64 o_4), .lst 11 o_5_n none (fun i => RiiiiiiiiiiL2.enc (o_5_g i)), .lst 8 o_6_n none (fun i => Riiiiiiii.enc (o_6_g i)), .val (.slice none 0 0)]
  else
  (world.without_Body.f ((o_5_n, (fun i => RiiiiiiiiiiL2.enc (o_5_g i))), p0)).bind fun r2 =>
  (world.without_Joint.f ((o_6_n, (fun i => Riiiiiiii.enc (o_6_g i))), p0)).bind fun r3 =>
  outD tB (tCons (tI .i64) (tCons (tI .i64) (tCons (tI .i64) (tCons (tI .i64) (tCons (tI .i64) (tCons (tTL RiiiiiiiiiiL2 11 (0, 0, 0, 0, 0, 0, 0, 0, 0, 0, (0, fun _ => []))) (tCons (tTL Riiiiiiii 8 (0, 0, 0, 0, 0, 0, 0, 0)) (tOne tNS)))))))) (.val (.bool true)) [.val (.int .i64 o_0), .val (.int .i64 o_1), .val (.int .i64 o_2), .val (.int .i64 o_3), .val (.int .i64 o_4), .lst 11 r2.1 none (fun i => RiiiiiiiiiiL2.enc (r2.2 i)), .lst 8 r3.1 none (fun i => Riiiiiiii.enc (r3.2 i)), .val (.slice none 0 0)] := by kernel_rfl
/-! ### bagatelle/world.RemoveJoint -/
noncomputable def world.RemoveJoint_z.cs : List (Nat × Fw.Summ) := [(17, world.Joint.s), (46, world.without_Joint_v1.s)]
theorem world.RemoveJoint_z.cs_ok : SumsOk Try.prog world.RemoveJoint_z.cs := .cons world.Joint.ok (.cons world.without_Joint_v1.ok (.nil))
noncomputable def world.RemoveJoint_z.G : Ctx := ⟨Try.prog, sumAt world.RemoveJoint_z.cs, fun _ => { unroll := true }⟩
noncomputable def world.RemoveJoint_z.f (x : (Int × Int × Int × Int × Int × (Nat × (Nat → List AV)) × (Nat × (Nat → List AV)) × Unit) × Int) : Option (Bool × (Int × Int × Int × Int × Int × (Nat × (Nat → (Int × Int × Int × Int × Int × Int × Int × Int × Int × Int × (Nat × (Nat → List AV))))) × (Nat × (Nat → (Int × Int × Int × Int × Int × Int × Int × Int))) × Unit)) := evG world.RemoveJoint_z.G Try.f27 31 ((tCons (tI .i64) (tCons (tI .i64) (tCons (tI .i64) (tCons (tI .i64) (tCons (tI .i64) (tCons (tL 11) (tCons (tL 8) (tOne tNS)))))))).enc x.1) ((tOne (tI .i64)).enc x.2) (outD tB (tCons (tI .i64) (tCons (tI .i64) (tCons (tI .i64) (tCons (tI .i64) (tCons (tI .i64) (tCons (tTL RiiiiiiiiiiL2 11 (0, 0, 0, 0, 0, 0, 0, 0, 0, 0, (0, fun _ => []))) (tCons (tTL Riiiiiiii 8 (0, 0, 0, 0, 0, 0, 0, 0)) (tOne tNS)))))))))
noncomputable def world.RemoveJoint_z.s : Fw.Summ := .mkO2 31 (tCons (tI .i64) (tCons (tI .i64) (tCons (tI .i64) (tCons (tI .i64) (tCons (tI .i64) (tCons (tL 11) (tCons (tL 8) (tOne tNS)))))))) (tCons (tI .i64) (tCons (tI .i64) (tCons (tI .i64) (tCons (tI .i64) (tCons (tI .i64) (tCons (tTL RiiiiiiiiiiL2 11 (0, 0, 0, 0, 0, 0, 0, 0, 0, 0, (0, fun _ => []))) (tCons (tTL Riiiiiiii 8 (0, 0, 0, 0, 0, 0, 0, 0)) (tOne tNS)))))))) (tOne (tI .i64)) tB world.RemoveJoint_z.f
theorem world.RemoveJoint_z.ok : world.RemoveJoint_z.s.Ok Try.prog 27 :=
  osumm2_ok (fn := Try.f27) world.RemoveJoint_z.cs_ok (by kernel_rfl) (by kernel_rfl) (by kernel_rfl) (by kernel_rfl) (tCons_ok (tI_ok _) (tCons_ok (tI_ok _) (tCons_ok (tI_ok _) (tCons_ok (tI_ok _) (tCons_ok (tI_ok _) (tCons_ok (tL_ok _) (tCons_ok (tL_ok _) (tOne_ok tNS_ok)))))))) (tCons_ok (tI_ok _) (tCons_ok (tI_ok _) (tCons_ok (tI_ok _) (tCons_ok (tI_ok _) (tCons_ok (tI_ok _) (tCons_ok (tTL_ok RiiiiiiiiiiL2_ok _ _) (tCons_ok (tTL_ok Riiiiiiii_ok _ _) (tOne_ok tNS_ok)))))))) (tOne_ok (tI_ok _)) tB_ok (fun _ => rfl)
theorem world.RemoveJoint_z.eq (o_0 : Int) (o_1 : Int) (o_2 : Int) (o_3 : Int) (o_4 : Int) (o_5_n : Nat) (o_5_g : Nat → (Int × Int × Int × Int × Int × Int × Int × Int × Int × Int × (Nat × (Nat → List AV)))) (o_6_n : Nat) (o_6_g : Nat → (Int × Int × Int × Int × Int × Int × Int × Int)) (p0 : Int) : world.RemoveJoint_z.f ((o_0, o_1, o_2, o_3, o_4, (o_5_n, (fun i => RiiiiiiiiiiL2.enc (o_5_g i))), (o_6_n, (fun i => Riiiiiiii.enc (o_6_g i))), ()), p0) =
  (world.Joint.f ((o_0, o_1, o_2, o_3, o_4, (o_5_n, (fun i => RiiiiiiiiiiL2.enc (o_5_g i))), (o_6_n, (fun i => Riiiiiiii.enc (o_6_g i))), (0, fun _ => [])), p0)).bind fun r1 =>
  bif (!r1.2) then
    outD tB (tCons (tI .i64) (tCons (tI .i64) (tCons (tI .i64) (tCons (tI .i64) (tCons (tI .i64) (tCons (tTL RiiiiiiiiiiL2 11 (0, 0, 0, 0, 0, 0, 0, 0, 0, 0, (0, fun _ => []))) (tCons (tTL Riiiiiiii 8 (0, 0, 0, 0, 0, 0, 0, 0)) (tOne tNS)))))))) (.val (.bool false)) [.val (.int .i64 o_0), .val (.int .i64 o_1), .val (.int .i64 o_2), .val (.int .i64 o_3), .val (.int .i64 o_4), .lst 11 o_5_n none (fun i => RiiiiiiiiiiL2.enc (o_5_g i)), .lst 8 o_6_n none (fun i => Riiiiiiii.enc (o_6_g i)), .val (.slice none 0 0)]
  else
  (world.without_Joint_v1.f ((o_6_n, (fun i => Riiiiiiii.enc (o_6_g i))), p0)).bind fun r2 =>
  outD tB (tCons (tI .i64) (tCons (tI .i64) (tCons (tI .i64) (tCons (tI .i64) (tCons (tI .i64) (tCons (tTL RiiiiiiiiiiL2 11 (0, 0, 0, 0, 0, 0, 0, 0, 0, 0, (0, fun _ => []))) (tCons (tTL Riiiiiiii 8 (0, 0, 0, 0, 0, 0, 0, 0)) (tOne tNS)))))))) (.val (.bool true)) [.val (.int .i64 o_0), .val (.int .i64 o_1), .val (.int .i64 o_2), .val (.int .i64 o_3), .val (.int .i64 o_4), .lst 11 o_5_n none (fun i => RiiiiiiiiiiL2.enc (o_5_g i)), .lst 8 r2.1 none (fun i => Riiiiiiii.enc (r2.2 i)), .val (.slice none 0 0)] := by kernel_rfl
/-! ### bagatelle/world.AddBody -/
noncomputable def world.AddBody_z.cs : List (Nat × Fw.Summ) := [(22, world.RightBody.s), (50, shape.Copy.s), (51, slices.Clip_lBody_Body.s)]
theorem world.AddBody_z.cs_ok : SumsOk Try.prog world.AddBody_z.cs := .cons world.RightBody.ok (.cons shape.Copy.ok (.cons slices.Clip_lBody_Body.ok (.nil)))
noncomputable def world.AddBody_z.G : Ctx := ⟨Try.prog, sumAt world.AddBody_z.cs, fun _ => { unroll := true }⟩
noncomputable def world.AddBody_z.f (x : (Int × Int × Int × Int × Int × (Nat × (Nat → List AV)) × (Nat × (Nat → List AV)) × Unit) × (Int × Int × Int × Int × Int × Int × Int × Int × Int × Int × (Nat × (Nat → List AV)))) : Option ((Int × Int) × (Int × Int × Int × Int × Int × (Nat × (Nat → (Int × Int × Int × Int × Int × Int × Int × Int × Int × Int × (Nat × (Nat → List AV))))) × (Nat × (Nat → (Int × Int × Int × Int × Int × Int × Int × Int))) × Unit)) := evG world.AddBody_z.G Try.f20 31 ((tCons (tI .i64) (tCons (tI .i64) (tCons (tI .i64) (tCons (tI .i64) (tCons (tI .i64) (tCons (tL 11) (tCons (tL 8) (tOne tNS)))))))).enc x.1) ((tOne (tG (tCons (tI .i64) (tCons (tI .i64) (tCons (tI .i64) (tCons (tI .i64) (tCons (tI .i64) (tCons (tI .i64) (tCons (tI .i64) (tCons (tI .i64) (tCons (tI .i64) (tCons (tI .i64) (tOne (tL 2)))))))))))))).enc x.2) (outD (tT (tCons (tI .i64) (tOne (tI .i64)))) (tCons (tI .i64) (tCons (tI .i64) (tCons (tI .i64) (tCons (tI .i64) (tCons (tI .i64) (tCons (tTL RiiiiiiiiiiL2 11 (0, 0, 0, 0, 0, 0, 0, 0, 0, 0, (0, fun _ => []))) (tCons (tTL Riiiiiiii 8 (0, 0, 0, 0, 0, 0, 0, 0)) (tOne tNS)))))))))
noncomputable def world.AddBody_z.s : Fw.Summ := .mkO2 31 (tCons (tI .i64) (tCons (tI .i64) (tCons (tI .i64) (tCons (tI .i64) (tCons (tI .i64) (tCons (tL 11) (tCons (tL 8) (tOne tNS)))))))) (tCons (tI .i64) (tCons (tI .i64) (tCons (tI .i64) (tCons (tI .i64) (tCons (tI .i64) (tCons (tTL RiiiiiiiiiiL2 11 (0, 0, 0, 0, 0, 0, 0, 0, 0, 0, (0, fun _ => []))) (tCons (tTL Riiiiiiii 8 (0, 0, 0, 0, 0, 0, 0, 0)) (tOne tNS)))))))) (tOne (tG (tCons (tI .i64) (tCons (tI .i64) (tCons (tI .i64) (tCons (tI .i64) (tCons (tI .i64) (tCons (tI .i64) (tCons (tI .i64) (tCons (tI .i64) (tCons (tI .i64) (tCons (tI .i64) (tOne (tL 2)))))))))))))) (tT (tCons (tI .i64) (tOne (tI .i64)))) world.AddBody_z.f
theorem world.AddBody_z.ok : world.AddBody_z.s.Ok Try.prog 20 :=
  osumm2_ok (fn := Try.f20) world.AddBody_z.cs_ok (by kernel_rfl) (by kernel_rfl) (by kernel_rfl) (by kernel_rfl) (tCons_ok (tI_ok _) (tCons_ok (tI_ok _) (tCons_ok (tI_ok _) (tCons_ok (tI_ok _) (tCons_ok (tI_ok _) (tCons_ok (tL_ok _) (tCons_ok (tL_ok _) (tOne_ok tNS_ok)))))))) (tCons_ok (tI_ok _) (tCons_ok (tI_ok _) (tCons_ok (tI_ok _) (tCons_ok (tI_ok _) (tCons_ok (tI_ok _) (tCons_ok (tTL_ok RiiiiiiiiiiL2_ok _ _) (tCons_ok (tTL_ok Riiiiiiii_ok _ _) (tOne_ok tNS_ok)))))))) (tOne_ok (tG_ok (tCons_ok (tI_ok _) (tCons_ok (tI_ok _) (tCons_ok (tI_ok _) (tCons_ok (tI_ok _) (tCons_ok (tI_ok _) (tCons_ok (tI_ok _) (tCons_ok (tI_ok _) (tCons_ok (tI_ok _) (tCons_ok (tI_ok _) (tCons_ok (tI_ok _) (tOne_ok (tL_ok _)))))))))))))) (tT_ok (tCons_ok (tI_ok _) (tOne_ok (tI_ok _)))) (fun _ => rfl)
theorem world.AddBody_z.eq (o_0 : Int) (o_1 : Int) (o_2 : Int) (o_3 : Int) (o_4 : Int) (o_5_n : Nat) (o_5_g : Nat → (Int × Int × Int × Int × Int × Int × Int × Int × Int × Int × (Nat × (Nat → List AV)))) (o_6_n : Nat) (o_6_g : Nat → (Int × Int × Int × Int × Int × Int × Int × Int)) (p0_0 : Int) (p0_1 : Int) (p0_2 : Int) (p0_3 : Int) (p0_4 : Int) (p0_5 : Int) (p0_6 : Int) (p0_7 : Int) (p0_8 : Int) (p0_9 : Int) (p0_10_n : Nat) (p0_10_g : Nat → (Int × Int)) : world.AddBody_z.f ((o_0, o_1, o_2, o_3, o_4, (o_5_n, (fun i => RiiiiiiiiiiL2.enc (o_5_g i))), (o_6_n, (fun i => Riiiiiiii.enc (o_6_g i))), ()), (p0_0, p0_1, p0_2, p0_3, p0_4, p0_5, p0_6, p0_7, p0_8, p0_9, (p0_10_n, (fun i => Rii.enc (p0_10_g i))))) =
  (world.RightBody.f (p0_0, p0_1, p0_2, p0_3, p0_4, p0_5, p0_6, p0_7, p0_8, p0_9, (p0_10_n, (fun i => Rii.enc (p0_10_g i))))).bind fun r1 =>
  bif (!r1) then
    outD (tT (tCons (tI .i64) (tOne (tI .i64)))) (tCons (tI .i64) (tCons (tI .i64) (tCons (tI .i64) (tCons (tI .i64) (tCons (tI .i64) (tCons (tTL RiiiiiiiiiiL2 11 (0, 0, 0, 0, 0, 0, 0, 0, 0, 0, (0, fun _ => []))) (tCons (tTL Riiiiiiii 8 (0, 0, 0, 0, 0, 0, 0, 0)) (tOne tNS)))))))) (.tup [.val (.int .i64 0), .val (.int .i64 2)]) [.val (.int .i64 o_0), .val (.int .i64 o_1), .val (.int .i64 o_2), .val (.int .i64 o_3), .val (.int .i64 o_4), .lst 11 o_5_n none (fun i => RiiiiiiiiiiL2.enc (o_5_g i)), .lst 8 o_6_n none (fun i => Riiiiiiii.enc (o_6_g i)), .val (.slice none 0 0)]
  else
  bif (decide (((o_5_n : Nat) : Int) ≥ 1024)) then
    outD (tT (tCons (tI .i64) (tOne (tI .i64)))) (tCons (tI .i64) (tCons (tI .i64) (tCons (tI .i64) (tCons (tI .i64) (tCons (tI .i64) (tCons (tTL RiiiiiiiiiiL2 11 (0, 0, 0, 0, 0, 0, 0, 0, 0, 0, (0, fun _ => []))) (tCons (tTL Riiiiiiii 8 (0, 0, 0, 0, 0, 0, 0, 0)) (tOne tNS)))))))) (.tup [.val (.int .i64 0), .val (.int .i64 3)]) [.val (.int .i64 o_0), .val (.int .i64 o_1), .val (.int .i64 o_2), .val (.int .i64 o_3), .val (.int .i64 o_4), .lst 11 o_5_n none (fun i => RiiiiiiiiiiL2.enc (o_5_g i)), .lst 8 o_6_n none (fun i => Riiiiiiii.enc (o_6_g i)), .val (.slice none 0 0)]
  else
  bif (decide (o_1 ≥ 4611686018427387904)) then
    outD (tT (tCons (tI .i64) (tOne (tI .i64)))) (tCons (tI .i64) (tCons (tI .i64) (tCons (tI .i64) (tCons (tI .i64) (tCons (tI .i64) (tCons (tTL RiiiiiiiiiiL2 11 (0, 0, 0, 0, 0, 0, 0, 0, 0, 0, (0, fun _ => []))) (tCons (tTL Riiiiiiii 8 (0, 0, 0, 0, 0, 0, 0, 0)) (tOne tNS)))))))) (.tup [.val (.int .i64 0), .val (.int .i64 3)]) [.val (.int .i64 o_0), .val (.int .i64 o_1), .val (.int .i64 o_2), .val (.int .i64 o_3), .val (.int .i64 o_4), .lst 11 o_5_n none (fun i => RiiiiiiiiiiL2.enc (o_5_g i)), .lst 8 o_6_n none (fun i => Riiiiiiii.enc (o_6_g i)), .val (.slice none 0 0)]
  else
  (shape.Copy.f (p0_8, p0_9, (p0_10_n, (fun i => Rii.enc (p0_10_g i))))).bind fun r2 =>
  (slices.Clip_lBody_Body.f (o_5_n, (fun i => RiiiiiiiiiiL2.enc (o_5_g i)))).bind fun r3 =>
  bif ((decide (r3.1 ≤ r3.1)) && (decide ((r3.1 + 1) * 104 ≤ 140737488355328))) then
  outD (tT (tCons (tI .i64) (tOne (tI .i64)))) (tCons (tI .i64) (tCons (tI .i64) (tCons (tI .i64) (tCons (tI .i64) (tCons (tI .i64) (tCons (tTL RiiiiiiiiiiL2 11 (0, 0, 0, 0, 0, 0, 0, 0, 0, 0, (0, fun _ => []))) (tCons (tTL Riiiiiiii 8 (0, 0, 0, 0, 0, 0, 0, 0)) (tOne tNS)))))))) (.tup [.val (.int .i64 o_1), .val (.int .i64 0)]) [.val (.int .i64 o_0), .val (.int .i64 (IntKind.i64.wrap (o_1 + 1))), .val (.int .i64 o_2), .val (.int .i64 o_3), .val (.int .i64 o_4), .lst 11 (r3.1 + 1) none (fun i => cloL (if i = r3.1 then RiiiiiiiiiiL2.enc (o_1, p0_1, p0_2, p0_3, p0_4, p0_5, p0_6, p0_7, r2.1, r2.2.1, (r2.2.2.1, (fun i => Rii.enc (r2.2.2.2 i)))) else RiiiiiiiiiiL2.enc (r3.2 i))), .lst 8 o_6_n none (fun i => Riiiiiiii.enc (o_6_g i)), .val (.slice none 0 0)]
  else none := by kernel_rfl
/-! ### (bagatelle/bagatellelaw09.Deed).Do -/
noncomputable def law09.Deed.Do_in.cs : List (Nat × Fw.Summ) := [(11, law09.Deed.Joint.s), (26, world.AddJoint_z.s), (19, world.RemoveBody_z.s), (27, world.RemoveJoint_z.s), (14, law09.Deed.Body.s), (20, world.AddBody_z.s)]
theorem law09.Deed.Do_in.cs_ok : SumsOk Try.prog law09.Deed.Do_in.cs := .cons law09.Deed.Joint.ok (.cons world.AddJoint_z.ok (.cons world.RemoveBody_z.ok (.cons world.RemoveJoint_z.ok (.cons law09.Deed.Body.ok (.cons world.AddBody_z.ok (.nil))))))
noncomputable def law09.Deed.Do_in.G : Ctx := ⟨Try.prog, sumAt law09.Deed.Do_in.cs, fun _ => { unroll := true }⟩
noncomputable def law09.Deed.Do_in.s : Fw.Summ := .mkI law09.Deed.Do_in.G Try.f10
theorem law09.Deed.Do_in.ok : law09.Deed.Do_in.s.Ok Try.prog 10 := isumm_ok law09.Deed.Do_in.cs_ok (by kernel_rfl) (by kernel_rfl) (by kernel_rfl) (by kernel_rfl)
/-! ### bagatelle/bagatellelaw09.Made -/
noncomputable def law09.Made_z.cs : List (Nat × Fw.Summ) := [(9, world.New_z.s), (10, law09.Deed.Do_in.s)]
theorem law09.Made_z.cs_ok : SumsOk Try.prog law09.Made_z.cs := .cons world.New_z.ok (.cons law09.Deed.Do_in.ok (.nil))
def law09.Made_z.hs : List (Nat × LHint) := [(0, { mat := [], live := [4, 5, 14, 15, 16], ren := [] })]
noncomputable def law09.Made_z.G : Ctx := ⟨Try.prog, sumAt law09.Made_z.cs, lookH law09.Made_z.hs⟩
noncomputable def law09.Made_z.g (k0 : Nat) (x : ((Nat × (Nat → List AV)) × Int)) : Option (Int × Int × Int × Int × Int × (Nat × (Nat → (Int × Int × Int × Int × Int × Int × Int × Int × Int × Int × (Nat × (Nat → List AV))))) × (Nat × (Nat → (Int × Int × Int × Int × Int × Int × Int × Int))) × Unit) := evF law09.Made_z.G k0 Try.f18 ((tCons (tL 30) (tOne (tI .i64))).enc x) (tG (tCons (tI .i64) (tCons (tI .i64) (tCons (tI .i64) (tCons (tI .i64) (tCons (tI .i64) (tCons (tTL RiiiiiiiiiiL2 11 (0, 0, 0, 0, 0, 0, 0, 0, 0, 0, (0, fun _ => []))) (tCons (tTL Riiiiiiii 8 (0, 0, 0, 0, 0, 0, 0, 0)) (tOne tNS))))))))).dec
noncomputable def law09.Made_z.f (x : ((Nat × (Nat → List AV)) × Int)) : Option (Int × Int × Int × Int × Int × (Nat × (Nat → (Int × Int × Int × Int × Int × Int × Int × Int × Int × Int × (Nat × (Nat → List AV))))) × (Nat × (Nat → (Int × Int × Int × Int × Int × Int × Int × Int))) × Unit) := law09.Made_z.g (1000000) x
noncomputable def law09.Made_z.s : Fw.Summ := .mk' (tCons (tL 30) (tOne (tI .i64))) (tG (tCons (tI .i64) (tCons (tI .i64) (tCons (tI .i64) (tCons (tI .i64) (tCons (tI .i64) (tCons (tTL RiiiiiiiiiiL2 11 (0, 0, 0, 0, 0, 0, 0, 0, 0, 0, (0, fun _ => []))) (tCons (tTL Riiiiiiii 8 (0, 0, 0, 0, 0, 0, 0, 0)) (tOne tNS))))))))) law09.Made_z.f
theorem law09.Made_z.ok : law09.Made_z.s.Ok Try.prog 18 :=
  summ_ok (hint := lookH law09.Made_z.hs) (fn := Try.f18) (fun x => 1000000) law09.Made_z.cs_ok (by kernel_rfl) (by kernel_rfl) (by kernel_rfl) (by kernel_rfl) (tCons_ok (tL_ok _) (tOne_ok (tI_ok _))) (tG_ok (tCons_ok (tI_ok _) (tCons_ok (tI_ok _) (tCons_ok (tI_ok _) (tCons_ok (tI_ok _) (tCons_ok (tI_ok _) (tCons_ok (tTL_ok RiiiiiiiiiiL2_ok _ _) (tCons_ok (tTL_ok Riiiiiiii_ok _ _) (tOne_ok tNS_ok))))))))) (fun _ => rfl)
noncomputable def law09.Made_z.l0 (k0 k1 : Nat) (v1 : Int) (v2 : Int) (v3 : Int) (v4 : Int) (v5 : Int) (v6 : Nat) (v7 : Nat → List AV) (v8 : Nat) (v9 : Nat → List AV) (v10 : Nat) (v11 : Nat → List AV) (v12 : Int) (v13 : Int) : Option (Int × Int × Int × Int × Int × (Nat × (Nat → (Int × Int × Int × Int × Int × Int × Int × Int × Int × Int × (Nat × (Nat → List AV))))) × (Nat × (Nat → (Int × Int × Int × Int × Int × Int × Int × Int))) × Unit) :=
  evLoop (lookH law09.Made_z.hs 0) 2 (ev law09.Made_z.G k0 (codeAt [1, 1, 0, 1, 0, 0] (bodyOf Try.f18)) 0) k1
  ⟨[.top, .top, .top, .top, .ptr 0 0 0, .ptr 1 0 0, .top, .top, .top, .top, .top, .top, .top, .top, .lst 30 v10 none v11, .val (.int .i64 v12), .val (.int .i64 v13), .top, .top, .top, .top, .top, .top, .top], [.live ⟨false, 31, 8, 1, fun _ => [.val (.int .i64 0), .val (.int .i64 0), .val (.int .i64 0), .val (.int .i64 0), .val (.int .i64 0), .val (.slice none 0 0), .val (.slice none 0 0), .val (.slice none 0 0)], none⟩, .live ⟨false, 31, 8, 1, fun _ => [.val (.int .i64 v1), .val (.int .i64 v2), .val (.int .i64 v3), .val (.int .i64 v4), .val (.int .i64 v5), .lst 11 v6 none v7, .lst 8 v8 none v9, .val (.slice none 0 0)], none⟩]⟩
  (kBlock 0 (kSeq law09.Made_z.G k0 (codeAt [1, 1, 1] (bodyOf Try.f18)) 0 (kFin law09.Made_z.G Try.f18 (tG (tCons (tI .i64) (tCons (tI .i64) (tCons (tI .i64) (tCons (tI .i64) (tCons (tI .i64) (tCons (tTL RiiiiiiiiiiL2 11 (0, 0, 0, 0, 0, 0, 0, 0, 0, 0, (0, fun _ => []))) (tCons (tTL Riiiiiiii 8 (0, 0, 0, 0, 0, 0, 0, 0)) (tOne tNS))))))))).dec)))
theorem law09.Made_z.l0_eq (k0 k1 : Nat) (v1 : Int) (v2 : Int) (v3 : Int) (v4 : Int) (v5 : Int) (v6 : Nat) (v7 : Nat → (Int × Int × Int × Int × Int × Int × Int × Int × Int × Int × (Nat × (Nat → List AV)))) (v8 : Nat) (v9 : Nat → (Int × Int × Int × Int × Int × Int × Int × Int)) (v10 : Nat) (v11 : Nat → (Int × Int × Int × Int × Int × Int × Int × Int × Int × Int × Int × Int × Int × Int × Int × Int × Int × Int × Int × Int × Int × Int × Int × Int × Int × Int × Int × Int × Int × (Nat × (Nat → List AV)))) (v12 : Int) (v13 : Int) : law09.Made_z.l0 k0 (k1 + 1) v1 v2 v3 v4 v5 v6 (fun i => RiiiiiiiiiiL2.enc (v7 i)) v8 (fun i => Riiiiiiii.enc (v9 i)) v10 (fun i => RiiiiiiiiiiiiiiiiiiiiiiiiiiiiiL2.enc (v11 i)) v12 v13 =
  bif (decide (v13 < v12)) then
    bif ((decide (0 ≤ v13)) && (decide (v13 < ((v10 : Nat) : Int)))) then
    bif ((Go.bits .and .i64 (v11 (Int.toNat v13)).1 7) == 4) then
      bif ((Go.bits .and .i64 (v11 (Int.toNat v13)).1 7) == 4) then
        (law09.Deed.Joint.f ((v11 (Int.toNat v13)).1, (v11 (Int.toNat v13)).2.1, (v11 (Int.toNat v13)).2.2.1, (v11 (Int.toNat v13)).2.2.2.1, (v11 (Int.toNat v13)).2.2.2.2.1, (v11 (Int.toNat v13)).2.2.2.2.2.1, (v11 (Int.toNat v13)).2.2.2.2.2.2.1, (v11 (Int.toNat v13)).2.2.2.2.2.2.2.1, (v11 (Int.toNat v13)).2.2.2.2.2.2.2.2.1, (v11 (Int.toNat v13)).2.2.2.2.2.2.2.2.2.1, (v11 (Int.toNat v13)).2.2.2.2.2.2.2.2.2.2.1, (v11 (Int.toNat v13)).2.2.2.2.2.2.2.2.2.2.2.1, (v11 (Int.toNat v13)).2.2.2.2.2.2.2.2.2.2.2.2.1, (v11 (Int.toNat v13)).2.2.2.2.2.2.2.2.2.2.2.2.2.1, (v11 (Int.toNat v13)).2.2.2.2.2.2.2.2.2.2.2.2.2.2.1, (v11 (Int.toNat v13)).2.2.2.2.2.2.2.2.2.2.2.2.2.2.2.1, (v11 (Int.toNat v13)).2.2.2.2.2.2.2.2.2.2.2.2.2.2.2.2.1, (v11 (Int.toNat v13)).2.2.2.2.2.2.2.2.2.2.2.2.2.2.2.2.2.1, (v11 (Int.toNat v13)).2.2.2.2.2.2.2.2.2.2.2.2.2.2.2.2.2.2.1, (v11 (Int.toNat v13)).2.2.2.2.2.2.2.2.2.2.2.2.2.2.2.2.2.2.2.1, (v11 (Int.toNat v13)).2.2.2.2.2.2.2.2.2.2.2.2.2.2.2.2.2.2.2.2.1, (v11 (Int.toNat v13)).2.2.2.2.2.2.2.2.2.2.2.2.2.2.2.2.2.2.2.2.2.1, (v11 (Int.toNat v13)).2.2.2.2.2.2.2.2.2.2.2.2.2.2.2.2.2.2.2.2.2.2.1, (v11 (Int.toNat v13)).2.2.2.2.2.2.2.2.2.2.2.2.2.2.2.2.2.2.2.2.2.2.2.1, (v11 (Int.toNat v13)).2.2.2.2.2.2.2.2.2.2.2.2.2.2.2.2.2.2.2.2.2.2.2.2.1, (v11 (Int.toNat v13)).2.2.2.2.2.2.2.2.2.2.2.2.2.2.2.2.2.2.2.2.2.2.2.2.2.1, (v11 (Int.toNat v13)).2.2.2.2.2.2.2.2.2.2.2.2.2.2.2.2.2.2.2.2.2.2.2.2.2.2.1, (v11 (Int.toNat v13)).2.2.2.2.2.2.2.2.2.2.2.2.2.2.2.2.2.2.2.2.2.2.2.2.2.2.2.1, (v11 (Int.toNat v13)).2.2.2.2.2.2.2.2.2.2.2.2.2.2.2.2.2.2.2.2.2.2.2.2.2.2.2.2.1, ((v11 (Int.toNat v13)).2.2.2.2.2.2.2.2.2.2.2.2.2.2.2.2.2.2.2.2.2.2.2.2.2.2.2.2.2.1, (v11 (Int.toNat v13)).2.2.2.2.2.2.2.2.2.2.2.2.2.2.2.2.2.2.2.2.2.2.2.2.2.2.2.2.2.2))).bind fun r2 =>
        (world.AddJoint_z.f ((v1, v2, v3, v4, v5, (v6, (fun i => RiiiiiiiiiiL2.enc (v7 i))), (v8, (fun i => Riiiiiiii.enc (v9 i))), ()), (r2.1, r2.2.1, r2.2.2.1, r2.2.2.2.1, r2.2.2.2.2.1, r2.2.2.2.2.2.1, r2.2.2.2.2.2.2.1, r2.2.2.2.2.2.2.2))).bind fun r3 =>
        law09.Made_z.l0 k0 k1 r3.2.1 r3.2.2.1 r3.2.2.2.1 r3.2.2.2.2.1 r3.2.2.2.2.2.1 r3.2.2.2.2.2.2.1.1 (fun i => RiiiiiiiiiiL2.enc (r3.2.2.2.2.2.2.1.2 i)) r3.2.2.2.2.2.2.2.1.1 (fun i => Riiiiiiii.enc (r3.2.2.2.2.2.2.2.1.2 i)) v10 (fun i => RiiiiiiiiiiiiiiiiiiiiiiiiiiiiiL2.enc (v11 i)) v12 (IntKind.i64.wrap (v13 + 1))
      else
      bif ((Go.bits .and .i64 (v11 (Int.toNat v13)).1 7) == 6) then
        (world.RemoveBody_z.f ((v1, v2, v3, v4, v5, (v6, (fun i => RiiiiiiiiiiL2.enc (v7 i))), (v8, (fun i => Riiiiiiii.enc (v9 i))), ()), (Go.bits .and .i64 (v11 (Int.toNat v13)).2.2.2.2.2.2.2.2.2.2.2.2.1 15))).bind fun r4 =>
        law09.Made_z.l0 k0 k1 r4.2.1 r4.2.2.1 r4.2.2.2.1 r4.2.2.2.2.1 r4.2.2.2.2.2.1 r4.2.2.2.2.2.2.1.1 (fun i => RiiiiiiiiiiL2.enc (r4.2.2.2.2.2.2.1.2 i)) r4.2.2.2.2.2.2.2.1.1 (fun i => Riiiiiiii.enc (r4.2.2.2.2.2.2.2.1.2 i)) v10 (fun i => RiiiiiiiiiiiiiiiiiiiiiiiiiiiiiL2.enc (v11 i)) v12 (IntKind.i64.wrap (v13 + 1))
      else
      bif ((Go.bits .and .i64 (v11 (Int.toNat v13)).1 7) == 3) then
        (world.RemoveJoint_z.f ((v1, v2, v3, v4, v5, (v6, (fun i => RiiiiiiiiiiL2.enc (v7 i))), (v8, (fun i => Riiiiiiii.enc (v9 i))), ()), (Go.bits .and .i64 (v11 (Int.toNat v13)).2.2.2.2.2.2.2.2.2.2.2.2.1 15))).bind fun r5 =>
        law09.Made_z.l0 k0 k1 r5.2.1 r5.2.2.1 r5.2.2.2.1 r5.2.2.2.2.1 r5.2.2.2.2.2.1 r5.2.2.2.2.2.2.1.1 (fun i => RiiiiiiiiiiL2.enc (r5.2.2.2.2.2.2.1.2 i)) r5.2.2.2.2.2.2.2.1.1 (fun i => Riiiiiiii.enc (r5.2.2.2.2.2.2.2.1.2 i)) v10 (fun i => RiiiiiiiiiiiiiiiiiiiiiiiiiiiiiL2.enc (v11 i)) v12 (IntKind.i64.wrap (v13 + 1))
      else
      (law09.Deed.Body.f ((v11 (Int.toNat v13)).1, (v11 (Int.toNat v13)).2.1, (v11 (Int.toNat v13)).2.2.1, (v11 (Int.toNat v13)).2.2.2.1, (v11 (Int.toNat v13)).2.2.2.2.1, (v11 (Int.toNat v13)).2.2.2.2.2.1, (v11 (Int.toNat v13)).2.2.2.2.2.2.1, (v11 (Int.toNat v13)).2.2.2.2.2.2.2.1, (v11 (Int.toNat v13)).2.2.2.2.2.2.2.2.1, (v11 (Int.toNat v13)).2.2.2.2.2.2.2.2.2.1, (v11 (Int.toNat v13)).2.2.2.2.2.2.2.2.2.2.1, (v11 (Int.toNat v13)).2.2.2.2.2.2.2.2.2.2.2.1, (v11 (Int.toNat v13)).2.2.2.2.2.2.2.2.2.2.2.2.1, (v11 (Int.toNat v13)).2.2.2.2.2.2.2.2.2.2.2.2.2.1, (v11 (Int.toNat v13)).2.2.2.2.2.2.2.2.2.2.2.2.2.2.1, (v11 (Int.toNat v13)).2.2.2.2.2.2.2.2.2.2.2.2.2.2.2.1, (v11 (Int.toNat v13)).2.2.2.2.2.2.2.2.2.2.2.2.2.2.2.2.1, (v11 (Int.toNat v13)).2.2.2.2.2.2.2.2.2.2.2.2.2.2.2.2.2.1, (v11 (Int.toNat v13)).2.2.2.2.2.2.2.2.2.2.2.2.2.2.2.2.2.2.1, (v11 (Int.toNat v13)).2.2.2.2.2.2.2.2.2.2.2.2.2.2.2.2.2.2.2.1, (v11 (Int.toNat v13)).2.2.2.2.2.2.2.2.2.2.2.2.2.2.2.2.2.2.2.2.1, (v11 (Int.toNat v13)).2.2.2.2.2.2.2.2.2.2.2.2.2.2.2.2.2.2.2.2.2.1, (v11 (Int.toNat v13)).2.2.2.2.2.2.2.2.2.2.2.2.2.2.2.2.2.2.2.2.2.2.1, (v11 (Int.toNat v13)).2.2.2.2.2.2.2.2.2.2.2.2.2.2.2.2.2.2.2.2.2.2.2.1, (v11 (Int.toNat v13)).2.2.2.2.2.2.2.2.2.2.2.2.2.2.2.2.2.2.2.2.2.2.2.2.1, (v11 (Int.toNat v13)).2.2.2.2.2.2.2.2.2.2.2.2.2.2.2.2.2.2.2.2.2.2.2.2.2.1, (v11 (Int.toNat v13)).2.2.2.2.2.2.2.2.2.2.2.2.2.2.2.2.2.2.2.2.2.2.2.2.2.2.1, (v11 (Int.toNat v13)).2.2.2.2.2.2.2.2.2.2.2.2.2.2.2.2.2.2.2.2.2.2.2.2.2.2.2.1, (v11 (Int.toNat v13)).2.2.2.2.2.2.2.2.2.2.2.2.2.2.2.2.2.2.2.2.2.2.2.2.2.2.2.2.1, ((v11 (Int.toNat v13)).2.2.2.2.2.2.2.2.2.2.2.2.2.2.2.2.2.2.2.2.2.2.2.2.2.2.2.2.2.1, (v11 (Int.toNat v13)).2.2.2.2.2.2.2.2.2.2.2.2.2.2.2.2.2.2.2.2.2.2.2.2.2.2.2.2.2.2))).bind fun r6 =>
      (world.AddBody_z.f ((v1, v2, v3, v4, v5, (v6, (fun i => RiiiiiiiiiiL2.enc (v7 i))), (v8, (fun i => Riiiiiiii.enc (v9 i))), ()), (r6.1, r6.2.1, r6.2.2.1, r6.2.2.2.1, r6.2.2.2.2.1, r6.2.2.2.2.2.1, r6.2.2.2.2.2.2.1, r6.2.2.2.2.2.2.2.1, r6.2.2.2.2.2.2.2.2.1, r6.2.2.2.2.2.2.2.2.2.1, (r6.2.2.2.2.2.2.2.2.2.2.1, (fun i => Rii.enc (r6.2.2.2.2.2.2.2.2.2.2.2 i)))))).bind fun r7 =>
      law09.Made_z.l0 k0 k1 r7.2.1 r7.2.2.1 r7.2.2.2.1 r7.2.2.2.2.1 r7.2.2.2.2.2.1 r7.2.2.2.2.2.2.1.1 (fun i => RiiiiiiiiiiL2.enc (r7.2.2.2.2.2.2.1.2 i)) r7.2.2.2.2.2.2.2.1.1 (fun i => Riiiiiiii.enc (r7.2.2.2.2.2.2.2.1.2 i)) v10 (fun i => RiiiiiiiiiiiiiiiiiiiiiiiiiiiiiL2.enc (v11 i)) v12 (IntKind.i64.wrap (v13 + 1))
    else
    bif ((Go.bits .and .i64 (v11 (Int.toNat v13)).1 7) == 5) then
      (law09.Deed.Joint.f ((v11 (Int.toNat v13)).1, (v11 (Int.toNat v13)).2.1, (v11 (Int.toNat v13)).2.2.1, (v11 (Int.toNat v13)).2.2.2.1, (v11 (Int.toNat v13)).2.2.2.2.1, (v11 (Int.toNat v13)).2.2.2.2.2.1, (v11 (Int.toNat v13)).2.2.2.2.2.2.1, (v11 (Int.toNat v13)).2.2.2.2.2.2.2.1, (v11 (Int.toNat v13)).2.2.2.2.2.2.2.2.1, (v11 (Int.toNat v13)).2.2.2.2.2.2.2.2.2.1, (v11 (Int.toNat v13)).2.2.2.2.2.2.2.2.2.2.1, (v11 (Int.toNat v13)).2.2.2.2.2.2.2.2.2.2.2.1, (v11 (Int.toNat v13)).2.2.2.2.2.2.2.2.2.2.2.2.1, (v11 (Int.toNat v13)).2.2.2.2.2.2.2.2.2.2.2.2.2.1, (v11 (Int.toNat v13)).2.2.2.2.2.2.2.2.2.2.2.2.2.2.1, (v11 (Int.toNat v13)).2.2.2.2.2.2.2.2.2.2.2.2.2.2.2.1, (v11 (Int.toNat v13)).2.2.2.2.2.2.2.2.2.2.2.2.2.2.2.2.1, (v11 (Int.toNat v13)).2.2.2.2.2.2.2.2.2.2.2.2.2.2.2.2.2.1, (v11 (Int.toNat v13)).2.2.2.2.2.2.2.2.2.2.2.2.2.2.2.2.2.2.1, (v11 (Int.toNat v13)).2.2.2.2.2.2.2.2.2.2.2.2.2.2.2.2.2.2.2.1, (v11 (Int.toNat v13)).2.2.2.2.2.2.2.2.2.2.2.2.2.2.2.2.2.2.2.2.1, (v11 (Int.toNat v13)).2.2.2.2.2.2.2.2.2.2.2.2.2.2.2.2.2.2.2.2.2.1, (v11 (Int.toNat v13)).2.2.2.2.2.2.2.2.2.2.2.2.2.2.2.2.2.2.2.2.2.2.1, (v11 (Int.toNat v13)).2.2.2.2.2.2.2.2.2.2.2.2.2.2.2.2.2.2.2.2.2.2.2.1, (v11 (Int.toNat v13)).2.2.2.2.2.2.2.2.2.2.2.2.2.2.2.2.2.2.2.2.2.2.2.2.1, (v11 (Int.toNat v13)).2.2.2.2.2.2.2.2.2.2.2.2.2.2.2.2.2.2.2.2.2.2.2.2.2.1, (v11 (Int.toNat v13)).2.2.2.2.2.2.2.2.2.2.2.2.2.2.2.2.2.2.2.2.2.2.2.2.2.2.1, (v11 (Int.toNat v13)).2.2.2.2.2.2.2.2.2.2.2.2.2.2.2.2.2.2.2.2.2.2.2.2.2.2.2.1, (v11 (Int.toNat v13)).2.2.2.2.2.2.2.2.2.2.2.2.2.2.2.2.2.2.2.2.2.2.2.2.2.2.2.2.1, ((v11 (Int.toNat v13)).2.2.2.2.2.2.2.2.2.2.2.2.2.2.2.2.2.2.2.2.2.2.2.2.2.2.2.2.2.1, (v11 (Int.toNat v13)).2.2.2.2.2.2.2.2.2.2.2.2.2.2.2.2.2.2.2.2.2.2.2.2.2.2.2.2.2.2))).bind fun r8 =>
      (world.AddJoint_z.f ((v1, v2, v3, v4, v5, (v6, (fun i => RiiiiiiiiiiL2.enc (v7 i))), (v8, (fun i => Riiiiiiii.enc (v9 i))), ()), (r8.1, r8.2.1, r8.2.2.1, r8.2.2.2.1, r8.2.2.2.2.1, r8.2.2.2.2.2.1, r8.2.2.2.2.2.2.1, r8.2.2.2.2.2.2.2))).bind fun r9 =>
      law09.Made_z.l0 k0 k1 r9.2.1 r9.2.2.1 r9.2.2.2.1 r9.2.2.2.2.1 r9.2.2.2.2.2.1 r9.2.2.2.2.2.2.1.1 (fun i => RiiiiiiiiiiL2.enc (r9.2.2.2.2.2.2.1.2 i)) r9.2.2.2.2.2.2.2.1.1 (fun i => Riiiiiiii.enc (r9.2.2.2.2.2.2.2.1.2 i)) v10 (fun i => RiiiiiiiiiiiiiiiiiiiiiiiiiiiiiL2.enc (v11 i)) v12 (IntKind.i64.wrap (v13 + 1))
    else
    bif ((Go.bits .and .i64 (v11 (Int.toNat v13)).1 7) == 6) then
      (world.RemoveBody_z.f ((v1, v2, v3, v4, v5, (v6, (fun i => RiiiiiiiiiiL2.enc (v7 i))), (v8, (fun i => Riiiiiiii.enc (v9 i))), ()), (Go.bits .and .i64 (v11 (Int.toNat v13)).2.2.2.2.2.2.2.2.2.2.2.2.1 15))).bind fun r10 =>
      law09.Made_z.l0 k0 k1 r10.2.1 r10.2.2.1 r10.2.2.2.1 r10.2.2.2.2.1 r10.2.2.2.2.2.1 r10.2.2.2.2.2.2.1.1 (fun i => RiiiiiiiiiiL2.enc (r10.2.2.2.2.2.2.1.2 i)) r10.2.2.2.2.2.2.2.1.1 (fun i => Riiiiiiii.enc (r10.2.2.2.2.2.2.2.1.2 i)) v10 (fun i => RiiiiiiiiiiiiiiiiiiiiiiiiiiiiiL2.enc (v11 i)) v12 (IntKind.i64.wrap (v13 + 1))
    else
    bif ((Go.bits .and .i64 (v11 (Int.toNat v13)).1 7) == 3) then
      (world.RemoveJoint_z.f ((v1, v2, v3, v4, v5, (v6, (fun i => RiiiiiiiiiiL2.enc (v7 i))), (v8, (fun i => Riiiiiiii.enc (v9 i))), ()), (Go.bits .and .i64 (v11 (Int.toNat v13)).2.2.2.2.2.2.2.2.2.2.2.2.1 15))).bind fun r11 =>
      law09.Made_z.l0 k0 k1 r11.2.1 r11.2.2.1 r11.2.2.2.1 r11.2.2.2.2.1 r11.2.2.2.2.2.1 r11.2.2.2.2.2.2.1.1 (fun i => RiiiiiiiiiiL2.enc (r11.2.2.2.2.2.2.1.2 i)) r11.2.2.2.2.2.2.2.1.1 (fun i => Riiiiiiii.enc (r11.2.2.2.2.2.2.2.1.2 i)) v10 (fun i => RiiiiiiiiiiiiiiiiiiiiiiiiiiiiiL2.enc (v11 i)) v12 (IntKind.i64.wrap (v13 + 1))
    else
    (law09.Deed.Body.f ((v11 (Int.toNat v13)).1, (v11 (Int.toNat v13)).2.1, (v11 (Int.toNat v13)).2.2.1, (v11 (Int.toNat v13)).2.2.2.1, (v11 (Int.toNat v13)).2.2.2.2.1, (v11 (Int.toNat v13)).2.2.2.2.2.1, (v11 (Int.toNat v13)).2.2.2.2.2.2.1, (v11 (Int.toNat v13)).2.2.2.2.2.2.2.1, (v11 (Int.toNat v13)).2.2.2.2.2.2.2.2.1, (v11 (Int.toNat v13)).2.2.2.2.2.2.2.2.2.1, (v11 (Int.toNat v13)).2.2.2.2.2.2.2.2.2.2.1, (v11 (Int.toNat v13)).2.2.2.2.2.2.2.2.2.2.2.1, (v11 (Int.toNat v13)).2.2.2.2.2.2.2.2.2.2.2.2.1, (v11 (Int.toNat v13)).2.2.2.2.2.2.2.2.2.2.2.2.2.1, (v11 (Int.toNat v13)).2.2.2.2.2.2.2.2.2.2.2.2.2.2.1, (v11 (Int.toNat v13)).2.2.2.2.2.2.2.2.2.2.2.2.2.2.2.1, (v11 (Int.toNat v13)).2.2.2.2.2.2.2.2.2.2.2.2.2.2.2.2.1, (v11 (Int.toNat v13)).2.2.2.2.2.2.2.2.2.2.2.2.2.2.2.2.2.1, (v11 (Int.toNat v13)).2.2.2.2.2.2.2.2.2.2.2.2.2.2.2.2.2.2.1, (v11 (Int.toNat v13)).2.2.2.2.2.2.2.2.2.2.2.2.2.2.2.2.2.2.2.1, (v11 (Int.toNat v13)).2.2.2.2.2.2.2.2.2.2.2.2.2.2.2.2.2.2.2.2.1, (v11 (Int.toNat v13)).2.2.2.2.2.2.2.2.2.2.2.2.2.2.2.2.2.2.2.2.2.1, (v11 (Int.toNat v13)).2.2.2.2.2.2.2.2.2.2.2.2.2.2.2.2.2.2.2.2.2.2.1, (v11 (Int.toNat v13)).2.2.2.2.2.2.2.2.2.2.2.2.2.2.2.2.2.2.2.2.2.2.2.1, (v11 (Int.toNat v13)).2.2.2.2.2.2.2.2.2.2.2.2.2.2.2.2.2.2.2.2.2.2.2.2.1, (v11 (Int.toNat v13)).2.2.2.2.2.2.2.2.2.2.2.2.2.2.2.2.2.2.2.2.2.2.2.2.2.1, (v11 (Int.toNat v13)).2.2.2.2.2.2.2.2.2.2.2.2.2.2.2.2.2.2.2.2.2.2.2.2.2.2.1, (v11 (Int.toNat v13)).2.2.2.2.2.2.2.2.2.2.2.2.2.2.2.2.2.2.2.2.2.2.2.2.2.2.2.1, (v11 (Int.toNat v13)).2.2.2.2.2.2.2.2.2.2.2.2.2.2.2.2.2.2.2.2.2.2.2.2.2.2.2.2.1, ((v11 (Int.toNat v13)).2.2.2.2.2.2.2.2.2.2.2.2.2.2.2.2.2.2.2.2.2.2.2.2.2.2.2.2.2.1, (v11 (Int.toNat v13)).2.2.2.2.2.2.2.2.2.2.2.2.2.2.2.2.2.2.2.2.2.2.2.2.2.2.2.2.2.2))).bind fun r12 =>
    (world.AddBody_z.f ((v1, v2, v3, v4, v5, (v6, (fun i => RiiiiiiiiiiL2.enc (v7 i))), (v8, (fun i => Riiiiiiii.enc (v9 i))), ()), (r12.1, r12.2.1, r12.2.2.1, r12.2.2.2.1, r12.2.2.2.2.1, r12.2.2.2.2.2.1, r12.2.2.2.2.2.2.1, r12.2.2.2.2.2.2.2.1, r12.2.2.2.2.2.2.2.2.1, r12.2.2.2.2.2.2.2.2.2.1, (r12.2.2.2.2.2.2.2.2.2.2.1, (fun i => Rii.enc (r12.2.2.2.2.2.2.2.2.2.2.2 i)))))).bind fun r13 =>
    law09.Made_z.l0 k0 k1 r13.2.1 r13.2.2.1 r13.2.2.2.1 r13.2.2.2.2.1 r13.2.2.2.2.2.1 r13.2.2.2.2.2.2.1.1 (fun i => RiiiiiiiiiiL2.enc (r13.2.2.2.2.2.2.1.2 i)) r13.2.2.2.2.2.2.2.1.1 (fun i => Riiiiiiii.enc (r13.2.2.2.2.2.2.2.1.2 i)) v10 (fun i => RiiiiiiiiiiiiiiiiiiiiiiiiiiiiiL2.enc (v11 i)) v12 (IntKind.i64.wrap (v13 + 1))
    else none
  else
  (tG (tCons (tI .i64) (tCons (tI .i64) (tCons (tI .i64) (tCons (tI .i64) (tCons (tI .i64) (tCons (tTL RiiiiiiiiiiL2 11 (0, 0, 0, 0, 0, 0, 0, 0, 0, 0, (0, fun _ => []))) (tCons (tTL Riiiiiiii 8 (0, 0, 0, 0, 0, 0, 0, 0)) (tOne tNS))))))))).dec (.agg [.val (.int .i64 v1), .val (.int .i64 v2), .val (.int .i64 v3), .val (.int .i64 v4), .val (.int .i64 v5), .lst 11 v6 none (fun i => RiiiiiiiiiiL2.enc (v7 i)), .lst 8 v8 none (fun i => Riiiiiiii.enc (v9 i)), .val (.slice none 0 0)]) := by kernel_rfl
theorem law09.Made_z.eq (k0 : Nat) (p0_n : Nat) (p0_g : Nat → (Int × Int × Int × Int × Int × Int × Int × Int × Int × Int × Int × Int × Int × Int × Int × Int × Int × Int × Int × Int × Int × Int × Int × Int × Int × Int × Int × Int × Int × (Nat × (Nat → List AV)))) (p1 : Int) : law09.Made_z.g k0 ((p0_n, (fun i => RiiiiiiiiiiiiiiiiiiiiiiiiiiiiiL2.enc (p0_g i))), p1) =
  (world.New_z.f ()).bind fun r1 =>
  bif ((decide (0 ≤ (if p1 < ((p0_n : Nat) : Int) then p1 else ((p0_n : Nat) : Int)))) && (decide ((if p1 < ((p0_n : Nat) : Int) then p1 else ((p0_n : Nat) : Int)) ≤ ((p0_n : Nat) : Int)))) then
  law09.Made_z.l0 k0 k0 r1.1 r1.2.1 r1.2.2.1 r1.2.2.2.1 r1.2.2.2.2.1 r1.2.2.2.2.2.1.1 (fun i => RiiiiiiiiiiL2.enc (r1.2.2.2.2.2.1.2 i)) r1.2.2.2.2.2.2.1.1 (fun i => Riiiiiiii.enc (r1.2.2.2.2.2.2.1.2 i)) (Int.toNat (if p1 < ((p0_n : Nat) : Int) then p1 else ((p0_n : Nat) : Int))) (fun i => RiiiiiiiiiiiiiiiiiiiiiiiiiiiiiL2.enc (p0_g i)) (((Int.toNat (if p1 < ((p0_n : Nat) : Int) then p1 else ((p0_n : Nat) : Int))) : Nat) : Int) 0
  else none := by kernel_rfl
/-! ### bagatelle/world.RemoveBody -/
noncomputable def world.RemoveBody_in.cs : List (Nat × Fw.Summ) := [(16, world.Body.s), (44, world.without_Body.s), (46, world.without_Joint.s), (48, world.without_Contact.s)]
theorem world.RemoveBody_in.cs_ok : SumsOk Try.prog world.RemoveBody_in.cs := .cons world.Body.ok (.cons world.without_Body.ok (.cons world.without_Joint.ok (.cons world.without_Contact.ok (.nil))))
noncomputable def world.RemoveBody_in.G : Ctx := ⟨Try.prog, sumAt world.RemoveBody_in.cs, fun _ => { unroll := true }⟩
noncomputable def world.RemoveBody_in.s : Fw.Summ := .mkI world.RemoveBody_in.G Try.f19
theorem world.RemoveBody_in.ok : world.RemoveBody_in.s.Ok Try.prog 19 := isumm_ok world.RemoveBody_in.cs_ok (by kernel_rfl) (by kernel_rfl) (by kernel_rfl) (by kernel_rfl)
end Go.Proofs.Ytbcnifnmccaleaa.E
