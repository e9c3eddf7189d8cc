import Derived.Test.YtbcnifnmccaleaaEa
import Derived.Test.YtbcnifnmccaleaaProg
namespace Go.Proofs.Ytbcnifnmccaleaa.E
open Go Go.Proofs Go.Proofs.Ytbcnifnmccaleaa Go.Proofs.Ytbcnifnmccaleaa.Fw Go.RowKit
set_option maxRecDepth 100000
set_option linter.unusedVariables false
/-! ### bagatelle/world.Copy -/
noncomputable def world.Copy.cs : List (Nat × Fw.Summ) := [(54, slices.Clone_lBody_Body.s), (50, shape.Copy.s), (55, slices.Clone_lJoint_Joint.s), (56, slices.Clone_lContact_Contact.s)]
theorem world.Copy.cs_ok : SumsOk Try.prog world.Copy.cs := .cons slices.Clone_lBody_Body.ok (.cons shape.Copy.ok (.cons slices.Clone_lJoint_Joint.ok (.cons slices.Clone_lContact_Contact.ok (.nil))))
def world.Copy.hs : List (Nat × LHint) := [(0, { mat := [], live := [1, 2, 10, 11], ren := [] })]
noncomputable def world.Copy.G : Ctx := ⟨Try.prog, sumAt world.Copy.cs, lookH world.Copy.hs, true⟩
noncomputable def world.Copy.g (k0 : Nat) (x : (Int × Int × Int × Int × Int × (Nat × (Nat → List AV)) × (Nat × (Nat → List AV)) × (Nat × (Nat → List AV)))) : Option ((Int × Int × Int × Int × Int) × ((Nat × (Nat → (Int × Int × Int × Int × Int × Int × Int × Int × Int × Int × (Nat × (Nat → List AV))))) × ((Nat × (Nat → (Int × Int × Int × Int × Int × Int × Int × Int))) × (Nat × (Nat → (Int × Int × Int × Int × Int)))))) := evM world.Copy.G k0 Try.f24 ((tOne (tG (tCons (tI .i64) (tCons (tI .i64) (tCons (tI .i64) (tCons (tI .i64) (tCons (tI .i64) (tCons (tLz 11 (RiiiiiiiiiiL2.enc (0, 0, 0, 0, 0, 0, 0, 0, 0, 0, (0, fun _ => [])))) (tCons (tLz 8 (Riiiiiiii.enc (0, 0, 0, 0, 0, 0, 0, 0))) (tOne (tLz 5 (Riiiii.enc (0, 0, 0, 0, 0))))))))))))).enc x) (fun _ => []) (WsT.mk (tCons (tI .i64) (tCons (tI .i64) (tCons (tI .i64) (tCons (tI .i64) (tOne (tI .i64)))))) (oCons (RowT.mk RiiiiiiiiiiL2 43 11 (0, 0, 0, 0, 0, 0, 0, 0, 0, 0, (0, fun _ => []))) (oCons (RowT.mk Riiiiiiii 51 8 (0, 0, 0, 0, 0, 0, 0, 0)) (oOne (RowT.mk Riiiii 69 5 (0, 0, 0, 0, 0)))))).dec
noncomputable def world.Copy.f (x : (Int × Int × Int × Int × Int × (Nat × (Nat → List AV)) × (Nat × (Nat → List AV)) × (Nat × (Nat → List AV)))) : Option ((Int × Int × Int × Int × Int) × ((Nat × (Nat → (Int × Int × Int × Int × Int × Int × Int × Int × Int × Int × (Nat × (Nat → List AV))))) × ((Nat × (Nat → (Int × Int × Int × Int × Int × Int × Int × Int))) × (Nat × (Nat → (Int × Int × Int × Int × Int)))))) := world.Copy.g (1000000) x
noncomputable def world.Copy.s : Fw.Summ := .mkM (moW (tOne (tG (tCons (tI .i64) (tCons (tI .i64) (tCons (tI .i64) (tCons (tI .i64) (tCons (tI .i64) (tCons (tLz 11 (RiiiiiiiiiiL2.enc (0, 0, 0, 0, 0, 0, 0, 0, 0, 0, (0, fun _ => [])))) (tCons (tLz 8 (Riiiiiiii.enc (0, 0, 0, 0, 0, 0, 0, 0))) (tOne (tLz 5 (Riiiii.enc (0, 0, 0, 0, 0))))))))))))) (WsT.mk (tCons (tI .i64) (tCons (tI .i64) (tCons (tI .i64) (tCons (tI .i64) (tOne (tI .i64)))))) (oCons (RowT.mk RiiiiiiiiiiL2 43 11 (0, 0, 0, 0, 0, 0, 0, 0, 0, 0, (0, fun _ => []))) (oCons (RowT.mk Riiiiiiii 51 8 (0, 0, 0, 0, 0, 0, 0, 0)) (oOne (RowT.mk Riiiii 69 5 (0, 0, 0, 0, 0)))))) world.Copy.f)
theorem world.Copy.ok : world.Copy.s.Ok Try.prog 24 :=
  msumm_ok (hint := lookH world.Copy.hs) (fn := Try.f24) (fun x => 1000000) world.Copy.cs_ok (by kernel_rfl) (by kernel_rfl) (by kernel_rfl) (by kernel_rfl) (tOne_ok (tG_ok (tCons_ok (tI_ok _) (tCons_ok (tI_ok _) (tCons_ok (tI_ok _) (tCons_ok (tI_ok _) (tCons_ok (tI_ok _) (tCons_ok (tLz_ok _ _) (tCons_ok (tLz_ok _ _) (tOne_ok (tLz_ok _ _))))))))))) ⟨(tCons_ok (tI_ok _) (tCons_ok (tI_ok _) (tCons_ok (tI_ok _) (tCons_ok (tI_ok _) (tOne_ok (tI_ok _)))))), (oCons_ok RiiiiiiiiiiL2_ok (oCons_ok Riiiiiiii_ok (oOne_ok Riiiii_ok)))⟩ (fun _ => rfl)
noncomputable def world.Copy.l0 (k0 k1 : Nat) (v1 : Int) (v2 : Int) (v3 : Int) (v4 : Int) (v5 : Int) (v6 : Nat) (v7 : Nat → List AV) (v8 : Nat) (v9 : Nat → List AV) (v10 : Nat) (v11 : Nat → List AV) (v12 : Int) (v13 : Int) : Option ((Int × Int × Int × Int × Int) × ((Nat × (Nat → (Int × Int × Int × Int × Int × Int × Int × Int × Int × Int × (Nat × (Nat → List AV))))) × ((Nat × (Nat → (Int × Int × Int × Int × Int × Int × Int × Int))) × (Nat × (Nat → (Int × Int × Int × Int × Int)))))) :=
  evLoop (lookH world.Copy.hs 0) 3 (ev world.Copy.G k0 (codeAt [1, 1, 0, 1, 0, 0] (bodyOf Try.f24)) 0) k1
  ⟨[.top, .ptr 0 0 0, .ptr 1 0 0, .top, .top, .top, .top, .top, .top, .top, .val (.int .i64 v12), .val (.int .i64 v13), .top, .top, .top, .top, .top, .top, .top, .top, .top, .top, .top, .top, .top, .top, .top, .top, .top, .top, .top, .top, .top, .top, .top, .top], [.live ⟨false, 31, 8, 1, fun _ => [.val (.int .i64 v1), .val (.int .i64 v2), .val (.int .i64 v3), .val (.int .i64 v4), .val (.int .i64 v5), .slc 2 0 none none, .lst 8 v6 none v7, .lst 5 v8 none v9], none⟩, .live ⟨false, 31, 8, 1, fun _ => [.val (.int .i64 0), .val (.int .i64 0), .val (.int .i64 0), .val (.int .i64 0), .val (.int .i64 0), .val (.slice none 0 0), .val (.slice none 0 0), .val (.slice none 0 0)], none⟩, .live ⟨true, 43, 11, v10, v11, none⟩]⟩
  (kBlock world.Copy.G 0 (kSeq world.Copy.G k0 (codeAt [1, 1, 1] (bodyOf Try.f24)) 0 (kFinM world.Copy.G Try.f24 (fun _ => []) (WsT.mk (tCons (tI .i64) (tCons (tI .i64) (tCons (tI .i64) (tCons (tI .i64) (tOne (tI .i64)))))) (oCons (RowT.mk RiiiiiiiiiiL2 43 11 (0, 0, 0, 0, 0, 0, 0, 0, 0, 0, (0, fun _ => []))) (oCons (RowT.mk Riiiiiiii 51 8 (0, 0, 0, 0, 0, 0, 0, 0)) (oOne (RowT.mk Riiiii 69 5 (0, 0, 0, 0, 0)))))).dec)))
theorem world.Copy.l0_eq (k0 k1 : Nat) (v1 : Int) (v2 : Int) (v3 : Int) (v4 : Int) (v5 : Int) (v6 : Nat) (v7 : Nat → (Int × Int × Int × Int × Int × Int × Int × Int)) (v8 : Nat) (v9 : Nat → (Int × Int × Int × Int × Int)) (v10 : Nat) (v11 : Nat → (Int × Int × Int × Int × Int × Int × Int × Int × Int × Int × (Nat × (Nat → List AV)))) (v12 : Int) (v13 : Int) : world.Copy.l0 k0 (k1 + 1) v1 v2 v3 v4 v5 v6 (fun i => Riiiiiiii.enc (v7 i)) v8 (fun i => Riiiii.enc (v9 i)) v10 (fun i => RiiiiiiiiiiL2.enc (v11 i)) v12 v13 =
  bif (decide (v13 < v12)) then
    bif ((decide (0 ≤ v13)) && (decide (v13 < ((v10 : Nat) : Int)))) then
    (shape.Copy.f ((v11 (Int.toNat v13)).2.2.2.2.2.2.2.2.1, (v11 (Int.toNat v13)).2.2.2.2.2.2.2.2.2.1, ((v11 (Int.toNat v13)).2.2.2.2.2.2.2.2.2.2.1, (v11 (Int.toNat v13)).2.2.2.2.2.2.2.2.2.2.2))).bind fun r2 =>
    bif ((decide (0 ≤ v13)) && (decide (v13 < ((v10 : Nat) : Int)))) then
    world.Copy.l0 k0 k1 v1 v2 v3 v4 v5 v6 (fun i => Riiiiiiii.enc (v7 i)) v8 (fun i => Riiiii.enc (v9 i)) v10 (fun i => renL (lookF [] 3) (if i = (Int.toNat v13) then RiiiiiiiiiiL2.enc ((v11 (Int.toNat v13)).1, (v11 (Int.toNat v13)).2.1, (v11 (Int.toNat v13)).2.2.1, (v11 (Int.toNat v13)).2.2.2.1, (v11 (Int.toNat v13)).2.2.2.2.1, (v11 (Int.toNat v13)).2.2.2.2.2.1, (v11 (Int.toNat v13)).2.2.2.2.2.2.1, (v11 (Int.toNat v13)).2.2.2.2.2.2.2.1, r2.1, r2.2.1, (r2.2.2.1, (fun i => Rii.enc (r2.2.2.2 i)))) else RiiiiiiiiiiL2.enc (v11 i))) v12 (IntKind.i64.wrap (v13 + 1))
    else none
    else none
  else
  (slices.Clone_lJoint_Joint.f (v6, (fun i => Riiiiiiii.enc (v7 i)))).bind fun r3 =>
  (slices.Clone_lContact_Contact.f (v8, (fun i => Riiiii.enc (v9 i)))).bind fun r4 =>
  (WsT.mk (tCons (tI .i64) (tCons (tI .i64) (tCons (tI .i64) (tCons (tI .i64) (tOne (tI .i64)))))) (oCons (RowT.mk RiiiiiiiiiiL2 43 11 (0, 0, 0, 0, 0, 0, 0, 0, 0, 0, (0, fun _ => []))) (oCons (RowT.mk Riiiiiiii 51 8 (0, 0, 0, 0, 0, 0, 0, 0)) (oOne (RowT.mk Riiiii 69 5 (0, 0, 0, 0, 0)))))).dec (.agg [.val (.int .i64 v1), .val (.int .i64 v2), .val (.int .i64 v3), .val (.int .i64 v4), .val (.int .i64 v5), .slc 0 0 none none, .slc 1 0 none none, .slc 2 0 none none]) [⟨true, 43, 11, v10, (fun i => RiiiiiiiiiiL2.enc (v11 i)), none⟩, ⟨true, 51, 8, r3.1, (fun i => Riiiiiiii.enc (r3.2 i)), none⟩, ⟨true, 69, 5, r4.1, (fun i => Riiiii.enc (r4.2 i)), none⟩] := by kernel_rfl
theorem world.Copy.eq (k0 : Nat) (p0_0 : Int) (p0_1 : Int) (p0_2 : Int) (p0_3 : Int) (p0_4 : Int) (p0_5_n : Nat) (p0_5_g : Nat → (Int × Int × Int × Int × Int × Int × Int × Int × Int × Int × (Nat × (Nat → List AV)))) (p0_6_n : Nat) (p0_6_g : Nat → (Int × Int × Int × Int × Int × Int × Int × Int)) (p0_7_n : Nat) (p0_7_g : Nat → (Int × Int × Int × Int × Int)) : world.Copy.g k0 (p0_0, p0_1, p0_2, p0_3, p0_4, (p0_5_n, (fun i => RiiiiiiiiiiL2.enc (p0_5_g i))), (p0_6_n, (fun i => Riiiiiiii.enc (p0_6_g i))), (p0_7_n, (fun i => Riiiii.enc (p0_7_g i)))) =
  (slices.Clone_lBody_Body.f (p0_5_n, (fun i => RiiiiiiiiiiL2.enc (p0_5_g i)))).bind fun r1 =>
  world.Copy.l0 k0 k0 p0_0 p0_1 p0_2 p0_3 p0_4 p0_6_n (fun i => Riiiiiiii.enc (p0_6_g i)) p0_7_n (fun i => Riiiii.enc (p0_7_g i)) r1.1 (fun i => RiiiiiiiiiiL2.enc (r1.2 i)) ((r1.1 : Nat) : Int) 0 := by kernel_rfl
/-! ### slices.Equal[[]bagatelle/api.V,bagatelle/api.V] -/
noncomputable def slices.Equal_lV_V.cs : List (Nat × Fw.Summ) := []
theorem slices.Equal_lV_V.cs_ok : SumsOk Try.prog slices.Equal_lV_V.cs := .nil
def slices.Equal_lV_V.hs : List (Nat × LHint) := [(0, { mat := [], live := [0, 1, 12, 13], ren := [] })]
noncomputable def slices.Equal_lV_V.G : Ctx := ⟨Try.prog, sumAt slices.Equal_lV_V.cs, lookH slices.Equal_lV_V.hs, true⟩
noncomputable def slices.Equal_lV_V.g (k0 : Nat) (x : ((Nat × (Nat → List AV)) × (Nat × (Nat → List AV)))) : Option Bool := evF slices.Equal_lV_V.G k0 Try.f87 ((tCons (tLz 2 (Rii.enc (0, 0))) (tOne (tLz 2 (Rii.enc (0, 0))))).enc x) tB.dec
noncomputable def slices.Equal_lV_V.f (x : ((Nat × (Nat → List AV)) × (Nat × (Nat → List AV)))) : Option Bool := slices.Equal_lV_V.g (1000000) x
noncomputable def slices.Equal_lV_V.s : Fw.Summ := .mk' (tCons (tLz 2 (Rii.enc (0, 0))) (tOne (tLz 2 (Rii.enc (0, 0))))) tB slices.Equal_lV_V.f
theorem slices.Equal_lV_V.ok : slices.Equal_lV_V.s.Ok Try.prog 87 :=
  summ_ok (hint := lookH slices.Equal_lV_V.hs) (fn := Try.f87) (fun x => 1000000) slices.Equal_lV_V.cs_ok (by kernel_rfl) (by kernel_rfl) (by kernel_rfl) (by kernel_rfl) (tCons_ok (tLz_ok _ _) (tOne_ok (tLz_ok _ _))) tB_ok (fun _ => rfl)
noncomputable def slices.Equal_lV_V.l0 (k0 k1 : Nat) (v1 : Nat) (v2 : Nat → List AV) (v3 : Nat) (v4 : Nat → List AV) (v5 : Int) (v6 : Int) : Option Bool :=
  evLoop (lookH slices.Equal_lV_V.hs 0) 0 (ev slices.Equal_lV_V.G k0 (codeAt [1, 1, 0, 1, 0, 0] (bodyOf Try.f87)) 0) k1
  ⟨[.lst 2 v1 none v2, .lst 2 v3 none v4, .top, .top, .top, .top, .top, .top, .top, .top, .top, .top, .val (.int .i64 v5), .val (.int .i64 v6), .top, .top, .top, .top, .top, .top, .top, .top, .top, .top, .top, .top], []⟩
  (kBlock slices.Equal_lV_V.G 0 (kSeq slices.Equal_lV_V.G k0 (codeAt [1, 1, 1] (bodyOf Try.f87)) 0 (kFin slices.Equal_lV_V.G Try.f87 tB.dec)))
theorem slices.Equal_lV_V.l0_eq (k0 k1 : Nat) (v1 : Nat) (v2 : Nat → (Int × Int)) (v3 : Nat) (v4 : Nat → (Int × Int)) (v5 : Int) (v6 : Int) : slices.Equal_lV_V.l0 k0 (k1 + 1) v1 (fun i => Rii.enc (v2 i)) v3 (fun i => Rii.enc (v4 i)) v5 v6 =
  bif (decide (v6 < v5)) then
    bif ((decide (0 ≤ v6)) && (decide (v6 < ((v1 : Nat) : Int)))) then
    bif ((decide (0 ≤ v6)) && (decide (v6 < ((v3 : Nat) : Int)))) then
    bif (!(((v2 (Int.toNat v6)).1 == (v4 (Int.toNat v6)).1) && (((v2 (Int.toNat v6)).2 == (v4 (Int.toNat v6)).2) && true))) then
      some false
    else
    slices.Equal_lV_V.l0 k0 k1 v1 (fun i => Rii.enc (v2 i)) v3 (fun i => Rii.enc (v4 i)) v5 (IntKind.i64.wrap (v6 + 1))
    else none
    else none
  else
  some true := by kernel_rfl
theorem slices.Equal_lV_V.eq (k0 : Nat) (p0_n : Nat) (p0_g : Nat → (Int × Int)) (p1_n : Nat) (p1_g : Nat → (Int × Int)) : slices.Equal_lV_V.g k0 ((p0_n, (fun i => Rii.enc (p0_g i))), (p1_n, (fun i => Rii.enc (p1_g i)))) =
  bif (((p0_n : Nat) : Int) != ((p1_n : Nat) : Int)) then
    some false
  else
  slices.Equal_lV_V.l0 k0 k0 p0_n (fun i => Rii.enc (p0_g i)) p1_n (fun i => Rii.enc (p1_g i)) ((p0_n : Nat) : Int) 0 := by kernel_rfl
/-! ### bagatelle/shape.Same -/
noncomputable def shape.Same.cs : List (Nat × Fw.Summ) := [(87, slices.Equal_lV_V.s)]
theorem shape.Same.cs_ok : SumsOk Try.prog shape.Same.cs := .cons slices.Equal_lV_V.ok (.nil)
def shape.Same.hs : List (Nat × LHint) := []
noncomputable def shape.Same.G : Ctx := ⟨Try.prog, sumAt shape.Same.cs, lookH shape.Same.hs, true⟩
noncomputable def shape.Same.f (x : ((Int × Int × (Nat × (Nat → List AV))) × (Int × Int × (Nat × (Nat → List AV))))) : Option Bool := evF shape.Same.G 0 Try.f78 ((tCons (tG (tCons (tI .i64) (tCons (tI .i64) (tOne (tLz 2 (Rii.enc (0, 0))))))) (tOne (tG (tCons (tI .i64) (tCons (tI .i64) (tOne (tLz 2 (Rii.enc (0, 0))))))))).enc x) tB.dec
noncomputable def shape.Same.s : Fw.Summ := .mk' (tCons (tG (tCons (tI .i64) (tCons (tI .i64) (tOne (tLz 2 (Rii.enc (0, 0))))))) (tOne (tG (tCons (tI .i64) (tCons (tI .i64) (tOne (tLz 2 (Rii.enc (0, 0))))))))) tB shape.Same.f
theorem shape.Same.ok : shape.Same.s.Ok Try.prog 78 :=
  summ_ok (hint := lookH shape.Same.hs) (fn := Try.f78) (fun x => 0) shape.Same.cs_ok (by kernel_rfl) (by kernel_rfl) (by kernel_rfl) (by kernel_rfl) (tCons_ok (tG_ok (tCons_ok (tI_ok _) (tCons_ok (tI_ok _) (tOne_ok (tLz_ok _ _))))) (tOne_ok (tG_ok (tCons_ok (tI_ok _) (tCons_ok (tI_ok _) (tOne_ok (tLz_ok _ _))))))) tB_ok (fun _ => rfl)
theorem shape.Same.eq (p0_0 : Int) (p0_1 : Int) (p0_2_n : Nat) (p0_2_g : Nat → (Int × Int)) (p1_0 : Int) (p1_1 : Int) (p1_2_n : Nat) (p1_2_g : Nat → (Int × Int)) : shape.Same.f ((p0_0, p0_1, (p0_2_n, (fun i => Rii.enc (p0_2_g i)))), (p1_0, p1_1, (p1_2_n, (fun i => Rii.enc (p1_2_g i))))) =
  bif (p0_0 == p1_0) then
    bif (p0_1 == p1_1) then
      (slices.Equal_lV_V.f ((p0_2_n, (fun i => Rii.enc (p0_2_g i))), (p1_2_n, (fun i => Rii.enc (p1_2_g i))))).bind fun r1 =>
      some r1
    else
    some false
  else
  some false := by kernel_rfl
/-! ### bagatelle/world.sameBody -/
noncomputable def world.sameBody.cs : List (Nat × Fw.Summ) := [(78, shape.Same.s)]
theorem world.sameBody.cs_ok : SumsOk Try.prog world.sameBody.cs := .cons shape.Same.ok (.nil)
def world.sameBody.hs : List (Nat × LHint) := []
noncomputable def world.sameBody.G : Ctx := ⟨Try.prog, sumAt world.sameBody.cs, lookH world.sameBody.hs, true⟩
noncomputable def world.sameBody.f (x : ((Int × Int × Int × Int × Int × Int × Int × Int × Int × Int × (Nat × (Nat → List AV))) × (Int × Int × Int × Int × Int × Int × Int × Int × Int × Int × (Nat × (Nat → List AV))))) : Option Bool := evF world.sameBody.G 0 Try.f58 ((tCons (tG (tCons (tI .i64) (tCons (tI .i64) (tCons (tI .i64) (tCons (tI .i64) (tCons (tI .i64) (tCons (tI .i64) (tCons (tI .i64) (tCons (tI .i64) (tCons (tI .i64) (tCons (tI .i64) (tOne (tLz 2 (Rii.enc (0, 0))))))))))))))) (tOne (tG (tCons (tI .i64) (tCons (tI .i64) (tCons (tI .i64) (tCons (tI .i64) (tCons (tI .i64) (tCons (tI .i64) (tCons (tI .i64) (tCons (tI .i64) (tCons (tI .i64) (tCons (tI .i64) (tOne (tLz 2 (Rii.enc (0, 0))))))))))))))))).enc x) tB.dec
noncomputable def world.sameBody.s : Fw.Summ := .mk' (tCons (tG (tCons (tI .i64) (tCons (tI .i64) (tCons (tI .i64) (tCons (tI .i64) (tCons (tI .i64) (tCons (tI .i64) (tCons (tI .i64) (tCons (tI .i64) (tCons (tI .i64) (tCons (tI .i64) (tOne (tLz 2 (Rii.enc (0, 0))))))))))))))) (tOne (tG (tCons (tI .i64) (tCons (tI .i64) (tCons (tI .i64) (tCons (tI .i64) (tCons (tI .i64) (tCons (tI .i64) (tCons (tI .i64) (tCons (tI .i64) (tCons (tI .i64) (tCons (tI .i64) (tOne (tLz 2 (Rii.enc (0, 0))))))))))))))))) tB world.sameBody.f
theorem world.sameBody.ok : world.sameBody.s.Ok Try.prog 58 :=
  summ_ok (hint := lookH world.sameBody.hs) (fn := Try.f58) (fun x => 0) world.sameBody.cs_ok (by kernel_rfl) (by kernel_rfl) (by kernel_rfl) (by kernel_rfl) (tCons_ok (tG_ok (tCons_ok (tI_ok _) (tCons_ok (tI_ok _) (tCons_ok (tI_ok _) (tCons_ok (tI_ok _) (tCons_ok (tI_ok _) (tCons_ok (tI_ok _) (tCons_ok (tI_ok _) (tCons_ok (tI_ok _) (tCons_ok (tI_ok _) (tCons_ok (tI_ok _) (tOne_ok (tLz_ok _ _))))))))))))) (tOne_ok (tG_ok (tCons_ok (tI_ok _) (tCons_ok (tI_ok _) (tCons_ok (tI_ok _) (tCons_ok (tI_ok _) (tCons_ok (tI_ok _) (tCons_ok (tI_ok _) (tCons_ok (tI_ok _) (tCons_ok (tI_ok _) (tCons_ok (tI_ok _) (tCons_ok (tI_ok _) (tOne_ok (tLz_ok _ _))))))))))))))) tB_ok (fun _ => rfl)
theorem world.sameBody.eq (p0_0 : Int) (p0_1 : Int) (p0_2 : Int) (p0_3 : Int) (p0_4 : Int) (p0_5 : Int) (p0_6 : Int) (p0_7 : Int) (p0_8 : Int) (p0_9 : Int) (p0_10_n : Nat) (p0_10_g : Nat → (Int × Int)) (p1_0 : Int) (p1_1 : Int) (p1_2 : Int) (p1_3 : Int) (p1_4 : Int) (p1_5 : Int) (p1_6 : Int) (p1_7 : Int) (p1_8 : Int) (p1_9 : Int) (p1_10_n : Nat) (p1_10_g : Nat → (Int × Int)) : world.sameBody.f ((p0_0, p0_1, p0_2, p0_3, p0_4, p0_5, p0_6, p0_7, p0_8, p0_9, (p0_10_n, (fun i => Rii.enc (p0_10_g i)))), (p1_0, p1_1, p1_2, p1_3, p1_4, p1_5, p1_6, p1_7, p1_8, p1_9, (p1_10_n, (fun i => Rii.enc (p1_10_g i))))) =
  bif (p0_0 == p1_0) then
    bif ((p0_1 == p1_1) && ((p0_2 == p1_2) && true)) then
      bif ((p0_3 == p1_3) && ((p0_4 == p1_4) && true)) then
        bif (p0_5 == p1_5) then
          bif (p0_6 == p1_6) then
            bif (p0_7 == p1_7) then
              (shape.Same.f ((p0_8, p0_9, (p0_10_n, (fun i => Rii.enc (p0_10_g i)))), (p1_8, p1_9, (p1_10_n, (fun i => Rii.enc (p1_10_g i)))))).bind fun r1 =>
              some r1
            else
            some false
          else
          some false
        else
        some false
      else
      some false
    else
    some false
  else
  some false := by kernel_rfl
/-! ### slices.Equal[[]bagatelle/api.Joint,bagatelle/api.Joint] -/
noncomputable def slices.Equal_lJoint_Joint.cs : List (Nat × Fw.Summ) := []
theorem slices.Equal_lJoint_Joint.cs_ok : SumsOk Try.prog slices.Equal_lJoint_Joint.cs := .nil
def slices.Equal_lJoint_Joint.hs : List (Nat × LHint) := [(0, { mat := [], live := [0, 1, 12, 13], ren := [] })]
noncomputable def slices.Equal_lJoint_Joint.G : Ctx := ⟨Try.prog, sumAt slices.Equal_lJoint_Joint.cs, lookH slices.Equal_lJoint_Joint.hs, true⟩
noncomputable def slices.Equal_lJoint_Joint.g (k0 : Nat) (x : ((Nat × (Nat → List AV)) × (Nat × (Nat → List AV)))) : Option Bool := evF slices.Equal_lJoint_Joint.G k0 Try.f59 ((tCons (tLz 8 (Riiiiiiii.enc (0, 0, 0, 0, 0, 0, 0, 0))) (tOne (tLz 8 (Riiiiiiii.enc (0, 0, 0, 0, 0, 0, 0, 0))))).enc x) tB.dec
noncomputable def slices.Equal_lJoint_Joint.f (x : ((Nat × (Nat → List AV)) × (Nat × (Nat → List AV)))) : Option Bool := slices.Equal_lJoint_Joint.g (1000000) x
noncomputable def slices.Equal_lJoint_Joint.s : Fw.Summ := .mk' (tCons (tLz 8 (Riiiiiiii.enc (0, 0, 0, 0, 0, 0, 0, 0))) (tOne (tLz 8 (Riiiiiiii.enc (0, 0, 0, 0, 0, 0, 0, 0))))) tB slices.Equal_lJoint_Joint.f
theorem slices.Equal_lJoint_Joint.ok : slices.Equal_lJoint_Joint.s.Ok Try.prog 59 :=
  summ_ok (hint := lookH slices.Equal_lJoint_Joint.hs) (fn := Try.f59) (fun x => 1000000) slices.Equal_lJoint_Joint.cs_ok (by kernel_rfl) (by kernel_rfl) (by kernel_rfl) (by kernel_rfl) (tCons_ok (tLz_ok _ _) (tOne_ok (tLz_ok _ _))) tB_ok (fun _ => rfl)
noncomputable def slices.Equal_lJoint_Joint.l0 (k0 k1 : Nat) (v1 : Nat) (v2 : Nat → List AV) (v3 : Nat) (v4 : Nat → List AV) (v5 : Int) (v6 : Int) : Option Bool :=
  evLoop (lookH slices.Equal_lJoint_Joint.hs 0) 0 (ev slices.Equal_lJoint_Joint.G k0 (codeAt [1, 1, 0, 1, 0, 0] (bodyOf Try.f59)) 0) k1
  ⟨[.lst 8 v1 none v2, .lst 8 v3 none v4, .top, .top, .top, .top, .top, .top, .top, .top, .top, .top, .val (.int .i64 v5), .val (.int .i64 v6), .top, .top, .top, .top, .top, .top, .top, .top, .top, .top, .top, .top], []⟩
  (kBlock slices.Equal_lJoint_Joint.G 0 (kSeq slices.Equal_lJoint_Joint.G k0 (codeAt [1, 1, 1] (bodyOf Try.f59)) 0 (kFin slices.Equal_lJoint_Joint.G Try.f59 tB.dec)))
theorem slices.Equal_lJoint_Joint.l0_eq (k0 k1 : Nat) (v1 : Nat) (v2 : Nat → (Int × Int × Int × Int × Int × Int × Int × Int)) (v3 : Nat) (v4 : Nat → (Int × Int × Int × Int × Int × Int × Int × Int)) (v5 : Int) (v6 : Int) : slices.Equal_lJoint_Joint.l0 k0 (k1 + 1) v1 (fun i => Riiiiiiii.enc (v2 i)) v3 (fun i => Riiiiiiii.enc (v4 i)) v5 v6 =
  bif (decide (v6 < v5)) then
    bif ((decide (0 ≤ v6)) && (decide (v6 < ((v1 : Nat) : Int)))) then
    bif ((decide (0 ≤ v6)) && (decide (v6 < ((v3 : Nat) : Int)))) then
    bif (!(((v2 (Int.toNat v6)).1 == (v4 (Int.toNat v6)).1) && (((v2 (Int.toNat v6)).2.1 == (v4 (Int.toNat v6)).2.1) && (((v2 (Int.toNat v6)).2.2.1 == (v4 (Int.toNat v6)).2.2.1) && ((((v2 (Int.toNat v6)).2.2.2.1 == (v4 (Int.toNat v6)).2.2.2.1) && (((v2 (Int.toNat v6)).2.2.2.2.1 == (v4 (Int.toNat v6)).2.2.2.2.1) && true)) && ((((v2 (Int.toNat v6)).2.2.2.2.2.1 == (v4 (Int.toNat v6)).2.2.2.2.2.1) && (((v2 (Int.toNat v6)).2.2.2.2.2.2.1 == (v4 (Int.toNat v6)).2.2.2.2.2.2.1) && true)) && (((v2 (Int.toNat v6)).2.2.2.2.2.2.2 == (v4 (Int.toNat v6)).2.2.2.2.2.2.2) && true))))))) then
      some false
    else
    slices.Equal_lJoint_Joint.l0 k0 k1 v1 (fun i => Riiiiiiii.enc (v2 i)) v3 (fun i => Riiiiiiii.enc (v4 i)) v5 (IntKind.i64.wrap (v6 + 1))
    else none
    else none
  else
  some true := by kernel_rfl
theorem slices.Equal_lJoint_Joint.eq (k0 : Nat) (p0_n : Nat) (p0_g : Nat → (Int × Int × Int × Int × Int × Int × Int × Int)) (p1_n : Nat) (p1_g : Nat → (Int × Int × Int × Int × Int × Int × Int × Int)) : slices.Equal_lJoint_Joint.g k0 ((p0_n, (fun i => Riiiiiiii.enc (p0_g i))), (p1_n, (fun i => Riiiiiiii.enc (p1_g i)))) =
  bif (((p0_n : Nat) : Int) != ((p1_n : Nat) : Int)) then
    some false
  else
  slices.Equal_lJoint_Joint.l0 k0 k0 p0_n (fun i => Riiiiiiii.enc (p0_g i)) p1_n (fun i => Riiiiiiii.enc (p1_g i)) ((p0_n : Nat) : Int) 0 := by kernel_rfl
/-! ### slices.Equal[[]bagatelle/api.Contact,bagatelle/api.Contact] -/
noncomputable def slices.Equal_lContact_Contact.cs : List (Nat × Fw.Summ) := []
theorem slices.Equal_lContact_Contact.cs_ok : SumsOk Try.prog slices.Equal_lContact_Contact.cs := .nil
def slices.Equal_lContact_Contact.hs : List (Nat × LHint) := [(0, { mat := [], live := [0, 1, 12, 13], ren := [] })]
noncomputable def slices.Equal_lContact_Contact.G : Ctx := ⟨Try.prog, sumAt slices.Equal_lContact_Contact.cs, lookH slices.Equal_lContact_Contact.hs, true⟩
noncomputable def slices.Equal_lContact_Contact.g (k0 : Nat) (x : ((Nat × (Nat → List AV)) × (Nat × (Nat → List AV)))) : Option Bool := evF slices.Equal_lContact_Contact.G k0 Try.f60 ((tCons (tLz 5 (Riiiii.enc (0, 0, 0, 0, 0))) (tOne (tLz 5 (Riiiii.enc (0, 0, 0, 0, 0))))).enc x) tB.dec
noncomputable def slices.Equal_lContact_Contact.f (x : ((Nat × (Nat → List AV)) × (Nat × (Nat → List AV)))) : Option Bool := slices.Equal_lContact_Contact.g (1000000) x
noncomputable def slices.Equal_lContact_Contact.s : Fw.Summ := .mk' (tCons (tLz 5 (Riiiii.enc (0, 0, 0, 0, 0))) (tOne (tLz 5 (Riiiii.enc (0, 0, 0, 0, 0))))) tB slices.Equal_lContact_Contact.f
theorem slices.Equal_lContact_Contact.ok : slices.Equal_lContact_Contact.s.Ok Try.prog 60 :=
  summ_ok (hint := lookH slices.Equal_lContact_Contact.hs) (fn := Try.f60) (fun x => 1000000) slices.Equal_lContact_Contact.cs_ok (by kernel_rfl) (by kernel_rfl) (by kernel_rfl) (by kernel_rfl) (tCons_ok (tLz_ok _ _) (tOne_ok (tLz_ok _ _))) tB_ok (fun _ => rfl)
noncomputable def slices.Equal_lContact_Contact.l0 (k0 k1 : Nat) (v1 : Nat) (v2 : Nat → List AV) (v3 : Nat) (v4 : Nat → List AV) (v5 : Int) (v6 : Int) : Option Bool :=
  evLoop (lookH slices.Equal_lContact_Contact.hs 0) 0 (ev slices.Equal_lContact_Contact.G k0 (codeAt [1, 1, 0, 1, 0, 0] (bodyOf Try.f60)) 0) k1
  ⟨[.lst 5 v1 none v2, .lst 5 v3 none v4, .top, .top, .top, .top, .top, .top, .top, .top, .top, .top, .val (.int .i64 v5), .val (.int .i64 v6), .top, .top, .top, .top, .top, .top, .top, .top, .top, .top, .top, .top], []⟩
  (kBlock slices.Equal_lContact_Contact.G 0 (kSeq slices.Equal_lContact_Contact.G k0 (codeAt [1, 1, 1] (bodyOf Try.f60)) 0 (kFin slices.Equal_lContact_Contact.G Try.f60 tB.dec)))
theorem slices.Equal_lContact_Contact.l0_eq (k0 k1 : Nat) (v1 : Nat) (v2 : Nat → (Int × Int × Int × Int × Int)) (v3 : Nat) (v4 : Nat → (Int × Int × Int × Int × Int)) (v5 : Int) (v6 : Int) : slices.Equal_lContact_Contact.l0 k0 (k1 + 1) v1 (fun i => Riiiii.enc (v2 i)) v3 (fun i => Riiiii.enc (v4 i)) v5 v6 =
  bif (decide (v6 < v5)) then
    bif ((decide (0 ≤ v6)) && (decide (v6 < ((v1 : Nat) : Int)))) then
    bif ((decide (0 ≤ v6)) && (decide (v6 < ((v3 : Nat) : Int)))) then
    bif (!(((v2 (Int.toNat v6)).1 == (v4 (Int.toNat v6)).1) && (((v2 (Int.toNat v6)).2.1 == (v4 (Int.toNat v6)).2.1) && (((v2 (Int.toNat v6)).2.2.1 == (v4 (Int.toNat v6)).2.2.1) && (((v2 (Int.toNat v6)).2.2.2.1 == (v4 (Int.toNat v6)).2.2.2.1) && (((v2 (Int.toNat v6)).2.2.2.2 == (v4 (Int.toNat v6)).2.2.2.2) && true)))))) then
      some false
    else
    slices.Equal_lContact_Contact.l0 k0 k1 v1 (fun i => Riiiii.enc (v2 i)) v3 (fun i => Riiiii.enc (v4 i)) v5 (IntKind.i64.wrap (v6 + 1))
    else none
    else none
  else
  some true := by kernel_rfl
theorem slices.Equal_lContact_Contact.eq (k0 : Nat) (p0_n : Nat) (p0_g : Nat → (Int × Int × Int × Int × Int)) (p1_n : Nat) (p1_g : Nat → (Int × Int × Int × Int × Int)) : slices.Equal_lContact_Contact.g k0 ((p0_n, (fun i => Riiiii.enc (p0_g i))), (p1_n, (fun i => Riiiii.enc (p1_g i)))) =
  bif (((p0_n : Nat) : Int) != ((p1_n : Nat) : Int)) then
    some false
  else
  slices.Equal_lContact_Contact.l0 k0 k0 p0_n (fun i => Riiiii.enc (p0_g i)) p1_n (fun i => Riiiii.enc (p1_g i)) ((p0_n : Nat) : Int) 0 := by kernel_rfl
/-! ### slices.EqualFunc[[]bagatelle/api.Body,[]bagatelle/api.Body,bagatelle/api.Body,bagatelle/api.Body] -/
noncomputable def slices.EqualFunc_lBody_lBody_Body_Body.cs : List (Nat × Fw.Summ) := [(58, world.sameBody.s)]
theorem slices.EqualFunc_lBody_lBody_Body_Body.cs_ok : SumsOk Try.prog slices.EqualFunc_lBody_lBody_Body_Body.cs := .cons world.sameBody.ok (.nil)
def slices.EqualFunc_lBody_lBody_Body_Body.hs : List (Nat × LHint) := [(0, { mat := [], live := [1, 2, 15, 16, 17], ren := [] })]
noncomputable def slices.EqualFunc_lBody_lBody_Body_Body.G : Ctx := ⟨Try.prog, sumAt slices.EqualFunc_lBody_lBody_Body_Body.cs, lookH slices.EqualFunc_lBody_lBody_Body_Body.hs, true⟩
noncomputable def slices.EqualFunc_lBody_lBody_Body_Body.g (k0 : Nat) (x : ((Nat × (Nat → List AV)) × (Nat × (Nat → List AV)) × Unit)) : Option Bool := evF slices.EqualFunc_lBody_lBody_Body_Body.G k0 Try.f57 ((tCons (tLz 11 (RiiiiiiiiiiL2.enc (0, 0, 0, 0, 0, 0, 0, 0, 0, 0, (0, fun _ => [])))) (tCons (tLz 11 (RiiiiiiiiiiL2.enc (0, 0, 0, 0, 0, 0, 0, 0, 0, 0, (0, fun _ => [])))) (tOne (tF 58 tNil)))).enc x) tB.dec
noncomputable def slices.EqualFunc_lBody_lBody_Body_Body.f (x : ((Nat × (Nat → List AV)) × (Nat × (Nat → List AV)) × Unit)) : Option Bool := slices.EqualFunc_lBody_lBody_Body_Body.g (1000000) x
noncomputable def slices.EqualFunc_lBody_lBody_Body_Body.s : Fw.Summ := .mk' (tCons (tLz 11 (RiiiiiiiiiiL2.enc (0, 0, 0, 0, 0, 0, 0, 0, 0, 0, (0, fun _ => [])))) (tCons (tLz 11 (RiiiiiiiiiiL2.enc (0, 0, 0, 0, 0, 0, 0, 0, 0, 0, (0, fun _ => [])))) (tOne (tF 58 tNil)))) tB slices.EqualFunc_lBody_lBody_Body_Body.f
theorem slices.EqualFunc_lBody_lBody_Body_Body.ok : slices.EqualFunc_lBody_lBody_Body_Body.s.Ok Try.prog 57 :=
  summ_ok (hint := lookH slices.EqualFunc_lBody_lBody_Body_Body.hs) (fn := Try.f57) (fun x => 1000000) slices.EqualFunc_lBody_lBody_Body_Body.cs_ok (by kernel_rfl) (by kernel_rfl) (by kernel_rfl) (by kernel_rfl) (tCons_ok (tLz_ok _ _) (tCons_ok (tLz_ok _ _) (tOne_ok (tF_ok _ tNil_ok)))) tB_ok (fun _ => rfl)
noncomputable def slices.EqualFunc_lBody_lBody_Body_Body.l0 (k0 k1 : Nat) (v1 : Nat) (v2 : Nat → List AV) (v3 : Nat) (v4 : Nat → List AV) (v5 : Int) (v6 : Int) : Option Bool :=
  evLoop (lookH slices.EqualFunc_lBody_lBody_Body_Body.hs 0) 0 (ev slices.EqualFunc_lBody_lBody_Body_Body.G k0 (codeAt [1, 1, 0, 1, 0, 0] (bodyOf Try.f57)) 0) k1
  ⟨[.top, .lst 11 v1 none v2, .fn 58 [], .top, .top, .top, .top, .top, .top, .top, .top, .top, .top, .top, .top, .lst 11 v3 none v4, .val (.int .i64 v5), .val (.int .i64 v6), .top, .top, .top, .top, .top, .top, .top, .top, .top, .top, .top, .top, .top, .top], []⟩
  (kBlock slices.EqualFunc_lBody_lBody_Body_Body.G 0 (kSeq slices.EqualFunc_lBody_lBody_Body_Body.G k0 (codeAt [1, 1, 1] (bodyOf Try.f57)) 0 (kFin slices.EqualFunc_lBody_lBody_Body_Body.G Try.f57 tB.dec)))
theorem slices.EqualFunc_lBody_lBody_Body_Body.l0_eq (k0 k1 : Nat) (v1 : Nat) (v2 : Nat → (Int × Int × Int × Int × Int × Int × Int × Int × Int × Int × (Nat × (Nat → List AV)))) (v3 : Nat) (v4 : Nat → (Int × Int × Int × Int × Int × Int × Int × Int × Int × Int × (Nat × (Nat → List AV)))) (v5 : Int) (v6 : Int) : slices.EqualFunc_lBody_lBody_Body_Body.l0 k0 (k1 + 1) v1 (fun i => RiiiiiiiiiiL2.enc (v2 i)) v3 (fun i => RiiiiiiiiiiL2.enc (v4 i)) v5 v6 =
  bif (decide (v6 < v5)) then
    bif ((decide (0 ≤ v6)) && (decide (v6 < ((v3 : Nat) : Int)))) then
    bif ((decide (0 ≤ v6)) && (decide (v6 < ((v1 : Nat) : Int)))) then
    (world.sameBody.f (((v4 (Int.toNat v6)).1, (v4 (Int.toNat v6)).2.1, (v4 (Int.toNat v6)).2.2.1, (v4 (Int.toNat v6)).2.2.2.1, (v4 (Int.toNat v6)).2.2.2.2.1, (v4 (Int.toNat v6)).2.2.2.2.2.1, (v4 (Int.toNat v6)).2.2.2.2.2.2.1, (v4 (Int.toNat v6)).2.2.2.2.2.2.2.1, (v4 (Int.toNat v6)).2.2.2.2.2.2.2.2.1, (v4 (Int.toNat v6)).2.2.2.2.2.2.2.2.2.1, ((v4 (Int.toNat v6)).2.2.2.2.2.2.2.2.2.2.1, (v4 (Int.toNat v6)).2.2.2.2.2.2.2.2.2.2.2)), ((v2 (Int.toNat v6)).1, (v2 (Int.toNat v6)).2.1, (v2 (Int.toNat v6)).2.2.1, (v2 (Int.toNat v6)).2.2.2.1, (v2 (Int.toNat v6)).2.2.2.2.1, (v2 (Int.toNat v6)).2.2.2.2.2.1, (v2 (Int.toNat v6)).2.2.2.2.2.2.1, (v2 (Int.toNat v6)).2.2.2.2.2.2.2.1, (v2 (Int.toNat v6)).2.2.2.2.2.2.2.2.1, (v2 (Int.toNat v6)).2.2.2.2.2.2.2.2.2.1, ((v2 (Int.toNat v6)).2.2.2.2.2.2.2.2.2.2.1, (v2 (Int.toNat v6)).2.2.2.2.2.2.2.2.2.2.2)))).bind fun r1 =>
    bif (!r1) then
      some false
    else
    slices.EqualFunc_lBody_lBody_Body_Body.l0 k0 k1 v1 (fun i => RiiiiiiiiiiL2.enc (v2 i)) v3 (fun i => RiiiiiiiiiiL2.enc (v4 i)) v5 (IntKind.i64.wrap (v6 + 1))
    else none
    else none
  else
  some true := by kernel_rfl
theorem slices.EqualFunc_lBody_lBody_Body_Body.eq (k0 : Nat) (p0_n : Nat) (p0_g : Nat → (Int × Int × Int × Int × Int × Int × Int × Int × Int × Int × (Nat × (Nat → List AV)))) (p1_n : Nat) (p1_g : Nat → (Int × Int × Int × Int × Int × Int × Int × Int × Int × Int × (Nat × (Nat → List AV)))) : slices.EqualFunc_lBody_lBody_Body_Body.g k0 ((p0_n, (fun i => RiiiiiiiiiiL2.enc (p0_g i))), (p1_n, (fun i => RiiiiiiiiiiL2.enc (p1_g i))), ()) =
  bif (((p0_n : Nat) : Int) != ((p1_n : Nat) : Int)) then
    some false
  else
  slices.EqualFunc_lBody_lBody_Body_Body.l0 k0 k0 p1_n (fun i => RiiiiiiiiiiL2.enc (p1_g i)) p0_n (fun i => RiiiiiiiiiiL2.enc (p0_g i)) ((p0_n : Nat) : Int) 0 := by kernel_rfl
/-! ### bagatelle/world.Same -/
noncomputable def world.Same.cs : List (Nat × Fw.Summ) := [(57, slices.EqualFunc_lBody_lBody_Body_Body.s), (59, slices.Equal_lJoint_Joint.s), (60, slices.Equal_lContact_Contact.s)]
theorem world.Same.cs_ok : SumsOk Try.prog world.Same.cs := .cons slices.EqualFunc_lBody_lBody_Body_Body.ok (.cons slices.Equal_lJoint_Joint.ok (.cons slices.Equal_lContact_Contact.ok (.nil)))
def world.Same.hs : List (Nat × LHint) := []
noncomputable def world.Same.G : Ctx := ⟨Try.prog, sumAt world.Same.cs, lookH world.Same.hs, true⟩
noncomputable def world.Same.f (x : ((Int × Int × Int × Int × Int × (Nat × (Nat → List AV)) × (Nat × (Nat → List AV)) × (Nat × (Nat → List AV))) × (Int × Int × Int × Int × Int × (Nat × (Nat → List AV)) × (Nat × (Nat → List AV)) × (Nat × (Nat → List AV))))) : Option Bool := evF world.Same.G 0 Try.f25 ((tCons (tG (tCons (tI .i64) (tCons (tI .i64) (tCons (tI .i64) (tCons (tI .i64) (tCons (tI .i64) (tCons (tLz 11 (RiiiiiiiiiiL2.enc (0, 0, 0, 0, 0, 0, 0, 0, 0, 0, (0, fun _ => [])))) (tCons (tLz 8 (Riiiiiiii.enc (0, 0, 0, 0, 0, 0, 0, 0))) (tOne (tLz 5 (Riiiii.enc (0, 0, 0, 0, 0)))))))))))) (tOne (tG (tCons (tI .i64) (tCons (tI .i64) (tCons (tI .i64) (tCons (tI .i64) (tCons (tI .i64) (tCons (tLz 11 (RiiiiiiiiiiL2.enc (0, 0, 0, 0, 0, 0, 0, 0, 0, 0, (0, fun _ => [])))) (tCons (tLz 8 (Riiiiiiii.enc (0, 0, 0, 0, 0, 0, 0, 0))) (tOne (tLz 5 (Riiiii.enc (0, 0, 0, 0, 0)))))))))))))).enc x) tB.dec
noncomputable def world.Same.s : Fw.Summ := .mk' (tCons (tG (tCons (tI .i64) (tCons (tI .i64) (tCons (tI .i64) (tCons (tI .i64) (tCons (tI .i64) (tCons (tLz 11 (RiiiiiiiiiiL2.enc (0, 0, 0, 0, 0, 0, 0, 0, 0, 0, (0, fun _ => [])))) (tCons (tLz 8 (Riiiiiiii.enc (0, 0, 0, 0, 0, 0, 0, 0))) (tOne (tLz 5 (Riiiii.enc (0, 0, 0, 0, 0)))))))))))) (tOne (tG (tCons (tI .i64) (tCons (tI .i64) (tCons (tI .i64) (tCons (tI .i64) (tCons (tI .i64) (tCons (tLz 11 (RiiiiiiiiiiL2.enc (0, 0, 0, 0, 0, 0, 0, 0, 0, 0, (0, fun _ => [])))) (tCons (tLz 8 (Riiiiiiii.enc (0, 0, 0, 0, 0, 0, 0, 0))) (tOne (tLz 5 (Riiiii.enc (0, 0, 0, 0, 0)))))))))))))) tB world.Same.f
theorem world.Same.ok : world.Same.s.Ok Try.prog 25 :=
  summ_ok (hint := lookH world.Same.hs) (fn := Try.f25) (fun x => 0) world.Same.cs_ok (by kernel_rfl) (by kernel_rfl) (by kernel_rfl) (by kernel_rfl) (tCons_ok (tG_ok (tCons_ok (tI_ok _) (tCons_ok (tI_ok _) (tCons_ok (tI_ok _) (tCons_ok (tI_ok _) (tCons_ok (tI_ok _) (tCons_ok (tLz_ok _ _) (tCons_ok (tLz_ok _ _) (tOne_ok (tLz_ok _ _)))))))))) (tOne_ok (tG_ok (tCons_ok (tI_ok _) (tCons_ok (tI_ok _) (tCons_ok (tI_ok _) (tCons_ok (tI_ok _) (tCons_ok (tI_ok _) (tCons_ok (tLz_ok _ _) (tCons_ok (tLz_ok _ _) (tOne_ok (tLz_ok _ _)))))))))))) tB_ok (fun _ => rfl)
theorem world.Same.eq (p0_0 : Int) (p0_1 : Int) (p0_2 : Int) (p0_3 : Int) (p0_4 : Int) (p0_5_n : Nat) (p0_5_g : Nat → (Int × Int × Int × Int × Int × Int × Int × Int × Int × Int × (Nat × (Nat → List AV)))) (p0_6_n : Nat) (p0_6_g : Nat → (Int × Int × Int × Int × Int × Int × Int × Int)) (p0_7_n : Nat) (p0_7_g : Nat → (Int × Int × Int × Int × Int)) (p1_0 : Int) (p1_1 : Int) (p1_2 : Int) (p1_3 : Int) (p1_4 : Int) (p1_5_n : Nat) (p1_5_g : Nat → (Int × Int × Int × Int × Int × Int × Int × Int × Int × Int × (Nat × (Nat → List AV)))) (p1_6_n : Nat) (p1_6_g : Nat → (Int × Int × Int × Int × Int × Int × Int × Int)) (p1_7_n : Nat) (p1_7_g : Nat → (Int × Int × Int × Int × Int)) : world.Same.f ((p0_0, p0_1, p0_2, p0_3, p0_4, (p0_5_n, (fun i => RiiiiiiiiiiL2.enc (p0_5_g i))), (p0_6_n, (fun i => Riiiiiiii.enc (p0_6_g i))), (p0_7_n, (fun i => Riiiii.enc (p0_7_g i)))), (p1_0, p1_1, p1_2, p1_3, p1_4, (p1_5_n, (fun i => RiiiiiiiiiiL2.enc (p1_5_g i))), (p1_6_n, (fun i => Riiiiiiii.enc (p1_6_g i))), (p1_7_n, (fun i => Riiiii.enc (p1_7_g i))))) =
  bif (p0_0 != p1_0) then
    some false
  else
  bif (p0_1 != p1_1) then
    some false
  else
  bif (p0_2 != p1_2) then
    some false
  else
  bif (!((p0_3 == p1_3) && ((p0_4 == p1_4) && true))) then
    some false
  else
  (slices.EqualFunc_lBody_lBody_Body_Body.f ((p0_5_n, (fun i => RiiiiiiiiiiL2.enc (p0_5_g i))), (p1_5_n, (fun i => RiiiiiiiiiiL2.enc (p1_5_g i))), ())).bind fun r1 =>
  bif r1 then
    (slices.Equal_lJoint_Joint.f ((p0_6_n, (fun i => Riiiiiiii.enc (p0_6_g i))), (p1_6_n, (fun i => Riiiiiiii.enc (p1_6_g i))))).bind fun r2 =>
    bif r2 then
      (slices.Equal_lContact_Contact.f ((p0_7_n, (fun i => Riiiii.enc (p0_7_g i))), (p1_7_n, (fun i => Riiiii.enc (p1_7_g i))))).bind fun r3 =>
      some r3
    else
    some false
  else
  some false := by kernel_rfl
end Go.Proofs.Ytbcnifnmccaleaa.E
