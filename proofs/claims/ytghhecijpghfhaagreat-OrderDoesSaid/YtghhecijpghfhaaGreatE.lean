import Derived.Test.YtghhecijpghfhaaGreatEb
import Derived.Test.YtghhecijpghfhaaGreatIt
import Derived.Test.YtghhecijpghfhaaGreatProg
namespace Go.Proofs.YtghhecijpghfhaaGreat.E
open Go Go.Proofs Go.Proofs.YtghhecijpghfhaaGreat Go.Proofs.YtghhecijpghfhaaGreat.Fw Go.RowKit
set_option maxRecDepth 100000
set_option linter.unusedVariables false
/-! ### bagatelle/order.All -/
noncomputable def order.All.cs : List (Nat × Fw.Summ) := [(8, order.Right.s), (9, world.Copy.s), (73, order.over.s), (10, order.Do.s)]
theorem order.All.cs_ok : SumsOk Tryz.prog order.All.cs := .cons order.Right.ok (.cons world.Copy.ok (.cons order.over.ok (.cons order.Do.ok (.nil))))
def order.All.hs : List (Nat × LHint) := [(0, { mat := [], live := [1, 2, 4, 14, 15, 16], ren := [] }), (2, { mat := [], live := [2, 4, 31, 32, 33], ren := [] })]
noncomputable def order.All.G : Ctx := ⟨Tryz.prog, sumAt order.All.cs, lookH order.All.hs⟩
noncomputable def order.All.g (k0 : Nat) (x : ((Int × Int × Int × Int × Int × (Nat × (Nat → List AV)) × (Nat × (Nat → List AV)) × (Nat × (Nat → List AV))) × (Nat × (Nat → (Int × Int × Int × Int × Int × Int × Int × Int × Int × Int × Int × Int × Int × Int × (Nat × (Nat → List AV))))))) : Option ((Int × Int × Int × Int × Int × (Nat × (Nat → (Int × Int × Int × Int × Int × Int × Int × Int × Int × Int × (Nat × (Nat → List AV))))) × (Nat × (Nat → (Int × Int × Int × Int × Int × Int × Int × Int))) × (Nat × (Nat → (Int × Int × Int × Int × Int)))) × Int) := evF order.All.G k0 Tryz.f27 ((tCons (tG (tCons (tI .i64) (tCons (tI .i64) (tCons (tI .i64) (tCons (tI .i64) (tCons (tI .i64) (tCons (tLz 11 (RiiiiiiiiiiL2.enc (0, 0, 0, 0, 0, 0, 0, 0, 0, 0, (0, fun _ => [])))) (tCons (tLz 8 (Riiiiiiii.enc (0, 0, 0, 0, 0, 0, 0, 0))) (tOne (tLz 5 (Riiiii.enc (0, 0, 0, 0, 0)))))))))))) (tOne (tTL RiiiiiiiiiiiiiiL2 15 (0, 0, 0, 0, 0, 0, 0, 0, 0, 0, 0, 0, 0, 0, (0, fun _ => []))))).enc x) (tT (tCons (tG (tCons (tI .i64) (tCons (tI .i64) (tCons (tI .i64) (tCons (tI .i64) (tCons (tI .i64) (tCons (tTL RiiiiiiiiiiL2 11 (0, 0, 0, 0, 0, 0, 0, 0, 0, 0, (0, fun _ => []))) (tCons (tTL Riiiiiiii 8 (0, 0, 0, 0, 0, 0, 0, 0)) (tOne (tTL Riiiii 5 (0, 0, 0, 0, 0))))))))))) (tOne (tI .i64)))).dec
noncomputable def order.All.f (x : ((Int × Int × Int × Int × Int × (Nat × (Nat → List AV)) × (Nat × (Nat → List AV)) × (Nat × (Nat → List AV))) × (Nat × (Nat → (Int × Int × Int × Int × Int × Int × Int × Int × Int × Int × Int × Int × Int × Int × (Nat × (Nat → List AV))))))) : Option ((Int × Int × Int × Int × Int × (Nat × (Nat → (Int × Int × Int × Int × Int × Int × Int × Int × Int × Int × (Nat × (Nat → List AV))))) × (Nat × (Nat → (Int × Int × Int × Int × Int × Int × Int × Int))) × (Nat × (Nat → (Int × Int × Int × Int × Int)))) × Int) := order.All.g (1000000) x
noncomputable def order.All.s : Fw.Summ := .mk' (tCons (tG (tCons (tI .i64) (tCons (tI .i64) (tCons (tI .i64) (tCons (tI .i64) (tCons (tI .i64) (tCons (tLz 11 (RiiiiiiiiiiL2.enc (0, 0, 0, 0, 0, 0, 0, 0, 0, 0, (0, fun _ => [])))) (tCons (tLz 8 (Riiiiiiii.enc (0, 0, 0, 0, 0, 0, 0, 0))) (tOne (tLz 5 (Riiiii.enc (0, 0, 0, 0, 0)))))))))))) (tOne (tTL RiiiiiiiiiiiiiiL2 15 (0, 0, 0, 0, 0, 0, 0, 0, 0, 0, 0, 0, 0, 0, (0, fun _ => []))))) (tT (tCons (tG (tCons (tI .i64) (tCons (tI .i64) (tCons (tI .i64) (tCons (tI .i64) (tCons (tI .i64) (tCons (tTL RiiiiiiiiiiL2 11 (0, 0, 0, 0, 0, 0, 0, 0, 0, 0, (0, fun _ => []))) (tCons (tTL Riiiiiiii 8 (0, 0, 0, 0, 0, 0, 0, 0)) (tOne (tTL Riiiii 5 (0, 0, 0, 0, 0))))))))))) (tOne (tI .i64)))) order.All.f
theorem order.All.ok : order.All.s.Ok Tryz.prog 27 :=
  summ_ok (hint := lookH order.All.hs) (fn := Tryz.f27) (fun x => 1000000) order.All.cs_ok (by kernel_rfl) (by kernel_rfl) (by kernel_rfl) (by kernel_rfl) (tCons_ok (tG_ok (tCons_ok (tI_ok _) (tCons_ok (tI_ok _) (tCons_ok (tI_ok _) (tCons_ok (tI_ok _) (tCons_ok (tI_ok _) (tCons_ok (tLz_ok _ _) (tCons_ok (tLz_ok _ _) (tOne_ok (tLz_ok _ _)))))))))) (tOne_ok (tTL_ok RiiiiiiiiiiiiiiL2_ok _ _))) (tT_ok (tCons_ok (tG_ok (tCons_ok (tI_ok _) (tCons_ok (tI_ok _) (tCons_ok (tI_ok _) (tCons_ok (tI_ok _) (tCons_ok (tI_ok _) (tCons_ok (tTL_ok RiiiiiiiiiiL2_ok _ _) (tCons_ok (tTL_ok Riiiiiiii_ok _ _) (tOne_ok (tTL_ok Riiiii_ok _ _)))))))))) (tOne_ok (tI_ok _)))) (fun _ => rfl)
noncomputable def order.All.l1 (k0 k1 : Nat) (v1 : Int) (v2 : Int) (v3 : Int) (v4 : Int) (v5 : Int) (v6 : Nat) (v7 : Nat → List AV) (v8 : Nat) (v9 : Nat → List AV) (v10 : Nat) (v11 : Nat → List AV) (v12 : Nat) (v13 : Nat → List AV) (v14 : Int) (v15 : Int) : Option ((Int × Int × Int × Int × Int × (Nat × (Nat → (Int × Int × Int × Int × Int × Int × Int × Int × Int × Int × (Nat × (Nat → List AV))))) × (Nat × (Nat → (Int × Int × Int × Int × Int × Int × Int × Int))) × (Nat × (Nat → (Int × Int × Int × Int × Int)))) × Int) :=
  evLoop (lookH order.All.hs 2) 2 (ev order.All.G k0 (codeAt [1, 1, 1, 1, 1, 0, 1, 0, 0] (bodyOf Tryz.f27)) 2) k1
  ⟨[.top, .top, .ptr 0 0 0, .top, .ptr 1 0 0, .top, .top, .top, .top, .top, .top, .top, .top, .top, .top, .top, .top, .top, .top, .top, .top, .top, .top, .top, .top, .top, .top, .top, .top, .top, .top, .lst 15 v12 none v13, .val (.int .i64 v14), .val (.int .i64 v15), .top, .top, .top, .top, .top, .top, .top, .top, .top, .top, .top], [.live ⟨false, 42, 8, 1, fun _ => [.val (.int .i64 v1), .val (.int .i64 v2), .val (.int .i64 v3), .val (.int .i64 v4), .val (.int .i64 v5), .lst 11 v6 none v7, .lst 8 v8 none v9, .lst 5 v10 none v11], none⟩, .live ⟨false, 42, 8, 1, fun _ => [.val (.int .i64 0), .val (.int .i64 0), .val (.int .i64 0), .val (.int .i64 0), .val (.int .i64 0), .val (.slice none 0 0), .val (.slice none 0 0), .val (.slice none 0 0)], none⟩]⟩
  (kBlock 2 (kSeq order.All.G k0 (codeAt [1, 1, 1, 1, 1, 1] (bodyOf Tryz.f27)) 0 (kFin order.All.G Tryz.f27 (tT (tCons (tG (tCons (tI .i64) (tCons (tI .i64) (tCons (tI .i64) (tCons (tI .i64) (tCons (tI .i64) (tCons (tTL RiiiiiiiiiiL2 11 (0, 0, 0, 0, 0, 0, 0, 0, 0, 0, (0, fun _ => []))) (tCons (tTL Riiiiiiii 8 (0, 0, 0, 0, 0, 0, 0, 0)) (tOne (tTL Riiiii 5 (0, 0, 0, 0, 0))))))))))) (tOne (tI .i64)))).dec)))
noncomputable def order.All.l0 (k0 k1 : Nat) (v1 : Int) (v2 : Int) (v3 : Int) (v4 : Int) (v5 : Int) (v6 : Nat) (v7 : Nat → List AV) (v8 : Nat) (v9 : Nat → List AV) (v10 : Nat) (v11 : Nat → List AV) (v12 : Nat) (v13 : Nat → List AV) (v14 : Int) (v15 : Int) : Option ((Int × Int × Int × Int × Int × (Nat × (Nat → (Int × Int × Int × Int × Int × Int × Int × Int × Int × Int × (Nat × (Nat → List AV))))) × (Nat × (Nat → (Int × Int × Int × Int × Int × Int × Int × Int))) × (Nat × (Nat → (Int × Int × Int × Int × Int)))) × Int) :=
  evLoop (lookH order.All.hs 0) 2 (ev order.All.G k0 (codeAt [1, 1, 0, 1, 0, 0] (bodyOf Tryz.f27)) 0) k1
  ⟨[.top, .lst 15 v12 none v13, .ptr 0 0 0, .top, .ptr 1 0 0, .top, .top, .top, .top, .top, .top, .top, .top, .top, .lst 15 v12 none v13, .val (.int .i64 v14), .val (.int .i64 v15), .top, .top, .top, .top, .top, .top, .top, .top, .top, .top, .top, .top, .top, .top, .top, .top, .top, .top, .top, .top, .top, .top, .top, .top, .top, .top, .top, .top], [.live ⟨false, 42, 8, 1, fun _ => [.val (.int .i64 v1), .val (.int .i64 v2), .val (.int .i64 v3), .val (.int .i64 v4), .val (.int .i64 v5), .lst 11 v6 none v7, .lst 8 v8 none v9, .lst 5 v10 none v11], none⟩, .live ⟨false, 42, 8, 1, fun _ => [.val (.int .i64 0), .val (.int .i64 0), .val (.int .i64 0), .val (.int .i64 0), .val (.int .i64 0), .val (.slice none 0 0), .val (.slice none 0 0), .val (.slice none 0 0)], none⟩]⟩
  (kBlock 0 (kSeq order.All.G k0 (codeAt [1, 1, 1] (bodyOf Tryz.f27)) 0 (kFin order.All.G Tryz.f27 (tT (tCons (tG (tCons (tI .i64) (tCons (tI .i64) (tCons (tI .i64) (tCons (tI .i64) (tCons (tI .i64) (tCons (tTL RiiiiiiiiiiL2 11 (0, 0, 0, 0, 0, 0, 0, 0, 0, 0, (0, fun _ => []))) (tCons (tTL Riiiiiiii 8 (0, 0, 0, 0, 0, 0, 0, 0)) (tOne (tTL Riiiii 5 (0, 0, 0, 0, 0))))))))))) (tOne (tI .i64)))).dec)))
theorem order.All.l1_eq (k0 k1 : Nat) (v1 : Int) (v2 : Int) (v3 : Int) (v4 : Int) (v5 : Int) (v6 : Nat) (v7 : Nat → (Int × Int × Int × Int × Int × Int × Int × Int × Int × Int × (Nat × (Nat → List AV)))) (v8 : Nat) (v9 : Nat → (Int × Int × Int × Int × Int × Int × Int × Int)) (v10 : Nat) (v11 : Nat → (Int × Int × Int × Int × Int)) (v12 : Nat) (v13 : Nat → (Int × Int × Int × Int × Int × Int × Int × Int × Int × Int × Int × Int × Int × Int × (Nat × (Nat → List AV)))) (v14 : Int) (v15 : Int) : order.All.l1 k0 (k1 + 1) v1 v2 v3 v4 v5 v6 (fun i => RiiiiiiiiiiL2.enc (v7 i)) v8 (fun i => Riiiiiiii.enc (v9 i)) v10 (fun i => Riiiii.enc (v11 i)) v12 (fun i => RiiiiiiiiiiiiiiL2.enc (v13 i)) v14 v15 =
  bif (decide (v15 < v14)) then
    bif ((decide (0 ≤ v15)) && (decide (v15 < ((v12 : Nat) : Int)))) then
    (order.over.f ((v1, v2, v3, v4, v5, (v6, (fun i => RiiiiiiiiiiL2.enc (v7 i))), (v8, (fun i => Riiiiiiii.enc (v9 i))), (v10, (fun i => Riiiii.enc (v11 i)))), ((v13 (Int.toNat v15)).1, (v13 (Int.toNat v15)).2.1, (v13 (Int.toNat v15)).2.2.1, (v13 (Int.toNat v15)).2.2.2.1, (v13 (Int.toNat v15)).2.2.2.2.1, (v13 (Int.toNat v15)).2.2.2.2.2.1, (v13 (Int.toNat v15)).2.2.2.2.2.2.1, (v13 (Int.toNat v15)).2.2.2.2.2.2.2.1, (v13 (Int.toNat v15)).2.2.2.2.2.2.2.2.1, (v13 (Int.toNat v15)).2.2.2.2.2.2.2.2.2.1, (v13 (Int.toNat v15)).2.2.2.2.2.2.2.2.2.2.1, (v13 (Int.toNat v15)).2.2.2.2.2.2.2.2.2.2.2.1, (v13 (Int.toNat v15)).2.2.2.2.2.2.2.2.2.2.2.2.1, (v13 (Int.toNat v15)).2.2.2.2.2.2.2.2.2.2.2.2.2.1, ((v13 (Int.toNat v15)).2.2.2.2.2.2.2.2.2.2.2.2.2.2.1, (v13 (Int.toNat v15)).2.2.2.2.2.2.2.2.2.2.2.2.2.2.2)))).bind fun r3 =>
    bif r3 then
      (tT (tCons (tG (tCons (tI .i64) (tCons (tI .i64) (tCons (tI .i64) (tCons (tI .i64) (tCons (tI .i64) (tCons (tTL RiiiiiiiiiiL2 11 (0, 0, 0, 0, 0, 0, 0, 0, 0, 0, (0, fun _ => []))) (tCons (tTL Riiiiiiii 8 (0, 0, 0, 0, 0, 0, 0, 0)) (tOne (tTL Riiiii 5 (0, 0, 0, 0, 0))))))))))) (tOne (tI .i64)))).dec (.tup [.agg [.val (.int .i64 0), .val (.int .i64 0), .val (.int .i64 0), .val (.int .i64 0), .val (.int .i64 0), .val (.slice none 0 0), .val (.slice none 0 0), .val (.slice none 0 0)], .val (.int .i64 3)])
    else
    (order.Do.f ((v1, v2, v3, v4, v5, (v6, (fun i => RiiiiiiiiiiL2.enc (v7 i))), (v8, (fun i => Riiiiiiii.enc (v9 i))), (v10, (fun i => Riiiii.enc (v11 i)))), ((v13 (Int.toNat v15)).1, (v13 (Int.toNat v15)).2.1, (v13 (Int.toNat v15)).2.2.1, (v13 (Int.toNat v15)).2.2.2.1, (v13 (Int.toNat v15)).2.2.2.2.1, (v13 (Int.toNat v15)).2.2.2.2.2.1, (v13 (Int.toNat v15)).2.2.2.2.2.2.1, (v13 (Int.toNat v15)).2.2.2.2.2.2.2.1, (v13 (Int.toNat v15)).2.2.2.2.2.2.2.2.1, (v13 (Int.toNat v15)).2.2.2.2.2.2.2.2.2.1, (v13 (Int.toNat v15)).2.2.2.2.2.2.2.2.2.2.1, (v13 (Int.toNat v15)).2.2.2.2.2.2.2.2.2.2.2.1, (v13 (Int.toNat v15)).2.2.2.2.2.2.2.2.2.2.2.2.1, (v13 (Int.toNat v15)).2.2.2.2.2.2.2.2.2.2.2.2.2.1, ((v13 (Int.toNat v15)).2.2.2.2.2.2.2.2.2.2.2.2.2.2.1, (v13 (Int.toNat v15)).2.2.2.2.2.2.2.2.2.2.2.2.2.2.2)))).bind fun r4 =>
    order.All.l1 k0 k1 r4.2.1 r4.2.2.1 r4.2.2.2.1 r4.2.2.2.2.1 r4.2.2.2.2.2.1 r4.2.2.2.2.2.2.1.1 (fun i => RiiiiiiiiiiL2.enc (r4.2.2.2.2.2.2.1.2 i)) r4.2.2.2.2.2.2.2.1.1 (fun i => Riiiiiiii.enc (r4.2.2.2.2.2.2.2.1.2 i)) r4.2.2.2.2.2.2.2.2.1 (fun i => Riiiii.enc (r4.2.2.2.2.2.2.2.2.2 i)) v12 (fun i => RiiiiiiiiiiiiiiL2.enc (v13 i)) v14 (IntKind.i64.wrap (v15 + 1))
    else none
  else
  (tT (tCons (tG (tCons (tI .i64) (tCons (tI .i64) (tCons (tI .i64) (tCons (tI .i64) (tCons (tI .i64) (tCons (tTL RiiiiiiiiiiL2 11 (0, 0, 0, 0, 0, 0, 0, 0, 0, 0, (0, fun _ => []))) (tCons (tTL Riiiiiiii 8 (0, 0, 0, 0, 0, 0, 0, 0)) (tOne (tTL Riiiii 5 (0, 0, 0, 0, 0))))))))))) (tOne (tI .i64)))).dec (.tup [.agg [.val (.int .i64 v1), .val (.int .i64 v2), .val (.int .i64 v3), .val (.int .i64 v4), .val (.int .i64 v5), .lst 11 v6 none (fun i => RiiiiiiiiiiL2.enc (v7 i)), .lst 8 v8 none (fun i => Riiiiiiii.enc (v9 i)), .lst 5 v10 none (fun i => Riiiii.enc (v11 i))], .val (.int .i64 0)]) := by kernel_rfl
theorem order.All.l0_eq (k0 k1 : Nat) (v1 : Int) (v2 : Int) (v3 : Int) (v4 : Int) (v5 : Int) (v6 : Nat) (v7 : Nat → (Int × Int × Int × Int × Int × Int × Int × Int × Int × Int × (Nat × (Nat → List AV)))) (v8 : Nat) (v9 : Nat → (Int × Int × Int × Int × Int × Int × Int × Int)) (v10 : Nat) (v11 : Nat → (Int × Int × Int × Int × Int)) (v12 : Nat) (v13 : Nat → (Int × Int × Int × Int × Int × Int × Int × Int × Int × Int × Int × Int × Int × Int × (Nat × (Nat → List AV)))) (v14 : Int) (v15 : Int) : order.All.l0 k0 (k1 + 1) v1 v2 v3 v4 v5 v6 (fun i => RiiiiiiiiiiL2.enc (v7 i)) v8 (fun i => Riiiiiiii.enc (v9 i)) v10 (fun i => Riiiii.enc (v11 i)) v12 (fun i => RiiiiiiiiiiiiiiL2.enc (v13 i)) v14 v15 =
  bif (decide (v15 < v14)) then
    bif ((decide (0 ≤ v15)) && (decide (v15 < ((v12 : Nat) : Int)))) then
    (order.Right.f ((v13 (Int.toNat v15)).1, (v13 (Int.toNat v15)).2.1, (v13 (Int.toNat v15)).2.2.1, (v13 (Int.toNat v15)).2.2.2.1, (v13 (Int.toNat v15)).2.2.2.2.1, (v13 (Int.toNat v15)).2.2.2.2.2.1, (v13 (Int.toNat v15)).2.2.2.2.2.2.1, (v13 (Int.toNat v15)).2.2.2.2.2.2.2.1, (v13 (Int.toNat v15)).2.2.2.2.2.2.2.2.1, (v13 (Int.toNat v15)).2.2.2.2.2.2.2.2.2.1, (v13 (Int.toNat v15)).2.2.2.2.2.2.2.2.2.2.1, (v13 (Int.toNat v15)).2.2.2.2.2.2.2.2.2.2.2.1, (v13 (Int.toNat v15)).2.2.2.2.2.2.2.2.2.2.2.2.1, (v13 (Int.toNat v15)).2.2.2.2.2.2.2.2.2.2.2.2.2.1, ((v13 (Int.toNat v15)).2.2.2.2.2.2.2.2.2.2.2.2.2.2.1, (v13 (Int.toNat v15)).2.2.2.2.2.2.2.2.2.2.2.2.2.2.2))).bind fun r1 =>
    bif (!r1) then
      (tT (tCons (tG (tCons (tI .i64) (tCons (tI .i64) (tCons (tI .i64) (tCons (tI .i64) (tCons (tI .i64) (tCons (tTL RiiiiiiiiiiL2 11 (0, 0, 0, 0, 0, 0, 0, 0, 0, 0, (0, fun _ => []))) (tCons (tTL Riiiiiiii 8 (0, 0, 0, 0, 0, 0, 0, 0)) (tOne (tTL Riiiii 5 (0, 0, 0, 0, 0))))))))))) (tOne (tI .i64)))).dec (.tup [.agg [.val (.int .i64 0), .val (.int .i64 0), .val (.int .i64 0), .val (.int .i64 0), .val (.int .i64 0), .val (.slice none 0 0), .val (.slice none 0 0), .val (.slice none 0 0)], .val (.int .i64 2)])
    else
    order.All.l0 k0 k1 v1 v2 v3 v4 v5 v6 (fun i => RiiiiiiiiiiL2.enc (v7 i)) v8 (fun i => Riiiiiiii.enc (v9 i)) v10 (fun i => Riiiii.enc (v11 i)) v12 (fun i => RiiiiiiiiiiiiiiL2.enc (v13 i)) v14 (IntKind.i64.wrap (v15 + 1))
    else none
  else
  bif (decide (v1 ≥ 4611686018427387904)) then
    (tT (tCons (tG (tCons (tI .i64) (tCons (tI .i64) (tCons (tI .i64) (tCons (tI .i64) (tCons (tI .i64) (tCons (tTL RiiiiiiiiiiL2 11 (0, 0, 0, 0, 0, 0, 0, 0, 0, 0, (0, fun _ => []))) (tCons (tTL Riiiiiiii 8 (0, 0, 0, 0, 0, 0, 0, 0)) (tOne (tTL Riiiii 5 (0, 0, 0, 0, 0))))))))))) (tOne (tI .i64)))).dec (.tup [.agg [.val (.int .i64 0), .val (.int .i64 0), .val (.int .i64 0), .val (.int .i64 0), .val (.int .i64 0), .val (.slice none 0 0), .val (.slice none 0 0), .val (.slice none 0 0)], .val (.int .i64 3)])
  else
  (world.Copy.f (v1, v2, v3, v4, v5, (v6, (fun i => RiiiiiiiiiiL2.enc (v7 i))), (v8, (fun i => Riiiiiiii.enc (v9 i))), (v10, (fun i => Riiiii.enc (v11 i))))).bind fun r2 =>
  order.All.l1 k0 k0 r2.1 r2.2.1 r2.2.2.1 r2.2.2.2.1 r2.2.2.2.2.1 r2.2.2.2.2.2.1.1 (fun i => RiiiiiiiiiiL2.enc (r2.2.2.2.2.2.1.2 i)) r2.2.2.2.2.2.2.1.1 (fun i => Riiiiiiii.enc (r2.2.2.2.2.2.2.1.2 i)) r2.2.2.2.2.2.2.2.1 (fun i => Riiiii.enc (r2.2.2.2.2.2.2.2.2 i)) v12 (fun i => RiiiiiiiiiiiiiiL2.enc (v13 i)) ((v12 : Nat) : Int) 0 := by kernel_rfl
theorem order.All.eq (k0 : Nat) (p0_0 : Int) (p0_1 : Int) (p0_2 : Int) (p0_3 : Int) (p0_4 : Int) (p0_5_n : Nat) (p0_5_g : Nat → (Int × Int × Int × Int × Int × Int × Int × Int × Int × Int × (Nat × (Nat → List AV)))) (p0_6_n : Nat) (p0_6_g : Nat → (Int × Int × Int × Int × Int × Int × Int × Int)) (p0_7_n : Nat) (p0_7_g : Nat → (Int × Int × Int × Int × Int)) (p1_n : Nat) (p1_g : Nat → (Int × Int × Int × Int × Int × Int × Int × Int × Int × Int × Int × Int × Int × Int × (Nat × (Nat → List AV)))) : order.All.g k0 ((p0_0, p0_1, p0_2, p0_3, p0_4, (p0_5_n, (fun i => RiiiiiiiiiiL2.enc (p0_5_g i))), (p0_6_n, (fun i => Riiiiiiii.enc (p0_6_g i))), (p0_7_n, (fun i => Riiiii.enc (p0_7_g i)))), (p1_n, p1_g)) =
  bif (decide (((p1_n : Nat) : Int) > 64)) then
    (tT (tCons (tG (tCons (tI .i64) (tCons (tI .i64) (tCons (tI .i64) (tCons (tI .i64) (tCons (tI .i64) (tCons (tTL RiiiiiiiiiiL2 11 (0, 0, 0, 0, 0, 0, 0, 0, 0, 0, (0, fun _ => []))) (tCons (tTL Riiiiiiii 8 (0, 0, 0, 0, 0, 0, 0, 0)) (tOne (tTL Riiiii 5 (0, 0, 0, 0, 0))))))))))) (tOne (tI .i64)))).dec (.tup [.agg [.val (.int .i64 0), .val (.int .i64 0), .val (.int .i64 0), .val (.int .i64 0), .val (.int .i64 0), .val (.slice none 0 0), .val (.slice none 0 0), .val (.slice none 0 0)], .val (.int .i64 3)])
  else
  order.All.l0 k0 k0 p0_0 p0_1 p0_2 p0_3 p0_4 p0_5_n (fun i => RiiiiiiiiiiL2.enc (p0_5_g i)) p0_6_n (fun i => Riiiiiiii.enc (p0_6_g i)) p0_7_n (fun i => Riiiii.enc (p0_7_g i)) p1_n (fun i => RiiiiiiiiiiiiiiL2.enc (p1_g i)) ((p1_n : Nat) : Int) 0 := by kernel_rfl
/-! ### bagatelle/bagatellelaw10.fit -/
noncomputable def law10.fit.cs : List (Nat × Fw.Summ) := [(29, world.New.s), (27, order.All.s), (8, order.Right.s)]
theorem law10.fit.cs_ok : SumsOk Tryz.prog law10.fit.cs := .cons world.New.ok (.cons order.All.ok (.cons order.Right.ok (.nil)))
def law10.fit.hs : List (Nat × LHint) := []
noncomputable def law10.fit.G : Ctx := ⟨Tryz.prog, sumAt law10.fit.cs, lookH law10.fit.hs⟩
noncomputable def law10.fit.f (x : Unit) : Option Bool := evF law10.fit.G 0 Tryz.f5 (tNil.enc x) tB.dec
noncomputable def law10.fit.s : Fw.Summ := .mk' tNil tB law10.fit.f
theorem law10.fit.ok : law10.fit.s.Ok Tryz.prog 5 :=
  summ_ok (hint := lookH law10.fit.hs) (fn := Tryz.f5) (fun x => 0) law10.fit.cs_ok (by kernel_rfl) (by kernel_rfl) (by kernel_rfl) (by kernel_rfl) tNil_ok tB_ok (fun _ => rfl)
theorem law10.fit.eq  : law10.fit.f () =
  (world.New.f ()).bind fun r1 =>
  ((tCons (tG (tCons (tI .i64) (tCons (tI .i64) (tCons (tI .i64) (tCons (tI .i64) (tCons (tI .i64) (tCons (tLz 11 (RiiiiiiiiiiL2.enc (0, 0, 0, 0, 0, 0, 0, 0, 0, 0, (0, fun _ => [])))) (tCons (tLz 8 (Riiiiiiii.enc (0, 0, 0, 0, 0, 0, 0, 0))) (tOne (tLz 5 (Riiiii.enc (0, 0, 0, 0, 0)))))))))))) (tOne (tTL RiiiiiiiiiiiiiiL2 15 (0, 0, 0, 0, 0, 0, 0, 0, 0, 0, 0, 0, 0, 0, (0, fun _ => []))))).dec [.agg [.val (.int .i64 r1.1), .val (.int .i64 r1.2.1), .val (.int .i64 r1.2.2.1), .val (.int .i64 r1.2.2.2.1), .val (.int .i64 r1.2.2.2.2.1), .lst 11 r1.2.2.2.2.2.1.1 none (fun i => RiiiiiiiiiiL2.enc (r1.2.2.2.2.2.1.2 i)), .lst 8 r1.2.2.2.2.2.2.1.1 none (fun i => Riiiiiiii.enc (r1.2.2.2.2.2.2.1.2 i)), .lst 5 r1.2.2.2.2.2.2.2.1 none (fun i => Riiiii.enc (r1.2.2.2.2.2.2.2.2 i))], .lst 15 1 (some 1) (fun i => cloL (List.getD [[.val (.int .i64 6), .val (.int .i64 0), .val (.int .i64 0), .val (.int .i64 0), .val (.int .i64 0), .val (.int .i64 0), .val (.int .i64 0), .val (.int .i64 (-4294967296)), .val (.int .i64 0), .val (.int .i64 0), .val (.int .i64 0), .val (.int .i64 0), .val (.int .i64 0), .val (.int .i64 0), .val (.slice none 0 0)]] i ([.val (.int .i64 0), .val (.int .i64 0), .val (.int .i64 0), .val (.int .i64 0), .val (.int .i64 0), .val (.int .i64 0), .val (.int .i64 0), .val (.int .i64 0), .val (.int .i64 0), .val (.int .i64 0), .val (.int .i64 0), .val (.int .i64 0), .val (.int .i64 0), .val (.int .i64 0), .val (.slice none 0 0)])))]).bind fun r3 =>
  (order.All.f r3).bind fun r2 =>
  bif (r2.2 == 0) then
    bif (r2.1.2.2.2.2.1 == (-4294967296)) then
      (order.Right.f (6, 1, 0, 0, 0, 0, 0, 0, 0, 0, 0, 0, 0, 0, (0, fun _ => Rii.enc (0, 0)))).bind fun r4 =>
      bif (!r4) then
        (order.Right.f (0, 0, 0, 0, 0, 0, 0, 0, 0, 0, 0, 0, 0, 0, (0, fun _ => Rii.enc (0, 0)))).bind fun r5 =>
        some (!r5)
      else
      some false
    else
    some false
  else
  some false := by kernel_rfl
/-! ### (bagatelle/bagatellelaw09.Deed).Joint -/
noncomputable def law09.Deed.Joint.cs : List (Nat × Fw.Summ) := [(18, vec.Bring.s)]
theorem law09.Deed.Joint.cs_ok : SumsOk Tryz.prog law09.Deed.Joint.cs := .cons vec.Bring.ok (.nil)
def law09.Deed.Joint.hs : List (Nat × LHint) := []
noncomputable def law09.Deed.Joint.G : Ctx := ⟨Tryz.prog, sumAt law09.Deed.Joint.cs, lookH law09.Deed.Joint.hs⟩
noncomputable def law09.Deed.Joint.f (x : (Int × Int × Int × Int × Int × Int × Int × Int × Int × Int × Int × Int × Int × Int × Int × Int × Int × Int × Int × Int × Int × Int × Int × Int × Int × Int × Int × Int × Int × (Nat × (Nat → List AV)))) : Option (Int × Int × Int × Int × Int × Int × Int × Int) := evF law09.Deed.Joint.G 0 Tryz.f14 ((tOne (tG (tCons (tI .i64) (tCons (tI .i64) (tCons (tI .i64) (tCons (tI .i64) (tCons (tI .i64) (tCons (tI .i64) (tCons (tI .i64) (tCons (tI .i64) (tCons (tI .i64) (tCons (tI .i64) (tCons (tI .i64) (tCons (tI .i64) (tCons (tI .i64) (tCons (tI .i64) (tCons (tI .i64) (tCons (tI .i64) (tCons (tI .i64) (tCons (tI .i64) (tCons (tI .i64) (tCons (tI .i64) (tCons (tI .i64) (tCons (tI .i64) (tCons (tI .i64) (tCons (tI .i64) (tCons (tI .i64) (tCons (tI .i64) (tCons (tI .i64) (tCons (tI .i64) (tCons (tI .i64) (tOne (tLz 2 (Rii.enc (0, 0))))))))))))))))))))))))))))))))))).enc x) (tG (tCons (tI .i64) (tCons (tI .i64) (tCons (tI .i64) (tCons (tI .i64) (tCons (tI .i64) (tCons (tI .i64) (tCons (tI .i64) (tOne (tI .i64)))))))))).dec
noncomputable def law09.Deed.Joint.s : Fw.Summ := .mk' (tOne (tG (tCons (tI .i64) (tCons (tI .i64) (tCons (tI .i64) (tCons (tI .i64) (tCons (tI .i64) (tCons (tI .i64) (tCons (tI .i64) (tCons (tI .i64) (tCons (tI .i64) (tCons (tI .i64) (tCons (tI .i64) (tCons (tI .i64) (tCons (tI .i64) (tCons (tI .i64) (tCons (tI .i64) (tCons (tI .i64) (tCons (tI .i64) (tCons (tI .i64) (tCons (tI .i64) (tCons (tI .i64) (tCons (tI .i64) (tCons (tI .i64) (tCons (tI .i64) (tCons (tI .i64) (tCons (tI .i64) (tCons (tI .i64) (tCons (tI .i64) (tCons (tI .i64) (tCons (tI .i64) (tOne (tLz 2 (Rii.enc (0, 0))))))))))))))))))))))))))))))))))) (tG (tCons (tI .i64) (tCons (tI .i64) (tCons (tI .i64) (tCons (tI .i64) (tCons (tI .i64) (tCons (tI .i64) (tCons (tI .i64) (tOne (tI .i64)))))))))) law09.Deed.Joint.f
theorem law09.Deed.Joint.ok : law09.Deed.Joint.s.Ok Tryz.prog 14 :=
  summ_ok (hint := lookH law09.Deed.Joint.hs) (fn := Tryz.f14) (fun x => 0) law09.Deed.Joint.cs_ok (by kernel_rfl) (by kernel_rfl) (by kernel_rfl) (by kernel_rfl) (tOne_ok (tG_ok (tCons_ok (tI_ok _) (tCons_ok (tI_ok _) (tCons_ok (tI_ok _) (tCons_ok (tI_ok _) (tCons_ok (tI_ok _) (tCons_ok (tI_ok _) (tCons_ok (tI_ok _) (tCons_ok (tI_ok _) (tCons_ok (tI_ok _) (tCons_ok (tI_ok _) (tCons_ok (tI_ok _) (tCons_ok (tI_ok _) (tCons_ok (tI_ok _) (tCons_ok (tI_ok _) (tCons_ok (tI_ok _) (tCons_ok (tI_ok _) (tCons_ok (tI_ok _) (tCons_ok (tI_ok _) (tCons_ok (tI_ok _) (tCons_ok (tI_ok _) (tCons_ok (tI_ok _) (tCons_ok (tI_ok _) (tCons_ok (tI_ok _) (tCons_ok (tI_ok _) (tCons_ok (tI_ok _) (tCons_ok (tI_ok _) (tCons_ok (tI_ok _) (tCons_ok (tI_ok _) (tCons_ok (tI_ok _) (tOne_ok (tLz_ok _ _))))))))))))))))))))))))))))))))) (tG_ok (tCons_ok (tI_ok _) (tCons_ok (tI_ok _) (tCons_ok (tI_ok _) (tCons_ok (tI_ok _) (tCons_ok (tI_ok _) (tCons_ok (tI_ok _) (tCons_ok (tI_ok _) (tOne_ok (tI_ok _)))))))))) (fun _ => rfl)
theorem law09.Deed.Joint.eq (p0_0 : Int) (p0_1 : Int) (p0_2 : Int) (p0_3 : Int) (p0_4 : Int) (p0_5 : Int) (p0_6 : Int) (p0_7 : Int) (p0_8 : Int) (p0_9 : Int) (p0_10 : Int) (p0_11 : Int) (p0_12 : Int) (p0_13 : Int) (p0_14 : Int) (p0_15 : Int) (p0_16 : Int) (p0_17 : Int) (p0_18 : Int) (p0_19 : Int) (p0_20 : Int) (p0_21 : Int) (p0_22 : Int) (p0_23 : Int) (p0_24 : Int) (p0_25 : Int) (p0_26 : Int) (p0_27 : Int) (p0_28 : Int) (p0_29_n : Nat) (p0_29_g : Nat → (Int × Int)) : law09.Deed.Joint.f (p0_0, p0_1, p0_2, p0_3, p0_4, p0_5, p0_6, p0_7, p0_8, p0_9, p0_10, p0_11, p0_12, p0_13, p0_14, p0_15, p0_16, p0_17, p0_18, p0_19, p0_20, p0_21, p0_22, p0_23, p0_24, p0_25, p0_26, p0_27, p0_28, (p0_29_n, (fun i => Rii.enc (p0_29_g i)))) =
  (vec.Bring.f ((p0_14, p0_15), 17179869184)).bind fun r1 =>
  (vec.Bring.f ((p0_16, p0_17), 17179869184)).bind fun r2 =>
  some (0, (Go.bits .and .i64 p0_12 15), (Go.bits .and .i64 p0_13 15), r1.1, r1.2, r2.1, r2.2, p0_18) := by kernel_rfl
/-! ### bagatelle/shape.Box -/
noncomputable def shape.Box.cs : List (Nat × Fw.Summ) := [(76, fix.Neg.s)]
theorem shape.Box.cs_ok : SumsOk Tryz.prog shape.Box.cs := .cons fix.Neg.ok (.nil)
def shape.Box.hs : List (Nat × LHint) := []
noncomputable def shape.Box.G : Ctx := ⟨Tryz.prog, sumAt shape.Box.cs, lookH shape.Box.hs⟩
noncomputable def shape.Box.f (x : (Int × Int)) : Option (Int × Int × (Nat × (Nat → (Int × Int)))) := evF shape.Box.G 0 Tryz.f96 ((tCons (tI .i64) (tOne (tI .i64))).enc x) (tG (tCons (tI .i64) (tCons (tI .i64) (tOne (tTL Rii 2 (0, 0)))))).dec
noncomputable def shape.Box.s : Fw.Summ := .mk' (tCons (tI .i64) (tOne (tI .i64))) (tG (tCons (tI .i64) (tCons (tI .i64) (tOne (tTL Rii 2 (0, 0)))))) shape.Box.f
theorem shape.Box.ok : shape.Box.s.Ok Tryz.prog 96 :=
  summ_ok (hint := lookH shape.Box.hs) (fn := Tryz.f96) (fun x => 0) shape.Box.cs_ok (by kernel_rfl) (by kernel_rfl) (by kernel_rfl) (by kernel_rfl) (tCons_ok (tI_ok _) (tOne_ok (tI_ok _))) (tG_ok (tCons_ok (tI_ok _) (tCons_ok (tI_ok _) (tOne_ok (tTL_ok Rii_ok _ _))))) (fun _ => rfl)
theorem shape.Box.eq (p0 : Int) (p1 : Int) : shape.Box.f (p0, p1) =
  (fix.Neg.f p0).bind fun r1 =>
  (fix.Neg.f p1).bind fun r2 =>
  (fix.Neg.f p1).bind fun r3 =>
  (fix.Neg.f p0).bind fun r4 =>
  (tG (tCons (tI .i64) (tCons (tI .i64) (tOne (tTL Rii 2 (0, 0)))))).dec (.agg [.val (.int .i64 2), .val (.int .i64 0), .lst 2 4 (some 4) (fun i => cloL (List.getD (List.map Rii.enc [(r1, r2), (p0, r3), (p0, p1), (r4, p1)]) i (Rii.enc (0, 0))))]) := by kernel_rfl
/-! ### bagatelle/bagatellelaw04.ring -/
noncomputable def law04.ring.cs : List (Nat × Fw.Summ) := []
theorem law04.ring.cs_ok : SumsOk Tryz.prog law04.ring.cs := .nil
def law04.ring.hs : List (Nat × LHint) := []
noncomputable def law04.ring.G : Ctx := ⟨Tryz.prog, sumAt law04.ring.cs, lookH law04.ring.hs⟩
noncomputable def law04.ring.f (x : Unit) : Option (Nat × (Nat → (Int × Int))) := evF law04.ring.G 0 Tryz.f97 (tNil.enc x) (tTL Rii 2 (0, 0)).dec
noncomputable def law04.ring.s : Fw.Summ := .mk' tNil (tTL Rii 2 (0, 0)) law04.ring.f
theorem law04.ring.ok : law04.ring.s.Ok Tryz.prog 97 :=
  summ_ok (hint := lookH law04.ring.hs) (fn := Tryz.f97) (fun x => 0) law04.ring.cs_ok (by kernel_rfl) (by kernel_rfl) (by kernel_rfl) (by kernel_rfl) tNil_ok (tTL_ok Rii_ok _ _) (fun _ => rfl)
theorem law04.ring.eq  : law04.ring.f () =
  (tTL Rii 2 (0, 0)).dec (.lst 2 10 (some 10) (fun i => cloL (List.getD (List.map Rii.enc [(65, 0), (52, 39), (25, 60), ((-25), 60), ((-52), 39), ((-65), 0), ((-52), (-39)), ((-25), (-60)), (25, (-60)), (52, (-39))]) i (Rii.enc (0, 0))))) := by kernel_rfl
/-! ### (bagatelle/bagatellelaw04.Seed).Shape -/
noncomputable def law04.Seed.Shape.cs : List (Nat × Fw.Summ) := [(96, shape.Box.s), (97, law04.ring.s)]
theorem law04.Seed.Shape.cs_ok : SumsOk Tryz.prog law04.Seed.Shape.cs := .cons shape.Box.ok (.cons law04.ring.ok (.nil))
def law04.Seed.Shape.hs : List (Nat × LHint) := [(1, { mat := [(.cell 2 0 2, 27)], live := [1, 2, 3, 4, 5, 6, 39, 40], ren := [(.cell 2 0 2, 3)] })]
noncomputable def law04.Seed.Shape.G : Ctx := ⟨Tryz.prog, sumAt law04.Seed.Shape.cs, lookH law04.Seed.Shape.hs⟩
noncomputable def law04.Seed.Shape.g (k0 : Nat) (x : (Int × Int × Int × Int)) : Option (Int × Int × (Nat × (Nat → (Int × Int)))) := evF law04.Seed.Shape.G k0 Tryz.f77 ((tOne (tG (tCons (tI .i64) (tCons (tI .i64) (tCons (tI .i64) (tOne (tI .i64))))))).enc x) (tG (tCons (tI .i64) (tCons (tI .i64) (tOne (tTL Rii 2 (0, 0)))))).dec
noncomputable def law04.Seed.Shape.f (x : (Int × Int × Int × Int)) : Option (Int × Int × (Nat × (Nat → (Int × Int)))) := law04.Seed.Shape.g (1000000) x
noncomputable def law04.Seed.Shape.s : Fw.Summ := .mk' (tOne (tG (tCons (tI .i64) (tCons (tI .i64) (tCons (tI .i64) (tOne (tI .i64))))))) (tG (tCons (tI .i64) (tCons (tI .i64) (tOne (tTL Rii 2 (0, 0)))))) law04.Seed.Shape.f
theorem law04.Seed.Shape.ok : law04.Seed.Shape.s.Ok Tryz.prog 77 :=
  summ_ok (hint := lookH law04.Seed.Shape.hs) (fn := Tryz.f77) (fun x => 1000000) law04.Seed.Shape.cs_ok (by kernel_rfl) (by kernel_rfl) (by kernel_rfl) (by kernel_rfl) (tOne_ok (tG_ok (tCons_ok (tI_ok _) (tCons_ok (tI_ok _) (tCons_ok (tI_ok _) (tOne_ok (tI_ok _))))))) (tG_ok (tCons_ok (tI_ok _) (tCons_ok (tI_ok _) (tOne_ok (tTL_ok Rii_ok _ _))))) (fun _ => rfl)
noncomputable def law04.Seed.Shape.l2 (k0 k1 : Nat) (v1 : Int) (v2 : Int) (v3 : Int) (v4 : Int) (v5 : Nat) (v6 : Nat → List AV) (v7 : Int) (v8 : Int) (v9 : Nat) (v10 : Nat → List AV) (v11 : Int) : Option (Int × Int × (Nat × (Nat → (Int × Int)))) :=
  evLoop (lookH law04.Seed.Shape.hs 1) 4 (ev law04.Seed.Shape.G k0 (codeAt [1, 1, 1, 1, 1, 1, 0, 1, 0, 0] (bodyOf Tryz.f77)) 1) k1
  ⟨[.top, .ptr 0 0 0, .ptr 1 0 0, .val (.int .i64 v7), .val (.int .i64 v8), .ptr 2 0 0, .lst 2 v9 none v10, .top, .top, .top, .top, .top, .top, .top, .top, .top, .top, .top, .top, .top, .top, .top, .top, .top, .top, .top, .top, .top, .top, .top, .top, .top, .top, .top, .top, .top, .top, .top, .top, .val (.int .i64 v8), .val (.int .i64 v11), .top, .top, .top, .top, .top, .top, .top, .top, .top, .top, .top, .top, .top, .top, .top, .top, .top, .top, .top, .top, .top, .top, .top, .top, .top, .top, .top, .top, .top, .top, .top, .top], [.live ⟨false, 24, 4, 1, fun _ => [.val (.int .i64 v1), .val (.int .i64 v2), .val (.int .i64 v3), .val (.int .i64 v4)], none⟩, .live ⟨false, 32, 3, 1, fun _ => [.val (.int .i64 0), .val (.int .i64 0), .val (.slice none 0 0)], none⟩, .live ⟨false, 32, 3, 1, fun _ => [.val (.int .i64 2), .val (.int .i64 0), .slc 3 0 none none], none⟩, .live ⟨true, 27, 2, v5, v6, none⟩]⟩
  (kBlock 1 (kSeq law04.Seed.Shape.G k0 (codeAt [1, 1, 1, 1, 1, 1, 1] (bodyOf Tryz.f77)) 0 (kFin law04.Seed.Shape.G Tryz.f77 (tG (tCons (tI .i64) (tCons (tI .i64) (tOne (tTL Rii 2 (0, 0)))))).dec)))
theorem law04.Seed.Shape.l2_eq (k0 k1 : Nat) (v1 : Int) (v2 : Int) (v3 : Int) (v4 : Int) (v5 : Nat) (v6 : Nat → (Int × Int)) (v7 : Int) (v8 : Int) (v9 : Nat) (v10 : Nat → (Int × Int)) (v11 : Int) : law04.Seed.Shape.l2 k0 (k1 + 1) v1 v2 v3 v4 v5 (fun i => Rii.enc (v6 i)) v7 v8 v9 (fun i => Rii.enc (v10 i)) v11 =
  bif (decide (v11 < v8)) then
    bif (decide (v8 ≠ 0)) then
    bif ((decide (0 ≤ (Int.tmod (IntKind.i64.wrap ((IntKind.i64.wrap (Int.tdiv (IntKind.i64.wrap (v11 * 10)) v8)) + (Go.bits .and .i64 v4 255))) 10))) && (decide ((Int.tmod (IntKind.i64.wrap ((IntKind.i64.wrap (Int.tdiv (IntKind.i64.wrap (v11 * 10)) v8)) + (Go.bits .and .i64 v4 255))) 10) < ((v9 : Nat) : Int)))) then
    bif (decide ((v5 + 1) * 16 ≤ 140737488355328)) then
    law04.Seed.Shape.l2 k0 k1 v1 v2 v3 v4 (v5 + 1) (fun i => renL (lookF [(19, 3)] 4) (if i = v5 then Rii.enc ((IntKind.i64.wrap (Int.tdiv (IntKind.i64.wrap ((v10 (Int.toNat (Int.tmod (IntKind.i64.wrap ((IntKind.i64.wrap (Int.tdiv (IntKind.i64.wrap (v11 * 10)) v8)) + (Go.bits .and .i64 v4 255))) 10))).1 * v7)) 64)), (IntKind.i64.wrap (Int.tdiv (IntKind.i64.wrap ((v10 (Int.toNat (Int.tmod (IntKind.i64.wrap ((IntKind.i64.wrap (Int.tdiv (IntKind.i64.wrap (v11 * 10)) v8)) + (Go.bits .and .i64 v4 255))) 10))).2 * v7)) 64))) else Rii.enc (v6 i))) v7 v8 v9 (fun i => Rii.enc (v10 i)) (IntKind.i64.wrap (v11 + 1))
    else none
    else none
    else none
  else
  (tG (tCons (tI .i64) (tCons (tI .i64) (tOne (tTL Rii 2 (0, 0)))))).dec (.agg [.val (.int .i64 2), .val (.int .i64 0), .lst 2 v5 none (fun i => Rii.enc (v6 i))]) := by kernel_rfl
theorem law04.Seed.Shape.eq (k0 : Nat) (p0_0 : Int) (p0_1 : Int) (p0_2 : Int) (p0_3 : Int) : law04.Seed.Shape.g k0 (p0_0, p0_1, p0_2, p0_3) =
  bif ((Go.bits .and .i64 p0_0 3) == 0) then
    (tG (tCons (tI .i64) (tCons (tI .i64) (tOne (tTL Rii 2 (0, 0)))))).dec (.agg [.val (.int .i64 1), .val (.int .i64 (IntKind.i64.wrap (Int.tdiv (IntKind.i64.wrap ((IntKind.i64.wrap (1 + (Go.bits .and .i64 p0_2 63))) * 4294967296)) 16))), .val (.slice none 0 0)])
  else
  bif ((Go.bits .and .i64 p0_0 3) == 1) then
    (shape.Box.f ((IntKind.i64.wrap (Int.tdiv (IntKind.i64.wrap ((IntKind.i64.wrap (1 + (Go.bits .and .i64 p0_2 63))) * 4294967296)) 16)), (IntKind.i64.wrap (Int.tdiv (IntKind.i64.wrap ((IntKind.i64.wrap (1 + (Go.bits .and .i64 p0_3 31))) * 4294967296)) 16)))).bind fun r1 =>
    (tG (tCons (tI .i64) (tCons (tI .i64) (tOne (tTL Rii 2 (0, 0)))))).dec (.agg [.val (.int .i64 r1.1), .val (.int .i64 r1.2.1), .lst 2 r1.2.2.1 none (fun i => Rii.enc (r1.2.2.2 i))])
  else
  (law04.ring.f ()).bind fun r2 =>
  law04.Seed.Shape.l2 k0 k0 p0_0 p0_1 p0_2 p0_3 0 (fun _ => Rii.enc (0, 0)) (IntKind.i64.wrap (Int.tdiv (IntKind.i64.wrap ((IntKind.i64.wrap (1 + (Go.bits .and .i64 p0_2 63))) * 4294967296)) 16)) (IntKind.i64.wrap (3 + (Int.tmod (Go.bits .and .i64 p0_1 255) 6))) r2.1 (fun i => Rii.enc (r2.2 i)) 0 := by kernel_rfl
/-! ### (bagatelle/bagatellelaw06.Place).Body -/
noncomputable def law06.Place.Body.cs : List (Nat × Fw.Summ) := [(18, vec.Bring.s), (77, law04.Seed.Shape.s)]
theorem law06.Place.Body.cs_ok : SumsOk Tryz.prog law06.Place.Body.cs := .cons vec.Bring.ok (.cons law04.Seed.Shape.ok (.nil))
def law06.Place.Body.hs : List (Nat × LHint) := []
noncomputable def law06.Place.Body.G : Ctx := ⟨Tryz.prog, sumAt law06.Place.Body.cs, lookH law06.Place.Body.hs⟩
noncomputable def law06.Place.Body.f (x : (Int × Int × Int × Int × Int × Int × Int)) : Option (Int × Int × Int × Int × Int × Int × Int × Int × Int × Int × (Nat × (Nat → (Int × Int)))) := evF law06.Place.Body.G 0 Tryz.f45 ((tOne (tG (tCons (tI .i64) (tCons (tI .i64) (tCons (tI .i64) (tCons (tI .i64) (tCons (tI .i64) (tCons (tI .i64) (tOne (tI .i64)))))))))).enc x) (tG (tCons (tI .i64) (tCons (tI .i64) (tCons (tI .i64) (tCons (tI .i64) (tCons (tI .i64) (tCons (tI .i64) (tCons (tI .i64) (tCons (tI .i64) (tCons (tI .i64) (tCons (tI .i64) (tOne (tTL Rii 2 (0, 0)))))))))))))).dec
noncomputable def law06.Place.Body.s : Fw.Summ := .mk' (tOne (tG (tCons (tI .i64) (tCons (tI .i64) (tCons (tI .i64) (tCons (tI .i64) (tCons (tI .i64) (tCons (tI .i64) (tOne (tI .i64)))))))))) (tG (tCons (tI .i64) (tCons (tI .i64) (tCons (tI .i64) (tCons (tI .i64) (tCons (tI .i64) (tCons (tI .i64) (tCons (tI .i64) (tCons (tI .i64) (tCons (tI .i64) (tCons (tI .i64) (tOne (tTL Rii 2 (0, 0)))))))))))))) law06.Place.Body.f
theorem law06.Place.Body.ok : law06.Place.Body.s.Ok Tryz.prog 45 :=
  summ_ok (hint := lookH law06.Place.Body.hs) (fn := Tryz.f45) (fun x => 0) law06.Place.Body.cs_ok (by kernel_rfl) (by kernel_rfl) (by kernel_rfl) (by kernel_rfl) (tOne_ok (tG_ok (tCons_ok (tI_ok _) (tCons_ok (tI_ok _) (tCons_ok (tI_ok _) (tCons_ok (tI_ok _) (tCons_ok (tI_ok _) (tCons_ok (tI_ok _) (tOne_ok (tI_ok _)))))))))) (tG_ok (tCons_ok (tI_ok _) (tCons_ok (tI_ok _) (tCons_ok (tI_ok _) (tCons_ok (tI_ok _) (tCons_ok (tI_ok _) (tCons_ok (tI_ok _) (tCons_ok (tI_ok _) (tCons_ok (tI_ok _) (tCons_ok (tI_ok _) (tCons_ok (tI_ok _) (tOne_ok (tTL_ok Rii_ok _ _))))))))))))) (fun _ => rfl)
theorem law06.Place.Body.eq (p0_0 : Int) (p0_1 : Int) (p0_2 : Int) (p0_3 : Int) (p0_4 : Int) (p0_5 : Int) (p0_6 : Int) : law06.Place.Body.f (p0_0, p0_1, p0_2, p0_3, p0_4, p0_5, p0_6) =
  (vec.Bring.f ((p0_4, p0_5), 4294967296000)).bind fun r1 =>
  (law04.Seed.Shape.f (p0_0, p0_1, p0_2, p0_3)).bind fun r2 =>
  (tG (tCons (tI .i64) (tCons (tI .i64) (tCons (tI .i64) (tCons (tI .i64) (tCons (tI .i64) (tCons (tI .i64) (tCons (tI .i64) (tCons (tI .i64) (tCons (tI .i64) (tCons (tI .i64) (tOne (tTL Rii 2 (0, 0)))))))))))))).dec (.agg [.val (.int .i64 0), .val (.int .i64 r1.1), .val (.int .i64 r1.2), .val (.int .i64 0), .val (.int .i64 0), .val (.int .i64 (Go.bits .and .i64 p0_6 4294967295)), .val (.int .i64 0), .val (.int .i64 0), .val (.int .i64 r2.1), .val (.int .i64 r2.2.1), .lst 2 r2.2.2.1 none (fun i => Rii.enc (r2.2.2.2 i))]) := by kernel_rfl
/-! ### (bagatelle/bagatellelaw09.Deed).Body -/
noncomputable def law09.Deed.Body.cs : List (Nat × Fw.Summ) := [(45, law06.Place.Body.s), (18, vec.Bring.s), (21, fix.Bring.s)]
theorem law09.Deed.Body.cs_ok : SumsOk Tryz.prog law09.Deed.Body.cs := .cons law06.Place.Body.ok (.cons vec.Bring.ok (.cons fix.Bring.ok (.nil)))
def law09.Deed.Body.hs : List (Nat × LHint) := []
noncomputable def law09.Deed.Body.G : Ctx := ⟨Tryz.prog, sumAt law09.Deed.Body.cs, lookH law09.Deed.Body.hs⟩
noncomputable def law09.Deed.Body.f (x : (Int × Int × Int × Int × Int × Int × Int × Int × Int × Int × Int × Int × Int × Int × Int × Int × Int × Int × Int × Int × Int × Int × Int × Int × Int × Int × Int × Int × Int × (Nat × (Nat → List AV)))) : Option (Int × Int × Int × Int × Int × Int × Int × Int × Int × Int × (Nat × (Nat → (Int × Int)))) := evF law09.Deed.Body.G 0 Tryz.f12 ((tOne (tG (tCons (tI .i64) (tCons (tI .i64) (tCons (tI .i64) (tCons (tI .i64) (tCons (tI .i64) (tCons (tI .i64) (tCons (tI .i64) (tCons (tI .i64) (tCons (tI .i64) (tCons (tI .i64) (tCons (tI .i64) (tCons (tI .i64) (tCons (tI .i64) (tCons (tI .i64) (tCons (tI .i64) (tCons (tI .i64) (tCons (tI .i64) (tCons (tI .i64) (tCons (tI .i64) (tCons (tI .i64) (tCons (tI .i64) (tCons (tI .i64) (tCons (tI .i64) (tCons (tI .i64) (tCons (tI .i64) (tCons (tI .i64) (tCons (tI .i64) (tCons (tI .i64) (tCons (tI .i64) (tOne (tLz 2 (Rii.enc (0, 0))))))))))))))))))))))))))))))))))).enc x) (tG (tCons (tI .i64) (tCons (tI .i64) (tCons (tI .i64) (tCons (tI .i64) (tCons (tI .i64) (tCons (tI .i64) (tCons (tI .i64) (tCons (tI .i64) (tCons (tI .i64) (tCons (tI .i64) (tOne (tTL Rii 2 (0, 0)))))))))))))).dec
noncomputable def law09.Deed.Body.s : Fw.Summ := .mk' (tOne (tG (tCons (tI .i64) (tCons (tI .i64) (tCons (tI .i64) (tCons (tI .i64) (tCons (tI .i64) (tCons (tI .i64) (tCons (tI .i64) (tCons (tI .i64) (tCons (tI .i64) (tCons (tI .i64) (tCons (tI .i64) (tCons (tI .i64) (tCons (tI .i64) (tCons (tI .i64) (tCons (tI .i64) (tCons (tI .i64) (tCons (tI .i64) (tCons (tI .i64) (tCons (tI .i64) (tCons (tI .i64) (tCons (tI .i64) (tCons (tI .i64) (tCons (tI .i64) (tCons (tI .i64) (tCons (tI .i64) (tCons (tI .i64) (tCons (tI .i64) (tCons (tI .i64) (tCons (tI .i64) (tOne (tLz 2 (Rii.enc (0, 0))))))))))))))))))))))))))))))))))) (tG (tCons (tI .i64) (tCons (tI .i64) (tCons (tI .i64) (tCons (tI .i64) (tCons (tI .i64) (tCons (tI .i64) (tCons (tI .i64) (tCons (tI .i64) (tCons (tI .i64) (tCons (tI .i64) (tOne (tTL Rii 2 (0, 0)))))))))))))) law09.Deed.Body.f
theorem law09.Deed.Body.ok : law09.Deed.Body.s.Ok Tryz.prog 12 :=
  summ_ok (hint := lookH law09.Deed.Body.hs) (fn := Tryz.f12) (fun x => 0) law09.Deed.Body.cs_ok (by kernel_rfl) (by kernel_rfl) (by kernel_rfl) (by kernel_rfl) (tOne_ok (tG_ok (tCons_ok (tI_ok _) (tCons_ok (tI_ok _) (tCons_ok (tI_ok _) (tCons_ok (tI_ok _) (tCons_ok (tI_ok _) (tCons_ok (tI_ok _) (tCons_ok (tI_ok _) (tCons_ok (tI_ok _) (tCons_ok (tI_ok _) (tCons_ok (tI_ok _) (tCons_ok (tI_ok _) (tCons_ok (tI_ok _) (tCons_ok (tI_ok _) (tCons_ok (tI_ok _) (tCons_ok (tI_ok _) (tCons_ok (tI_ok _) (tCons_ok (tI_ok _) (tCons_ok (tI_ok _) (tCons_ok (tI_ok _) (tCons_ok (tI_ok _) (tCons_ok (tI_ok _) (tCons_ok (tI_ok _) (tCons_ok (tI_ok _) (tCons_ok (tI_ok _) (tCons_ok (tI_ok _) (tCons_ok (tI_ok _) (tCons_ok (tI_ok _) (tCons_ok (tI_ok _) (tCons_ok (tI_ok _) (tOne_ok (tLz_ok _ _))))))))))))))))))))))))))))))))) (tG_ok (tCons_ok (tI_ok _) (tCons_ok (tI_ok _) (tCons_ok (tI_ok _) (tCons_ok (tI_ok _) (tCons_ok (tI_ok _) (tCons_ok (tI_ok _) (tCons_ok (tI_ok _) (tCons_ok (tI_ok _) (tCons_ok (tI_ok _) (tCons_ok (tI_ok _) (tOne_ok (tTL_ok Rii_ok _ _))))))))))))) (fun _ => rfl)
theorem law09.Deed.Body.eq (p0_0 : Int) (p0_1 : Int) (p0_2 : Int) (p0_3 : Int) (p0_4 : Int) (p0_5 : Int) (p0_6 : Int) (p0_7 : Int) (p0_8 : Int) (p0_9 : Int) (p0_10 : Int) (p0_11 : Int) (p0_12 : Int) (p0_13 : Int) (p0_14 : Int) (p0_15 : Int) (p0_16 : Int) (p0_17 : Int) (p0_18 : Int) (p0_19 : Int) (p0_20 : Int) (p0_21 : Int) (p0_22 : Int) (p0_23 : Int) (p0_24 : Int) (p0_25 : Int) (p0_26 : Int) (p0_27 : Int) (p0_28 : Int) (p0_29_n : Nat) (p0_29_g : Nat → (Int × Int)) : law09.Deed.Body.f (p0_0, p0_1, p0_2, p0_3, p0_4, p0_5, p0_6, p0_7, p0_8, p0_9, p0_10, p0_11, p0_12, p0_13, p0_14, p0_15, p0_16, p0_17, p0_18, p0_19, p0_20, p0_21, p0_22, p0_23, p0_24, p0_25, p0_26, p0_27, p0_28, (p0_29_n, (fun i => Rii.enc (p0_29_g i)))) =
  bif ((Go.bits .and .i64 p0_0 15) == 15) then
    (tG (tCons (tI .i64) (tCons (tI .i64) (tCons (tI .i64) (tCons (tI .i64) (tCons (tI .i64) (tCons (tI .i64) (tCons (tI .i64) (tCons (tI .i64) (tCons (tI .i64) (tCons (tI .i64) (tOne (tTL Rii 2 (0, 0)))))))))))))).dec (.agg [.val (.int .i64 p0_19), .val (.int .i64 p0_20), .val (.int .i64 p0_21), .val (.int .i64 p0_22), .val (.int .i64 p0_23), .val (.int .i64 p0_24), .val (.int .i64 p0_25), .val (.int .i64 p0_26), .val (.int .i64 p0_27), .val (.int .i64 p0_28), .lst 2 p0_29_n none (fun i => Rii.enc (p0_29_g i))])
  else
  (law06.Place.Body.f (p0_1, p0_2, p0_3, p0_4, p0_5, p0_6, p0_7)).bind fun r1 =>
  bif ((Go.bits .and .i64 p0_11 3) == 0) then
    (tG (tCons (tI .i64) (tCons (tI .i64) (tCons (tI .i64) (tCons (tI .i64) (tCons (tI .i64) (tCons (tI .i64) (tCons (tI .i64) (tCons (tI .i64) (tCons (tI .i64) (tCons (tI .i64) (tOne (tTL Rii 2 (0, 0)))))))))))))).dec (.agg [.val (.int .i64 r1.1), .val (.int .i64 r1.2.1), .val (.int .i64 r1.2.2.1), .val (.int .i64 r1.2.2.2.1), .val (.int .i64 r1.2.2.2.2.1), .val (.int .i64 r1.2.2.2.2.2.1), .val (.int .i64 r1.2.2.2.2.2.2.1), .val (.int .i64 r1.2.2.2.2.2.2.2.1), .val (.int .i64 r1.2.2.2.2.2.2.2.2.1), .val (.int .i64 r1.2.2.2.2.2.2.2.2.2.1), .lst 2 r1.2.2.2.2.2.2.2.2.2.2.1 none (fun i => Rii.enc (r1.2.2.2.2.2.2.2.2.2.2.2 i))])
  else
  (vec.Bring.f ((p0_8, p0_9), 85899345920)).bind fun r2 =>
  (fix.Bring.f (p0_10, (-85899345920), 85899345920)).bind fun r3 =>
  (tG (tCons (tI .i64) (tCons (tI .i64) (tCons (tI .i64) (tCons (tI .i64) (tCons (tI .i64) (tCons (tI .i64) (tCons (tI .i64) (tCons (tI .i64) (tCons (tI .i64) (tCons (tI .i64) (tOne (tTL Rii 2 (0, 0)))))))))))))).dec (.agg [.val (.int .i64 r1.1), .val (.int .i64 r1.2.1), .val (.int .i64 r1.2.2.1), .val (.int .i64 r2.1), .val (.int .i64 r2.2), .val (.int .i64 r1.2.2.2.2.2.1), .val (.int .i64 r3), .val (.int .i64 (IntKind.i64.wrap (1 + (Go.bits .and .i64 p0_11 34359738367)))), .val (.int .i64 r1.2.2.2.2.2.2.2.2.1), .val (.int .i64 r1.2.2.2.2.2.2.2.2.2.1), .lst 2 r1.2.2.2.2.2.2.2.2.2.2.1 none (fun i => Rii.enc (r1.2.2.2.2.2.2.2.2.2.2.2 i))]) := by kernel_rfl
/-! ### (bagatelle/bagatellelaw09.Deed).Do -/
noncomputable def law09.Deed.Do.cs : List (Nat × Fw.Summ) := [(14, law09.Deed.Joint.s), (13, world.AddJoint.s), (15, world.RemoveBody.s), (16, world.RemoveJoint.s), (12, law09.Deed.Body.s), (11, world.AddBody.s)]
theorem law09.Deed.Do.cs_ok : SumsOk Tryz.prog law09.Deed.Do.cs := .cons law09.Deed.Joint.ok (.cons world.AddJoint.ok (.cons world.RemoveBody.ok (.cons world.RemoveJoint.ok (.cons law09.Deed.Body.ok (.cons world.AddBody.ok (.nil))))))
noncomputable def law09.Deed.Do.G : Ctx := ⟨Tryz.prog, sumAt law09.Deed.Do.cs, fun _ => { unroll := true }⟩
noncomputable def law09.Deed.Do.s : Fw.Summ := .mkI law09.Deed.Do.G Tryz.f30
theorem law09.Deed.Do.ok : law09.Deed.Do.s.Ok Tryz.prog 30 := isumm_ok law09.Deed.Do.cs_ok (by kernel_rfl) (by kernel_rfl) (by kernel_rfl) (by kernel_rfl)
/-! ### bagatelle/bagatellelaw09.Made -/
noncomputable def law09.Made.cs : List (Nat × Fw.Summ) := [(29, world.New.s), (30, law09.Deed.Do.s)]
theorem law09.Made.cs_ok : SumsOk Tryz.prog law09.Made.cs := .cons world.New.ok (.cons law09.Deed.Do.ok (.nil))
def law09.Made.hs : List (Nat × LHint) := [(0, { mat := [], live := [4, 5, 14, 15, 16], ren := [] })]
noncomputable def law09.Made.G : Ctx := ⟨Tryz.prog, sumAt law09.Made.cs, lookH law09.Made.hs⟩
noncomputable def law09.Made.g (k0 : Nat) (x : ((Nat × (Nat → List AV)) × Int)) : Option (Int × Int × Int × Int × Int × (Nat × (Nat → (Int × Int × Int × Int × Int × Int × Int × Int × Int × Int × (Nat × (Nat → List AV))))) × (Nat × (Nat → (Int × Int × Int × Int × Int × Int × Int × Int))) × (Nat × (Nat → (Int × Int × Int × Int × Int)))) := evF law09.Made.G k0 Tryz.f6 ((tCons (tLz 30 (RiiiiiiiiiiiiiiiiiiiiiiiiiiiiiL2.enc (0, 0, 0, 0, 0, 0, 0, 0, 0, 0, 0, 0, 0, 0, 0, 0, 0, 0, 0, 0, 0, 0, 0, 0, 0, 0, 0, 0, 0, (0, fun _ => [])))) (tOne (tI .i64))).enc x) (tG (tCons (tI .i64) (tCons (tI .i64) (tCons (tI .i64) (tCons (tI .i64) (tCons (tI .i64) (tCons (tTL RiiiiiiiiiiL2 11 (0, 0, 0, 0, 0, 0, 0, 0, 0, 0, (0, fun _ => []))) (tCons (tTL Riiiiiiii 8 (0, 0, 0, 0, 0, 0, 0, 0)) (tOne (tTL Riiiii 5 (0, 0, 0, 0, 0))))))))))).dec
noncomputable def law09.Made.f (x : ((Nat × (Nat → List AV)) × Int)) : Option (Int × Int × Int × Int × Int × (Nat × (Nat → (Int × Int × Int × Int × Int × Int × Int × Int × Int × Int × (Nat × (Nat → List AV))))) × (Nat × (Nat → (Int × Int × Int × Int × Int × Int × Int × Int))) × (Nat × (Nat → (Int × Int × Int × Int × Int)))) := law09.Made.g (1000000) x
noncomputable def law09.Made.s : Fw.Summ := .mk' (tCons (tLz 30 (RiiiiiiiiiiiiiiiiiiiiiiiiiiiiiL2.enc (0, 0, 0, 0, 0, 0, 0, 0, 0, 0, 0, 0, 0, 0, 0, 0, 0, 0, 0, 0, 0, 0, 0, 0, 0, 0, 0, 0, 0, (0, fun _ => [])))) (tOne (tI .i64))) (tG (tCons (tI .i64) (tCons (tI .i64) (tCons (tI .i64) (tCons (tI .i64) (tCons (tI .i64) (tCons (tTL RiiiiiiiiiiL2 11 (0, 0, 0, 0, 0, 0, 0, 0, 0, 0, (0, fun _ => []))) (tCons (tTL Riiiiiiii 8 (0, 0, 0, 0, 0, 0, 0, 0)) (tOne (tTL Riiiii 5 (0, 0, 0, 0, 0))))))))))) law09.Made.f
theorem law09.Made.ok : law09.Made.s.Ok Tryz.prog 6 :=
  summ_ok (hint := lookH law09.Made.hs) (fn := Tryz.f6) (fun x => 1000000) law09.Made.cs_ok (by kernel_rfl) (by kernel_rfl) (by kernel_rfl) (by kernel_rfl) (tCons_ok (tLz_ok _ _) (tOne_ok (tI_ok _))) (tG_ok (tCons_ok (tI_ok _) (tCons_ok (tI_ok _) (tCons_ok (tI_ok _) (tCons_ok (tI_ok _) (tCons_ok (tI_ok _) (tCons_ok (tTL_ok RiiiiiiiiiiL2_ok _ _) (tCons_ok (tTL_ok Riiiiiiii_ok _ _) (tOne_ok (tTL_ok Riiiii_ok _ _)))))))))) (fun _ => rfl)
noncomputable def law09.Made.l0 (k0 k1 : Nat) (v1 : Int) (v2 : Int) (v3 : Int) (v4 : Int) (v5 : Int) (v6 : Nat) (v7 : Nat → List AV) (v8 : Nat) (v9 : Nat → List AV) (v10 : Nat) (v11 : Nat → List AV) (v12 : Nat) (v13 : Nat → List AV) (v14 : Int) (v15 : Int) : Option (Int × Int × Int × Int × Int × (Nat × (Nat → (Int × Int × Int × Int × Int × Int × Int × Int × Int × Int × (Nat × (Nat → List AV))))) × (Nat × (Nat → (Int × Int × Int × Int × Int × Int × Int × Int))) × (Nat × (Nat → (Int × Int × Int × Int × Int)))) :=
  evLoop (lookH law09.Made.hs 0) 2 (ev law09.Made.G k0 (codeAt [1, 1, 0, 1, 0, 0] (bodyOf Tryz.f6)) 0) k1
  ⟨[.top, .top, .top, .top, .ptr 0 0 0, .ptr 1 0 0, .top, .top, .top, .top, .top, .top, .top, .top, .lst 30 v12 none v13, .val (.int .i64 v14), .val (.int .i64 v15), .top, .top, .top, .top, .top, .top, .top], [.live ⟨false, 42, 8, 1, fun _ => [.val (.int .i64 0), .val (.int .i64 0), .val (.int .i64 0), .val (.int .i64 0), .val (.int .i64 0), .val (.slice none 0 0), .val (.slice none 0 0), .val (.slice none 0 0)], none⟩, .live ⟨false, 42, 8, 1, fun _ => [.val (.int .i64 v1), .val (.int .i64 v2), .val (.int .i64 v3), .val (.int .i64 v4), .val (.int .i64 v5), .lst 11 v6 none v7, .lst 8 v8 none v9, .lst 5 v10 none v11], none⟩]⟩
  (kBlock 0 (kSeq law09.Made.G k0 (codeAt [1, 1, 1] (bodyOf Tryz.f6)) 0 (kFin law09.Made.G Tryz.f6 (tG (tCons (tI .i64) (tCons (tI .i64) (tCons (tI .i64) (tCons (tI .i64) (tCons (tI .i64) (tCons (tTL RiiiiiiiiiiL2 11 (0, 0, 0, 0, 0, 0, 0, 0, 0, 0, (0, fun _ => []))) (tCons (tTL Riiiiiiii 8 (0, 0, 0, 0, 0, 0, 0, 0)) (tOne (tTL Riiiii 5 (0, 0, 0, 0, 0))))))))))).dec)))
theorem law09.Made.l0_eq (k0 k1 : Nat) (v1 : Int) (v2 : Int) (v3 : Int) (v4 : Int) (v5 : Int) (v6 : Nat) (v7 : Nat → (Int × Int × Int × Int × Int × Int × Int × Int × Int × Int × (Nat × (Nat → List AV)))) (v8 : Nat) (v9 : Nat → (Int × Int × Int × Int × Int × Int × Int × Int)) (v10 : Nat) (v11 : Nat → (Int × Int × Int × Int × Int)) (v12 : Nat) (v13 : Nat → (Int × Int × Int × Int × Int × Int × Int × Int × Int × Int × Int × Int × Int × Int × Int × Int × Int × Int × Int × Int × Int × Int × Int × Int × Int × Int × Int × Int × Int × (Nat × (Nat → List AV)))) (v14 : Int) (v15 : Int) : law09.Made.l0 k0 (k1 + 1) v1 v2 v3 v4 v5 v6 (fun i => RiiiiiiiiiiL2.enc (v7 i)) v8 (fun i => Riiiiiiii.enc (v9 i)) v10 (fun i => Riiiii.enc (v11 i)) v12 (fun i => RiiiiiiiiiiiiiiiiiiiiiiiiiiiiiL2.enc (v13 i)) v14 v15 =
  bif (decide (v15 < v14)) then
    bif ((decide (0 ≤ v15)) && (decide (v15 < ((v12 : Nat) : Int)))) then
    bif ((Go.bits .and .i64 (v13 (Int.toNat v15)).1 7) == 4) then
      bif ((Go.bits .and .i64 (v13 (Int.toNat v15)).1 7) == 4) then
        (law09.Deed.Joint.f ((v13 (Int.toNat v15)).1, (v13 (Int.toNat v15)).2.1, (v13 (Int.toNat v15)).2.2.1, (v13 (Int.toNat v15)).2.2.2.1, (v13 (Int.toNat v15)).2.2.2.2.1, (v13 (Int.toNat v15)).2.2.2.2.2.1, (v13 (Int.toNat v15)).2.2.2.2.2.2.1, (v13 (Int.toNat v15)).2.2.2.2.2.2.2.1, (v13 (Int.toNat v15)).2.2.2.2.2.2.2.2.1, (v13 (Int.toNat v15)).2.2.2.2.2.2.2.2.2.1, (v13 (Int.toNat v15)).2.2.2.2.2.2.2.2.2.2.1, (v13 (Int.toNat v15)).2.2.2.2.2.2.2.2.2.2.2.1, (v13 (Int.toNat v15)).2.2.2.2.2.2.2.2.2.2.2.2.1, (v13 (Int.toNat v15)).2.2.2.2.2.2.2.2.2.2.2.2.2.1, (v13 (Int.toNat v15)).2.2.2.2.2.2.2.2.2.2.2.2.2.2.1, (v13 (Int.toNat v15)).2.2.2.2.2.2.2.2.2.2.2.2.2.2.2.1, (v13 (Int.toNat v15)).2.2.2.2.2.2.2.2.2.2.2.2.2.2.2.2.1, (v13 (Int.toNat v15)).2.2.2.2.2.2.2.2.2.2.2.2.2.2.2.2.2.1, (v13 (Int.toNat v15)).2.2.2.2.2.2.2.2.2.2.2.2.2.2.2.2.2.2.1, (v13 (Int.toNat v15)).2.2.2.2.2.2.2.2.2.2.2.2.2.2.2.2.2.2.2.1, (v13 (Int.toNat v15)).2.2.2.2.2.2.2.2.2.2.2.2.2.2.2.2.2.2.2.2.1, (v13 (Int.toNat v15)).2.2.2.2.2.2.2.2.2.2.2.2.2.2.2.2.2.2.2.2.2.1, (v13 (Int.toNat v15)).2.2.2.2.2.2.2.2.2.2.2.2.2.2.2.2.2.2.2.2.2.2.1, (v13 (Int.toNat v15)).2.2.2.2.2.2.2.2.2.2.2.2.2.2.2.2.2.2.2.2.2.2.2.1, (v13 (Int.toNat v15)).2.2.2.2.2.2.2.2.2.2.2.2.2.2.2.2.2.2.2.2.2.2.2.2.1, (v13 (Int.toNat v15)).2.2.2.2.2.2.2.2.2.2.2.2.2.2.2.2.2.2.2.2.2.2.2.2.2.1, (v13 (Int.toNat v15)).2.2.2.2.2.2.2.2.2.2.2.2.2.2.2.2.2.2.2.2.2.2.2.2.2.2.1, (v13 (Int.toNat v15)).2.2.2.2.2.2.2.2.2.2.2.2.2.2.2.2.2.2.2.2.2.2.2.2.2.2.2.1, (v13 (Int.toNat v15)).2.2.2.2.2.2.2.2.2.2.2.2.2.2.2.2.2.2.2.2.2.2.2.2.2.2.2.2.1, ((v13 (Int.toNat v15)).2.2.2.2.2.2.2.2.2.2.2.2.2.2.2.2.2.2.2.2.2.2.2.2.2.2.2.2.2.1, (v13 (Int.toNat v15)).2.2.2.2.2.2.2.2.2.2.2.2.2.2.2.2.2.2.2.2.2.2.2.2.2.2.2.2.2.2))).bind fun r2 =>
        (world.AddJoint.f ((v1, v2, v3, v4, v5, (v6, (fun i => RiiiiiiiiiiL2.enc (v7 i))), (v8, (fun i => Riiiiiiii.enc (v9 i))), (v10, (fun i => Riiiii.enc (v11 i)))), (r2.1, r2.2.1, r2.2.2.1, r2.2.2.2.1, r2.2.2.2.2.1, r2.2.2.2.2.2.1, r2.2.2.2.2.2.2.1, r2.2.2.2.2.2.2.2))).bind fun r3 =>
        law09.Made.l0 k0 k1 r3.2.1 r3.2.2.1 r3.2.2.2.1 r3.2.2.2.2.1 r3.2.2.2.2.2.1 r3.2.2.2.2.2.2.1.1 (fun i => RiiiiiiiiiiL2.enc (r3.2.2.2.2.2.2.1.2 i)) r3.2.2.2.2.2.2.2.1.1 (fun i => Riiiiiiii.enc (r3.2.2.2.2.2.2.2.1.2 i)) r3.2.2.2.2.2.2.2.2.1 (fun i => Riiiii.enc (r3.2.2.2.2.2.2.2.2.2 i)) v12 (fun i => RiiiiiiiiiiiiiiiiiiiiiiiiiiiiiL2.enc (v13 i)) v14 (IntKind.i64.wrap (v15 + 1))
      else
      bif ((Go.bits .and .i64 (v13 (Int.toNat v15)).1 7) == 6) then
        (world.RemoveBody.f ((v1, v2, v3, v4, v5, (v6, (fun i => RiiiiiiiiiiL2.enc (v7 i))), (v8, (fun i => Riiiiiiii.enc (v9 i))), (v10, (fun i => Riiiii.enc (v11 i)))), (Go.bits .and .i64 (v13 (Int.toNat v15)).2.2.2.2.2.2.2.2.2.2.2.2.1 15))).bind fun r4 =>
        law09.Made.l0 k0 k1 r4.2.1 r4.2.2.1 r4.2.2.2.1 r4.2.2.2.2.1 r4.2.2.2.2.2.1 r4.2.2.2.2.2.2.1.1 (fun i => RiiiiiiiiiiL2.enc (r4.2.2.2.2.2.2.1.2 i)) r4.2.2.2.2.2.2.2.1.1 (fun i => Riiiiiiii.enc (r4.2.2.2.2.2.2.2.1.2 i)) r4.2.2.2.2.2.2.2.2.1 (fun i => Riiiii.enc (r4.2.2.2.2.2.2.2.2.2 i)) v12 (fun i => RiiiiiiiiiiiiiiiiiiiiiiiiiiiiiL2.enc (v13 i)) v14 (IntKind.i64.wrap (v15 + 1))
      else
      bif ((Go.bits .and .i64 (v13 (Int.toNat v15)).1 7) == 3) then
        (world.RemoveJoint.f ((v1, v2, v3, v4, v5, (v6, (fun i => RiiiiiiiiiiL2.enc (v7 i))), (v8, (fun i => Riiiiiiii.enc (v9 i))), (v10, (fun i => Riiiii.enc (v11 i)))), (Go.bits .and .i64 (v13 (Int.toNat v15)).2.2.2.2.2.2.2.2.2.2.2.2.1 15))).bind fun r5 =>
        law09.Made.l0 k0 k1 r5.2.1 r5.2.2.1 r5.2.2.2.1 r5.2.2.2.2.1 r5.2.2.2.2.2.1 r5.2.2.2.2.2.2.1.1 (fun i => RiiiiiiiiiiL2.enc (r5.2.2.2.2.2.2.1.2 i)) r5.2.2.2.2.2.2.2.1.1 (fun i => Riiiiiiii.enc (r5.2.2.2.2.2.2.2.1.2 i)) r5.2.2.2.2.2.2.2.2.1 (fun i => Riiiii.enc (r5.2.2.2.2.2.2.2.2.2 i)) v12 (fun i => RiiiiiiiiiiiiiiiiiiiiiiiiiiiiiL2.enc (v13 i)) v14 (IntKind.i64.wrap (v15 + 1))
      else
      (law09.Deed.Body.f ((v13 (Int.toNat v15)).1, (v13 (Int.toNat v15)).2.1, (v13 (Int.toNat v15)).2.2.1, (v13 (Int.toNat v15)).2.2.2.1, (v13 (Int.toNat v15)).2.2.2.2.1, (v13 (Int.toNat v15)).2.2.2.2.2.1, (v13 (Int.toNat v15)).2.2.2.2.2.2.1, (v13 (Int.toNat v15)).2.2.2.2.2.2.2.1, (v13 (Int.toNat v15)).2.2.2.2.2.2.2.2.1, (v13 (Int.toNat v15)).2.2.2.2.2.2.2.2.2.1, (v13 (Int.toNat v15)).2.2.2.2.2.2.2.2.2.2.1, (v13 (Int.toNat v15)).2.2.2.2.2.2.2.2.2.2.2.1, (v13 (Int.toNat v15)).2.2.2.2.2.2.2.2.2.2.2.2.1, (v13 (Int.toNat v15)).2.2.2.2.2.2.2.2.2.2.2.2.2.1, (v13 (Int.toNat v15)).2.2.2.2.2.2.2.2.2.2.2.2.2.2.1, (v13 (Int.toNat v15)).2.2.2.2.2.2.2.2.2.2.2.2.2.2.2.1, (v13 (Int.toNat v15)).2.2.2.2.2.2.2.2.2.2.2.2.2.2.2.2.1, (v13 (Int.toNat v15)).2.2.2.2.2.2.2.2.2.2.2.2.2.2.2.2.2.1, (v13 (Int.toNat v15)).2.2.2.2.2.2.2.2.2.2.2.2.2.2.2.2.2.2.1, (v13 (Int.toNat v15)).2.2.2.2.2.2.2.2.2.2.2.2.2.2.2.2.2.2.2.1, (v13 (Int.toNat v15)).2.2.2.2.2.2.2.2.2.2.2.2.2.2.2.2.2.2.2.2.1, (v13 (Int.toNat v15)).2.2.2.2.2.2.2.2.2.2.2.2.2.2.2.2.2.2.2.2.2.1, (v13 (Int.toNat v15)).2.2.2.2.2.2.2.2.2.2.2.2.2.2.2.2.2.2.2.2.2.2.1, (v13 (Int.toNat v15)).2.2.2.2.2.2.2.2.2.2.2.2.2.2.2.2.2.2.2.2.2.2.2.1, (v13 (Int.toNat v15)).2.2.2.2.2.2.2.2.2.2.2.2.2.2.2.2.2.2.2.2.2.2.2.2.1, (v13 (Int.toNat v15)).2.2.2.2.2.2.2.2.2.2.2.2.2.2.2.2.2.2.2.2.2.2.2.2.2.1, (v13 (Int.toNat v15)).2.2.2.2.2.2.2.2.2.2.2.2.2.2.2.2.2.2.2.2.2.2.2.2.2.2.1, (v13 (Int.toNat v15)).2.2.2.2.2.2.2.2.2.2.2.2.2.2.2.2.2.2.2.2.2.2.2.2.2.2.2.1, (v13 (Int.toNat v15)).2.2.2.2.2.2.2.2.2.2.2.2.2.2.2.2.2.2.2.2.2.2.2.2.2.2.2.2.1, ((v13 (Int.toNat v15)).2.2.2.2.2.2.2.2.2.2.2.2.2.2.2.2.2.2.2.2.2.2.2.2.2.2.2.2.2.1, (v13 (Int.toNat v15)).2.2.2.2.2.2.2.2.2.2.2.2.2.2.2.2.2.2.2.2.2.2.2.2.2.2.2.2.2.2))).bind fun r6 =>
      (world.AddBody.f ((v1, v2, v3, v4, v5, (v6, (fun i => RiiiiiiiiiiL2.enc (v7 i))), (v8, (fun i => Riiiiiiii.enc (v9 i))), (v10, (fun i => Riiiii.enc (v11 i)))), (r6.1, r6.2.1, r6.2.2.1, r6.2.2.2.1, r6.2.2.2.2.1, r6.2.2.2.2.2.1, r6.2.2.2.2.2.2.1, r6.2.2.2.2.2.2.2.1, r6.2.2.2.2.2.2.2.2.1, r6.2.2.2.2.2.2.2.2.2.1, (r6.2.2.2.2.2.2.2.2.2.2.1, (fun i => Rii.enc (r6.2.2.2.2.2.2.2.2.2.2.2 i)))))).bind fun r7 =>
      law09.Made.l0 k0 k1 r7.2.1 r7.2.2.1 r7.2.2.2.1 r7.2.2.2.2.1 r7.2.2.2.2.2.1 r7.2.2.2.2.2.2.1.1 (fun i => RiiiiiiiiiiL2.enc (r7.2.2.2.2.2.2.1.2 i)) r7.2.2.2.2.2.2.2.1.1 (fun i => Riiiiiiii.enc (r7.2.2.2.2.2.2.2.1.2 i)) r7.2.2.2.2.2.2.2.2.1 (fun i => Riiiii.enc (r7.2.2.2.2.2.2.2.2.2 i)) v12 (fun i => RiiiiiiiiiiiiiiiiiiiiiiiiiiiiiL2.enc (v13 i)) v14 (IntKind.i64.wrap (v15 + 1))
    else
    bif ((Go.bits .and .i64 (v13 (Int.toNat v15)).1 7) == 5) then
      (law09.Deed.Joint.f ((v13 (Int.toNat v15)).1, (v13 (Int.toNat v15)).2.1, (v13 (Int.toNat v15)).2.2.1, (v13 (Int.toNat v15)).2.2.2.1, (v13 (Int.toNat v15)).2.2.2.2.1, (v13 (Int.toNat v15)).2.2.2.2.2.1, (v13 (Int.toNat v15)).2.2.2.2.2.2.1, (v13 (Int.toNat v15)).2.2.2.2.2.2.2.1, (v13 (Int.toNat v15)).2.2.2.2.2.2.2.2.1, (v13 (Int.toNat v15)).2.2.2.2.2.2.2.2.2.1, (v13 (Int.toNat v15)).2.2.2.2.2.2.2.2.2.2.1, (v13 (Int.toNat v15)).2.2.2.2.2.2.2.2.2.2.2.1, (v13 (Int.toNat v15)).2.2.2.2.2.2.2.2.2.2.2.2.1, (v13 (Int.toNat v15)).2.2.2.2.2.2.2.2.2.2.2.2.2.1, (v13 (Int.toNat v15)).2.2.2.2.2.2.2.2.2.2.2.2.2.2.1, (v13 (Int.toNat v15)).2.2.2.2.2.2.2.2.2.2.2.2.2.2.2.1, (v13 (Int.toNat v15)).2.2.2.2.2.2.2.2.2.2.2.2.2.2.2.2.1, (v13 (Int.toNat v15)).2.2.2.2.2.2.2.2.2.2.2.2.2.2.2.2.2.1, (v13 (Int.toNat v15)).2.2.2.2.2.2.2.2.2.2.2.2.2.2.2.2.2.2.1, (v13 (Int.toNat v15)).2.2.2.2.2.2.2.2.2.2.2.2.2.2.2.2.2.2.2.1, (v13 (Int.toNat v15)).2.2.2.2.2.2.2.2.2.2.2.2.2.2.2.2.2.2.2.2.1, (v13 (Int.toNat v15)).2.2.2.2.2.2.2.2.2.2.2.2.2.2.2.2.2.2.2.2.2.1, (v13 (Int.toNat v15)).2.2.2.2.2.2.2.2.2.2.2.2.2.2.2.2.2.2.2.2.2.2.1, (v13 (Int.toNat v15)).2.2.2.2.2.2.2.2.2.2.2.2.2.2.2.2.2.2.2.2.2.2.2.1, (v13 (Int.toNat v15)).2.2.2.2.2.2.2.2.2.2.2.2.2.2.2.2.2.2.2.2.2.2.2.2.1, (v13 (Int.toNat v15)).2.2.2.2.2.2.2.2.2.2.2.2.2.2.2.2.2.2.2.2.2.2.2.2.2.1, (v13 (Int.toNat v15)).2.2.2.2.2.2.2.2.2.2.2.2.2.2.2.2.2.2.2.2.2.2.2.2.2.2.1, (v13 (Int.toNat v15)).2.2.2.2.2.2.2.2.2.2.2.2.2.2.2.2.2.2.2.2.2.2.2.2.2.2.2.1, (v13 (Int.toNat v15)).2.2.2.2.2.2.2.2.2.2.2.2.2.2.2.2.2.2.2.2.2.2.2.2.2.2.2.2.1, ((v13 (Int.toNat v15)).2.2.2.2.2.2.2.2.2.2.2.2.2.2.2.2.2.2.2.2.2.2.2.2.2.2.2.2.2.1, (v13 (Int.toNat v15)).2.2.2.2.2.2.2.2.2.2.2.2.2.2.2.2.2.2.2.2.2.2.2.2.2.2.2.2.2.2))).bind fun r8 =>
      (world.AddJoint.f ((v1, v2, v3, v4, v5, (v6, (fun i => RiiiiiiiiiiL2.enc (v7 i))), (v8, (fun i => Riiiiiiii.enc (v9 i))), (v10, (fun i => Riiiii.enc (v11 i)))), (r8.1, r8.2.1, r8.2.2.1, r8.2.2.2.1, r8.2.2.2.2.1, r8.2.2.2.2.2.1, r8.2.2.2.2.2.2.1, r8.2.2.2.2.2.2.2))).bind fun r9 =>
      law09.Made.l0 k0 k1 r9.2.1 r9.2.2.1 r9.2.2.2.1 r9.2.2.2.2.1 r9.2.2.2.2.2.1 r9.2.2.2.2.2.2.1.1 (fun i => RiiiiiiiiiiL2.enc (r9.2.2.2.2.2.2.1.2 i)) r9.2.2.2.2.2.2.2.1.1 (fun i => Riiiiiiii.enc (r9.2.2.2.2.2.2.2.1.2 i)) r9.2.2.2.2.2.2.2.2.1 (fun i => Riiiii.enc (r9.2.2.2.2.2.2.2.2.2 i)) v12 (fun i => RiiiiiiiiiiiiiiiiiiiiiiiiiiiiiL2.enc (v13 i)) v14 (IntKind.i64.wrap (v15 + 1))
    else
    bif ((Go.bits .and .i64 (v13 (Int.toNat v15)).1 7) == 6) then
      (world.RemoveBody.f ((v1, v2, v3, v4, v5, (v6, (fun i => RiiiiiiiiiiL2.enc (v7 i))), (v8, (fun i => Riiiiiiii.enc (v9 i))), (v10, (fun i => Riiiii.enc (v11 i)))), (Go.bits .and .i64 (v13 (Int.toNat v15)).2.2.2.2.2.2.2.2.2.2.2.2.1 15))).bind fun r10 =>
      law09.Made.l0 k0 k1 r10.2.1 r10.2.2.1 r10.2.2.2.1 r10.2.2.2.2.1 r10.2.2.2.2.2.1 r10.2.2.2.2.2.2.1.1 (fun i => RiiiiiiiiiiL2.enc (r10.2.2.2.2.2.2.1.2 i)) r10.2.2.2.2.2.2.2.1.1 (fun i => Riiiiiiii.enc (r10.2.2.2.2.2.2.2.1.2 i)) r10.2.2.2.2.2.2.2.2.1 (fun i => Riiiii.enc (r10.2.2.2.2.2.2.2.2.2 i)) v12 (fun i => RiiiiiiiiiiiiiiiiiiiiiiiiiiiiiL2.enc (v13 i)) v14 (IntKind.i64.wrap (v15 + 1))
    else
    bif ((Go.bits .and .i64 (v13 (Int.toNat v15)).1 7) == 3) then
      (world.RemoveJoint.f ((v1, v2, v3, v4, v5, (v6, (fun i => RiiiiiiiiiiL2.enc (v7 i))), (v8, (fun i => Riiiiiiii.enc (v9 i))), (v10, (fun i => Riiiii.enc (v11 i)))), (Go.bits .and .i64 (v13 (Int.toNat v15)).2.2.2.2.2.2.2.2.2.2.2.2.1 15))).bind fun r11 =>
      law09.Made.l0 k0 k1 r11.2.1 r11.2.2.1 r11.2.2.2.1 r11.2.2.2.2.1 r11.2.2.2.2.2.1 r11.2.2.2.2.2.2.1.1 (fun i => RiiiiiiiiiiL2.enc (r11.2.2.2.2.2.2.1.2 i)) r11.2.2.2.2.2.2.2.1.1 (fun i => Riiiiiiii.enc (r11.2.2.2.2.2.2.2.1.2 i)) r11.2.2.2.2.2.2.2.2.1 (fun i => Riiiii.enc (r11.2.2.2.2.2.2.2.2.2 i)) v12 (fun i => RiiiiiiiiiiiiiiiiiiiiiiiiiiiiiL2.enc (v13 i)) v14 (IntKind.i64.wrap (v15 + 1))
    else
    (law09.Deed.Body.f ((v13 (Int.toNat v15)).1, (v13 (Int.toNat v15)).2.1, (v13 (Int.toNat v15)).2.2.1, (v13 (Int.toNat v15)).2.2.2.1, (v13 (Int.toNat v15)).2.2.2.2.1, (v13 (Int.toNat v15)).2.2.2.2.2.1, (v13 (Int.toNat v15)).2.2.2.2.2.2.1, (v13 (Int.toNat v15)).2.2.2.2.2.2.2.1, (v13 (Int.toNat v15)).2.2.2.2.2.2.2.2.1, (v13 (Int.toNat v15)).2.2.2.2.2.2.2.2.2.1, (v13 (Int.toNat v15)).2.2.2.2.2.2.2.2.2.2.1, (v13 (Int.toNat v15)).2.2.2.2.2.2.2.2.2.2.2.1, (v13 (Int.toNat v15)).2.2.2.2.2.2.2.2.2.2.2.2.1, (v13 (Int.toNat v15)).2.2.2.2.2.2.2.2.2.2.2.2.2.1, (v13 (Int.toNat v15)).2.2.2.2.2.2.2.2.2.2.2.2.2.2.1, (v13 (Int.toNat v15)).2.2.2.2.2.2.2.2.2.2.2.2.2.2.2.1, (v13 (Int.toNat v15)).2.2.2.2.2.2.2.2.2.2.2.2.2.2.2.2.1, (v13 (Int.toNat v15)).2.2.2.2.2.2.2.2.2.2.2.2.2.2.2.2.2.1, (v13 (Int.toNat v15)).2.2.2.2.2.2.2.2.2.2.2.2.2.2.2.2.2.2.1, (v13 (Int.toNat v15)).2.2.2.2.2.2.2.2.2.2.2.2.2.2.2.2.2.2.2.1, (v13 (Int.toNat v15)).2.2.2.2.2.2.2.2.2.2.2.2.2.2.2.2.2.2.2.2.1, (v13 (Int.toNat v15)).2.2.2.2.2.2.2.2.2.2.2.2.2.2.2.2.2.2.2.2.2.1, (v13 (Int.toNat v15)).2.2.2.2.2.2.2.2.2.2.2.2.2.2.2.2.2.2.2.2.2.2.1, (v13 (Int.toNat v15)).2.2.2.2.2.2.2.2.2.2.2.2.2.2.2.2.2.2.2.2.2.2.2.1, (v13 (Int.toNat v15)).2.2.2.2.2.2.2.2.2.2.2.2.2.2.2.2.2.2.2.2.2.2.2.2.1, (v13 (Int.toNat v15)).2.2.2.2.2.2.2.2.2.2.2.2.2.2.2.2.2.2.2.2.2.2.2.2.2.1, (v13 (Int.toNat v15)).2.2.2.2.2.2.2.2.2.2.2.2.2.2.2.2.2.2.2.2.2.2.2.2.2.2.1, (v13 (Int.toNat v15)).2.2.2.2.2.2.2.2.2.2.2.2.2.2.2.2.2.2.2.2.2.2.2.2.2.2.2.1, (v13 (Int.toNat v15)).2.2.2.2.2.2.2.2.2.2.2.2.2.2.2.2.2.2.2.2.2.2.2.2.2.2.2.2.1, ((v13 (Int.toNat v15)).2.2.2.2.2.2.2.2.2.2.2.2.2.2.2.2.2.2.2.2.2.2.2.2.2.2.2.2.2.1, (v13 (Int.toNat v15)).2.2.2.2.2.2.2.2.2.2.2.2.2.2.2.2.2.2.2.2.2.2.2.2.2.2.2.2.2.2))).bind fun r12 =>
    (world.AddBody.f ((v1, v2, v3, v4, v5, (v6, (fun i => RiiiiiiiiiiL2.enc (v7 i))), (v8, (fun i => Riiiiiiii.enc (v9 i))), (v10, (fun i => Riiiii.enc (v11 i)))), (r12.1, r12.2.1, r12.2.2.1, r12.2.2.2.1, r12.2.2.2.2.1, r12.2.2.2.2.2.1, r12.2.2.2.2.2.2.1, r12.2.2.2.2.2.2.2.1, r12.2.2.2.2.2.2.2.2.1, r12.2.2.2.2.2.2.2.2.2.1, (r12.2.2.2.2.2.2.2.2.2.2.1, (fun i => Rii.enc (r12.2.2.2.2.2.2.2.2.2.2.2 i)))))).bind fun r13 =>
    law09.Made.l0 k0 k1 r13.2.1 r13.2.2.1 r13.2.2.2.1 r13.2.2.2.2.1 r13.2.2.2.2.2.1 r13.2.2.2.2.2.2.1.1 (fun i => RiiiiiiiiiiL2.enc (r13.2.2.2.2.2.2.1.2 i)) r13.2.2.2.2.2.2.2.1.1 (fun i => Riiiiiiii.enc (r13.2.2.2.2.2.2.2.1.2 i)) r13.2.2.2.2.2.2.2.2.1 (fun i => Riiiii.enc (r13.2.2.2.2.2.2.2.2.2 i)) v12 (fun i => RiiiiiiiiiiiiiiiiiiiiiiiiiiiiiL2.enc (v13 i)) v14 (IntKind.i64.wrap (v15 + 1))
    else none
  else
  (tG (tCons (tI .i64) (tCons (tI .i64) (tCons (tI .i64) (tCons (tI .i64) (tCons (tI .i64) (tCons (tTL RiiiiiiiiiiL2 11 (0, 0, 0, 0, 0, 0, 0, 0, 0, 0, (0, fun _ => []))) (tCons (tTL Riiiiiiii 8 (0, 0, 0, 0, 0, 0, 0, 0)) (tOne (tTL Riiiii 5 (0, 0, 0, 0, 0))))))))))).dec (.agg [.val (.int .i64 v1), .val (.int .i64 v2), .val (.int .i64 v3), .val (.int .i64 v4), .val (.int .i64 v5), .lst 11 v6 none (fun i => RiiiiiiiiiiL2.enc (v7 i)), .lst 8 v8 none (fun i => Riiiiiiii.enc (v9 i)), .lst 5 v10 none (fun i => Riiiii.enc (v11 i))]) := by kernel_rfl
theorem law09.Made.eq (k0 : Nat) (p0_n : Nat) (p0_g : Nat → (Int × Int × Int × Int × Int × Int × Int × Int × Int × Int × Int × Int × Int × Int × Int × Int × Int × Int × Int × Int × Int × Int × Int × Int × Int × Int × Int × Int × Int × (Nat × (Nat → List AV)))) (p1 : Int) : law09.Made.g k0 ((p0_n, (fun i => RiiiiiiiiiiiiiiiiiiiiiiiiiiiiiL2.enc (p0_g i))), p1) =
  (world.New.f ()).bind fun r1 =>
  bif ((decide (0 ≤ (if p1 < ((p0_n : Nat) : Int) then p1 else ((p0_n : Nat) : Int)))) && (decide ((if p1 < ((p0_n : Nat) : Int) then p1 else ((p0_n : Nat) : Int)) ≤ ((p0_n : Nat) : Int)))) then
  law09.Made.l0 k0 k0 r1.1 r1.2.1 r1.2.2.1 r1.2.2.2.1 r1.2.2.2.2.1 r1.2.2.2.2.2.1.1 (fun i => RiiiiiiiiiiL2.enc (r1.2.2.2.2.2.1.2 i)) r1.2.2.2.2.2.2.1.1 (fun i => Riiiiiiii.enc (r1.2.2.2.2.2.2.1.2 i)) r1.2.2.2.2.2.2.2.1 (fun i => Riiiii.enc (r1.2.2.2.2.2.2.2.2 i)) (Int.toNat (if p1 < ((p0_n : Nat) : Int) then p1 else ((p0_n : Nat) : Int))) (fun i => RiiiiiiiiiiiiiiiiiiiiiiiiiiiiiL2.enc (p0_g i)) (((Int.toNat (if p1 < ((p0_n : Nat) : Int) then p1 else ((p0_n : Nat) : Int))) : Nat) : Int) 0
  else none := by kernel_rfl
/-! ### bagatelle/bagatellelaw10.Order -/
noncomputable def law10.Order.cs : List (Nat × Fw.Summ) := [(12, law09.Deed.Body.s), (14, law09.Deed.Joint.s), (18, vec.Bring.s), (21, fix.Bring.s)]
theorem law10.Order.cs_ok : SumsOk Tryz.prog law10.Order.cs := .cons law09.Deed.Body.ok (.cons law09.Deed.Joint.ok (.cons vec.Bring.ok (.cons fix.Bring.ok (.nil))))
def law10.Order.hs : List (Nat × LHint) := []
noncomputable def law10.Order.G : Ctx := ⟨Tryz.prog, sumAt law10.Order.cs, lookH law10.Order.hs⟩
noncomputable def law10.Order.f (x : (Int × Int × Int × Int × Int × Int × Int × Int × Int × Int × Int × Int × Int × Int × Int × Int × Int × Int × Int × Int × Int × Int × Int × Int × Int × Int × Int × Int × Int × (Nat × (Nat → List AV)))) : Option (Int × Int × Int × Int × Int × Int × Int × Int × Int × Int × Int × Int × Int × Int × (Nat × (Nat → (Int × Int)))) := evF law10.Order.G 0 Tryz.f7 ((tOne (tG (tCons (tI .i64) (tCons (tI .i64) (tCons (tI .i64) (tCons (tI .i64) (tCons (tI .i64) (tCons (tI .i64) (tCons (tI .i64) (tCons (tI .i64) (tCons (tI .i64) (tCons (tI .i64) (tCons (tI .i64) (tCons (tI .i64) (tCons (tI .i64) (tCons (tI .i64) (tCons (tI .i64) (tCons (tI .i64) (tCons (tI .i64) (tCons (tI .i64) (tCons (tI .i64) (tCons (tI .i64) (tCons (tI .i64) (tCons (tI .i64) (tCons (tI .i64) (tCons (tI .i64) (tCons (tI .i64) (tCons (tI .i64) (tCons (tI .i64) (tCons (tI .i64) (tCons (tI .i64) (tOne (tLz 2 (Rii.enc (0, 0))))))))))))))))))))))))))))))))))).enc x) (tG (tCons (tI .i64) (tCons (tI .i64) (tCons (tI .i64) (tCons (tI .i64) (tCons (tI .i64) (tCons (tI .i64) (tCons (tI .i64) (tCons (tI .i64) (tCons (tI .i64) (tCons (tI .i64) (tCons (tI .i64) (tCons (tI .i64) (tCons (tI .i64) (tCons (tI .i64) (tOne (tTL Rii 2 (0, 0)))))))))))))))))).dec
noncomputable def law10.Order.s : Fw.Summ := .mk' (tOne (tG (tCons (tI .i64) (tCons (tI .i64) (tCons (tI .i64) (tCons (tI .i64) (tCons (tI .i64) (tCons (tI .i64) (tCons (tI .i64) (tCons (tI .i64) (tCons (tI .i64) (tCons (tI .i64) (tCons (tI .i64) (tCons (tI .i64) (tCons (tI .i64) (tCons (tI .i64) (tCons (tI .i64) (tCons (tI .i64) (tCons (tI .i64) (tCons (tI .i64) (tCons (tI .i64) (tCons (tI .i64) (tCons (tI .i64) (tCons (tI .i64) (tCons (tI .i64) (tCons (tI .i64) (tCons (tI .i64) (tCons (tI .i64) (tCons (tI .i64) (tCons (tI .i64) (tCons (tI .i64) (tOne (tLz 2 (Rii.enc (0, 0))))))))))))))))))))))))))))))))))) (tG (tCons (tI .i64) (tCons (tI .i64) (tCons (tI .i64) (tCons (tI .i64) (tCons (tI .i64) (tCons (tI .i64) (tCons (tI .i64) (tCons (tI .i64) (tCons (tI .i64) (tCons (tI .i64) (tCons (tI .i64) (tCons (tI .i64) (tCons (tI .i64) (tCons (tI .i64) (tOne (tTL Rii 2 (0, 0)))))))))))))))))) law10.Order.f
theorem law10.Order.ok : law10.Order.s.Ok Tryz.prog 7 :=
  summ_ok (hint := lookH law10.Order.hs) (fn := Tryz.f7) (fun x => 0) law10.Order.cs_ok (by kernel_rfl) (by kernel_rfl) (by kernel_rfl) (by kernel_rfl) (tOne_ok (tG_ok (tCons_ok (tI_ok _) (tCons_ok (tI_ok _) (tCons_ok (tI_ok _) (tCons_ok (tI_ok _) (tCons_ok (tI_ok _) (tCons_ok (tI_ok _) (tCons_ok (tI_ok _) (tCons_ok (tI_ok _) (tCons_ok (tI_ok _) (tCons_ok (tI_ok _) (tCons_ok (tI_ok _) (tCons_ok (tI_ok _) (tCons_ok (tI_ok _) (tCons_ok (tI_ok _) (tCons_ok (tI_ok _) (tCons_ok (tI_ok _) (tCons_ok (tI_ok _) (tCons_ok (tI_ok _) (tCons_ok (tI_ok _) (tCons_ok (tI_ok _) (tCons_ok (tI_ok _) (tCons_ok (tI_ok _) (tCons_ok (tI_ok _) (tCons_ok (tI_ok _) (tCons_ok (tI_ok _) (tCons_ok (tI_ok _) (tCons_ok (tI_ok _) (tCons_ok (tI_ok _) (tCons_ok (tI_ok _) (tOne_ok (tLz_ok _ _))))))))))))))))))))))))))))))))) (tG_ok (tCons_ok (tI_ok _) (tCons_ok (tI_ok _) (tCons_ok (tI_ok _) (tCons_ok (tI_ok _) (tCons_ok (tI_ok _) (tCons_ok (tI_ok _) (tCons_ok (tI_ok _) (tCons_ok (tI_ok _) (tCons_ok (tI_ok _) (tCons_ok (tI_ok _) (tCons_ok (tI_ok _) (tCons_ok (tI_ok _) (tCons_ok (tI_ok _) (tCons_ok (tI_ok _) (tOne_ok (tTL_ok Rii_ok _ _))))))))))))))))) (fun _ => rfl)
theorem law10.Order.eq (p0_0 : Int) (p0_1 : Int) (p0_2 : Int) (p0_3 : Int) (p0_4 : Int) (p0_5 : Int) (p0_6 : Int) (p0_7 : Int) (p0_8 : Int) (p0_9 : Int) (p0_10 : Int) (p0_11 : Int) (p0_12 : Int) (p0_13 : Int) (p0_14 : Int) (p0_15 : Int) (p0_16 : Int) (p0_17 : Int) (p0_18 : Int) (p0_19 : Int) (p0_20 : Int) (p0_21 : Int) (p0_22 : Int) (p0_23 : Int) (p0_24 : Int) (p0_25 : Int) (p0_26 : Int) (p0_27 : Int) (p0_28 : Int) (p0_29_n : Nat) (p0_29_g : Nat → (Int × Int)) : law10.Order.f (p0_0, p0_1, p0_2, p0_3, p0_4, p0_5, p0_6, p0_7, p0_8, p0_9, p0_10, p0_11, p0_12, p0_13, p0_14, p0_15, p0_16, p0_17, p0_18, p0_19, p0_20, p0_21, p0_22, p0_23, p0_24, p0_25, p0_26, p0_27, p0_28, (p0_29_n, (fun i => Rii.enc (p0_29_g i)))) =
  (law09.Deed.Body.f (p0_0, p0_1, p0_2, p0_3, p0_4, p0_5, p0_6, p0_7, p0_8, p0_9, p0_10, p0_11, p0_12, p0_13, p0_14, p0_15, p0_16, p0_17, p0_18, p0_19, p0_20, p0_21, p0_22, p0_23, p0_24, p0_25, p0_26, p0_27, p0_28, (p0_29_n, (fun i => Rii.enc (p0_29_g i))))).bind fun r1 =>
  (law09.Deed.Joint.f (p0_0, p0_1, p0_2, p0_3, p0_4, p0_5, p0_6, p0_7, p0_8, p0_9, p0_10, p0_11, p0_12, p0_13, p0_14, p0_15, p0_16, p0_17, p0_18, p0_19, p0_20, p0_21, p0_22, p0_23, p0_24, p0_25, p0_26, p0_27, p0_28, (p0_29_n, (fun i => Rii.enc (p0_29_g i))))).bind fun r2 =>
  bif ((Go.bits .and .i64 p0_0 7) == 2) then
    (vec.Bring.f ((p0_8, p0_9), 858993459200)).bind fun r3 =>
    (fix.Bring.f (p0_10, (-858993459200), 858993459200)).bind fun r4 =>
    (tG (tCons (tI .i64) (tCons (tI .i64) (tCons (tI .i64) (tCons (tI .i64) (tCons (tI .i64) (tCons (tI .i64) (tCons (tI .i64) (tCons (tI .i64) (tCons (tI .i64) (tCons (tI .i64) (tCons (tI .i64) (tCons (tI .i64) (tCons (tI .i64) (tCons (tI .i64) (tOne (tTL Rii 2 (0, 0)))))))))))))))))).dec (.agg [.val (.int .i64 5), .val (.int .i64 (Go.bits .and .i64 p0_12 15)), .val (.int .i64 0), .val (.int .i64 0), .val (.int .i64 0), .val (.int .i64 0), .val (.int .i64 r3.1), .val (.int .i64 r3.2), .val (.int .i64 0), .val (.int .i64 r4), .val (.int .i64 0), .val (.int .i64 0), .val (.int .i64 0), .val (.int .i64 0), .val (.slice none 0 0)])
  else
  bif ((Go.bits .and .i64 p0_0 7) == 3) then
    (tG (tCons (tI .i64) (tCons (tI .i64) (tCons (tI .i64) (tCons (tI .i64) (tCons (tI .i64) (tCons (tI .i64) (tCons (tI .i64) (tCons (tI .i64) (tCons (tI .i64) (tCons (tI .i64) (tCons (tI .i64) (tCons (tI .i64) (tCons (tI .i64) (tCons (tI .i64) (tOne (tTL Rii 2 (0, 0)))))))))))))))))).dec (.agg [.val (.int .i64 4), .val (.int .i64 (Go.bits .and .i64 p0_12 15)), .val (.int .i64 0), .val (.int .i64 0), .val (.int .i64 0), .val (.int .i64 0), .val (.int .i64 0), .val (.int .i64 0), .val (.int .i64 0), .val (.int .i64 0), .val (.int .i64 0), .val (.int .i64 0), .val (.int .i64 0), .val (.int .i64 0), .val (.slice none 0 0)])
  else
  bif ((Go.bits .and .i64 p0_0 7) == 4) then
    bif ((Go.bits .and .i64 p0_0 7) == 4) then
      (tG (tCons (tI .i64) (tCons (tI .i64) (tCons (tI .i64) (tCons (tI .i64) (tCons (tI .i64) (tCons (tI .i64) (tCons (tI .i64) (tCons (tI .i64) (tCons (tI .i64) (tCons (tI .i64) (tCons (tI .i64) (tCons (tI .i64) (tCons (tI .i64) (tCons (tI .i64) (tOne (tTL Rii 2 (0, 0)))))))))))))))))).dec (.agg [.val (.int .i64 3), .val (.int .i64 0), .val (.int .i64 r2.2.1), .val (.int .i64 r2.2.2.1), .val (.int .i64 r2.2.2.2.1), .val (.int .i64 r2.2.2.2.2.1), .val (.int .i64 r2.2.2.2.2.2.1), .val (.int .i64 r2.2.2.2.2.2.2.1), .val (.int .i64 0), .val (.int .i64 0), .val (.int .i64 0), .val (.int .i64 r2.2.2.2.2.2.2.2), .val (.int .i64 0), .val (.int .i64 0), .val (.slice none 0 0)])
    else
    bif ((Go.bits .and .i64 p0_0 7) == 6) then
      (tG (tCons (tI .i64) (tCons (tI .i64) (tCons (tI .i64) (tCons (tI .i64) (tCons (tI .i64) (tCons (tI .i64) (tCons (tI .i64) (tCons (tI .i64) (tCons (tI .i64) (tCons (tI .i64) (tCons (tI .i64) (tCons (tI .i64) (tCons (tI .i64) (tCons (tI .i64) (tOne (tTL Rii 2 (0, 0)))))))))))))))))).dec (.agg [.val (.int .i64 2), .val (.int .i64 (Go.bits .and .i64 p0_12 15)), .val (.int .i64 0), .val (.int .i64 0), .val (.int .i64 0), .val (.int .i64 0), .val (.int .i64 0), .val (.int .i64 0), .val (.int .i64 0), .val (.int .i64 0), .val (.int .i64 0), .val (.int .i64 0), .val (.int .i64 0), .val (.int .i64 0), .val (.slice none 0 0)])
    else
    bif ((Go.bits .and .i64 p0_0 7) == 7) then
      (vec.Bring.f ((p0_8, p0_9), 214748364800)).bind fun r5 =>
      (tG (tCons (tI .i64) (tCons (tI .i64) (tCons (tI .i64) (tCons (tI .i64) (tCons (tI .i64) (tCons (tI .i64) (tCons (tI .i64) (tCons (tI .i64) (tCons (tI .i64) (tCons (tI .i64) (tCons (tI .i64) (tCons (tI .i64) (tCons (tI .i64) (tCons (tI .i64) (tOne (tTL Rii 2 (0, 0)))))))))))))))))).dec (.agg [.val (.int .i64 6), .val (.int .i64 0), .val (.int .i64 0), .val (.int .i64 0), .val (.int .i64 0), .val (.int .i64 0), .val (.int .i64 r5.1), .val (.int .i64 r5.2), .val (.int .i64 0), .val (.int .i64 0), .val (.int .i64 0), .val (.int .i64 0), .val (.int .i64 0), .val (.int .i64 0), .val (.slice none 0 0)])
    else
    (tG (tCons (tI .i64) (tCons (tI .i64) (tCons (tI .i64) (tCons (tI .i64) (tCons (tI .i64) (tCons (tI .i64) (tCons (tI .i64) (tCons (tI .i64) (tCons (tI .i64) (tCons (tI .i64) (tCons (tI .i64) (tCons (tI .i64) (tCons (tI .i64) (tCons (tI .i64) (tOne (tTL Rii 2 (0, 0)))))))))))))))))).dec (.agg [.val (.int .i64 1), .val (.int .i64 0), .val (.int .i64 0), .val (.int .i64 0), .val (.int .i64 r1.2.1), .val (.int .i64 r1.2.2.1), .val (.int .i64 r1.2.2.2.1), .val (.int .i64 r1.2.2.2.2.1), .val (.int .i64 r1.2.2.2.2.2.1), .val (.int .i64 r1.2.2.2.2.2.2.1), .val (.int .i64 r1.2.2.2.2.2.2.2.1), .val (.int .i64 0), .val (.int .i64 r1.2.2.2.2.2.2.2.2.1), .val (.int .i64 r1.2.2.2.2.2.2.2.2.2.1), .lst 2 r1.2.2.2.2.2.2.2.2.2.2.1 none (fun i => Rii.enc (r1.2.2.2.2.2.2.2.2.2.2.2 i))])
  else
  bif ((Go.bits .and .i64 p0_0 7) == 5) then
    (tG (tCons (tI .i64) (tCons (tI .i64) (tCons (tI .i64) (tCons (tI .i64) (tCons (tI .i64) (tCons (tI .i64) (tCons (tI .i64) (tCons (tI .i64) (tCons (tI .i64) (tCons (tI .i64) (tCons (tI .i64) (tCons (tI .i64) (tCons (tI .i64) (tCons (tI .i64) (tOne (tTL Rii 2 (0, 0)))))))))))))))))).dec (.agg [.val (.int .i64 3), .val (.int .i64 0), .val (.int .i64 r2.2.1), .val (.int .i64 r2.2.2.1), .val (.int .i64 r2.2.2.2.1), .val (.int .i64 r2.2.2.2.2.1), .val (.int .i64 r2.2.2.2.2.2.1), .val (.int .i64 r2.2.2.2.2.2.2.1), .val (.int .i64 0), .val (.int .i64 0), .val (.int .i64 0), .val (.int .i64 r2.2.2.2.2.2.2.2), .val (.int .i64 0), .val (.int .i64 0), .val (.slice none 0 0)])
  else
  bif ((Go.bits .and .i64 p0_0 7) == 6) then
    (tG (tCons (tI .i64) (tCons (tI .i64) (tCons (tI .i64) (tCons (tI .i64) (tCons (tI .i64) (tCons (tI .i64) (tCons (tI .i64) (tCons (tI .i64) (tCons (tI .i64) (tCons (tI .i64) (tCons (tI .i64) (tCons (tI .i64) (tCons (tI .i64) (tCons (tI .i64) (tOne (tTL Rii 2 (0, 0)))))))))))))))))).dec (.agg [.val (.int .i64 2), .val (.int .i64 (Go.bits .and .i64 p0_12 15)), .val (.int .i64 0), .val (.int .i64 0), .val (.int .i64 0), .val (.int .i64 0), .val (.int .i64 0), .val (.int .i64 0), .val (.int .i64 0), .val (.int .i64 0), .val (.int .i64 0), .val (.int .i64 0), .val (.int .i64 0), .val (.int .i64 0), .val (.slice none 0 0)])
  else
  bif ((Go.bits .and .i64 p0_0 7) == 7) then
    (vec.Bring.f ((p0_8, p0_9), 214748364800)).bind fun r6 =>
    (tG (tCons (tI .i64) (tCons (tI .i64) (tCons (tI .i64) (tCons (tI .i64) (tCons (tI .i64) (tCons (tI .i64) (tCons (tI .i64) (tCons (tI .i64) (tCons (tI .i64) (tCons (tI .i64) (tCons (tI .i64) (tCons (tI .i64) (tCons (tI .i64) (tCons (tI .i64) (tOne (tTL Rii 2 (0, 0)))))))))))))))))).dec (.agg [.val (.int .i64 6), .val (.int .i64 0), .val (.int .i64 0), .val (.int .i64 0), .val (.int .i64 0), .val (.int .i64 0), .val (.int .i64 r6.1), .val (.int .i64 r6.2), .val (.int .i64 0), .val (.int .i64 0), .val (.int .i64 0), .val (.int .i64 0), .val (.int .i64 0), .val (.int .i64 0), .val (.slice none 0 0)])
  else
  (tG (tCons (tI .i64) (tCons (tI .i64) (tCons (tI .i64) (tCons (tI .i64) (tCons (tI .i64) (tCons (tI .i64) (tCons (tI .i64) (tCons (tI .i64) (tCons (tI .i64) (tCons (tI .i64) (tCons (tI .i64) (tCons (tI .i64) (tCons (tI .i64) (tCons (tI .i64) (tOne (tTL Rii 2 (0, 0)))))))))))))))))).dec (.agg [.val (.int .i64 1), .val (.int .i64 0), .val (.int .i64 0), .val (.int .i64 0), .val (.int .i64 r1.2.1), .val (.int .i64 r1.2.2.1), .val (.int .i64 r1.2.2.2.1), .val (.int .i64 r1.2.2.2.2.1), .val (.int .i64 r1.2.2.2.2.2.1), .val (.int .i64 r1.2.2.2.2.2.2.1), .val (.int .i64 r1.2.2.2.2.2.2.2.1), .val (.int .i64 0), .val (.int .i64 r1.2.2.2.2.2.2.2.2.1), .val (.int .i64 r1.2.2.2.2.2.2.2.2.2.1), .lst 2 r1.2.2.2.2.2.2.2.2.2.2.1 none (fun i => Rii.enc (r1.2.2.2.2.2.2.2.2.2.2.2 i))]) := by kernel_rfl
/-! ### bagatelle/world.sameBody -/
noncomputable def world.sameBody.cs : List (Nat × Fw.Summ) := [(74, shape.Same.s)]
theorem world.sameBody.cs_ok : SumsOk Tryz.prog world.sameBody.cs := .cons shape.Same.ok (.nil)
def world.sameBody.hs : List (Nat × LHint) := []
noncomputable def world.sameBody.G : Ctx := ⟨Tryz.prog, sumAt world.sameBody.cs, lookH world.sameBody.hs⟩
noncomputable def world.sameBody.f (x : ((Int × Int × Int × Int × Int × Int × Int × Int × Int × Int × (Nat × (Nat → List AV))) × (Int × Int × Int × Int × Int × Int × Int × Int × Int × Int × (Nat × (Nat → List AV))))) : Option Bool := evF world.sameBody.G 0 Tryz.f63 ((tCons (tG (tCons (tI .i64) (tCons (tI .i64) (tCons (tI .i64) (tCons (tI .i64) (tCons (tI .i64) (tCons (tI .i64) (tCons (tI .i64) (tCons (tI .i64) (tCons (tI .i64) (tCons (tI .i64) (tOne (tLz 2 (Rii.enc (0, 0))))))))))))))) (tOne (tG (tCons (tI .i64) (tCons (tI .i64) (tCons (tI .i64) (tCons (tI .i64) (tCons (tI .i64) (tCons (tI .i64) (tCons (tI .i64) (tCons (tI .i64) (tCons (tI .i64) (tCons (tI .i64) (tOne (tLz 2 (Rii.enc (0, 0))))))))))))))))).enc x) tB.dec
noncomputable def world.sameBody.s : Fw.Summ := .mk' (tCons (tG (tCons (tI .i64) (tCons (tI .i64) (tCons (tI .i64) (tCons (tI .i64) (tCons (tI .i64) (tCons (tI .i64) (tCons (tI .i64) (tCons (tI .i64) (tCons (tI .i64) (tCons (tI .i64) (tOne (tLz 2 (Rii.enc (0, 0))))))))))))))) (tOne (tG (tCons (tI .i64) (tCons (tI .i64) (tCons (tI .i64) (tCons (tI .i64) (tCons (tI .i64) (tCons (tI .i64) (tCons (tI .i64) (tCons (tI .i64) (tCons (tI .i64) (tCons (tI .i64) (tOne (tLz 2 (Rii.enc (0, 0))))))))))))))))) tB world.sameBody.f
theorem world.sameBody.ok : world.sameBody.s.Ok Tryz.prog 63 :=
  summ_ok (hint := lookH world.sameBody.hs) (fn := Tryz.f63) (fun x => 0) world.sameBody.cs_ok (by kernel_rfl) (by kernel_rfl) (by kernel_rfl) (by kernel_rfl) (tCons_ok (tG_ok (tCons_ok (tI_ok _) (tCons_ok (tI_ok _) (tCons_ok (tI_ok _) (tCons_ok (tI_ok _) (tCons_ok (tI_ok _) (tCons_ok (tI_ok _) (tCons_ok (tI_ok _) (tCons_ok (tI_ok _) (tCons_ok (tI_ok _) (tCons_ok (tI_ok _) (tOne_ok (tLz_ok _ _))))))))))))) (tOne_ok (tG_ok (tCons_ok (tI_ok _) (tCons_ok (tI_ok _) (tCons_ok (tI_ok _) (tCons_ok (tI_ok _) (tCons_ok (tI_ok _) (tCons_ok (tI_ok _) (tCons_ok (tI_ok _) (tCons_ok (tI_ok _) (tCons_ok (tI_ok _) (tCons_ok (tI_ok _) (tOne_ok (tLz_ok _ _))))))))))))))) tB_ok (fun _ => rfl)
theorem world.sameBody.eq (p0_0 : Int) (p0_1 : Int) (p0_2 : Int) (p0_3 : Int) (p0_4 : Int) (p0_5 : Int) (p0_6 : Int) (p0_7 : Int) (p0_8 : Int) (p0_9 : Int) (p0_10_n : Nat) (p0_10_g : Nat → (Int × Int)) (p1_0 : Int) (p1_1 : Int) (p1_2 : Int) (p1_3 : Int) (p1_4 : Int) (p1_5 : Int) (p1_6 : Int) (p1_7 : Int) (p1_8 : Int) (p1_9 : Int) (p1_10_n : Nat) (p1_10_g : Nat → (Int × Int)) : world.sameBody.f ((p0_0, p0_1, p0_2, p0_3, p0_4, p0_5, p0_6, p0_7, p0_8, p0_9, (p0_10_n, (fun i => Rii.enc (p0_10_g i)))), (p1_0, p1_1, p1_2, p1_3, p1_4, p1_5, p1_6, p1_7, p1_8, p1_9, (p1_10_n, (fun i => Rii.enc (p1_10_g i))))) =
  bif (p0_0 == p1_0) then
    bif ((p0_1 == p1_1) && ((p0_2 == p1_2) && true)) then
      bif ((p0_3 == p1_3) && ((p0_4 == p1_4) && true)) then
        bif (p0_5 == p1_5) then
          bif (p0_6 == p1_6) then
            bif (p0_7 == p1_7) then
              (shape.Same.f ((p0_8, p0_9, (p0_10_n, (fun i => Rii.enc (p0_10_g i)))), (p1_8, p1_9, (p1_10_n, (fun i => Rii.enc (p1_10_g i)))))).bind fun r1 =>
              some r1
            else
            some false
          else
          some false
        else
        some false
      else
      some false
    else
    some false
  else
  some false := by kernel_rfl
/-! ### slices.Equal[[]bagatelle/api.Joint,bagatelle/api.Joint] -/
noncomputable def slices.Equal_lJoint_Joint.cs : List (Nat × Fw.Summ) := []
theorem slices.Equal_lJoint_Joint.cs_ok : SumsOk Tryz.prog slices.Equal_lJoint_Joint.cs := .nil
def slices.Equal_lJoint_Joint.hs : List (Nat × LHint) := [(0, { mat := [], live := [0, 1, 12, 13], ren := [] })]
noncomputable def slices.Equal_lJoint_Joint.G : Ctx := ⟨Tryz.prog, sumAt slices.Equal_lJoint_Joint.cs, lookH slices.Equal_lJoint_Joint.hs⟩
noncomputable def slices.Equal_lJoint_Joint.g (k0 : Nat) (x : ((Nat × (Nat → List AV)) × (Nat × (Nat → List AV)))) : Option Bool := evF slices.Equal_lJoint_Joint.G k0 Tryz.f64 ((tCons (tLz 8 (Riiiiiiii.enc (0, 0, 0, 0, 0, 0, 0, 0))) (tOne (tLz 8 (Riiiiiiii.enc (0, 0, 0, 0, 0, 0, 0, 0))))).enc x) tB.dec
noncomputable def slices.Equal_lJoint_Joint.f (x : ((Nat × (Nat → List AV)) × (Nat × (Nat → List AV)))) : Option Bool := slices.Equal_lJoint_Joint.g (1000000) x
noncomputable def slices.Equal_lJoint_Joint.s : Fw.Summ := .mk' (tCons (tLz 8 (Riiiiiiii.enc (0, 0, 0, 0, 0, 0, 0, 0))) (tOne (tLz 8 (Riiiiiiii.enc (0, 0, 0, 0, 0, 0, 0, 0))))) tB slices.Equal_lJoint_Joint.f
theorem slices.Equal_lJoint_Joint.ok : slices.Equal_lJoint_Joint.s.Ok Tryz.prog 64 :=
  summ_ok (hint := lookH slices.Equal_lJoint_Joint.hs) (fn := Tryz.f64) (fun x => 1000000) slices.Equal_lJoint_Joint.cs_ok (by kernel_rfl) (by kernel_rfl) (by kernel_rfl) (by kernel_rfl) (tCons_ok (tLz_ok _ _) (tOne_ok (tLz_ok _ _))) tB_ok (fun _ => rfl)
noncomputable def slices.Equal_lJoint_Joint.l0 (k0 k1 : Nat) (v1 : Nat) (v2 : Nat → List AV) (v3 : Nat) (v4 : Nat → List AV) (v5 : Int) (v6 : Int) : Option Bool :=
  evLoop (lookH slices.Equal_lJoint_Joint.hs 0) 0 (ev slices.Equal_lJoint_Joint.G k0 (codeAt [1, 1, 0, 1, 0, 0] (bodyOf Tryz.f64)) 0) k1
  ⟨[.lst 8 v1 none v2, .lst 8 v3 none v4, .top, .top, .top, .top, .top, .top, .top, .top, .top, .top, .val (.int .i64 v5), .val (.int .i64 v6), .top, .top, .top, .top, .top, .top, .top, .top, .top, .top, .top, .top], []⟩
  (kBlock 0 (kSeq slices.Equal_lJoint_Joint.G k0 (codeAt [1, 1, 1] (bodyOf Tryz.f64)) 0 (kFin slices.Equal_lJoint_Joint.G Tryz.f64 tB.dec)))
theorem slices.Equal_lJoint_Joint.l0_eq (k0 k1 : Nat) (v1 : Nat) (v2 : Nat → (Int × Int × Int × Int × Int × Int × Int × Int)) (v3 : Nat) (v4 : Nat → (Int × Int × Int × Int × Int × Int × Int × Int)) (v5 : Int) (v6 : Int) : slices.Equal_lJoint_Joint.l0 k0 (k1 + 1) v1 (fun i => Riiiiiiii.enc (v2 i)) v3 (fun i => Riiiiiiii.enc (v4 i)) v5 v6 =
  bif (decide (v6 < v5)) then
    bif ((decide (0 ≤ v6)) && (decide (v6 < ((v1 : Nat) : Int)))) then
    bif ((decide (0 ≤ v6)) && (decide (v6 < ((v3 : Nat) : Int)))) then
    bif (!(((v2 (Int.toNat v6)).1 == (v4 (Int.toNat v6)).1) && (((v2 (Int.toNat v6)).2.1 == (v4 (Int.toNat v6)).2.1) && (((v2 (Int.toNat v6)).2.2.1 == (v4 (Int.toNat v6)).2.2.1) && ((((v2 (Int.toNat v6)).2.2.2.1 == (v4 (Int.toNat v6)).2.2.2.1) && (((v2 (Int.toNat v6)).2.2.2.2.1 == (v4 (Int.toNat v6)).2.2.2.2.1) && true)) && ((((v2 (Int.toNat v6)).2.2.2.2.2.1 == (v4 (Int.toNat v6)).2.2.2.2.2.1) && (((v2 (Int.toNat v6)).2.2.2.2.2.2.1 == (v4 (Int.toNat v6)).2.2.2.2.2.2.1) && true)) && (((v2 (Int.toNat v6)).2.2.2.2.2.2.2 == (v4 (Int.toNat v6)).2.2.2.2.2.2.2) && true))))))) then
      some false
    else
    slices.Equal_lJoint_Joint.l0 k0 k1 v1 (fun i => Riiiiiiii.enc (v2 i)) v3 (fun i => Riiiiiiii.enc (v4 i)) v5 (IntKind.i64.wrap (v6 + 1))
    else none
    else none
  else
  some true := by kernel_rfl
theorem slices.Equal_lJoint_Joint.eq (k0 : Nat) (p0_n : Nat) (p0_g : Nat → (Int × Int × Int × Int × Int × Int × Int × Int)) (p1_n : Nat) (p1_g : Nat → (Int × Int × Int × Int × Int × Int × Int × Int)) : slices.Equal_lJoint_Joint.g k0 ((p0_n, (fun i => Riiiiiiii.enc (p0_g i))), (p1_n, (fun i => Riiiiiiii.enc (p1_g i)))) =
  bif (((p0_n : Nat) : Int) != ((p1_n : Nat) : Int)) then
    some false
  else
  slices.Equal_lJoint_Joint.l0 k0 k0 p0_n (fun i => Riiiiiiii.enc (p0_g i)) p1_n (fun i => Riiiiiiii.enc (p1_g i)) ((p0_n : Nat) : Int) 0 := by kernel_rfl
/-! ### slices.Equal[[]bagatelle/api.Contact,bagatelle/api.Contact] -/
noncomputable def slices.Equal_lContact_Contact.cs : List (Nat × Fw.Summ) := []
theorem slices.Equal_lContact_Contact.cs_ok : SumsOk Tryz.prog slices.Equal_lContact_Contact.cs := .nil
def slices.Equal_lContact_Contact.hs : List (Nat × LHint) := [(0, { mat := [], live := [0, 1, 12, 13], ren := [] })]
noncomputable def slices.Equal_lContact_Contact.G : Ctx := ⟨Tryz.prog, sumAt slices.Equal_lContact_Contact.cs, lookH slices.Equal_lContact_Contact.hs⟩
noncomputable def slices.Equal_lContact_Contact.g (k0 : Nat) (x : ((Nat × (Nat → List AV)) × (Nat × (Nat → List AV)))) : Option Bool := evF slices.Equal_lContact_Contact.G k0 Tryz.f65 ((tCons (tLz 5 (Riiiii.enc (0, 0, 0, 0, 0))) (tOne (tLz 5 (Riiiii.enc (0, 0, 0, 0, 0))))).enc x) tB.dec
noncomputable def slices.Equal_lContact_Contact.f (x : ((Nat × (Nat → List AV)) × (Nat × (Nat → List AV)))) : Option Bool := slices.Equal_lContact_Contact.g (1000000) x
noncomputable def slices.Equal_lContact_Contact.s : Fw.Summ := .mk' (tCons (tLz 5 (Riiiii.enc (0, 0, 0, 0, 0))) (tOne (tLz 5 (Riiiii.enc (0, 0, 0, 0, 0))))) tB slices.Equal_lContact_Contact.f
theorem slices.Equal_lContact_Contact.ok : slices.Equal_lContact_Contact.s.Ok Tryz.prog 65 :=
  summ_ok (hint := lookH slices.Equal_lContact_Contact.hs) (fn := Tryz.f65) (fun x => 1000000) slices.Equal_lContact_Contact.cs_ok (by kernel_rfl) (by kernel_rfl) (by kernel_rfl) (by kernel_rfl) (tCons_ok (tLz_ok _ _) (tOne_ok (tLz_ok _ _))) tB_ok (fun _ => rfl)
noncomputable def slices.Equal_lContact_Contact.l0 (k0 k1 : Nat) (v1 : Nat) (v2 : Nat → List AV) (v3 : Nat) (v4 : Nat → List AV) (v5 : Int) (v6 : Int) : Option Bool :=
  evLoop (lookH slices.Equal_lContact_Contact.hs 0) 0 (ev slices.Equal_lContact_Contact.G k0 (codeAt [1, 1, 0, 1, 0, 0] (bodyOf Tryz.f65)) 0) k1
  ⟨[.lst 5 v1 none v2, .lst 5 v3 none v4, .top, .top, .top, .top, .top, .top, .top, .top, .top, .top, .val (.int .i64 v5), .val (.int .i64 v6), .top, .top, .top, .top, .top, .top, .top, .top, .top, .top, .top, .top], []⟩
  (kBlock 0 (kSeq slices.Equal_lContact_Contact.G k0 (codeAt [1, 1, 1] (bodyOf Tryz.f65)) 0 (kFin slices.Equal_lContact_Contact.G Tryz.f65 tB.dec)))
theorem slices.Equal_lContact_Contact.l0_eq (k0 k1 : Nat) (v1 : Nat) (v2 : Nat → (Int × Int × Int × Int × Int)) (v3 : Nat) (v4 : Nat → (Int × Int × Int × Int × Int)) (v5 : Int) (v6 : Int) : slices.Equal_lContact_Contact.l0 k0 (k1 + 1) v1 (fun i => Riiiii.enc (v2 i)) v3 (fun i => Riiiii.enc (v4 i)) v5 v6 =
  bif (decide (v6 < v5)) then
    bif ((decide (0 ≤ v6)) && (decide (v6 < ((v1 : Nat) : Int)))) then
    bif ((decide (0 ≤ v6)) && (decide (v6 < ((v3 : Nat) : Int)))) then
    bif (!(((v2 (Int.toNat v6)).1 == (v4 (Int.toNat v6)).1) && (((v2 (Int.toNat v6)).2.1 == (v4 (Int.toNat v6)).2.1) && (((v2 (Int.toNat v6)).2.2.1 == (v4 (Int.toNat v6)).2.2.1) && (((v2 (Int.toNat v6)).2.2.2.1 == (v4 (Int.toNat v6)).2.2.2.1) && (((v2 (Int.toNat v6)).2.2.2.2 == (v4 (Int.toNat v6)).2.2.2.2) && true)))))) then
      some false
    else
    slices.Equal_lContact_Contact.l0 k0 k1 v1 (fun i => Riiiii.enc (v2 i)) v3 (fun i => Riiiii.enc (v4 i)) v5 (IntKind.i64.wrap (v6 + 1))
    else none
    else none
  else
  some true := by kernel_rfl
theorem slices.Equal_lContact_Contact.eq (k0 : Nat) (p0_n : Nat) (p0_g : Nat → (Int × Int × Int × Int × Int)) (p1_n : Nat) (p1_g : Nat → (Int × Int × Int × Int × Int)) : slices.Equal_lContact_Contact.g k0 ((p0_n, (fun i => Riiiii.enc (p0_g i))), (p1_n, (fun i => Riiiii.enc (p1_g i)))) =
  bif (((p0_n : Nat) : Int) != ((p1_n : Nat) : Int)) then
    some false
  else
  slices.Equal_lContact_Contact.l0 k0 k0 p0_n (fun i => Riiiii.enc (p0_g i)) p1_n (fun i => Riiiii.enc (p1_g i)) ((p0_n : Nat) : Int) 0 := by kernel_rfl
/-! ### slices.EqualFunc[[]bagatelle/api.Body,[]bagatelle/api.Body,bagatelle/api.Body,bagatelle/api.Body] -/
noncomputable def slices.EqualFunc_lBody_lBody_Body_Body.cs : List (Nat × Fw.Summ) := [(63, world.sameBody.s)]
theorem slices.EqualFunc_lBody_lBody_Body_Body.cs_ok : SumsOk Tryz.prog slices.EqualFunc_lBody_lBody_Body_Body.cs := .cons world.sameBody.ok (.nil)
def slices.EqualFunc_lBody_lBody_Body_Body.hs : List (Nat × LHint) := [(0, { mat := [], live := [1, 2, 15, 16, 17], ren := [] })]
noncomputable def slices.EqualFunc_lBody_lBody_Body_Body.G : Ctx := ⟨Tryz.prog, sumAt slices.EqualFunc_lBody_lBody_Body_Body.cs, lookH slices.EqualFunc_lBody_lBody_Body_Body.hs⟩
noncomputable def slices.EqualFunc_lBody_lBody_Body_Body.g (k0 : Nat) (x : ((Nat × (Nat → List AV)) × (Nat × (Nat → List AV)) × Unit)) : Option Bool := evF slices.EqualFunc_lBody_lBody_Body_Body.G k0 Tryz.f62 ((tCons (tLz 11 (RiiiiiiiiiiL2.enc (0, 0, 0, 0, 0, 0, 0, 0, 0, 0, (0, fun _ => [])))) (tCons (tLz 11 (RiiiiiiiiiiL2.enc (0, 0, 0, 0, 0, 0, 0, 0, 0, 0, (0, fun _ => [])))) (tOne (tF 63 tNil)))).enc x) tB.dec
noncomputable def slices.EqualFunc_lBody_lBody_Body_Body.f (x : ((Nat × (Nat → List AV)) × (Nat × (Nat → List AV)) × Unit)) : Option Bool := slices.EqualFunc_lBody_lBody_Body_Body.g (1000000) x
noncomputable def slices.EqualFunc_lBody_lBody_Body_Body.s : Fw.Summ := .mk' (tCons (tLz 11 (RiiiiiiiiiiL2.enc (0, 0, 0, 0, 0, 0, 0, 0, 0, 0, (0, fun _ => [])))) (tCons (tLz 11 (RiiiiiiiiiiL2.enc (0, 0, 0, 0, 0, 0, 0, 0, 0, 0, (0, fun _ => [])))) (tOne (tF 63 tNil)))) tB slices.EqualFunc_lBody_lBody_Body_Body.f
theorem slices.EqualFunc_lBody_lBody_Body_Body.ok : slices.EqualFunc_lBody_lBody_Body_Body.s.Ok Tryz.prog 62 :=
  summ_ok (hint := lookH slices.EqualFunc_lBody_lBody_Body_Body.hs) (fn := Tryz.f62) (fun x => 1000000) slices.EqualFunc_lBody_lBody_Body_Body.cs_ok (by kernel_rfl) (by kernel_rfl) (by kernel_rfl) (by kernel_rfl) (tCons_ok (tLz_ok _ _) (tCons_ok (tLz_ok _ _) (tOne_ok (tF_ok _ tNil_ok)))) tB_ok (fun _ => rfl)
noncomputable def slices.EqualFunc_lBody_lBody_Body_Body.l0 (k0 k1 : Nat) (v1 : Nat) (v2 : Nat → List AV) (v3 : Nat) (v4 : Nat → List AV) (v5 : Int) (v6 : Int) : Option Bool :=
  evLoop (lookH slices.EqualFunc_lBody_lBody_Body_Body.hs 0) 0 (ev slices.EqualFunc_lBody_lBody_Body_Body.G k0 (codeAt [1, 1, 0, 1, 0, 0] (bodyOf Tryz.f62)) 0) k1
  ⟨[.top, .lst 11 v1 none v2, .fn 63 [], .top, .top, .top, .top, .top, .top, .top, .top, .top, .top, .top, .top, .lst 11 v3 none v4, .val (.int .i64 v5), .val (.int .i64 v6), .top, .top, .top, .top, .top, .top, .top, .top, .top, .top, .top, .top, .top, .top], []⟩
  (kBlock 0 (kSeq slices.EqualFunc_lBody_lBody_Body_Body.G k0 (codeAt [1, 1, 1] (bodyOf Tryz.f62)) 0 (kFin slices.EqualFunc_lBody_lBody_Body_Body.G Tryz.f62 tB.dec)))
theorem slices.EqualFunc_lBody_lBody_Body_Body.l0_eq (k0 k1 : Nat) (v1 : Nat) (v2 : Nat → (Int × Int × Int × Int × Int × Int × Int × Int × Int × Int × (Nat × (Nat → List AV)))) (v3 : Nat) (v4 : Nat → (Int × Int × Int × Int × Int × Int × Int × Int × Int × Int × (Nat × (Nat → List AV)))) (v5 : Int) (v6 : Int) : slices.EqualFunc_lBody_lBody_Body_Body.l0 k0 (k1 + 1) v1 (fun i => RiiiiiiiiiiL2.enc (v2 i)) v3 (fun i => RiiiiiiiiiiL2.enc (v4 i)) v5 v6 =
  bif (decide (v6 < v5)) then
    bif ((decide (0 ≤ v6)) && (decide (v6 < ((v3 : Nat) : Int)))) then
    bif ((decide (0 ≤ v6)) && (decide (v6 < ((v1 : Nat) : Int)))) then
    (world.sameBody.f (((v4 (Int.toNat v6)).1, (v4 (Int.toNat v6)).2.1, (v4 (Int.toNat v6)).2.2.1, (v4 (Int.toNat v6)).2.2.2.1, (v4 (Int.toNat v6)).2.2.2.2.1, (v4 (Int.toNat v6)).2.2.2.2.2.1, (v4 (Int.toNat v6)).2.2.2.2.2.2.1, (v4 (Int.toNat v6)).2.2.2.2.2.2.2.1, (v4 (Int.toNat v6)).2.2.2.2.2.2.2.2.1, (v4 (Int.toNat v6)).2.2.2.2.2.2.2.2.2.1, ((v4 (Int.toNat v6)).2.2.2.2.2.2.2.2.2.2.1, (v4 (Int.toNat v6)).2.2.2.2.2.2.2.2.2.2.2)), ((v2 (Int.toNat v6)).1, (v2 (Int.toNat v6)).2.1, (v2 (Int.toNat v6)).2.2.1, (v2 (Int.toNat v6)).2.2.2.1, (v2 (Int.toNat v6)).2.2.2.2.1, (v2 (Int.toNat v6)).2.2.2.2.2.1, (v2 (Int.toNat v6)).2.2.2.2.2.2.1, (v2 (Int.toNat v6)).2.2.2.2.2.2.2.1, (v2 (Int.toNat v6)).2.2.2.2.2.2.2.2.1, (v2 (Int.toNat v6)).2.2.2.2.2.2.2.2.2.1, ((v2 (Int.toNat v6)).2.2.2.2.2.2.2.2.2.2.1, (v2 (Int.toNat v6)).2.2.2.2.2.2.2.2.2.2.2)))).bind fun r1 =>
    bif (!r1) then
      some false
    else
    slices.EqualFunc_lBody_lBody_Body_Body.l0 k0 k1 v1 (fun i => RiiiiiiiiiiL2.enc (v2 i)) v3 (fun i => RiiiiiiiiiiL2.enc (v4 i)) v5 (IntKind.i64.wrap (v6 + 1))
    else none
    else none
  else
  some true := by kernel_rfl
theorem slices.EqualFunc_lBody_lBody_Body_Body.eq (k0 : Nat) (p0_n : Nat) (p0_g : Nat → (Int × Int × Int × Int × Int × Int × Int × Int × Int × Int × (Nat × (Nat → List AV)))) (p1_n : Nat) (p1_g : Nat → (Int × Int × Int × Int × Int × Int × Int × Int × Int × Int × (Nat × (Nat → List AV)))) : slices.EqualFunc_lBody_lBody_Body_Body.g k0 ((p0_n, (fun i => RiiiiiiiiiiL2.enc (p0_g i))), (p1_n, (fun i => RiiiiiiiiiiL2.enc (p1_g i))), ()) =
  bif (((p0_n : Nat) : Int) != ((p1_n : Nat) : Int)) then
    some false
  else
  slices.EqualFunc_lBody_lBody_Body_Body.l0 k0 k0 p1_n (fun i => RiiiiiiiiiiL2.enc (p1_g i)) p0_n (fun i => RiiiiiiiiiiL2.enc (p0_g i)) ((p0_n : Nat) : Int) 0 := by kernel_rfl
/-! ### bagatelle/world.Same -/
noncomputable def world.Same.cs : List (Nat × Fw.Summ) := [(62, slices.EqualFunc_lBody_lBody_Body_Body.s), (64, slices.Equal_lJoint_Joint.s), (65, slices.Equal_lContact_Contact.s)]
theorem world.Same.cs_ok : SumsOk Tryz.prog world.Same.cs := .cons slices.EqualFunc_lBody_lBody_Body_Body.ok (.cons slices.Equal_lJoint_Joint.ok (.cons slices.Equal_lContact_Contact.ok (.nil)))
def world.Same.hs : List (Nat × LHint) := []
noncomputable def world.Same.G : Ctx := ⟨Tryz.prog, sumAt world.Same.cs, lookH world.Same.hs⟩
noncomputable def world.Same.f (x : ((Int × Int × Int × Int × Int × (Nat × (Nat → List AV)) × (Nat × (Nat → List AV)) × (Nat × (Nat → List AV))) × (Int × Int × Int × Int × Int × (Nat × (Nat → List AV)) × (Nat × (Nat → List AV)) × (Nat × (Nat → List AV))))) : Option Bool := evF world.Same.G 0 Tryz.f24 ((tCons (tG (tCons (tI .i64) (tCons (tI .i64) (tCons (tI .i64) (tCons (tI .i64) (tCons (tI .i64) (tCons (tLz 11 (RiiiiiiiiiiL2.enc (0, 0, 0, 0, 0, 0, 0, 0, 0, 0, (0, fun _ => [])))) (tCons (tLz 8 (Riiiiiiii.enc (0, 0, 0, 0, 0, 0, 0, 0))) (tOne (tLz 5 (Riiiii.enc (0, 0, 0, 0, 0)))))))))))) (tOne (tG (tCons (tI .i64) (tCons (tI .i64) (tCons (tI .i64) (tCons (tI .i64) (tCons (tI .i64) (tCons (tLz 11 (RiiiiiiiiiiL2.enc (0, 0, 0, 0, 0, 0, 0, 0, 0, 0, (0, fun _ => [])))) (tCons (tLz 8 (Riiiiiiii.enc (0, 0, 0, 0, 0, 0, 0, 0))) (tOne (tLz 5 (Riiiii.enc (0, 0, 0, 0, 0)))))))))))))).enc x) tB.dec
noncomputable def world.Same.s : Fw.Summ := .mk' (tCons (tG (tCons (tI .i64) (tCons (tI .i64) (tCons (tI .i64) (tCons (tI .i64) (tCons (tI .i64) (tCons (tLz 11 (RiiiiiiiiiiL2.enc (0, 0, 0, 0, 0, 0, 0, 0, 0, 0, (0, fun _ => [])))) (tCons (tLz 8 (Riiiiiiii.enc (0, 0, 0, 0, 0, 0, 0, 0))) (tOne (tLz 5 (Riiiii.enc (0, 0, 0, 0, 0)))))))))))) (tOne (tG (tCons (tI .i64) (tCons (tI .i64) (tCons (tI .i64) (tCons (tI .i64) (tCons (tI .i64) (tCons (tLz 11 (RiiiiiiiiiiL2.enc (0, 0, 0, 0, 0, 0, 0, 0, 0, 0, (0, fun _ => [])))) (tCons (tLz 8 (Riiiiiiii.enc (0, 0, 0, 0, 0, 0, 0, 0))) (tOne (tLz 5 (Riiiii.enc (0, 0, 0, 0, 0)))))))))))))) tB world.Same.f
theorem world.Same.ok : world.Same.s.Ok Tryz.prog 24 :=
  summ_ok (hint := lookH world.Same.hs) (fn := Tryz.f24) (fun x => 0) world.Same.cs_ok (by kernel_rfl) (by kernel_rfl) (by kernel_rfl) (by kernel_rfl) (tCons_ok (tG_ok (tCons_ok (tI_ok _) (tCons_ok (tI_ok _) (tCons_ok (tI_ok _) (tCons_ok (tI_ok _) (tCons_ok (tI_ok _) (tCons_ok (tLz_ok _ _) (tCons_ok (tLz_ok _ _) (tOne_ok (tLz_ok _ _)))))))))) (tOne_ok (tG_ok (tCons_ok (tI_ok _) (tCons_ok (tI_ok _) (tCons_ok (tI_ok _) (tCons_ok (tI_ok _) (tCons_ok (tI_ok _) (tCons_ok (tLz_ok _ _) (tCons_ok (tLz_ok _ _) (tOne_ok (tLz_ok _ _)))))))))))) tB_ok (fun _ => rfl)
theorem world.Same.eq (p0_0 : Int) (p0_1 : Int) (p0_2 : Int) (p0_3 : Int) (p0_4 : Int) (p0_5_n : Nat) (p0_5_g : Nat → (Int × Int × Int × Int × Int × Int × Int × Int × Int × Int × (Nat × (Nat → List AV)))) (p0_6_n : Nat) (p0_6_g : Nat → (Int × Int × Int × Int × Int × Int × Int × Int)) (p0_7_n : Nat) (p0_7_g : Nat → (Int × Int × Int × Int × Int)) (p1_0 : Int) (p1_1 : Int) (p1_2 : Int) (p1_3 : Int) (p1_4 : Int) (p1_5_n : Nat) (p1_5_g : Nat → (Int × Int × Int × Int × Int × Int × Int × Int × Int × Int × (Nat × (Nat → List AV)))) (p1_6_n : Nat) (p1_6_g : Nat → (Int × Int × Int × Int × Int × Int × Int × Int)) (p1_7_n : Nat) (p1_7_g : Nat → (Int × Int × Int × Int × Int)) : world.Same.f ((p0_0, p0_1, p0_2, p0_3, p0_4, (p0_5_n, (fun i => RiiiiiiiiiiL2.enc (p0_5_g i))), (p0_6_n, (fun i => Riiiiiiii.enc (p0_6_g i))), (p0_7_n, (fun i => Riiiii.enc (p0_7_g i)))), (p1_0, p1_1, p1_2, p1_3, p1_4, (p1_5_n, (fun i => RiiiiiiiiiiL2.enc (p1_5_g i))), (p1_6_n, (fun i => Riiiiiiii.enc (p1_6_g i))), (p1_7_n, (fun i => Riiiii.enc (p1_7_g i))))) =
  bif (p0_0 != p1_0) then
    some false
  else
  bif (p0_1 != p1_1) then
    some false
  else
  bif (p0_2 != p1_2) then
    some false
  else
  bif (!((p0_3 == p1_3) && ((p0_4 == p1_4) && true))) then
    some false
  else
  (slices.EqualFunc_lBody_lBody_Body_Body.f ((p0_5_n, (fun i => RiiiiiiiiiiL2.enc (p0_5_g i))), (p1_5_n, (fun i => RiiiiiiiiiiL2.enc (p1_5_g i))), ())).bind fun r1 =>
  bif r1 then
    (slices.Equal_lJoint_Joint.f ((p0_6_n, (fun i => Riiiiiiii.enc (p0_6_g i))), (p1_6_n, (fun i => Riiiiiiii.enc (p1_6_g i))))).bind fun r2 =>
    bif r2 then
      (slices.Equal_lContact_Contact.f ((p0_7_n, (fun i => Riiiii.enc (p0_7_g i))), (p1_7_n, (fun i => Riiiii.enc (p1_7_g i))))).bind fun r3 =>
      some r3
    else
    some false
  else
  some false := by kernel_rfl
/-! ### bagatelle/world.Right$1 -/
noncomputable def world.Right_1.cs : List (Nat × Fw.Summ) := []
theorem world.Right_1.cs_ok : SumsOk Tryz.prog world.Right_1.cs := .nil
def world.Right_1.hs : List (Nat × LHint) := []
noncomputable def world.Right_1.G : Ctx := ⟨Tryz.prog, sumAt world.Right_1.cs, lookH world.Right_1.hs⟩
noncomputable def world.Right_1.f (x : (Int × Int × Int × Int × Int × Int × Int × Int × Int × Int × (Nat × (Nat → List AV)))) : Option Int := evF world.Right_1.G 0 Tryz.f68 ((tOne (tG (tCons (tI .i64) (tCons (tI .i64) (tCons (tI .i64) (tCons (tI .i64) (tCons (tI .i64) (tCons (tI .i64) (tCons (tI .i64) (tCons (tI .i64) (tCons (tI .i64) (tCons (tI .i64) (tOne (tLz 2 (Rii.enc (0, 0)))))))))))))))).enc x) (tI .i64).dec
noncomputable def world.Right_1.s : Fw.Summ := .mk' (tOne (tG (tCons (tI .i64) (tCons (tI .i64) (tCons (tI .i64) (tCons (tI .i64) (tCons (tI .i64) (tCons (tI .i64) (tCons (tI .i64) (tCons (tI .i64) (tCons (tI .i64) (tCons (tI .i64) (tOne (tLz 2 (Rii.enc (0, 0)))))))))))))))) (tI .i64) world.Right_1.f
theorem world.Right_1.ok : world.Right_1.s.Ok Tryz.prog 68 :=
  summ_ok (hint := lookH world.Right_1.hs) (fn := Tryz.f68) (fun x => 0) world.Right_1.cs_ok (by kernel_rfl) (by kernel_rfl) (by kernel_rfl) (by kernel_rfl) (tOne_ok (tG_ok (tCons_ok (tI_ok _) (tCons_ok (tI_ok _) (tCons_ok (tI_ok _) (tCons_ok (tI_ok _) (tCons_ok (tI_ok _) (tCons_ok (tI_ok _) (tCons_ok (tI_ok _) (tCons_ok (tI_ok _) (tCons_ok (tI_ok _) (tCons_ok (tI_ok _) (tOne_ok (tLz_ok _ _)))))))))))))) (tI_ok _) (fun _ => rfl)
theorem world.Right_1.eq (p0_0 : Int) (p0_1 : Int) (p0_2 : Int) (p0_3 : Int) (p0_4 : Int) (p0_5 : Int) (p0_6 : Int) (p0_7 : Int) (p0_8 : Int) (p0_9 : Int) (p0_10_n : Nat) (p0_10_g : Nat → (Int × Int)) : world.Right_1.f (p0_0, p0_1, p0_2, p0_3, p0_4, p0_5, p0_6, p0_7, p0_8, p0_9, (p0_10_n, (fun i => Rii.enc (p0_10_g i)))) =
  some p0_0 := by kernel_rfl
/-! ### bagatelle/world.Right$2 -/
noncomputable def world.Right_2.cs : List (Nat × Fw.Summ) := []
theorem world.Right_2.cs_ok : SumsOk Tryz.prog world.Right_2.cs := .nil
def world.Right_2.hs : List (Nat × LHint) := []
noncomputable def world.Right_2.G : Ctx := ⟨Tryz.prog, sumAt world.Right_2.cs, lookH world.Right_2.hs⟩
noncomputable def world.Right_2.f (x : (Int × Int × Int × Int × Int × Int × Int × Int)) : Option Int := evF world.Right_2.G 0 Tryz.f70 ((tOne (tG (tCons (tI .i64) (tCons (tI .i64) (tCons (tI .i64) (tCons (tI .i64) (tCons (tI .i64) (tCons (tI .i64) (tCons (tI .i64) (tOne (tI .i64))))))))))).enc x) (tI .i64).dec
noncomputable def world.Right_2.s : Fw.Summ := .mk' (tOne (tG (tCons (tI .i64) (tCons (tI .i64) (tCons (tI .i64) (tCons (tI .i64) (tCons (tI .i64) (tCons (tI .i64) (tCons (tI .i64) (tOne (tI .i64))))))))))) (tI .i64) world.Right_2.f
theorem world.Right_2.ok : world.Right_2.s.Ok Tryz.prog 70 :=
  summ_ok (hint := lookH world.Right_2.hs) (fn := Tryz.f70) (fun x => 0) world.Right_2.cs_ok (by kernel_rfl) (by kernel_rfl) (by kernel_rfl) (by kernel_rfl) (tOne_ok (tG_ok (tCons_ok (tI_ok _) (tCons_ok (tI_ok _) (tCons_ok (tI_ok _) (tCons_ok (tI_ok _) (tCons_ok (tI_ok _) (tCons_ok (tI_ok _) (tCons_ok (tI_ok _) (tOne_ok (tI_ok _))))))))))) (tI_ok _) (fun _ => rfl)
theorem world.Right_2.eq (p0_0 : Int) (p0_1 : Int) (p0_2 : Int) (p0_3 : Int) (p0_4 : Int) (p0_5 : Int) (p0_6 : Int) (p0_7 : Int) : world.Right_2.f (p0_0, p0_1, p0_2, p0_3, p0_4, p0_5, p0_6, p0_7) =
  some p0_0 := by kernel_rfl
/-! ### cmp.Or[int] -/
noncomputable def cmp.Or_int.cs : List (Nat × Fw.Summ) := []
theorem cmp.Or_int.cs_ok : SumsOk Tryz.prog cmp.Or_int.cs := .nil
def cmp.Or_int.hs : List (Nat × LHint) := [(0, { mat := [], live := [3, 6, 7, 8], ren := [] })]
noncomputable def cmp.Or_int.G : Ctx := ⟨Tryz.prog, sumAt cmp.Or_int.cs, lookH cmp.Or_int.hs⟩
noncomputable def cmp.Or_int.g (k0 : Nat) (x : (Nat × (Nat → List AV))) : Option Int := evF cmp.Or_int.G k0 Tryz.f91 ((tOne (tLz 1 (Ri.enc 0))).enc x) (tI .i64).dec
noncomputable def cmp.Or_int.f (x : (Nat × (Nat → List AV))) : Option Int := cmp.Or_int.g (1000000) x
noncomputable def cmp.Or_int.s : Fw.Summ := .mk' (tOne (tLz 1 (Ri.enc 0))) (tI .i64) cmp.Or_int.f
theorem cmp.Or_int.ok : cmp.Or_int.s.Ok Tryz.prog 91 :=
  summ_ok (hint := lookH cmp.Or_int.hs) (fn := Tryz.f91) (fun x => 1000000) cmp.Or_int.cs_ok (by kernel_rfl) (by kernel_rfl) (by kernel_rfl) (by kernel_rfl) (tOne_ok (tLz_ok _ _)) (tI_ok _) (fun _ => rfl)
noncomputable def cmp.Or_int.l0 (k0 k1 : Nat) (v1 : Nat) (v2 : Nat → List AV) (v3 : Int) (v4 : Int) : Option Int :=
  evLoop (lookH cmp.Or_int.hs 0) 0 (ev cmp.Or_int.G k0 (codeAt [1, 1, 0, 1, 0, 0] (bodyOf Tryz.f91)) 0) k1
  ⟨[.top, .top, .top, .val (.int .i64 0), .top, .top, .lst 1 v1 none v2, .val (.int .i64 v3), .val (.int .i64 v4), .top, .top, .top, .top, .top, .top, .top, .top, .top], []⟩
  (kBlock 0 (kSeq cmp.Or_int.G k0 (codeAt [1, 1, 1] (bodyOf Tryz.f91)) 0 (kFin cmp.Or_int.G Tryz.f91 (tI .i64).dec)))
theorem cmp.Or_int.l0_eq (k0 k1 : Nat) (v1 : Nat) (v2 : Nat → Int) (v3 : Int) (v4 : Int) : cmp.Or_int.l0 k0 (k1 + 1) v1 (fun i => Ri.enc (v2 i)) v3 v4 =
  bif (decide (v4 < v3)) then
    bif ((decide (0 ≤ v4)) && (decide (v4 < ((v1 : Nat) : Int)))) then
    bif ((v2 (Int.toNat v4)) != 0) then
      some (v2 (Int.toNat v4))
    else
    cmp.Or_int.l0 k0 k1 v1 (fun i => Ri.enc (v2 i)) v3 (IntKind.i64.wrap (v4 + 1))
    else none
  else
  some 0 := by kernel_rfl
theorem cmp.Or_int.eq (k0 : Nat) (p0_n : Nat) (p0_g : Nat → Int) : cmp.Or_int.g k0 (p0_n, (fun i => Ri.enc (p0_g i))) =
  cmp.Or_int.l0 k0 k0 p0_n (fun i => Ri.enc (p0_g i)) ((p0_n : Nat) : Int) 0 := by kernel_rfl
/-! ### bagatelle/world.order -/
noncomputable def world.order.cs : List (Nat × Fw.Summ) := [(92, cmp.Compare_int.s), (91, cmp.Or_int.s)]
theorem world.order.cs_ok : SumsOk Tryz.prog world.order.cs := .cons cmp.Compare_int.ok (.cons cmp.Or_int.ok (.nil))
def world.order.hs : List (Nat × LHint) := []
noncomputable def world.order.G : Ctx := ⟨Tryz.prog, sumAt world.order.cs, lookH world.order.hs⟩
noncomputable def world.order.f (x : ((Int × Int × Int × Int × Int) × (Int × Int × Int × Int × Int))) : Option Int := evF world.order.G 0 Tryz.f72 ((tCons (tG (tCons (tI .i64) (tCons (tI .i64) (tCons (tI .i64) (tCons (tI .i64) (tOne (tI .i64))))))) (tOne (tG (tCons (tI .i64) (tCons (tI .i64) (tCons (tI .i64) (tCons (tI .i64) (tOne (tI .i64))))))))).enc x) (tI .i64).dec
noncomputable def world.order.s : Fw.Summ := .mk' (tCons (tG (tCons (tI .i64) (tCons (tI .i64) (tCons (tI .i64) (tCons (tI .i64) (tOne (tI .i64))))))) (tOne (tG (tCons (tI .i64) (tCons (tI .i64) (tCons (tI .i64) (tCons (tI .i64) (tOne (tI .i64))))))))) (tI .i64) world.order.f
theorem world.order.ok : world.order.s.Ok Tryz.prog 72 :=
  summ_ok (hint := lookH world.order.hs) (fn := Tryz.f72) (fun x => 0) world.order.cs_ok (by kernel_rfl) (by kernel_rfl) (by kernel_rfl) (by kernel_rfl) (tCons_ok (tG_ok (tCons_ok (tI_ok _) (tCons_ok (tI_ok _) (tCons_ok (tI_ok _) (tCons_ok (tI_ok _) (tOne_ok (tI_ok _))))))) (tOne_ok (tG_ok (tCons_ok (tI_ok _) (tCons_ok (tI_ok _) (tCons_ok (tI_ok _) (tCons_ok (tI_ok _) (tOne_ok (tI_ok _))))))))) (tI_ok _) (fun _ => rfl)
theorem world.order.eq (p0_0 : Int) (p0_1 : Int) (p0_2 : Int) (p0_3 : Int) (p0_4 : Int) (p1_0 : Int) (p1_1 : Int) (p1_2 : Int) (p1_3 : Int) (p1_4 : Int) : world.order.f ((p0_0, p0_1, p0_2, p0_3, p0_4), (p1_0, p1_1, p1_2, p1_3, p1_4)) =
  (cmp.Compare_int.f (p0_0, p1_0)).bind fun r1 =>
  (cmp.Compare_int.f (p0_1, p1_1)).bind fun r2 =>
  (cmp.Compare_int.f (p0_2, p1_2)).bind fun r3 =>
  (cmp.Or_int.f (3, (fun i => cloL (List.getD (List.map Ri.enc [r1, r2, r3]) i (Ri.enc 0))))).bind fun r4 =>
  some r4 := by kernel_rfl
/-! ### bagatelle/world.rising[bagatelle/api.Body] -/
noncomputable def world.rising_Body.cs : List (Nat × Fw.Summ) := [(68, world.Right_1.s)]
theorem world.rising_Body.cs_ok : SumsOk Tryz.prog world.rising_Body.cs := .cons world.Right_1.ok (.nil)
def world.rising_Body.hs : List (Nat × LHint) := [(0, { mat := [], live := [1, 2, 7, 10, 11, 12], ren := [] })]
noncomputable def world.rising_Body.G : Ctx := ⟨Tryz.prog, sumAt world.rising_Body.cs, lookH world.rising_Body.hs⟩
noncomputable def world.rising_Body.g (k0 : Nat) (x : ((Nat × (Nat → List AV)) × Int × Unit)) : Option Bool := evF world.rising_Body.G k0 Tryz.f67 ((tCons (tLz 11 (RiiiiiiiiiiL2.enc (0, 0, 0, 0, 0, 0, 0, 0, 0, 0, (0, fun _ => [])))) (tCons (tI .i64) (tOne (tF 68 tNil)))).enc x) tB.dec
noncomputable def world.rising_Body.f (x : ((Nat × (Nat → List AV)) × Int × Unit)) : Option Bool := world.rising_Body.g (1000000) x
noncomputable def world.rising_Body.s : Fw.Summ := .mk' (tCons (tLz 11 (RiiiiiiiiiiL2.enc (0, 0, 0, 0, 0, 0, 0, 0, 0, 0, (0, fun _ => [])))) (tCons (tI .i64) (tOne (tF 68 tNil)))) tB world.rising_Body.f
theorem world.rising_Body.ok : world.rising_Body.s.Ok Tryz.prog 67 :=
  summ_ok (hint := lookH world.rising_Body.hs) (fn := Tryz.f67) (fun x => 1000000) world.rising_Body.cs_ok (by kernel_rfl) (by kernel_rfl) (by kernel_rfl) (by kernel_rfl) (tCons_ok (tLz_ok _ _) (tCons_ok (tI_ok _) (tOne_ok (tF_ok _ tNil_ok)))) tB_ok (fun _ => rfl)
noncomputable def world.rising_Body.l0 (k0 k1 : Nat) (v1 : Int) (v2 : Int) (v3 : Nat) (v4 : Nat → List AV) (v5 : Int) (v6 : Int) : Option Bool :=
  evLoop (lookH world.rising_Body.hs 0) 0 (ev world.rising_Body.G k0 (codeAt [1, 1, 0, 1, 0, 0] (bodyOf Tryz.f67)) 0) k1
  ⟨[.top, .val (.int .i64 v1), .fn 68 [], .top, .top, .top, .top, .val (.int .i64 v2), .top, .top, .lst 11 v3 none v4, .val (.int .i64 v5), .val (.int .i64 v6), .top, .top, .top, .top, .top, .top, .top, .top, .top, .top, .top, .top, .top, .top, .top, .top, .top, .top, .top, .top, .top], []⟩
  (kBlock 0 (kSeq world.rising_Body.G k0 (codeAt [1, 1, 1] (bodyOf Tryz.f67)) 0 (kFin world.rising_Body.G Tryz.f67 tB.dec)))
theorem world.rising_Body.l0_eq (k0 k1 : Nat) (v1 : Int) (v2 : Int) (v3 : Nat) (v4 : Nat → (Int × Int × Int × Int × Int × Int × Int × Int × Int × Int × (Nat × (Nat → List AV)))) (v5 : Int) (v6 : Int) : world.rising_Body.l0 k0 (k1 + 1) v1 v2 v3 (fun i => RiiiiiiiiiiL2.enc (v4 i)) v5 v6 =
  bif (decide (v6 < v5)) then
    bif ((decide (0 ≤ v6)) && (decide (v6 < ((v3 : Nat) : Int)))) then
    (world.Right_1.f ((v4 (Int.toNat v6)).1, (v4 (Int.toNat v6)).2.1, (v4 (Int.toNat v6)).2.2.1, (v4 (Int.toNat v6)).2.2.2.1, (v4 (Int.toNat v6)).2.2.2.2.1, (v4 (Int.toNat v6)).2.2.2.2.2.1, (v4 (Int.toNat v6)).2.2.2.2.2.2.1, (v4 (Int.toNat v6)).2.2.2.2.2.2.2.1, (v4 (Int.toNat v6)).2.2.2.2.2.2.2.2.1, (v4 (Int.toNat v6)).2.2.2.2.2.2.2.2.2.1, ((v4 (Int.toNat v6)).2.2.2.2.2.2.2.2.2.2.1, (v4 (Int.toNat v6)).2.2.2.2.2.2.2.2.2.2.2))).bind fun r1 =>
    bif (decide (r1 ≤ v2)) then
      some false
    else
    (world.Right_1.f ((v4 (Int.toNat v6)).1, (v4 (Int.toNat v6)).2.1, (v4 (Int.toNat v6)).2.2.1, (v4 (Int.toNat v6)).2.2.2.1, (v4 (Int.toNat v6)).2.2.2.2.1, (v4 (Int.toNat v6)).2.2.2.2.2.1, (v4 (Int.toNat v6)).2.2.2.2.2.2.1, (v4 (Int.toNat v6)).2.2.2.2.2.2.2.1, (v4 (Int.toNat v6)).2.2.2.2.2.2.2.2.1, (v4 (Int.toNat v6)).2.2.2.2.2.2.2.2.2.1, ((v4 (Int.toNat v6)).2.2.2.2.2.2.2.2.2.2.1, (v4 (Int.toNat v6)).2.2.2.2.2.2.2.2.2.2.2))).bind fun r2 =>
    bif (decide (r2 ≥ v1)) then
      some false
    else
    (world.Right_1.f ((v4 (Int.toNat v6)).1, (v4 (Int.toNat v6)).2.1, (v4 (Int.toNat v6)).2.2.1, (v4 (Int.toNat v6)).2.2.2.1, (v4 (Int.toNat v6)).2.2.2.2.1, (v4 (Int.toNat v6)).2.2.2.2.2.1, (v4 (Int.toNat v6)).2.2.2.2.2.2.1, (v4 (Int.toNat v6)).2.2.2.2.2.2.2.1, (v4 (Int.toNat v6)).2.2.2.2.2.2.2.2.1, (v4 (Int.toNat v6)).2.2.2.2.2.2.2.2.2.1, ((v4 (Int.toNat v6)).2.2.2.2.2.2.2.2.2.2.1, (v4 (Int.toNat v6)).2.2.2.2.2.2.2.2.2.2.2))).bind fun r3 =>
    world.rising_Body.l0 k0 k1 v1 r3 v3 (fun i => RiiiiiiiiiiL2.enc (v4 i)) v5 (IntKind.i64.wrap (v6 + 1))
    else none
  else
  some (decide (v1 ≥ 1)) := by kernel_rfl
theorem world.rising_Body.eq (k0 : Nat) (p0_n : Nat) (p0_g : Nat → (Int × Int × Int × Int × Int × Int × Int × Int × Int × Int × (Nat × (Nat → List AV)))) (p1 : Int) : world.rising_Body.g k0 ((p0_n, (fun i => RiiiiiiiiiiL2.enc (p0_g i))), p1, ()) =
  world.rising_Body.l0 k0 k0 p1 0 p0_n (fun i => RiiiiiiiiiiL2.enc (p0_g i)) ((p0_n : Nat) : Int) 0 := by kernel_rfl
/-! ### bagatelle/world.rising[bagatelle/api.Joint] -/
noncomputable def world.rising_Joint.cs : List (Nat × Fw.Summ) := [(70, world.Right_2.s)]
theorem world.rising_Joint.cs_ok : SumsOk Tryz.prog world.rising_Joint.cs := .cons world.Right_2.ok (.nil)
def world.rising_Joint.hs : List (Nat × LHint) := [(0, { mat := [], live := [1, 2, 7, 10, 11, 12], ren := [] })]
noncomputable def world.rising_Joint.G : Ctx := ⟨Tryz.prog, sumAt world.rising_Joint.cs, lookH world.rising_Joint.hs⟩
noncomputable def world.rising_Joint.g (k0 : Nat) (x : ((Nat × (Nat → List AV)) × Int × Unit)) : Option Bool := evF world.rising_Joint.G k0 Tryz.f69 ((tCons (tLz 8 (Riiiiiiii.enc (0, 0, 0, 0, 0, 0, 0, 0))) (tCons (tI .i64) (tOne (tF 70 tNil)))).enc x) tB.dec
noncomputable def world.rising_Joint.f (x : ((Nat × (Nat → List AV)) × Int × Unit)) : Option Bool := world.rising_Joint.g (1000000) x
noncomputable def world.rising_Joint.s : Fw.Summ := .mk' (tCons (tLz 8 (Riiiiiiii.enc (0, 0, 0, 0, 0, 0, 0, 0))) (tCons (tI .i64) (tOne (tF 70 tNil)))) tB world.rising_Joint.f
theorem world.rising_Joint.ok : world.rising_Joint.s.Ok Tryz.prog 69 :=
  summ_ok (hint := lookH world.rising_Joint.hs) (fn := Tryz.f69) (fun x => 1000000) world.rising_Joint.cs_ok (by kernel_rfl) (by kernel_rfl) (by kernel_rfl) (by kernel_rfl) (tCons_ok (tLz_ok _ _) (tCons_ok (tI_ok _) (tOne_ok (tF_ok _ tNil_ok)))) tB_ok (fun _ => rfl)
noncomputable def world.rising_Joint.l0 (k0 k1 : Nat) (v1 : Int) (v2 : Int) (v3 : Nat) (v4 : Nat → List AV) (v5 : Int) (v6 : Int) : Option Bool :=
  evLoop (lookH world.rising_Joint.hs 0) 0 (ev world.rising_Joint.G k0 (codeAt [1, 1, 0, 1, 0, 0] (bodyOf Tryz.f69)) 0) k1
  ⟨[.top, .val (.int .i64 v1), .fn 70 [], .top, .top, .top, .top, .val (.int .i64 v2), .top, .top, .lst 8 v3 none v4, .val (.int .i64 v5), .val (.int .i64 v6), .top, .top, .top, .top, .top, .top, .top, .top, .top, .top, .top, .top, .top, .top, .top, .top, .top, .top, .top, .top, .top], []⟩
  (kBlock 0 (kSeq world.rising_Joint.G k0 (codeAt [1, 1, 1] (bodyOf Tryz.f69)) 0 (kFin world.rising_Joint.G Tryz.f69 tB.dec)))
theorem world.rising_Joint.l0_eq (k0 k1 : Nat) (v1 : Int) (v2 : Int) (v3 : Nat) (v4 : Nat → (Int × Int × Int × Int × Int × Int × Int × Int)) (v5 : Int) (v6 : Int) : world.rising_Joint.l0 k0 (k1 + 1) v1 v2 v3 (fun i => Riiiiiiii.enc (v4 i)) v5 v6 =
  bif (decide (v6 < v5)) then
    bif ((decide (0 ≤ v6)) && (decide (v6 < ((v3 : Nat) : Int)))) then
    (world.Right_2.f ((v4 (Int.toNat v6)).1, (v4 (Int.toNat v6)).2.1, (v4 (Int.toNat v6)).2.2.1, (v4 (Int.toNat v6)).2.2.2.1, (v4 (Int.toNat v6)).2.2.2.2.1, (v4 (Int.toNat v6)).2.2.2.2.2.1, (v4 (Int.toNat v6)).2.2.2.2.2.2.1, (v4 (Int.toNat v6)).2.2.2.2.2.2.2)).bind fun r1 =>
    bif (decide (r1 ≤ v2)) then
      some false
    else
    (world.Right_2.f ((v4 (Int.toNat v6)).1, (v4 (Int.toNat v6)).2.1, (v4 (Int.toNat v6)).2.2.1, (v4 (Int.toNat v6)).2.2.2.1, (v4 (Int.toNat v6)).2.2.2.2.1, (v4 (Int.toNat v6)).2.2.2.2.2.1, (v4 (Int.toNat v6)).2.2.2.2.2.2.1, (v4 (Int.toNat v6)).2.2.2.2.2.2.2)).bind fun r2 =>
    bif (decide (r2 ≥ v1)) then
      some false
    else
    (world.Right_2.f ((v4 (Int.toNat v6)).1, (v4 (Int.toNat v6)).2.1, (v4 (Int.toNat v6)).2.2.1, (v4 (Int.toNat v6)).2.2.2.1, (v4 (Int.toNat v6)).2.2.2.2.1, (v4 (Int.toNat v6)).2.2.2.2.2.1, (v4 (Int.toNat v6)).2.2.2.2.2.2.1, (v4 (Int.toNat v6)).2.2.2.2.2.2.2)).bind fun r3 =>
    world.rising_Joint.l0 k0 k1 v1 r3 v3 (fun i => Riiiiiiii.enc (v4 i)) v5 (IntKind.i64.wrap (v6 + 1))
    else none
  else
  some (decide (v1 ≥ 1)) := by kernel_rfl
theorem world.rising_Joint.eq (k0 : Nat) (p0_n : Nat) (p0_g : Nat → (Int × Int × Int × Int × Int × Int × Int × Int)) (p1 : Int) : world.rising_Joint.g k0 ((p0_n, (fun i => Riiiiiiii.enc (p0_g i))), p1, ()) =
  world.rising_Joint.l0 k0 k0 p1 0 p0_n (fun i => Riiiiiiii.enc (p0_g i)) ((p0_n : Nat) : Int) 0 := by kernel_rfl
/-! ### bagatelle/world.Right$3 -/
noncomputable def world.Right_3.cs : List (Nat × Fw.Summ) := [(46, world.Body.s)]
theorem world.Right_3.cs_ok : SumsOk Tryz.prog world.Right_3.cs := .cons world.Body.ok (.nil)
def world.Right_3.hs : List (Nat × LHint) := []
noncomputable def world.Right_3.G : Ctx := ⟨Tryz.prog, sumAt world.Right_3.cs, lookH world.Right_3.hs⟩
noncomputable def world.Right_3.f (x : (Int × Int × (Int × Int × Int × Int × Int × (Nat × (Nat → List AV)) × (Nat × (Nat → List AV)) × (Nat × (Nat → List AV))))) : Option Bool := evF world.Right_3.G 0 Tryz.f71 ((tCons (tI .i64) (tCons (tI .i64) (tOne (tP (tCons (tI .i64) (tCons (tI .i64) (tCons (tI .i64) (tCons (tI .i64) (tCons (tI .i64) (tCons (tLz 11 (RiiiiiiiiiiL2.enc (0, 0, 0, 0, 0, 0, 0, 0, 0, 0, (0, fun _ => [])))) (tCons (tLz 8 (Riiiiiiii.enc (0, 0, 0, 0, 0, 0, 0, 0))) (tOne (tLz 5 (Riiiii.enc (0, 0, 0, 0, 0))))))))))))))).enc x) tB.dec
noncomputable def world.Right_3.s : Fw.Summ := .mk' (tCons (tI .i64) (tCons (tI .i64) (tOne (tP (tCons (tI .i64) (tCons (tI .i64) (tCons (tI .i64) (tCons (tI .i64) (tCons (tI .i64) (tCons (tLz 11 (RiiiiiiiiiiL2.enc (0, 0, 0, 0, 0, 0, 0, 0, 0, 0, (0, fun _ => [])))) (tCons (tLz 8 (Riiiiiiii.enc (0, 0, 0, 0, 0, 0, 0, 0))) (tOne (tLz 5 (Riiiii.enc (0, 0, 0, 0, 0))))))))))))))) tB world.Right_3.f
theorem world.Right_3.ok : world.Right_3.s.Ok Tryz.prog 71 :=
  summ_ok (hint := lookH world.Right_3.hs) (fn := Tryz.f71) (fun x => 0) world.Right_3.cs_ok (by kernel_rfl) (by kernel_rfl) (by kernel_rfl) (by kernel_rfl) (tCons_ok (tI_ok _) (tCons_ok (tI_ok _) (tOne_ok (tP_ok (tCons_ok (tI_ok _) (tCons_ok (tI_ok _) (tCons_ok (tI_ok _) (tCons_ok (tI_ok _) (tCons_ok (tI_ok _) (tCons_ok (tLz_ok _ _) (tCons_ok (tLz_ok _ _) (tOne_ok (tLz_ok _ _))))))))))))) tB_ok (fun _ => rfl)
theorem world.Right_3.eq (p0 : Int) (p1 : Int) (p2_0 : Int) (p2_1 : Int) (p2_2 : Int) (p2_3 : Int) (p2_4 : Int) (p2_5_n : Nat) (p2_5_g : Nat → (Int × Int × Int × Int × Int × Int × Int × Int × Int × Int × (Nat × (Nat → List AV)))) (p2_6_n : Nat) (p2_6_g : Nat → (Int × Int × Int × Int × Int × Int × Int × Int)) (p2_7_n : Nat) (p2_7_g : Nat → (Int × Int × Int × Int × Int)) : world.Right_3.f (p0, p1, (p2_0, p2_1, p2_2, p2_3, p2_4, (p2_5_n, (fun i => RiiiiiiiiiiL2.enc (p2_5_g i))), (p2_6_n, (fun i => Riiiiiiii.enc (p2_6_g i))), (p2_7_n, (fun i => Riiiii.enc (p2_7_g i))))) =
  (world.Body.f ((p2_0, p2_1, p2_2, p2_3, p2_4, (p2_5_n, (fun i => RiiiiiiiiiiL2.enc (p2_5_g i))), (p2_6_n, (fun i => Riiiiiiii.enc (p2_6_g i))), (p2_7_n, (fun i => Riiiii.enc (p2_7_g i)))), p0)).bind fun r1 =>
  (world.Body.f ((p2_0, p2_1, p2_2, p2_3, p2_4, (p2_5_n, (fun i => RiiiiiiiiiiL2.enc (p2_5_g i))), (p2_6_n, (fun i => Riiiiiiii.enc (p2_6_g i))), (p2_7_n, (fun i => Riiiii.enc (p2_7_g i)))), p1)).bind fun r2 =>
  bif r1.2 then
    some r2.2
  else
  some false := by kernel_rfl
/-! ### bagatelle/world.Right -/
noncomputable def world.Right.cs : List (Nat × Fw.Summ) := [(66, world.within.s), (67, world.rising_Body.s), (69, world.rising_Joint.s), (33, world.RightBody.s), (35, world.RightJoint.s), (71, world.Right_3.s), (72, world.order.s)]
theorem world.Right.cs_ok : SumsOk Tryz.prog world.Right.cs := .cons world.within.ok (.cons world.rising_Body.ok (.cons world.rising_Joint.ok (.cons world.RightBody.ok (.cons world.RightJoint.ok (.cons world.Right_3.ok (.cons world.order.ok (.nil)))))))
def world.Right.hs : List (Nat × LHint) := [(0, { mat := [], live := [1, 3, 62, 63, 64], ren := [], frz := [0] }), (2, { mat := [], live := [1, 3, 73, 74, 75], ren := [] }), (4, { mat := [], live := [1, 3, 93, 94, 95], ren := [] })]
noncomputable def world.Right.G : Ctx := ⟨Tryz.prog, sumAt world.Right.cs, lookH world.Right.hs⟩
noncomputable def world.Right.g (k0 : Nat) (x : (Int × Int × Int × Int × Int × (Nat × (Nat → List AV)) × (Nat × (Nat → List AV)) × (Nat × (Nat → List AV)))) : Option Bool := evF world.Right.G k0 Tryz.f25 ((tOne (tG (tCons (tI .i64) (tCons (tI .i64) (tCons (tI .i64) (tCons (tI .i64) (tCons (tI .i64) (tCons (tLz 11 (RiiiiiiiiiiL2.enc (0, 0, 0, 0, 0, 0, 0, 0, 0, 0, (0, fun _ => [])))) (tCons (tLz 8 (Riiiiiiii.enc (0, 0, 0, 0, 0, 0, 0, 0))) (tOne (tLz 5 (Riiiii.enc (0, 0, 0, 0, 0))))))))))))).enc x) tB.dec
noncomputable def world.Right.f (x : (Int × Int × Int × Int × Int × (Nat × (Nat → List AV)) × (Nat × (Nat → List AV)) × (Nat × (Nat → List AV)))) : Option Bool := world.Right.g (1000000) x
noncomputable def world.Right.s : Fw.Summ := .mk' (tOne (tG (tCons (tI .i64) (tCons (tI .i64) (tCons (tI .i64) (tCons (tI .i64) (tCons (tI .i64) (tCons (tLz 11 (RiiiiiiiiiiL2.enc (0, 0, 0, 0, 0, 0, 0, 0, 0, 0, (0, fun _ => [])))) (tCons (tLz 8 (Riiiiiiii.enc (0, 0, 0, 0, 0, 0, 0, 0))) (tOne (tLz 5 (Riiiii.enc (0, 0, 0, 0, 0))))))))))))) tB world.Right.f
theorem world.Right.ok : world.Right.s.Ok Tryz.prog 25 :=
  summ_ok (hint := lookH world.Right.hs) (fn := Tryz.f25) (fun x => 1000000) world.Right.cs_ok (by kernel_rfl) (by kernel_rfl) (by kernel_rfl) (by kernel_rfl) (tOne_ok (tG_ok (tCons_ok (tI_ok _) (tCons_ok (tI_ok _) (tCons_ok (tI_ok _) (tCons_ok (tI_ok _) (tCons_ok (tI_ok _) (tCons_ok (tLz_ok _ _) (tCons_ok (tLz_ok _ _) (tOne_ok (tLz_ok _ _))))))))))) tB_ok (fun _ => rfl)
noncomputable def world.Right.l2 (k0 k1 : Nat) (v1 : Int) (v2 : Int) (v3 : Int) (v4 : Int) (v5 : Int) (v6 : Nat) (v7 : Nat → List AV) (v8 : Nat) (v9 : Nat → List AV) (v10 : Nat) (v11 : Nat → List AV) (v12 : Int) (v13 : Int) : Option Bool :=
  evLoop (lookH world.Right.hs 4) 1 (ev world.Right.G k0 (codeAt [1, 1, 1, 1, 1, 1, 0, 1, 0, 0] (bodyOf Tryz.f25)) 4) k1
  ⟨[.top, .rp [.val (.int .i64 v1), .val (.int .i64 v2), .val (.int .i64 v3), .val (.int .i64 v4), .val (.int .i64 v5), .lst 11 v6 none v7, .lst 8 v8 none v9, .lst 5 v10 none v11] 0, .top, .fn 71 [.rp [.val (.int .i64 v1), .val (.int .i64 v2), .val (.int .i64 v3), .val (.int .i64 v4), .val (.int .i64 v5), .lst 11 v6 none v7, .lst 8 v8 none v9, .lst 5 v10 none v11] 0], .top, .top, .top, .top, .top, .top, .top, .top, .top, .top, .top, .top, .top, .top, .top, .top, .top, .top, .top, .top, .top, .top, .top, .top, .top, .top, .top, .top, .top, .top, .top, .top, .top, .top, .top, .top, .top, .top, .top, .top, .top, .top, .top, .top, .top, .top, .top, .top, .top, .top, .top, .top, .top, .top, .top, .top, .top, .top, .top, .top, .top, .top, .top, .top, .top, .top, .top, .top, .top, .top, .top, .top, .top, .top, .top, .top, .top, .top, .top, .top, .top, .top, .top, .top, .top, .top, .top, .top, .top, .lst 5 v10 none v11, .val (.int .i64 v12), .val (.int .i64 v13), .top, .top, .top, .top, .top, .top, .top, .top, .top, .top, .top, .top, .top, .top, .top, .top, .top, .top, .top, .top, .top, .top, .top, .top, .top, .top, .top, .top, .top, .top, .top, .top, .top, .top, .top, .top, .top, .top, .top, .top, .top, .top, .top, .top], [.dead]⟩
  (kBlock 4 (kSeq world.Right.G k0 (codeAt [1, 1, 1, 1, 1, 1, 1] (bodyOf Tryz.f25)) 0 (kFin world.Right.G Tryz.f25 tB.dec)))
noncomputable def world.Right.l1 (k0 k1 : Nat) (v1 : Int) (v2 : Int) (v3 : Int) (v4 : Int) (v5 : Int) (v6 : Nat) (v7 : Nat → List AV) (v8 : Nat) (v9 : Nat → List AV) (v10 : Nat) (v11 : Nat → List AV) (v12 : Int) (v13 : Int) : Option Bool :=
  evLoop (lookH world.Right.hs 2) 1 (ev world.Right.G k0 (codeAt [1, 1, 1, 1, 1, 0, 1, 0, 0] (bodyOf Tryz.f25)) 2) k1
  ⟨[.top, .rp [.val (.int .i64 v1), .val (.int .i64 v2), .val (.int .i64 v3), .val (.int .i64 v4), .val (.int .i64 v5), .lst 11 v6 none v7, .lst 8 v8 none v9, .lst 5 v10 none v11] 0, .top, .fn 71 [.rp [.val (.int .i64 v1), .val (.int .i64 v2), .val (.int .i64 v3), .val (.int .i64 v4), .val (.int .i64 v5), .lst 11 v6 none v7, .lst 8 v8 none v9, .lst 5 v10 none v11] 0], .top, .top, .top, .top, .top, .top, .top, .top, .top, .top, .top, .top, .top, .top, .top, .top, .top, .top, .top, .top, .top, .top, .top, .top, .top, .top, .top, .top, .top, .top, .top, .top, .top, .top, .top, .top, .top, .top, .top, .top, .top, .top, .top, .top, .top, .top, .top, .top, .top, .top, .top, .top, .top, .top, .top, .top, .top, .top, .top, .top, .top, .top, .top, .top, .top, .top, .top, .top, .top, .lst 8 v8 none v9, .val (.int .i64 v12), .val (.int .i64 v13), .top, .top, .top, .top, .top, .top, .top, .top, .top, .top, .top, .top, .top, .top, .top, .top, .top, .top, .top, .top, .top, .top, .top, .top, .top, .top, .top, .top, .top, .top, .top, .top, .top, .top, .top, .top, .top, .top, .top, .top, .top, .top, .top, .top, .top, .top, .top, .top, .top, .top, .top, .top, .top, .top, .top, .top, .top, .top, .top, .top, .top, .top, .top, .top], [.dead]⟩
  (kBlock 2 (kSeq world.Right.G k0 (codeAt [1, 1, 1, 1, 1, 1] (bodyOf Tryz.f25)) 0 (kFin world.Right.G Tryz.f25 tB.dec)))
noncomputable def world.Right.l0 (k0 k1 : Nat) (v1 : Int) (v2 : Int) (v3 : Int) (v4 : Int) (v5 : Int) (v6 : Nat) (v7 : Nat → List AV) (v8 : Nat) (v9 : Nat → List AV) (v10 : Nat) (v11 : Nat → List AV) (v12 : Int) (v13 : Int) : Option Bool :=
  evLoop (lookH world.Right.hs 0) 1 (ev world.Right.G k0 (codeAt [1, 1, 1, 1, 0, 1, 0, 0] (bodyOf Tryz.f25)) 0) k1
  ⟨[.top, .rp [.val (.int .i64 v1), .val (.int .i64 v2), .val (.int .i64 v3), .val (.int .i64 v4), .val (.int .i64 v5), .lst 11 v6 none v7, .lst 8 v8 none v9, .lst 5 v10 none v11] 0, .top, .fn 71 [.rp [.val (.int .i64 v1), .val (.int .i64 v2), .val (.int .i64 v3), .val (.int .i64 v4), .val (.int .i64 v5), .lst 11 v6 none v7, .lst 8 v8 none v9, .lst 5 v10 none v11] 0], .top, .top, .top, .top, .top, .top, .top, .top, .top, .top, .top, .top, .top, .top, .top, .top, .top, .top, .top, .top, .top, .top, .top, .top, .top, .top, .top, .top, .top, .top, .top, .top, .top, .top, .top, .top, .top, .top, .top, .top, .top, .top, .top, .top, .top, .top, .top, .top, .top, .top, .top, .top, .top, .top, .top, .top, .top, .top, .lst 11 v6 none v7, .val (.int .i64 v12), .val (.int .i64 v13), .top, .top, .top, .top, .top, .top, .top, .top, .top, .top, .top, .top, .top, .top, .top, .top, .top, .top, .top, .top, .top, .top, .top, .top, .top, .top, .top, .top, .top, .top, .top, .top, .top, .top, .top, .top, .top, .top, .top, .top, .top, .top, .top, .top, .top, .top, .top, .top, .top, .top, .top, .top, .top, .top, .top, .top, .top, .top, .top, .top, .top, .top, .top, .top, .top, .top, .top, .top, .top, .top, .top, .top, .top, .top, .top], [.dead]⟩
  (kBlock 0 (kSeq world.Right.G k0 (codeAt [1, 1, 1, 1, 1] (bodyOf Tryz.f25)) 0 (kFin world.Right.G Tryz.f25 tB.dec)))
theorem world.Right.l2_eq (k0 k1 : Nat) (v1 : Int) (v2 : Int) (v3 : Int) (v4 : Int) (v5 : Int) (v6 : Nat) (v7 : Nat → (Int × Int × Int × Int × Int × Int × Int × Int × Int × Int × (Nat × (Nat → List AV)))) (v8 : Nat) (v9 : Nat → (Int × Int × Int × Int × Int × Int × Int × Int)) (v10 : Nat) (v11 : Nat → (Int × Int × Int × Int × Int)) (v12 : Int) (v13 : Int) : world.Right.l2 k0 (k1 + 1) v1 v2 v3 v4 v5 v6 (fun i => RiiiiiiiiiiL2.enc (v7 i)) v8 (fun i => Riiiiiiii.enc (v9 i)) v10 (fun i => Riiiii.enc (v11 i)) v12 v13 =
  bif (decide (v13 < v12)) then
    bif ((decide (0 ≤ v13)) && (decide (v13 < ((v10 : Nat) : Int)))) then
    bif (decide ((v11 (Int.toNat v13)).1 ≥ (v11 (Int.toNat v13)).2.1)) then
      some false
    else
    bif (decide ((v11 (Int.toNat v13)).2.2.1 < 0)) then
      some false
    else
    bif (decide ((v11 (Int.toNat v13)).2.2.2.1 < 0)) then
      some false
    else
    (world.Right_3.f ((v11 (Int.toNat v13)).1, (v11 (Int.toNat v13)).2.1, (v1, v2, v3, v4, v5, (v6, (fun i => RiiiiiiiiiiL2.enc (v7 i))), (v8, (fun i => Riiiiiiii.enc (v9 i))), (v10, (fun i => Riiiii.enc (v11 i)))))).bind fun r7 =>
    bif (!r7) then
      some false
    else
    bif (decide (v13 > 0)) then
      bif ((decide (0 ≤ (IntKind.i64.wrap (v13 - 1)))) && (decide ((IntKind.i64.wrap (v13 - 1)) < ((v10 : Nat) : Int)))) then
      (world.order.f (((v11 (Int.toNat (IntKind.i64.wrap (v13 - 1)))).1, (v11 (Int.toNat (IntKind.i64.wrap (v13 - 1)))).2.1, (v11 (Int.toNat (IntKind.i64.wrap (v13 - 1)))).2.2.1, (v11 (Int.toNat (IntKind.i64.wrap (v13 - 1)))).2.2.2.1, (v11 (Int.toNat (IntKind.i64.wrap (v13 - 1)))).2.2.2.2), ((v11 (Int.toNat v13)).1, (v11 (Int.toNat v13)).2.1, (v11 (Int.toNat v13)).2.2.1, (v11 (Int.toNat v13)).2.2.2.1, (v11 (Int.toNat v13)).2.2.2.2))).bind fun r8 =>
      bif (decide (r8 ≥ 0)) then
        some false
      else
      world.Right.l2 k0 k1 v1 v2 v3 v4 v5 v6 (fun i => RiiiiiiiiiiL2.enc (v7 i)) v8 (fun i => Riiiiiiii.enc (v9 i)) v10 (fun i => Riiiii.enc (v11 i)) v12 (IntKind.i64.wrap (v13 + 1))
      else none
    else
    world.Right.l2 k0 k1 v1 v2 v3 v4 v5 v6 (fun i => RiiiiiiiiiiL2.enc (v7 i)) v8 (fun i => Riiiiiiii.enc (v9 i)) v10 (fun i => Riiiii.enc (v11 i)) v12 (IntKind.i64.wrap (v13 + 1))
    else none
  else
  some true := by kernel_rfl
theorem world.Right.l1_eq (k0 k1 : Nat) (v1 : Int) (v2 : Int) (v3 : Int) (v4 : Int) (v5 : Int) (v6 : Nat) (v7 : Nat → (Int × Int × Int × Int × Int × Int × Int × Int × Int × Int × (Nat × (Nat → List AV)))) (v8 : Nat) (v9 : Nat → (Int × Int × Int × Int × Int × Int × Int × Int)) (v10 : Nat) (v11 : Nat → (Int × Int × Int × Int × Int)) (v12 : Int) (v13 : Int) : world.Right.l1 k0 (k1 + 1) v1 v2 v3 v4 v5 v6 (fun i => RiiiiiiiiiiL2.enc (v7 i)) v8 (fun i => Riiiiiiii.enc (v9 i)) v10 (fun i => Riiiii.enc (v11 i)) v12 v13 =
  bif (decide (v13 < v12)) then
    bif ((decide (0 ≤ v13)) && (decide (v13 < ((v8 : Nat) : Int)))) then
    (world.RightJoint.f ((v9 (Int.toNat v13)).1, (v9 (Int.toNat v13)).2.1, (v9 (Int.toNat v13)).2.2.1, (v9 (Int.toNat v13)).2.2.2.1, (v9 (Int.toNat v13)).2.2.2.2.1, (v9 (Int.toNat v13)).2.2.2.2.2.1, (v9 (Int.toNat v13)).2.2.2.2.2.2.1, (v9 (Int.toNat v13)).2.2.2.2.2.2.2)).bind fun r5 =>
    bif (!r5) then
      some false
    else
    (world.Right_3.f ((v9 (Int.toNat v13)).2.1, (v9 (Int.toNat v13)).2.2.1, (v1, v2, v3, v4, v5, (v6, (fun i => RiiiiiiiiiiL2.enc (v7 i))), (v8, (fun i => Riiiiiiii.enc (v9 i))), (v10, (fun i => Riiiii.enc (v11 i)))))).bind fun r6 =>
    bif (!r6) then
      some false
    else
    world.Right.l1 k0 k1 v1 v2 v3 v4 v5 v6 (fun i => RiiiiiiiiiiL2.enc (v7 i)) v8 (fun i => Riiiiiiii.enc (v9 i)) v10 (fun i => Riiiii.enc (v11 i)) v12 (IntKind.i64.wrap (v13 + 1))
    else none
  else
  world.Right.l2 k0 k0 v1 v2 v3 v4 v5 v6 (fun i => RiiiiiiiiiiL2.enc (v7 i)) v8 (fun i => Riiiiiiii.enc (v9 i)) v10 (fun i => Riiiii.enc (v11 i)) ((v10 : Nat) : Int) 0 := by kernel_rfl
theorem world.Right.l0_eq (k0 k1 : Nat) (v1 : Int) (v2 : Int) (v3 : Int) (v4 : Int) (v5 : Int) (v6 : Nat) (v7 : Nat → (Int × Int × Int × Int × Int × Int × Int × Int × Int × Int × (Nat × (Nat → List AV)))) (v8 : Nat) (v9 : Nat → (Int × Int × Int × Int × Int × Int × Int × Int)) (v10 : Nat) (v11 : Nat → (Int × Int × Int × Int × Int)) (v12 : Int) (v13 : Int) : world.Right.l0 k0 (k1 + 1) v1 v2 v3 v4 v5 v6 (fun i => RiiiiiiiiiiL2.enc (v7 i)) v8 (fun i => Riiiiiiii.enc (v9 i)) v10 (fun i => Riiiii.enc (v11 i)) v12 v13 =
  bif (decide (v13 < v12)) then
    bif ((decide (0 ≤ v13)) && (decide (v13 < ((v6 : Nat) : Int)))) then
    (world.RightBody.f ((v7 (Int.toNat v13)).1, (v7 (Int.toNat v13)).2.1, (v7 (Int.toNat v13)).2.2.1, (v7 (Int.toNat v13)).2.2.2.1, (v7 (Int.toNat v13)).2.2.2.2.1, (v7 (Int.toNat v13)).2.2.2.2.2.1, (v7 (Int.toNat v13)).2.2.2.2.2.2.1, (v7 (Int.toNat v13)).2.2.2.2.2.2.2.1, (v7 (Int.toNat v13)).2.2.2.2.2.2.2.2.1, (v7 (Int.toNat v13)).2.2.2.2.2.2.2.2.2.1, ((v7 (Int.toNat v13)).2.2.2.2.2.2.2.2.2.2.1, (v7 (Int.toNat v13)).2.2.2.2.2.2.2.2.2.2.2))).bind fun r4 =>
    bif (!r4) then
      some false
    else
    world.Right.l0 k0 k1 v1 v2 v3 v4 v5 v6 (fun i => RiiiiiiiiiiL2.enc (v7 i)) v8 (fun i => Riiiiiiii.enc (v9 i)) v10 (fun i => Riiiii.enc (v11 i)) v12 (IntKind.i64.wrap (v13 + 1))
    else none
  else
  world.Right.l1 k0 k0 v1 v2 v3 v4 v5 v6 (fun i => RiiiiiiiiiiL2.enc (v7 i)) v8 (fun i => Riiiiiiii.enc (v9 i)) v10 (fun i => Riiiii.enc (v11 i)) ((v8 : Nat) : Int) 0 := by kernel_rfl
theorem world.Right.eq (k0 : Nat) (p0_0 : Int) (p0_1 : Int) (p0_2 : Int) (p0_3 : Int) (p0_4 : Int) (p0_5_n : Nat) (p0_5_g : Nat → (Int × Int × Int × Int × Int × Int × Int × Int × Int × Int × (Nat × (Nat → List AV)))) (p0_6_n : Nat) (p0_6_g : Nat → (Int × Int × Int × Int × Int × Int × Int × Int)) (p0_7_n : Nat) (p0_7_g : Nat → (Int × Int × Int × Int × Int)) : world.Right.g k0 (p0_0, p0_1, p0_2, p0_3, p0_4, (p0_5_n, (fun i => RiiiiiiiiiiL2.enc (p0_5_g i))), (p0_6_n, (fun i => Riiiiiiii.enc (p0_6_g i))), (p0_7_n, (fun i => Riiiii.enc (p0_7_g i)))) =
  bif (decide (p0_0 < 0)) then
    some false
  else
  bif (decide (p0_0 > 4611686018427387904)) then
    some false
  else
  bif (decide (p0_1 > 4611686018427387904)) then
    some false
  else
  bif (decide (p0_2 > 4611686018427387904)) then
    some false
  else
  bif (decide (((p0_5_n : Nat) : Int) > 1024)) then
    some false
  else
  bif (decide (((p0_6_n : Nat) : Int) > 1024)) then
    some false
  else
  (world.within.f ((p0_3, p0_4), 17592186044416)).bind fun r1 =>
  bif (!r1) then
    some false
  else
  (world.rising_Body.f ((p0_5_n, (fun i => RiiiiiiiiiiL2.enc (p0_5_g i))), p0_1, ())).bind fun r2 =>
  bif (!r2) then
    some false
  else
  (world.rising_Joint.f ((p0_6_n, (fun i => Riiiiiiii.enc (p0_6_g i))), p0_2, ())).bind fun r3 =>
  bif (!r3) then
    some false
  else
  world.Right.l0 k0 k0 p0_0 p0_1 p0_2 p0_3 p0_4 p0_5_n (fun i => RiiiiiiiiiiL2.enc (p0_5_g i)) p0_6_n (fun i => Riiiiiiii.enc (p0_6_g i)) p0_7_n (fun i => Riiiii.enc (p0_7_g i)) ((p0_5_n : Nat) : Int) 0 := by kernel_rfl
/-! ### bagatelle/world.Copy -/
noncomputable def world.Copy_o.cs : List (Nat × Fw.Summ) := [(39, slices.Clone_lBody_Body.s), (40, shape.Copy.s), (41, slices.Clone_lJoint_Joint.s), (42, slices.Clone_lContact_Contact.s)]
theorem world.Copy_o.cs_ok : SumsOk Tryz.prog world.Copy_o.cs := .cons slices.Clone_lBody_Body.ok (.cons shape.Copy.ok (.cons slices.Clone_lJoint_Joint.ok (.cons slices.Clone_lContact_Contact.ok (.nil))))
def world.Copy_o.hs : List (Nat × LHint) := [(0, { mat := [], live := [1, 2, 10, 11], ren := [] })]
noncomputable def world.Copy_o.G : Ctx := ⟨Tryz.prog, sumAt world.Copy_o.cs, lookH world.Copy_o.hs⟩
noncomputable def world.Copy_o.g (k0 : Nat) (x : (Int × Int × Int × Int × Int × (Nat × (Nat → List AV)) × (Nat × (Nat → List AV)) × (Nat × (Nat → List AV)))) : Option (((Int × Int × Int × Int × Int) × ((Nat × (Nat → (Int × Int × Int × Int × Int × Int × Int × Int))) × (Nat × (Nat → (Int × Int × Int × Int × Int))))) × (Nat × (Nat → (Int × Int × Int × Int × Int × Int × Int × Int × Int × Int × (Nat × (Nat → List AV)))))) := evP world.Copy_o.G k0 Tryz.f9 ((tOne (tG (tCons (tI .i64) (tCons (tI .i64) (tCons (tI .i64) (tCons (tI .i64) (tCons (tI .i64) (tCons (tLz 11 (RiiiiiiiiiiL2.enc (0, 0, 0, 0, 0, 0, 0, 0, 0, 0, (0, fun _ => [])))) (tCons (tLz 8 (Riiiiiiii.enc (0, 0, 0, 0, 0, 0, 0, 0))) (tOne (tLz 5 (Riiiii.enc (0, 0, 0, 0, 0))))))))))))).enc x) (selK 5) (OwnP.mk (tCons (tI .i64) (tCons (tI .i64) (tCons (tI .i64) (tCons (tI .i64) (tOne (tI .i64)))))) (tCons (tTL Riiiiiiii 8 (0, 0, 0, 0, 0, 0, 0, 0)) (tOne (tTL Riiiii 5 (0, 0, 0, 0, 0)))) 5 RiiiiiiiiiiL2 34 11 (0, 0, 0, 0, 0, 0, 0, 0, 0, 0, (0, fun _ => []))).dec
noncomputable def world.Copy_o.f (x : (Int × Int × Int × Int × Int × (Nat × (Nat → List AV)) × (Nat × (Nat → List AV)) × (Nat × (Nat → List AV)))) : Option (((Int × Int × Int × Int × Int) × ((Nat × (Nat → (Int × Int × Int × Int × Int × Int × Int × Int))) × (Nat × (Nat → (Int × Int × Int × Int × Int))))) × (Nat × (Nat → (Int × Int × Int × Int × Int × Int × Int × Int × Int × Int × (Nat × (Nat → List AV)))))) := world.Copy_o.g (1000000) x
noncomputable def world.Copy_o.s : Fw.Summ := .mkP (tOne (tG (tCons (tI .i64) (tCons (tI .i64) (tCons (tI .i64) (tCons (tI .i64) (tCons (tI .i64) (tCons (tLz 11 (RiiiiiiiiiiL2.enc (0, 0, 0, 0, 0, 0, 0, 0, 0, 0, (0, fun _ => [])))) (tCons (tLz 8 (Riiiiiiii.enc (0, 0, 0, 0, 0, 0, 0, 0))) (tOne (tLz 5 (Riiiii.enc (0, 0, 0, 0, 0))))))))))))) (OwnP.mk (tCons (tI .i64) (tCons (tI .i64) (tCons (tI .i64) (tCons (tI .i64) (tOne (tI .i64)))))) (tCons (tTL Riiiiiiii 8 (0, 0, 0, 0, 0, 0, 0, 0)) (tOne (tTL Riiiii 5 (0, 0, 0, 0, 0)))) 5 RiiiiiiiiiiL2 34 11 (0, 0, 0, 0, 0, 0, 0, 0, 0, 0, (0, fun _ => []))) world.Copy_o.f
theorem world.Copy_o.ok : world.Copy_o.s.Ok Tryz.prog 9 :=
  psumm_ok (hint := lookH world.Copy_o.hs) (fn := Tryz.f9) (fun x => 1000000) world.Copy_o.cs_ok (by kernel_rfl) (by kernel_rfl) (by kernel_rfl) (by kernel_rfl) (tOne_ok (tG_ok (tCons_ok (tI_ok _) (tCons_ok (tI_ok _) (tCons_ok (tI_ok _) (tCons_ok (tI_ok _) (tCons_ok (tI_ok _) (tCons_ok (tLz_ok _ _) (tCons_ok (tLz_ok _ _) (tOne_ok (tLz_ok _ _))))))))))) ⟨(tCons_ok (tI_ok _) (tCons_ok (tI_ok _) (tCons_ok (tI_ok _) (tCons_ok (tI_ok _) (tOne_ok (tI_ok _)))))), (tCons_ok (tTL_ok Riiiiiiii_ok _ _) (tOne_ok (tTL_ok Riiiii_ok _ _))), RiiiiiiiiiiL2_ok⟩ (fun _ => rfl)
noncomputable def world.Copy_o.l0 (k0 k1 : Nat) (v1 : Int) (v2 : Int) (v3 : Int) (v4 : Int) (v5 : Int) (v6 : Nat) (v7 : Nat → List AV) (v8 : Nat) (v9 : Nat → List AV) (v10 : Nat) (v11 : Nat → List AV) (v12 : Int) (v13 : Int) : Option (((Int × Int × Int × Int × Int) × ((Nat × (Nat → (Int × Int × Int × Int × Int × Int × Int × Int))) × (Nat × (Nat → (Int × Int × Int × Int × Int))))) × (Nat × (Nat → (Int × Int × Int × Int × Int × Int × Int × Int × Int × Int × (Nat × (Nat → List AV)))))) :=
  evLoop (lookH world.Copy_o.hs 0) 3 (ev world.Copy_o.G k0 (codeAt [1, 1, 0, 1, 0, 0] (bodyOf Tryz.f9)) 0) k1
  ⟨[.top, .ptr 0 0 0, .ptr 1 0 0, .top, .top, .top, .top, .top, .top, .top, .val (.int .i64 v12), .val (.int .i64 v13), .top, .top, .top, .top, .top, .top, .top, .top, .top, .top, .top, .top, .top, .top, .top, .top, .top, .top, .top, .top, .top, .top, .top, .top], [.live ⟨false, 42, 8, 1, fun _ => [.val (.int .i64 v1), .val (.int .i64 v2), .val (.int .i64 v3), .val (.int .i64 v4), .val (.int .i64 v5), .slc 2 0 none none, .lst 8 v6 none v7, .lst 5 v8 none v9], none⟩, .live ⟨false, 42, 8, 1, fun _ => [.val (.int .i64 0), .val (.int .i64 0), .val (.int .i64 0), .val (.int .i64 0), .val (.int .i64 0), .val (.slice none 0 0), .val (.slice none 0 0), .val (.slice none 0 0)], none⟩, .live ⟨true, 34, 11, v10, v11, none⟩]⟩
  (kBlock 0 (kSeq world.Copy_o.G k0 (codeAt [1, 1, 1] (bodyOf Tryz.f9)) 0 (kFinP world.Copy_o.G Tryz.f9 (selK 5) (OwnP.mk (tCons (tI .i64) (tCons (tI .i64) (tCons (tI .i64) (tCons (tI .i64) (tOne (tI .i64)))))) (tCons (tTL Riiiiiiii 8 (0, 0, 0, 0, 0, 0, 0, 0)) (tOne (tTL Riiiii 5 (0, 0, 0, 0, 0)))) 5 RiiiiiiiiiiL2 34 11 (0, 0, 0, 0, 0, 0, 0, 0, 0, 0, (0, fun _ => []))).dec)))
theorem world.Copy_o.l0_eq (k0 k1 : Nat) (v1 : Int) (v2 : Int) (v3 : Int) (v4 : Int) (v5 : Int) (v6 : Nat) (v7 : Nat → (Int × Int × Int × Int × Int × Int × Int × Int)) (v8 : Nat) (v9 : Nat → (Int × Int × Int × Int × Int)) (v10 : Nat) (v11 : Nat → (Int × Int × Int × Int × Int × Int × Int × Int × Int × Int × (Nat × (Nat → List AV)))) (v12 : Int) (v13 : Int) : world.Copy_o.l0 k0 (k1 + 1) v1 v2 v3 v4 v5 v6 (fun i => Riiiiiiii.enc (v7 i)) v8 (fun i => Riiiii.enc (v9 i)) v10 (fun i => RiiiiiiiiiiL2.enc (v11 i)) v12 v13 =
  bif (decide (v13 < v12)) then
    bif ((decide (0 ≤ v13)) && (decide (v13 < ((v10 : Nat) : Int)))) then
    (shape.Copy.f ((v11 (Int.toNat v13)).2.2.2.2.2.2.2.2.1, (v11 (Int.toNat v13)).2.2.2.2.2.2.2.2.2.1, ((v11 (Int.toNat v13)).2.2.2.2.2.2.2.2.2.2.1, (v11 (Int.toNat v13)).2.2.2.2.2.2.2.2.2.2.2))).bind fun r2 =>
    bif ((decide (0 ≤ v13)) && (decide (v13 < ((v10 : Nat) : Int)))) then
    world.Copy_o.l0 k0 k1 v1 v2 v3 v4 v5 v6 (fun i => Riiiiiiii.enc (v7 i)) v8 (fun i => Riiiii.enc (v9 i)) v10 (fun i => renL (lookF [] 3) (if i = (Int.toNat v13) then RiiiiiiiiiiL2.enc ((v11 (Int.toNat v13)).1, (v11 (Int.toNat v13)).2.1, (v11 (Int.toNat v13)).2.2.1, (v11 (Int.toNat v13)).2.2.2.1, (v11 (Int.toNat v13)).2.2.2.2.1, (v11 (Int.toNat v13)).2.2.2.2.2.1, (v11 (Int.toNat v13)).2.2.2.2.2.2.1, (v11 (Int.toNat v13)).2.2.2.2.2.2.2.1, r2.1, r2.2.1, (r2.2.2.1, (fun i => Rii.enc (r2.2.2.2 i)))) else RiiiiiiiiiiL2.enc (v11 i))) v12 (IntKind.i64.wrap (v13 + 1))
    else none
    else none
  else
  (slices.Clone_lJoint_Joint.f (v6, (fun i => Riiiiiiii.enc (v7 i)))).bind fun r3 =>
  (slices.Clone_lContact_Contact.f (v8, (fun i => Riiiii.enc (v9 i)))).bind fun r4 =>
  (OwnP.mk (tCons (tI .i64) (tCons (tI .i64) (tCons (tI .i64) (tCons (tI .i64) (tOne (tI .i64)))))) (tCons (tTL Riiiiiiii 8 (0, 0, 0, 0, 0, 0, 0, 0)) (tOne (tTL Riiiii 5 (0, 0, 0, 0, 0)))) 5 RiiiiiiiiiiL2 34 11 (0, 0, 0, 0, 0, 0, 0, 0, 0, 0, (0, fun _ => []))).dec (.agg [.val (.int .i64 v1), .val (.int .i64 v2), .val (.int .i64 v3), .val (.int .i64 v4), .val (.int .i64 v5), .slc 0 0 none none, .lst 8 r3.1 none (fun i => Riiiiiiii.enc (r3.2 i)), .lst 5 r4.1 none (fun i => Riiiii.enc (r4.2 i))]) ⟨true, 34, 11, v10, (fun i => cloL (RiiiiiiiiiiL2.enc (v11 i))), none⟩ := by kernel_rfl
theorem world.Copy_o.eq (k0 : Nat) (p0_0 : Int) (p0_1 : Int) (p0_2 : Int) (p0_3 : Int) (p0_4 : Int) (p0_5_n : Nat) (p0_5_g : Nat → (Int × Int × Int × Int × Int × Int × Int × Int × Int × Int × (Nat × (Nat → List AV)))) (p0_6_n : Nat) (p0_6_g : Nat → (Int × Int × Int × Int × Int × Int × Int × Int)) (p0_7_n : Nat) (p0_7_g : Nat → (Int × Int × Int × Int × Int)) : world.Copy_o.g k0 (p0_0, p0_1, p0_2, p0_3, p0_4, (p0_5_n, (fun i => RiiiiiiiiiiL2.enc (p0_5_g i))), (p0_6_n, (fun i => Riiiiiiii.enc (p0_6_g i))), (p0_7_n, (fun i => Riiiii.enc (p0_7_g i)))) =
  (slices.Clone_lBody_Body.f (p0_5_n, (fun i => RiiiiiiiiiiL2.enc (p0_5_g i)))).bind fun r1 =>
  world.Copy_o.l0 k0 k0 p0_0 p0_1 p0_2 p0_3 p0_4 p0_6_n (fun i => Riiiiiiii.enc (p0_6_g i)) p0_7_n (fun i => Riiiii.enc (p0_7_g i)) r1.1 (fun i => RiiiiiiiiiiL2.enc (r1.2 i)) ((r1.1 : Nat) : Int) 0 := by kernel_rfl
/-! ### bagatelle/bagatellelaw10.OrderDoes -/
noncomputable def law10.OrderDoes.cs : List (Nat × Fw.Summ) := [(5, law10.fit.s), (6, law09.Made.s), (7, law10.Order.s), (8, order.Right.s), (9, world.Copy_o.s), (10, order.Do.s), (12, law09.Deed.Body.s), (11, world.AddBody.s), (24, world.Same.s), (25, world.Right.s), (14, law09.Deed.Joint.s), (13, world.AddJoint.s), (15, world.RemoveBody.s), (16, world.RemoveJoint.s), (17, mass.Of.s), (20, vec.Scale.s), (19, vec.Add.s), (18, vec.Bring.s), (23, fix.Mul.s), (22, fix.Add.s), (21, fix.Bring.s)]
theorem law10.OrderDoes.cs_ok : SumsOk Tryz.prog law10.OrderDoes.cs := .cons law10.fit.ok (.cons law09.Made.ok (.cons law10.Order.ok (.cons order.Right.ok (.cons world.Copy_o.ok (.cons order.Do.ok (.cons law09.Deed.Body.ok (.cons world.AddBody.ok (.cons world.Same.ok (.cons world.Right.ok (.cons law09.Deed.Joint.ok (.cons world.AddJoint.ok (.cons world.RemoveBody.ok (.cons world.RemoveJoint.ok (.cons mass.Of.ok (.cons vec.Scale.ok (.cons vec.Add.ok (.cons vec.Bring.ok (.cons fix.Mul.ok (.cons fix.Add.ok (.cons fix.Bring.ok (.nil)))))))))))))))))))))
def law10.OrderDoes.hs : List (Nat × LHint) := [(1, { mat := [], live := [5, 6, 7, 8, 9, 67, 68], ren := [] })]
noncomputable def law10.OrderDoes.hf : Nat → LHint := fun b => { lookH law10.OrderDoes.hs b with rt := some rtF }
noncomputable def law10.OrderDoes.G : Ctx := ⟨Tryz.prog, sumAt law10.OrderDoes.cs, law10.OrderDoes.hf⟩
noncomputable def law10.OrderDoes.g (k0 : Nat) (x : ((Nat × (Nat → List AV)) × (Int × Int × Int × Int × Int × Int × Int × Int × Int × Int × Int × Int × Int × Int × Int × Int × Int × Int × Int × Int × Int × Int × Int × Int × Int × Int × Int × Int × Int × (Nat × (Nat → List AV))))) : Option Bool := evF law10.OrderDoes.G k0 Tryz.f3 ((tCons (tLz 30 (RiiiiiiiiiiiiiiiiiiiiiiiiiiiiiL2.enc (0, 0, 0, 0, 0, 0, 0, 0, 0, 0, 0, 0, 0, 0, 0, 0, 0, 0, 0, 0, 0, 0, 0, 0, 0, 0, 0, 0, 0, (0, fun _ => [])))) (tOne (tG (tCons (tI .i64) (tCons (tI .i64) (tCons (tI .i64) (tCons (tI .i64) (tCons (tI .i64) (tCons (tI .i64) (tCons (tI .i64) (tCons (tI .i64) (tCons (tI .i64) (tCons (tI .i64) (tCons (tI .i64) (tCons (tI .i64) (tCons (tI .i64) (tCons (tI .i64) (tCons (tI .i64) (tCons (tI .i64) (tCons (tI .i64) (tCons (tI .i64) (tCons (tI .i64) (tCons (tI .i64) (tCons (tI .i64) (tCons (tI .i64) (tCons (tI .i64) (tCons (tI .i64) (tCons (tI .i64) (tCons (tI .i64) (tCons (tI .i64) (tCons (tI .i64) (tCons (tI .i64) (tOne (tLz 2 (Rii.enc (0, 0)))))))))))))))))))))))))))))))))))).enc x) tB.dec
noncomputable def law10.OrderDoes.f (x : ((Nat × (Nat → List AV)) × (Int × Int × Int × Int × Int × Int × Int × Int × Int × Int × Int × Int × Int × Int × Int × Int × Int × Int × Int × Int × Int × Int × Int × Int × Int × Int × Int × Int × Int × (Nat × (Nat → List AV))))) : Option Bool := law10.OrderDoes.g (1000000) x
noncomputable def law10.OrderDoes.s : Fw.Summ := .mk' (tCons (tLz 30 (RiiiiiiiiiiiiiiiiiiiiiiiiiiiiiL2.enc (0, 0, 0, 0, 0, 0, 0, 0, 0, 0, 0, 0, 0, 0, 0, 0, 0, 0, 0, 0, 0, 0, 0, 0, 0, 0, 0, 0, 0, (0, fun _ => [])))) (tOne (tG (tCons (tI .i64) (tCons (tI .i64) (tCons (tI .i64) (tCons (tI .i64) (tCons (tI .i64) (tCons (tI .i64) (tCons (tI .i64) (tCons (tI .i64) (tCons (tI .i64) (tCons (tI .i64) (tCons (tI .i64) (tCons (tI .i64) (tCons (tI .i64) (tCons (tI .i64) (tCons (tI .i64) (tCons (tI .i64) (tCons (tI .i64) (tCons (tI .i64) (tCons (tI .i64) (tCons (tI .i64) (tCons (tI .i64) (tCons (tI .i64) (tCons (tI .i64) (tCons (tI .i64) (tCons (tI .i64) (tCons (tI .i64) (tCons (tI .i64) (tCons (tI .i64) (tCons (tI .i64) (tOne (tLz 2 (Rii.enc (0, 0)))))))))))))))))))))))))))))))))))) tB law10.OrderDoes.f
theorem law10.OrderDoes.ok : law10.OrderDoes.s.Ok Tryz.prog 3 :=
  summ_ok (hint := law10.OrderDoes.hf) (fn := Tryz.f3) (fun x => 1000000) law10.OrderDoes.cs_ok (by kernel_rfl) (by kernel_rfl) (by kernel_rfl) (by kernel_rfl) (tCons_ok (tLz_ok _ _) (tOne_ok (tG_ok (tCons_ok (tI_ok _) (tCons_ok (tI_ok _) (tCons_ok (tI_ok _) (tCons_ok (tI_ok _) (tCons_ok (tI_ok _) (tCons_ok (tI_ok _) (tCons_ok (tI_ok _) (tCons_ok (tI_ok _) (tCons_ok (tI_ok _) (tCons_ok (tI_ok _) (tCons_ok (tI_ok _) (tCons_ok (tI_ok _) (tCons_ok (tI_ok _) (tCons_ok (tI_ok _) (tCons_ok (tI_ok _) (tCons_ok (tI_ok _) (tCons_ok (tI_ok _) (tCons_ok (tI_ok _) (tCons_ok (tI_ok _) (tCons_ok (tI_ok _) (tCons_ok (tI_ok _) (tCons_ok (tI_ok _) (tCons_ok (tI_ok _) (tCons_ok (tI_ok _) (tCons_ok (tI_ok _) (tCons_ok (tI_ok _) (tCons_ok (tI_ok _) (tCons_ok (tI_ok _) (tCons_ok (tI_ok _) (tOne_ok (tLz_ok _ _)))))))))))))))))))))))))))))))))) tB_ok (fun _ => rfl)
noncomputable def law10.OrderDoes.l0 (k0 k1 : Nat) (v1 : Int) (v2 : Int) (v3 : Int) (v4 : Int) (v5 : Int) (v6 : Int) (v7 : Int) (v8 : Int) (v9 : Int) (v10 : Int) (v11 : Int) (v12 : Int) (v13 : Int) (v14 : Int) (v15 : Int) (v16 : Int) (v17 : Int) (v18 : Int) (v19 : Int) (v20 : Int) (v21 : Int) (v22 : Int) (v23 : Int) (v24 : Int) (v25 : Int) (v26 : Int) (v27 : Int) (v28 : Int) (v29 : Int) (v30 : Nat) (v31 : Nat → List AV) (v32 : Int) (v33 : Int) (v34 : Int) (v35 : Int) (v36 : Int) (v37 : Nat) (v38 : Nat → List AV) (v39 : Nat) (v40 : Nat → List AV) (v41 : Nat) (v42 : Nat → List AV) (v43 : Int) (v44 : Int) (v45 : Int) (v46 : Int) (v47 : Int) (v48 : Int) (v49 : Int) (v50 : Int) (v51 : Int) (v52 : Int) (v53 : Int) (v54 : Int) (v55 : Int) (v56 : Int) (v57 : Nat) (v58 : Nat → List AV) (v59 : Nat) (v60 : Nat → List AV) (v61 : Nat) (v62 : Nat → List AV) (v63 : Int) (v64 : Int) (v65 : Int) (v66 : Int) (v67 : Int) (v68 : Nat) (v69 : Nat → List AV) (v70 : Nat) (v71 : Nat → List AV) (v72 : Int) (v73 : Int) (v74 : Int) (v75 : Int) (v76 : Int) (v77 : Nat) (v78 : Nat → List AV) (v79 : Nat) (v80 : Nat → List AV) (v81 : Nat) (v82 : Nat → List AV) (v83 : Int) (v84 : Int) (v85 : Int) (v86 : Int) (v87 : Int) (v88 : Nat) (v89 : Nat → List AV) (v90 : Nat) (v91 : Nat → List AV) (v92 : Int) (v93 : Int) : Option Bool :=
  evLoop (law10.OrderDoes.hf 1) 15 (ev law10.OrderDoes.G k0 (codeAt [1, 1, 1, 1, 1, 1, 1, 1, 0, 1, 0, 1, 1, 1, 1, 1, 1, 1, 1, 1, 1, 1, 0, 1, 0, 0] (bodyOf Tryz.f3)) 1) k1
  ⟨[.top, .top, .top, .top, .top, .ptr 1 0 0, .ptr 2 0 0, .ptr 9 0 0, .ptr 10 0 0, .ptr 11 0 0, .top, .top, .top, .top, .top, .top, .top, .top, .top, .top, .top, .top, .top, .top, .top, .top, .top, .top, .top, .top, .top, .top, .top, .top, .top, .top, .top, .top, .top, .top, .top, .top, .top, .top, .top, .top, .top, .top, .top, .top, .top, .top, .top, .top, .top, .top, .top, .top, .top, .top, .top, .top, .top, .top, .top, .top, .top, .val (.int .i64 v92), .val (.int .i64 v93), .top, .top, .top, .top, .top, .top, .top, .top, .top, .top, .top, .top, .top, .top, .top, .top, .top, .top, .top, .top, .top, .top, .top, .top, .top, .top, .top, .top, .top, .top, .top, .top, .top, .top, .top, .top, .top, .top, .top, .top, .top, .top, .top, .top, .top, .top, .top, .top, .top, .top, .top, .top, .top, .top, .top, .top, .top, .top, .top, .top, .top, .top, .top, .top, .top], [.live ⟨false, 36, 30, 1, fun _ => [.val (.int .i64 v1), .val (.int .i64 v2), .val (.int .i64 v3), .val (.int .i64 v4), .val (.int .i64 v5), .val (.int .i64 v6), .val (.int .i64 v7), .val (.int .i64 v8), .val (.int .i64 v9), .val (.int .i64 v10), .val (.int .i64 v11), .val (.int .i64 v12), .val (.int .i64 v13), .val (.int .i64 v14), .val (.int .i64 v15), .val (.int .i64 v16), .val (.int .i64 v17), .val (.int .i64 v18), .val (.int .i64 v19), .val (.int .i64 v20), .val (.int .i64 v21), .val (.int .i64 v22), .val (.int .i64 v23), .val (.int .i64 v24), .val (.int .i64 v25), .val (.int .i64 v26), .val (.int .i64 v27), .val (.int .i64 v28), .val (.int .i64 v29), .lst 2 v30 none v31], none⟩, .live ⟨false, 42, 8, 1, fun _ => [.val (.int .i64 v32), .val (.int .i64 v33), .val (.int .i64 v34), .val (.int .i64 v35), .val (.int .i64 v36), .lst 11 v37 none v38, .lst 8 v39 none v40, .lst 5 v41 none v42], none⟩, .live ⟨false, 45, 15, 1, fun _ => [.val (.int .i64 v43), .val (.int .i64 v44), .val (.int .i64 v45), .val (.int .i64 v46), .val (.int .i64 v47), .val (.int .i64 v48), .val (.int .i64 v49), .val (.int .i64 v50), .val (.int .i64 v51), .val (.int .i64 v52), .val (.int .i64 v53), .val (.int .i64 v54), .val (.int .i64 v55), .val (.int .i64 v56), .lst 2 v57 none v58], none⟩, .free, .live ⟨true, 34, 11, v59, v60, none⟩, .free, .dead, .free, .live ⟨true, 34, 11, v61, v62, none⟩, .live ⟨false, 42, 8, 1, fun _ => [.val (.int .i64 v63), .val (.int .i64 v64), .val (.int .i64 v65), .val (.int .i64 v66), .val (.int .i64 v67), .slc 4 0 none none, .lst 8 v68 none v69, .lst 5 v70 none v71], none⟩, .live ⟨false, 42, 8, 1, fun _ => [.val (.int .i64 v72), .val (.int .i64 v73), .val (.int .i64 v74), .val (.int .i64 v75), .val (.int .i64 v76), .lst 11 v77 none v78, .lst 8 v79 none v80, .lst 5 v81 none v82], none⟩, .live ⟨false, 42, 8, 1, fun _ => [.val (.int .i64 v83), .val (.int .i64 v84), .val (.int .i64 v85), .val (.int .i64 v86), .val (.int .i64 v87), .slc 8 0 none none, .lst 8 v88 none v89, .lst 5 v90 none v91], none⟩, .free, .free, .free]⟩
  (kBlock 1 (kBlock 0 (kSeq law10.OrderDoes.G k0 (codeAt [1, 1, 1, 1, 1, 1, 1, 1, 1] (bodyOf Tryz.f3)) 0 (kFin law10.OrderDoes.G Tryz.f3 tB.dec))))
theorem law10.OrderDoes.l0_eq (k0 k1 : Nat) (v1 : Int) (v2 : Int) (v3 : Int) (v4 : Int) (v5 : Int) (v6 : Int) (v7 : Int) (v8 : Int) (v9 : Int) (v10 : Int) (v11 : Int) (v12 : Int) (v13 : Int) (v14 : Int) (v15 : Int) (v16 : Int) (v17 : Int) (v18 : Int) (v19 : Int) (v20 : Int) (v21 : Int) (v22 : Int) (v23 : Int) (v24 : Int) (v25 : Int) (v26 : Int) (v27 : Int) (v28 : Int) (v29 : Int) (v30 : Nat) (v31 : Nat → (Int × Int)) (v32 : Int) (v33 : Int) (v34 : Int) (v35 : Int) (v36 : Int) (v37 : Nat) (v38 : Nat → (Int × Int × Int × Int × Int × Int × Int × Int × Int × Int × (Nat × (Nat → List AV)))) (v39 : Nat) (v40 : Nat → (Int × Int × Int × Int × Int × Int × Int × Int)) (v41 : Nat) (v42 : Nat → (Int × Int × Int × Int × Int)) (v43 : Int) (v44 : Int) (v45 : Int) (v46 : Int) (v47 : Int) (v48 : Int) (v49 : Int) (v50 : Int) (v51 : Int) (v52 : Int) (v53 : Int) (v54 : Int) (v55 : Int) (v56 : Int) (v57 : Nat) (v58 : Nat → (Int × Int)) (v59 : Nat) (v60 : Nat → (Int × Int × Int × Int × Int × Int × Int × Int × Int × Int × (Nat × (Nat → List AV)))) (v61 : Nat) (v62 : Nat → (Int × Int × Int × Int × Int × Int × Int × Int × Int × Int × (Nat × (Nat → List AV)))) (v63 : Int) (v64 : Int) (v65 : Int) (v66 : Int) (v67 : Int) (v68 : Nat) (v69 : Nat → (Int × Int × Int × Int × Int × Int × Int × Int)) (v70 : Nat) (v71 : Nat → (Int × Int × Int × Int × Int)) (v72 : Int) (v73 : Int) (v74 : Int) (v75 : Int) (v76 : Int) (v77 : Nat) (v78 : Nat → (Int × Int × Int × Int × Int × Int × Int × Int × Int × Int × (Nat × (Nat → List AV)))) (v79 : Nat) (v80 : Nat → (Int × Int × Int × Int × Int × Int × Int × Int)) (v81 : Nat) (v82 : Nat → (Int × Int × Int × Int × Int)) (v83 : Int) (v84 : Int) (v85 : Int) (v86 : Int) (v87 : Int) (v88 : Nat) (v89 : Nat → (Int × Int × Int × Int × Int × Int × Int × Int)) (v90 : Nat) (v91 : Nat → (Int × Int × Int × Int × Int)) (v92 : Int) (v93 : Int) : law10.OrderDoes.l0 k0 (k1 + 1) v1 v2 v3 v4 v5 v6 v7 v8 v9 v10 v11 v12 v13 v14 v15 v16 v17 v18 v19 v20 v21 v22 v23 v24 v25 v26 v27 v28 v29 v30 (fun i => Rii.enc (v31 i)) v32 v33 v34 v35 v36 v37 (fun i => RiiiiiiiiiiL2.enc (v38 i)) v39 (fun i => Riiiiiiii.enc (v40 i)) v41 (fun i => Riiiii.enc (v42 i)) v43 v44 v45 v46 v47 v48 v49 v50 v51 v52 v53 v54 v55 v56 v57 (fun i => Rii.enc (v58 i)) v59 (fun i => RiiiiiiiiiiL2.enc (v60 i)) v61 (fun i => RiiiiiiiiiiL2.enc (v62 i)) v63 v64 v65 v66 v67 v68 (fun i => Riiiiiiii.enc (v69 i)) v70 (fun i => Riiiii.enc (v71 i)) v72 v73 v74 v75 v76 v77 (fun i => RiiiiiiiiiiL2.enc (v78 i)) v79 (fun i => Riiiiiiii.enc (v80 i)) v81 (fun i => Riiiii.enc (v82 i)) v83 v84 v85 v86 v87 v88 (fun i => Riiiiiiii.enc (v89 i)) v90 (fun i => Riiiii.enc (v91 i)) v92 v93 =
  bif (decide (v93 < v92)) then
    bif ((decide (0 ≤ v93)) && (decide (v93 < ((v61 : Nat) : Int)))) then
    bif ((v62 (Int.toNat v93)).1 != v44) then
      law10.OrderDoes.l0 k0 k1 v1 v2 v3 v4 v5 v6 v7 v8 v9 v10 v11 v12 v13 v14 v15 v16 v17 v18 v19 v20 v21 v22 v23 v24 v25 v26 v27 v28 v29 v30 (fun i => Rii.enc (v31 i)) v32 v33 v34 v35 v36 v37 (fun i => RiiiiiiiiiiL2.enc (v38 i)) v39 (fun i => Riiiiiiii.enc (v40 i)) v41 (fun i => Riiiii.enc (v42 i)) v43 v44 v45 v46 v47 v48 v49 v50 v51 v52 v53 v54 v55 v56 v57 (fun i => Rii.enc (v58 i)) v59 (fun i => RiiiiiiiiiiL2.enc (v60 i)) v61 (fun i => RiiiiiiiiiiL2.enc (v62 i)) v63 v64 v65 v66 v67 v68 (fun i => Riiiiiiii.enc (v69 i)) v70 (fun i => Riiiii.enc (v71 i)) v72 v73 v74 v75 v76 v77 (fun i => RiiiiiiiiiiL2.enc (v78 i)) v79 (fun i => Riiiiiiii.enc (v80 i)) v81 (fun i => Riiiii.enc (v82 i)) v83 v84 v85 v86 v87 v88 (fun i => Riiiiiiii.enc (v89 i)) v90 (fun i => Riiiii.enc (v91 i)) v92 (IntKind.i64.wrap (v93 + 1))
    else
    bif ((v62 (Int.toNat v93)).2.2.2.2.2.2.2.1 == 0) then
      law10.OrderDoes.l0 k0 k1 v1 v2 v3 v4 v5 v6 v7 v8 v9 v10 v11 v12 v13 v14 v15 v16 v17 v18 v19 v20 v21 v22 v23 v24 v25 v26 v27 v28 v29 v30 (fun i => Rii.enc (v31 i)) v32 v33 v34 v35 v36 v37 (fun i => RiiiiiiiiiiL2.enc (v38 i)) v39 (fun i => Riiiiiiii.enc (v40 i)) v41 (fun i => Riiiii.enc (v42 i)) v43 v44 v45 v46 v47 v48 v49 v50 v51 v52 v53 v54 v55 v56 v57 (fun i => Rii.enc (v58 i)) v59 (fun i => RiiiiiiiiiiL2.enc (v60 i)) v61 (fun i => RiiiiiiiiiiL2.enc (v62 i)) v63 v64 v65 v66 v67 v68 (fun i => Riiiiiiii.enc (v69 i)) v70 (fun i => Riiiii.enc (v71 i)) v72 v73 v74 v75 v76 v77 (fun i => RiiiiiiiiiiL2.enc (v78 i)) v79 (fun i => Riiiiiiii.enc (v80 i)) v81 (fun i => Riiiii.enc (v82 i)) v83 v84 v85 v86 v87 v88 (fun i => Riiiiiiii.enc (v89 i)) v90 (fun i => Riiiii.enc (v91 i)) v92 (IntKind.i64.wrap (v93 + 1))
    else
    (mass.Of.f ((v62 (Int.toNat v93)).1, (v62 (Int.toNat v93)).2.1, (v62 (Int.toNat v93)).2.2.1, (v62 (Int.toNat v93)).2.2.2.1, (v62 (Int.toNat v93)).2.2.2.2.1, (v62 (Int.toNat v93)).2.2.2.2.2.1, (v62 (Int.toNat v93)).2.2.2.2.2.2.1, (v62 (Int.toNat v93)).2.2.2.2.2.2.2.1, (v62 (Int.toNat v93)).2.2.2.2.2.2.2.2.1, (v62 (Int.toNat v93)).2.2.2.2.2.2.2.2.2.1, ((v62 (Int.toNat v93)).2.2.2.2.2.2.2.2.2.2.1, (v62 (Int.toNat v93)).2.2.2.2.2.2.2.2.2.2.2))).bind fun r35 =>
    (rowsD rtRiiiiiiiiiiL2 v59 (fun i => RiiiiiiiiiiL2.enc (v60 i))).bind fun r36 =>
    (rowsD rtRiiiiiiiiiiL2 v61 (fun i => RiiiiiiiiiiL2.enc (v62 i))).bind fun r37 =>
    (vec.Scale.f ((v49, v50), r35.2.2.1)).bind fun r38 =>
    (vec.Add.f (((r37 (Int.toNat v93)).2.2.2.1, (r37 (Int.toNat v93)).2.2.2.2.1), (r38.1, r38.2))).bind fun r39 =>
    (vec.Bring.f ((r39.1, r39.2), 17592186044416)).bind fun r40 =>
    (rowsD rtRiiiiiiiiiiL2 v59 (fun i => RiiiiiiiiiiL2.enc (r36 i))).bind fun r41 =>
    (rowsD rtRiiiiiiiiiiL2 v61 (fun i => cloL (if i = (Int.toNat v93) then RiiiiiiiiiiL2.enc ((r37 (Int.toNat v93)).1, (r37 (Int.toNat v93)).2.1, (r37 (Int.toNat v93)).2.2.1, r40.1, r40.2, (r37 (Int.toNat v93)).2.2.2.2.2.1, (r37 (Int.toNat v93)).2.2.2.2.2.2.1, (r37 (Int.toNat v93)).2.2.2.2.2.2.2.1, (r37 (Int.toNat v93)).2.2.2.2.2.2.2.2.1, (r37 (Int.toNat v93)).2.2.2.2.2.2.2.2.2.1, ((r37 (Int.toNat v93)).2.2.2.2.2.2.2.2.2.2.1, (r37 (Int.toNat v93)).2.2.2.2.2.2.2.2.2.2.2)) else RiiiiiiiiiiL2.enc (r37 i)))).bind fun r42 =>
    (fix.Mul.f (v52, r35.2.2.2)).bind fun r43 =>
    (fix.Add.f ((r42 (Int.toNat v93)).2.2.2.2.2.2.1, r43)).bind fun r44 =>
    (fix.Bring.f (r44, (-1099511627776), 1099511627776)).bind fun r45 =>
    (rowsD rtRiiiiiiiiiiL2 v59 (fun i => RiiiiiiiiiiL2.enc (r41 i))).bind fun r46 =>
    (rowsD rtRiiiiiiiiiiL2 v61 (fun i => cloL (if i = (Int.toNat v93) then RiiiiiiiiiiL2.enc ((r42 (Int.toNat v93)).1, (r42 (Int.toNat v93)).2.1, (r42 (Int.toNat v93)).2.2.1, (r42 (Int.toNat v93)).2.2.2.1, (r42 (Int.toNat v93)).2.2.2.2.1, (r42 (Int.toNat v93)).2.2.2.2.2.1, r45, (r42 (Int.toNat v93)).2.2.2.2.2.2.2.1, (r42 (Int.toNat v93)).2.2.2.2.2.2.2.2.1, (r42 (Int.toNat v93)).2.2.2.2.2.2.2.2.2.1, ((r42 (Int.toNat v93)).2.2.2.2.2.2.2.2.2.2.1, (r42 (Int.toNat v93)).2.2.2.2.2.2.2.2.2.2.2)) else RiiiiiiiiiiL2.enc (r42 i)))).bind fun r47 =>
    law10.OrderDoes.l0 k0 k1 v1 v2 v3 v4 v5 v6 v7 v8 v9 v10 v11 v12 v13 v14 v15 v16 v17 v18 v19 v20 v21 v22 v23 v24 v25 v26 v27 v28 v29 v30 (fun i => Rii.enc (v31 i)) v32 v33 v34 v35 v36 v37 (fun i => RiiiiiiiiiiL2.enc (v38 i)) v39 (fun i => Riiiiiiii.enc (v40 i)) v41 (fun i => Riiiii.enc (v42 i)) v43 v44 v45 v46 v47 v48 v49 v50 v51 v52 v53 v54 v55 v56 v57 (fun i => Rii.enc (v58 i)) v59 (fun i => RiiiiiiiiiiL2.enc (r46 i)) v61 (fun i => RiiiiiiiiiiL2.enc (r47 i)) v63 v64 v65 v66 v67 v68 (fun i => Riiiiiiii.enc (v69 i)) v70 (fun i => Riiiii.enc (v71 i)) v72 v73 v74 v75 v76 v77 (fun i => RiiiiiiiiiiL2.enc (v78 i)) v79 (fun i => Riiiiiiii.enc (v80 i)) v81 (fun i => Riiiii.enc (v82 i)) v83 v84 v85 v86 v87 v88 (fun i => Riiiiiiii.enc (v89 i)) v90 (fun i => Riiiii.enc (v91 i)) v92 (IntKind.i64.wrap (v93 + 1))
    else none
  else
  (world.Same.f ((v72, v73, v74, v75, v76, (v77, (fun i => RiiiiiiiiiiL2.enc (v78 i))), (v79, (fun i => Riiiiiiii.enc (v80 i))), (v81, (fun i => Riiiii.enc (v82 i)))), (v83, v84, v85, v86, v87, (v61, (fun i => RiiiiiiiiiiL2.enc (v62 i))), (v88, (fun i => Riiiiiiii.enc (v89 i))), (v90, (fun i => Riiiii.enc (v91 i)))))).bind fun r48 =>
  bif r48 then
    (world.Right.f (v72, v73, v74, v75, v76, (v77, (fun i => RiiiiiiiiiiL2.enc (v78 i))), (v79, (fun i => Riiiiiiii.enc (v80 i))), (v81, (fun i => Riiiii.enc (v82 i))))).bind fun r49 =>
    bif r49 then
      (world.Same.f ((v32, v33, v34, v35, v36, (v37, (fun i => RiiiiiiiiiiL2.enc (v38 i))), (v39, (fun i => Riiiiiiii.enc (v40 i))), (v41, (fun i => Riiiii.enc (v42 i)))), (v63, v64, v65, v66, v67, (v59, (fun i => RiiiiiiiiiiL2.enc (v60 i))), (v68, (fun i => Riiiiiiii.enc (v69 i))), (v70, (fun i => Riiiii.enc (v71 i)))))).bind fun r50 =>
      some r50
    else
    some false
  else
  some false := by kernel_rfl
theorem law10.OrderDoes.eq (k0 : Nat) (p0_n : Nat) (p0_g : Nat → (Int × Int × Int × Int × Int × Int × Int × Int × Int × Int × Int × Int × Int × Int × Int × Int × Int × Int × Int × Int × Int × Int × Int × Int × Int × Int × Int × Int × Int × (Nat × (Nat → List AV)))) (p1_0 : Int) (p1_1 : Int) (p1_2 : Int) (p1_3 : Int) (p1_4 : Int) (p1_5 : Int) (p1_6 : Int) (p1_7 : Int) (p1_8 : Int) (p1_9 : Int) (p1_10 : Int) (p1_11 : Int) (p1_12 : Int) (p1_13 : Int) (p1_14 : Int) (p1_15 : Int) (p1_16 : Int) (p1_17 : Int) (p1_18 : Int) (p1_19 : Int) (p1_20 : Int) (p1_21 : Int) (p1_22 : Int) (p1_23 : Int) (p1_24 : Int) (p1_25 : Int) (p1_26 : Int) (p1_27 : Int) (p1_28 : Int) (p1_29_n : Nat) (p1_29_g : Nat → (Int × Int)) : law10.OrderDoes.g k0 ((p0_n, (fun i => RiiiiiiiiiiiiiiiiiiiiiiiiiiiiiL2.enc (p0_g i))), (p1_0, p1_1, p1_2, p1_3, p1_4, p1_5, p1_6, p1_7, p1_8, p1_9, p1_10, p1_11, p1_12, p1_13, p1_14, p1_15, p1_16, p1_17, p1_18, p1_19, p1_20, p1_21, p1_22, p1_23, p1_24, p1_25, p1_26, p1_27, p1_28, (p1_29_n, (fun i => Rii.enc (p1_29_g i))))) =
  (law10.fit.f ()).bind fun r1 =>
  bif (!r1) then
    some false
  else
  bif (decide (((p1_29_n : Nat) : Int) > 12)) then
    some true
  else
  (law09.Made.f ((p0_n, (fun i => RiiiiiiiiiiiiiiiiiiiiiiiiiiiiiL2.enc (p0_g i))), 12)).bind fun r2 =>
  (law10.Order.f (p1_0, p1_1, p1_2, p1_3, p1_4, p1_5, p1_6, p1_7, p1_8, p1_9, p1_10, p1_11, p1_12, p1_13, p1_14, p1_15, p1_16, p1_17, p1_18, p1_19, p1_20, p1_21, p1_22, p1_23, p1_24, p1_25, p1_26, p1_27, p1_28, (p1_29_n, (fun i => Rii.enc (p1_29_g i))))).bind fun r3 =>
  (order.Right.f (r3.1, r3.2.1, r3.2.2.1, r3.2.2.2.1, r3.2.2.2.2.1, r3.2.2.2.2.2.1, r3.2.2.2.2.2.2.1, r3.2.2.2.2.2.2.2.1, r3.2.2.2.2.2.2.2.2.1, r3.2.2.2.2.2.2.2.2.2.1, r3.2.2.2.2.2.2.2.2.2.2.1, r3.2.2.2.2.2.2.2.2.2.2.2.1, r3.2.2.2.2.2.2.2.2.2.2.2.2.1, r3.2.2.2.2.2.2.2.2.2.2.2.2.2.1, (r3.2.2.2.2.2.2.2.2.2.2.2.2.2.2.1, (fun i => Rii.enc (r3.2.2.2.2.2.2.2.2.2.2.2.2.2.2.2 i))))).bind fun r4 =>
  bif (!r4) then
    some true
  else
  (world.Copy_o.f (r2.1, r2.2.1, r2.2.2.1, r2.2.2.2.1, r2.2.2.2.2.1, (r2.2.2.2.2.2.1.1, (fun i => RiiiiiiiiiiL2.enc (r2.2.2.2.2.2.1.2 i))), (r2.2.2.2.2.2.2.1.1, (fun i => Riiiiiiii.enc (r2.2.2.2.2.2.2.1.2 i))), (r2.2.2.2.2.2.2.2.1, (fun i => Riiiii.enc (r2.2.2.2.2.2.2.2.2 i))))).bind fun r5 =>
  (world.Copy_o.f (r2.1, r2.2.1, r2.2.2.1, r2.2.2.2.1, r2.2.2.2.2.1, (r2.2.2.2.2.2.1.1, (fun i => RiiiiiiiiiiL2.enc (r2.2.2.2.2.2.1.2 i))), (r2.2.2.2.2.2.2.1.1, (fun i => Riiiiiiii.enc (r2.2.2.2.2.2.2.1.2 i))), (r2.2.2.2.2.2.2.2.1, (fun i => Riiiii.enc (r2.2.2.2.2.2.2.2.2 i))))).bind fun r6 =>
  (world.Copy_o.f (r2.1, r2.2.1, r2.2.2.1, r2.2.2.2.1, r2.2.2.2.2.1, (r2.2.2.2.2.2.1.1, (fun i => RiiiiiiiiiiL2.enc (r2.2.2.2.2.2.1.2 i))), (r2.2.2.2.2.2.2.1.1, (fun i => Riiiiiiii.enc (r2.2.2.2.2.2.2.1.2 i))), (r2.2.2.2.2.2.2.2.1, (fun i => Riiiii.enc (r2.2.2.2.2.2.2.2.2 i))))).bind fun r7 =>
  (rowsD rtRiiiiiiiiiiL2 r5.2.1 (fun i => RiiiiiiiiiiL2.enc (r5.2.2 i))).bind fun r8 =>
  (rowsD rtRiiiiiiiiiiL2 r6.2.1 (fun i => RiiiiiiiiiiL2.enc (r6.2.2 i))).bind fun r9 =>
  (rowsD rtRiiiiiiiiiiL2 r7.2.1 (fun i => RiiiiiiiiiiL2.enc (r7.2.2 i))).bind fun r10 =>
  (order.Do.f ((r6.1.1.1, r6.1.1.2.1, r6.1.1.2.2.1, r6.1.1.2.2.2.1, r6.1.1.2.2.2.2, (r6.2.1, (fun i => RiiiiiiiiiiL2.enc (r9 i))), (r6.1.2.1.1, (fun i => Riiiiiiii.enc (r6.1.2.1.2 i))), (r6.1.2.2.1, (fun i => Riiiii.enc (r6.1.2.2.2 i)))), (r3.1, r3.2.1, r3.2.2.1, r3.2.2.2.1, r3.2.2.2.2.1, r3.2.2.2.2.2.1, r3.2.2.2.2.2.2.1, r3.2.2.2.2.2.2.2.1, r3.2.2.2.2.2.2.2.2.1, r3.2.2.2.2.2.2.2.2.2.1, r3.2.2.2.2.2.2.2.2.2.2.1, r3.2.2.2.2.2.2.2.2.2.2.2.1, r3.2.2.2.2.2.2.2.2.2.2.2.2.1, r3.2.2.2.2.2.2.2.2.2.2.2.2.2.1, (r3.2.2.2.2.2.2.2.2.2.2.2.2.2.2.1, (fun i => Rii.enc (r3.2.2.2.2.2.2.2.2.2.2.2.2.2.2.2 i)))))).bind fun r11 =>
  bif (r3.1 == 1) then
    (law09.Deed.Body.f (p1_0, p1_1, p1_2, p1_3, p1_4, p1_5, p1_6, p1_7, p1_8, p1_9, p1_10, p1_11, p1_12, p1_13, p1_14, p1_15, p1_16, p1_17, p1_18, p1_19, p1_20, p1_21, p1_22, p1_23, p1_24, p1_25, p1_26, p1_27, p1_28, (p1_29_n, (fun i => Rii.enc (p1_29_g i))))).bind fun r12 =>
    (world.AddBody.f ((r7.1.1.1, r7.1.1.2.1, r7.1.1.2.2.1, r7.1.1.2.2.2.1, r7.1.1.2.2.2.2, (r7.2.1, (fun i => RiiiiiiiiiiL2.enc (r10 i))), (r7.1.2.1.1, (fun i => Riiiiiiii.enc (r7.1.2.1.2 i))), (r7.1.2.2.1, (fun i => Riiiii.enc (r7.1.2.2.2 i)))), (r12.1, r12.2.1, r12.2.2.1, r12.2.2.2.1, r12.2.2.2.2.1, r12.2.2.2.2.2.1, r12.2.2.2.2.2.2.1, r12.2.2.2.2.2.2.2.1, r12.2.2.2.2.2.2.2.2.1, r12.2.2.2.2.2.2.2.2.2.1, (r12.2.2.2.2.2.2.2.2.2.2.1, (fun i => Rii.enc (r12.2.2.2.2.2.2.2.2.2.2.2 i)))))).bind fun r13 =>
    (world.Same.f ((r11.2.1, r11.2.2.1, r11.2.2.2.1, r11.2.2.2.2.1, r11.2.2.2.2.2.1, (r11.2.2.2.2.2.2.1.1, (fun i => RiiiiiiiiiiL2.enc (r11.2.2.2.2.2.2.1.2 i))), (r11.2.2.2.2.2.2.2.1.1, (fun i => Riiiiiiii.enc (r11.2.2.2.2.2.2.2.1.2 i))), (r11.2.2.2.2.2.2.2.2.1, (fun i => Riiiii.enc (r11.2.2.2.2.2.2.2.2.2 i)))), (r13.2.1, r13.2.2.1, r13.2.2.2.1, r13.2.2.2.2.1, r13.2.2.2.2.2.1, (r13.2.2.2.2.2.2.1.1, (fun i => RiiiiiiiiiiL2.enc (r13.2.2.2.2.2.2.1.2 i))), (r13.2.2.2.2.2.2.2.1.1, (fun i => Riiiiiiii.enc (r13.2.2.2.2.2.2.2.1.2 i))), (r13.2.2.2.2.2.2.2.2.1, (fun i => Riiiii.enc (r13.2.2.2.2.2.2.2.2.2 i)))))).bind fun r14 =>
    bif r14 then
      (world.Right.f (r11.2.1, r11.2.2.1, r11.2.2.2.1, r11.2.2.2.2.1, r11.2.2.2.2.2.1, (r11.2.2.2.2.2.2.1.1, (fun i => RiiiiiiiiiiL2.enc (r11.2.2.2.2.2.2.1.2 i))), (r11.2.2.2.2.2.2.2.1.1, (fun i => Riiiiiiii.enc (r11.2.2.2.2.2.2.2.1.2 i))), (r11.2.2.2.2.2.2.2.2.1, (fun i => Riiiii.enc (r11.2.2.2.2.2.2.2.2.2 i))))).bind fun r15 =>
      bif r15 then
        (world.Same.f ((r2.1, r2.2.1, r2.2.2.1, r2.2.2.2.1, r2.2.2.2.2.1, (r2.2.2.2.2.2.1.1, (fun i => RiiiiiiiiiiL2.enc (r2.2.2.2.2.2.1.2 i))), (r2.2.2.2.2.2.2.1.1, (fun i => Riiiiiiii.enc (r2.2.2.2.2.2.2.1.2 i))), (r2.2.2.2.2.2.2.2.1, (fun i => Riiiii.enc (r2.2.2.2.2.2.2.2.2 i)))), (r5.1.1.1, r5.1.1.2.1, r5.1.1.2.2.1, r5.1.1.2.2.2.1, r5.1.1.2.2.2.2, (r5.2.1, (fun i => RiiiiiiiiiiL2.enc (r8 i))), (r5.1.2.1.1, (fun i => Riiiiiiii.enc (r5.1.2.1.2 i))), (r5.1.2.2.1, (fun i => Riiiii.enc (r5.1.2.2.2 i)))))).bind fun r16 =>
        some r16
      else
      some false
    else
    some false
  else
  bif (r3.1 == 3) then
    (law09.Deed.Joint.f (p1_0, p1_1, p1_2, p1_3, p1_4, p1_5, p1_6, p1_7, p1_8, p1_9, p1_10, p1_11, p1_12, p1_13, p1_14, p1_15, p1_16, p1_17, p1_18, p1_19, p1_20, p1_21, p1_22, p1_23, p1_24, p1_25, p1_26, p1_27, p1_28, (p1_29_n, (fun i => Rii.enc (p1_29_g i))))).bind fun r17 =>
    (world.AddJoint.f ((r7.1.1.1, r7.1.1.2.1, r7.1.1.2.2.1, r7.1.1.2.2.2.1, r7.1.1.2.2.2.2, (r7.2.1, (fun i => RiiiiiiiiiiL2.enc (r10 i))), (r7.1.2.1.1, (fun i => Riiiiiiii.enc (r7.1.2.1.2 i))), (r7.1.2.2.1, (fun i => Riiiii.enc (r7.1.2.2.2 i)))), (r17.1, r17.2.1, r17.2.2.1, r17.2.2.2.1, r17.2.2.2.2.1, r17.2.2.2.2.2.1, r17.2.2.2.2.2.2.1, r17.2.2.2.2.2.2.2))).bind fun r18 =>
    (world.Same.f ((r11.2.1, r11.2.2.1, r11.2.2.2.1, r11.2.2.2.2.1, r11.2.2.2.2.2.1, (r11.2.2.2.2.2.2.1.1, (fun i => RiiiiiiiiiiL2.enc (r11.2.2.2.2.2.2.1.2 i))), (r11.2.2.2.2.2.2.2.1.1, (fun i => Riiiiiiii.enc (r11.2.2.2.2.2.2.2.1.2 i))), (r11.2.2.2.2.2.2.2.2.1, (fun i => Riiiii.enc (r11.2.2.2.2.2.2.2.2.2 i)))), (r18.2.1, r18.2.2.1, r18.2.2.2.1, r18.2.2.2.2.1, r18.2.2.2.2.2.1, (r18.2.2.2.2.2.2.1.1, (fun i => RiiiiiiiiiiL2.enc (r18.2.2.2.2.2.2.1.2 i))), (r18.2.2.2.2.2.2.2.1.1, (fun i => Riiiiiiii.enc (r18.2.2.2.2.2.2.2.1.2 i))), (r18.2.2.2.2.2.2.2.2.1, (fun i => Riiiii.enc (r18.2.2.2.2.2.2.2.2.2 i)))))).bind fun r19 =>
    bif r19 then
      (world.Right.f (r11.2.1, r11.2.2.1, r11.2.2.2.1, r11.2.2.2.2.1, r11.2.2.2.2.2.1, (r11.2.2.2.2.2.2.1.1, (fun i => RiiiiiiiiiiL2.enc (r11.2.2.2.2.2.2.1.2 i))), (r11.2.2.2.2.2.2.2.1.1, (fun i => Riiiiiiii.enc (r11.2.2.2.2.2.2.2.1.2 i))), (r11.2.2.2.2.2.2.2.2.1, (fun i => Riiiii.enc (r11.2.2.2.2.2.2.2.2.2 i))))).bind fun r20 =>
      bif r20 then
        (world.Same.f ((r2.1, r2.2.1, r2.2.2.1, r2.2.2.2.1, r2.2.2.2.2.1, (r2.2.2.2.2.2.1.1, (fun i => RiiiiiiiiiiL2.enc (r2.2.2.2.2.2.1.2 i))), (r2.2.2.2.2.2.2.1.1, (fun i => Riiiiiiii.enc (r2.2.2.2.2.2.2.1.2 i))), (r2.2.2.2.2.2.2.2.1, (fun i => Riiiii.enc (r2.2.2.2.2.2.2.2.2 i)))), (r5.1.1.1, r5.1.1.2.1, r5.1.1.2.2.1, r5.1.1.2.2.2.1, r5.1.1.2.2.2.2, (r5.2.1, (fun i => RiiiiiiiiiiL2.enc (r8 i))), (r5.1.2.1.1, (fun i => Riiiiiiii.enc (r5.1.2.1.2 i))), (r5.1.2.2.1, (fun i => Riiiii.enc (r5.1.2.2.2 i)))))).bind fun r21 =>
        some r21
      else
      some false
    else
    some false
  else
  bif (r3.1 == 2) then
    (world.RemoveBody.f ((r7.1.1.1, r7.1.1.2.1, r7.1.1.2.2.1, r7.1.1.2.2.2.1, r7.1.1.2.2.2.2, (r7.2.1, (fun i => RiiiiiiiiiiL2.enc (r10 i))), (r7.1.2.1.1, (fun i => Riiiiiiii.enc (r7.1.2.1.2 i))), (r7.1.2.2.1, (fun i => Riiiii.enc (r7.1.2.2.2 i)))), r3.2.1)).bind fun r22 =>
    (world.Same.f ((r11.2.1, r11.2.2.1, r11.2.2.2.1, r11.2.2.2.2.1, r11.2.2.2.2.2.1, (r11.2.2.2.2.2.2.1.1, (fun i => RiiiiiiiiiiL2.enc (r11.2.2.2.2.2.2.1.2 i))), (r11.2.2.2.2.2.2.2.1.1, (fun i => Riiiiiiii.enc (r11.2.2.2.2.2.2.2.1.2 i))), (r11.2.2.2.2.2.2.2.2.1, (fun i => Riiiii.enc (r11.2.2.2.2.2.2.2.2.2 i)))), (r22.2.1, r22.2.2.1, r22.2.2.2.1, r22.2.2.2.2.1, r22.2.2.2.2.2.1, (r22.2.2.2.2.2.2.1.1, (fun i => RiiiiiiiiiiL2.enc (r22.2.2.2.2.2.2.1.2 i))), (r22.2.2.2.2.2.2.2.1.1, (fun i => Riiiiiiii.enc (r22.2.2.2.2.2.2.2.1.2 i))), (r22.2.2.2.2.2.2.2.2.1, (fun i => Riiiii.enc (r22.2.2.2.2.2.2.2.2.2 i)))))).bind fun r23 =>
    bif r23 then
      (world.Right.f (r11.2.1, r11.2.2.1, r11.2.2.2.1, r11.2.2.2.2.1, r11.2.2.2.2.2.1, (r11.2.2.2.2.2.2.1.1, (fun i => RiiiiiiiiiiL2.enc (r11.2.2.2.2.2.2.1.2 i))), (r11.2.2.2.2.2.2.2.1.1, (fun i => Riiiiiiii.enc (r11.2.2.2.2.2.2.2.1.2 i))), (r11.2.2.2.2.2.2.2.2.1, (fun i => Riiiii.enc (r11.2.2.2.2.2.2.2.2.2 i))))).bind fun r24 =>
      bif r24 then
        (world.Same.f ((r2.1, r2.2.1, r2.2.2.1, r2.2.2.2.1, r2.2.2.2.2.1, (r2.2.2.2.2.2.1.1, (fun i => RiiiiiiiiiiL2.enc (r2.2.2.2.2.2.1.2 i))), (r2.2.2.2.2.2.2.1.1, (fun i => Riiiiiiii.enc (r2.2.2.2.2.2.2.1.2 i))), (r2.2.2.2.2.2.2.2.1, (fun i => Riiiii.enc (r2.2.2.2.2.2.2.2.2 i)))), (r5.1.1.1, r5.1.1.2.1, r5.1.1.2.2.1, r5.1.1.2.2.2.1, r5.1.1.2.2.2.2, (r5.2.1, (fun i => RiiiiiiiiiiL2.enc (r8 i))), (r5.1.2.1.1, (fun i => Riiiiiiii.enc (r5.1.2.1.2 i))), (r5.1.2.2.1, (fun i => Riiiii.enc (r5.1.2.2.2 i)))))).bind fun r25 =>
        some r25
      else
      some false
    else
    some false
  else
  bif (r3.1 == 4) then
    (world.RemoveJoint.f ((r7.1.1.1, r7.1.1.2.1, r7.1.1.2.2.1, r7.1.1.2.2.2.1, r7.1.1.2.2.2.2, (r7.2.1, (fun i => RiiiiiiiiiiL2.enc (r10 i))), (r7.1.2.1.1, (fun i => Riiiiiiii.enc (r7.1.2.1.2 i))), (r7.1.2.2.1, (fun i => Riiiii.enc (r7.1.2.2.2 i)))), r3.2.1)).bind fun r26 =>
    (world.Same.f ((r11.2.1, r11.2.2.1, r11.2.2.2.1, r11.2.2.2.2.1, r11.2.2.2.2.2.1, (r11.2.2.2.2.2.2.1.1, (fun i => RiiiiiiiiiiL2.enc (r11.2.2.2.2.2.2.1.2 i))), (r11.2.2.2.2.2.2.2.1.1, (fun i => Riiiiiiii.enc (r11.2.2.2.2.2.2.2.1.2 i))), (r11.2.2.2.2.2.2.2.2.1, (fun i => Riiiii.enc (r11.2.2.2.2.2.2.2.2.2 i)))), (r26.2.1, r26.2.2.1, r26.2.2.2.1, r26.2.2.2.2.1, r26.2.2.2.2.2.1, (r26.2.2.2.2.2.2.1.1, (fun i => RiiiiiiiiiiL2.enc (r26.2.2.2.2.2.2.1.2 i))), (r26.2.2.2.2.2.2.2.1.1, (fun i => Riiiiiiii.enc (r26.2.2.2.2.2.2.2.1.2 i))), (r26.2.2.2.2.2.2.2.2.1, (fun i => Riiiii.enc (r26.2.2.2.2.2.2.2.2.2 i)))))).bind fun r27 =>
    bif r27 then
      (world.Right.f (r11.2.1, r11.2.2.1, r11.2.2.2.1, r11.2.2.2.2.1, r11.2.2.2.2.2.1, (r11.2.2.2.2.2.2.1.1, (fun i => RiiiiiiiiiiL2.enc (r11.2.2.2.2.2.2.1.2 i))), (r11.2.2.2.2.2.2.2.1.1, (fun i => Riiiiiiii.enc (r11.2.2.2.2.2.2.2.1.2 i))), (r11.2.2.2.2.2.2.2.2.1, (fun i => Riiiii.enc (r11.2.2.2.2.2.2.2.2.2 i))))).bind fun r28 =>
      bif r28 then
        (world.Same.f ((r2.1, r2.2.1, r2.2.2.1, r2.2.2.2.1, r2.2.2.2.2.1, (r2.2.2.2.2.2.1.1, (fun i => RiiiiiiiiiiL2.enc (r2.2.2.2.2.2.1.2 i))), (r2.2.2.2.2.2.2.1.1, (fun i => Riiiiiiii.enc (r2.2.2.2.2.2.2.1.2 i))), (r2.2.2.2.2.2.2.2.1, (fun i => Riiiii.enc (r2.2.2.2.2.2.2.2.2 i)))), (r5.1.1.1, r5.1.1.2.1, r5.1.1.2.2.1, r5.1.1.2.2.2.1, r5.1.1.2.2.2.2, (r5.2.1, (fun i => RiiiiiiiiiiL2.enc (r8 i))), (r5.1.2.1.1, (fun i => Riiiiiiii.enc (r5.1.2.1.2 i))), (r5.1.2.2.1, (fun i => Riiiii.enc (r5.1.2.2.2 i)))))).bind fun r29 =>
        some r29
      else
      some false
    else
    some false
  else
  bif (r3.1 == 6) then
    (rowsD rtRiiiiiiiiiiL2 r5.2.1 (fun i => RiiiiiiiiiiL2.enc (r8 i))).bind fun r30 =>
    (rowsD rtRiiiiiiiiiiL2 r7.2.1 (fun i => RiiiiiiiiiiL2.enc (r10 i))).bind fun r31 =>
    (world.Same.f ((r11.2.1, r11.2.2.1, r11.2.2.2.1, r11.2.2.2.2.1, r11.2.2.2.2.2.1, (r11.2.2.2.2.2.2.1.1, (fun i => RiiiiiiiiiiL2.enc (r11.2.2.2.2.2.2.1.2 i))), (r11.2.2.2.2.2.2.2.1.1, (fun i => Riiiiiiii.enc (r11.2.2.2.2.2.2.2.1.2 i))), (r11.2.2.2.2.2.2.2.2.1, (fun i => Riiiii.enc (r11.2.2.2.2.2.2.2.2.2 i)))), (r7.1.1.1, r7.1.1.2.1, r7.1.1.2.2.1, r3.2.2.2.2.2.2.1, r3.2.2.2.2.2.2.2.1, (r7.2.1, (fun i => RiiiiiiiiiiL2.enc (r31 i))), (r7.1.2.1.1, (fun i => Riiiiiiii.enc (r7.1.2.1.2 i))), (r7.1.2.2.1, (fun i => Riiiii.enc (r7.1.2.2.2 i)))))).bind fun r32 =>
    bif r32 then
      (world.Right.f (r11.2.1, r11.2.2.1, r11.2.2.2.1, r11.2.2.2.2.1, r11.2.2.2.2.2.1, (r11.2.2.2.2.2.2.1.1, (fun i => RiiiiiiiiiiL2.enc (r11.2.2.2.2.2.2.1.2 i))), (r11.2.2.2.2.2.2.2.1.1, (fun i => Riiiiiiii.enc (r11.2.2.2.2.2.2.2.1.2 i))), (r11.2.2.2.2.2.2.2.2.1, (fun i => Riiiii.enc (r11.2.2.2.2.2.2.2.2.2 i))))).bind fun r33 =>
      bif r33 then
        (world.Same.f ((r2.1, r2.2.1, r2.2.2.1, r2.2.2.2.1, r2.2.2.2.2.1, (r2.2.2.2.2.2.1.1, (fun i => RiiiiiiiiiiL2.enc (r2.2.2.2.2.2.1.2 i))), (r2.2.2.2.2.2.2.1.1, (fun i => Riiiiiiii.enc (r2.2.2.2.2.2.2.1.2 i))), (r2.2.2.2.2.2.2.2.1, (fun i => Riiiii.enc (r2.2.2.2.2.2.2.2.2 i)))), (r5.1.1.1, r5.1.1.2.1, r5.1.1.2.2.1, r5.1.1.2.2.2.1, r5.1.1.2.2.2.2, (r5.2.1, (fun i => RiiiiiiiiiiL2.enc (r30 i))), (r5.1.2.1.1, (fun i => Riiiiiiii.enc (r5.1.2.1.2 i))), (r5.1.2.2.1, (fun i => Riiiii.enc (r5.1.2.2.2 i)))))).bind fun r34 =>
        some r34
      else
      some false
    else
    some false
  else
  bif (r3.1 == 5) then
    law10.OrderDoes.l0 k0 k0 p1_0 p1_1 p1_2 p1_3 p1_4 p1_5 p1_6 p1_7 p1_8 p1_9 p1_10 p1_11 p1_12 p1_13 p1_14 p1_15 p1_16 p1_17 p1_18 p1_19 p1_20 p1_21 p1_22 p1_23 p1_24 p1_25 p1_26 p1_27 p1_28 p1_29_n (fun i => Rii.enc (p1_29_g i)) r2.1 r2.2.1 r2.2.2.1 r2.2.2.2.1 r2.2.2.2.2.1 r2.2.2.2.2.2.1.1 (fun i => RiiiiiiiiiiL2.enc (r2.2.2.2.2.2.1.2 i)) r2.2.2.2.2.2.2.1.1 (fun i => Riiiiiiii.enc (r2.2.2.2.2.2.2.1.2 i)) r2.2.2.2.2.2.2.2.1 (fun i => Riiiii.enc (r2.2.2.2.2.2.2.2.2 i)) r3.1 r3.2.1 r3.2.2.1 r3.2.2.2.1 r3.2.2.2.2.1 r3.2.2.2.2.2.1 r3.2.2.2.2.2.2.1 r3.2.2.2.2.2.2.2.1 r3.2.2.2.2.2.2.2.2.1 r3.2.2.2.2.2.2.2.2.2.1 r3.2.2.2.2.2.2.2.2.2.2.1 r3.2.2.2.2.2.2.2.2.2.2.2.1 r3.2.2.2.2.2.2.2.2.2.2.2.2.1 r3.2.2.2.2.2.2.2.2.2.2.2.2.2.1 r3.2.2.2.2.2.2.2.2.2.2.2.2.2.2.1 (fun i => Rii.enc (r3.2.2.2.2.2.2.2.2.2.2.2.2.2.2.2 i)) r5.2.1 (fun i => RiiiiiiiiiiL2.enc (r8 i)) r7.2.1 (fun i => RiiiiiiiiiiL2.enc (r10 i)) r5.1.1.1 r5.1.1.2.1 r5.1.1.2.2.1 r5.1.1.2.2.2.1 r5.1.1.2.2.2.2 r5.1.2.1.1 (fun i => Riiiiiiii.enc (r5.1.2.1.2 i)) r5.1.2.2.1 (fun i => Riiiii.enc (r5.1.2.2.2 i)) r11.2.1 r11.2.2.1 r11.2.2.2.1 r11.2.2.2.2.1 r11.2.2.2.2.2.1 r11.2.2.2.2.2.2.1.1 (fun i => RiiiiiiiiiiL2.enc (r11.2.2.2.2.2.2.1.2 i)) r11.2.2.2.2.2.2.2.1.1 (fun i => Riiiiiiii.enc (r11.2.2.2.2.2.2.2.1.2 i)) r11.2.2.2.2.2.2.2.2.1 (fun i => Riiiii.enc (r11.2.2.2.2.2.2.2.2.2 i)) r7.1.1.1 r7.1.1.2.1 r7.1.1.2.2.1 r7.1.1.2.2.2.1 r7.1.1.2.2.2.2 r7.1.2.1.1 (fun i => Riiiiiiii.enc (r7.1.2.1.2 i)) r7.1.2.2.1 (fun i => Riiiii.enc (r7.1.2.2.2 i)) ((r7.2.1 : Nat) : Int) 0
  else
  (world.Same.f ((r11.2.1, r11.2.2.1, r11.2.2.2.1, r11.2.2.2.2.1, r11.2.2.2.2.2.1, (r11.2.2.2.2.2.2.1.1, (fun i => RiiiiiiiiiiL2.enc (r11.2.2.2.2.2.2.1.2 i))), (r11.2.2.2.2.2.2.2.1.1, (fun i => Riiiiiiii.enc (r11.2.2.2.2.2.2.2.1.2 i))), (r11.2.2.2.2.2.2.2.2.1, (fun i => Riiiii.enc (r11.2.2.2.2.2.2.2.2.2 i)))), (r7.1.1.1, r7.1.1.2.1, r7.1.1.2.2.1, r7.1.1.2.2.2.1, r7.1.1.2.2.2.2, (r7.2.1, (fun i => RiiiiiiiiiiL2.enc (r10 i))), (r7.1.2.1.1, (fun i => Riiiiiiii.enc (r7.1.2.1.2 i))), (r7.1.2.2.1, (fun i => Riiiii.enc (r7.1.2.2.2 i)))))).bind fun r51 =>
  bif r51 then
    (world.Right.f (r11.2.1, r11.2.2.1, r11.2.2.2.1, r11.2.2.2.2.1, r11.2.2.2.2.2.1, (r11.2.2.2.2.2.2.1.1, (fun i => RiiiiiiiiiiL2.enc (r11.2.2.2.2.2.2.1.2 i))), (r11.2.2.2.2.2.2.2.1.1, (fun i => Riiiiiiii.enc (r11.2.2.2.2.2.2.2.1.2 i))), (r11.2.2.2.2.2.2.2.2.1, (fun i => Riiiii.enc (r11.2.2.2.2.2.2.2.2.2 i))))).bind fun r52 =>
    bif r52 then
      (world.Same.f ((r2.1, r2.2.1, r2.2.2.1, r2.2.2.2.1, r2.2.2.2.2.1, (r2.2.2.2.2.2.1.1, (fun i => RiiiiiiiiiiL2.enc (r2.2.2.2.2.2.1.2 i))), (r2.2.2.2.2.2.2.1.1, (fun i => Riiiiiiii.enc (r2.2.2.2.2.2.2.1.2 i))), (r2.2.2.2.2.2.2.2.1, (fun i => Riiiii.enc (r2.2.2.2.2.2.2.2.2 i)))), (r5.1.1.1, r5.1.1.2.1, r5.1.1.2.2.1, r5.1.1.2.2.2.1, r5.1.1.2.2.2.2, (r5.2.1, (fun i => RiiiiiiiiiiL2.enc (r8 i))), (r5.1.2.1.1, (fun i => Riiiiiiii.enc (r5.1.2.1.2 i))), (r5.1.2.2.1, (fun i => Riiiii.enc (r5.1.2.2.2 i)))))).bind fun r53 =>
      some r53
    else
    some false
  else
  some false := by kernel_rfl
end Go.Proofs.YtghhecijpghfhaaGreat.E
