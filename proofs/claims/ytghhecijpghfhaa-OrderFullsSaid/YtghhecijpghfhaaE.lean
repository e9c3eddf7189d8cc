import Derived.Test.YtghhecijpghfhaaEb
import Derived.Test.YtghhecijpghfhaaIt
import Derived.Test.YtghhecijpghfhaaProg
namespace Go.Proofs.Ytghhecijpghfhaa.E
open Go Go.Proofs Go.Proofs.Ytghhecijpghfhaa Go.Proofs.Ytghhecijpghfhaa.Fw Go.RowKit
set_option maxRecDepth 100000
set_option linter.unusedVariables false
/-! ### bagatelle/order.All -/
noncomputable def order.All.cs : List (Nat × Fw.Summ) := [(8, order.Right.s), (12, world.Copy.s), (54, order.over.s), (13, order.Do.s)]
theorem order.All.cs_ok : SumsOk Try.prog order.All.cs := .cons order.Right.ok (.cons world.Copy.ok (.cons order.over.ok (.cons order.Do.ok (.nil))))
def order.All.hs : List (Nat × LHint) := [(0, { mat := [], live := [1, 2, 4, 14, 15, 16], ren := [] }), (2, { mat := [], live := [2, 4, 31, 32, 33], ren := [] })]
noncomputable def order.All.G : Ctx := ⟨Try.prog, sumAt order.All.cs, lookH order.All.hs⟩
noncomputable def order.All.g (k0 : Nat) (x : ((Int × Int × Int × Int × Int × (Nat × (Nat → List AV)) × (Nat × (Nat → List AV)) × (Nat × (Nat → List AV))) × (Nat × (Nat → (Int × Int × Int × Int × Int × Int × Int × Int × Int × Int × Int × Int × Int × Int × (Nat × (Nat → List AV))))))) : Option ((Int × Int × Int × Int × Int × (Nat × (Nat → (Int × Int × Int × Int × Int × Int × Int × Int × Int × Int × (Nat × (Nat → List AV))))) × (Nat × (Nat → (Int × Int × Int × Int × Int × Int × Int × Int))) × (Nat × (Nat → (Int × Int × Int × Int × Int)))) × Int) := evF order.All.G k0 Try.f17 ((tCons (tG (tCons (tI .i64) (tCons (tI .i64) (tCons (tI .i64) (tCons (tI .i64) (tCons (tI .i64) (tCons (tLz 11 (RiiiiiiiiiiL2.enc (0, 0, 0, 0, 0, 0, 0, 0, 0, 0, (0, fun _ => [])))) (tCons (tLz 8 (Riiiiiiii.enc (0, 0, 0, 0, 0, 0, 0, 0))) (tOne (tLz 5 (Riiiii.enc (0, 0, 0, 0, 0)))))))))))) (tOne (tTL RiiiiiiiiiiiiiiL2 15 (0, 0, 0, 0, 0, 0, 0, 0, 0, 0, 0, 0, 0, 0, (0, fun _ => []))))).enc x) (tT (tCons (tG (tCons (tI .i64) (tCons (tI .i64) (tCons (tI .i64) (tCons (tI .i64) (tCons (tI .i64) (tCons (tTL RiiiiiiiiiiL2 11 (0, 0, 0, 0, 0, 0, 0, 0, 0, 0, (0, fun _ => []))) (tCons (tTL Riiiiiiii 8 (0, 0, 0, 0, 0, 0, 0, 0)) (tOne (tTL Riiiii 5 (0, 0, 0, 0, 0))))))))))) (tOne (tI .i64)))).dec
noncomputable def order.All.f (x : ((Int × Int × Int × Int × Int × (Nat × (Nat → List AV)) × (Nat × (Nat → List AV)) × (Nat × (Nat → List AV))) × (Nat × (Nat → (Int × Int × Int × Int × Int × Int × Int × Int × Int × Int × Int × Int × Int × Int × (Nat × (Nat → List AV))))))) : Option ((Int × Int × Int × Int × Int × (Nat × (Nat → (Int × Int × Int × Int × Int × Int × Int × Int × Int × Int × (Nat × (Nat → List AV))))) × (Nat × (Nat → (Int × Int × Int × Int × Int × Int × Int × Int))) × (Nat × (Nat → (Int × Int × Int × Int × Int)))) × Int) := order.All.g (1000000) x
noncomputable def order.All.s : Fw.Summ := .mk' (tCons (tG (tCons (tI .i64) (tCons (tI .i64) (tCons (tI .i64) (tCons (tI .i64) (tCons (tI .i64) (tCons (tLz 11 (RiiiiiiiiiiL2.enc (0, 0, 0, 0, 0, 0, 0, 0, 0, 0, (0, fun _ => [])))) (tCons (tLz 8 (Riiiiiiii.enc (0, 0, 0, 0, 0, 0, 0, 0))) (tOne (tLz 5 (Riiiii.enc (0, 0, 0, 0, 0)))))))))))) (tOne (tTL RiiiiiiiiiiiiiiL2 15 (0, 0, 0, 0, 0, 0, 0, 0, 0, 0, 0, 0, 0, 0, (0, fun _ => []))))) (tT (tCons (tG (tCons (tI .i64) (tCons (tI .i64) (tCons (tI .i64) (tCons (tI .i64) (tCons (tI .i64) (tCons (tTL RiiiiiiiiiiL2 11 (0, 0, 0, 0, 0, 0, 0, 0, 0, 0, (0, fun _ => []))) (tCons (tTL Riiiiiiii 8 (0, 0, 0, 0, 0, 0, 0, 0)) (tOne (tTL Riiiii 5 (0, 0, 0, 0, 0))))))))))) (tOne (tI .i64)))) order.All.f
theorem order.All.ok : order.All.s.Ok Try.prog 17 :=
  summ_ok (hint := lookH order.All.hs) (fn := Try.f17) (fun x => 1000000) order.All.cs_ok (by kernel_rfl) (by kernel_rfl) (by kernel_rfl) (by kernel_rfl) (tCons_ok (tG_ok (tCons_ok (tI_ok _) (tCons_ok (tI_ok _) (tCons_ok (tI_ok _) (tCons_ok (tI_ok _) (tCons_ok (tI_ok _) (tCons_ok (tLz_ok _ _) (tCons_ok (tLz_ok _ _) (tOne_ok (tLz_ok _ _)))))))))) (tOne_ok (tTL_ok RiiiiiiiiiiiiiiL2_ok _ _))) (tT_ok (tCons_ok (tG_ok (tCons_ok (tI_ok _) (tCons_ok (tI_ok _) (tCons_ok (tI_ok _) (tCons_ok (tI_ok _) (tCons_ok (tI_ok _) (tCons_ok (tTL_ok RiiiiiiiiiiL2_ok _ _) (tCons_ok (tTL_ok Riiiiiiii_ok _ _) (tOne_ok (tTL_ok Riiiii_ok _ _)))))))))) (tOne_ok (tI_ok _)))) (fun _ => rfl)
noncomputable def order.All.l1 (k0 k1 : Nat) (v1 : Int) (v2 : Int) (v3 : Int) (v4 : Int) (v5 : Int) (v6 : Nat) (v7 : Nat → List AV) (v8 : Nat) (v9 : Nat → List AV) (v10 : Nat) (v11 : Nat → List AV) (v12 : Nat) (v13 : Nat → List AV) (v14 : Int) (v15 : Int) : Option ((Int × Int × Int × Int × Int × (Nat × (Nat → (Int × Int × Int × Int × Int × Int × Int × Int × Int × Int × (Nat × (Nat → List AV))))) × (Nat × (Nat → (Int × Int × Int × Int × Int × Int × Int × Int))) × (Nat × (Nat → (Int × Int × Int × Int × Int)))) × Int) :=
  evLoop (lookH order.All.hs 2) 2 (ev order.All.G k0 (codeAt [1, 1, 1, 1, 1, 0, 1, 0, 0] (bodyOf Try.f17)) 2) k1
  ⟨[.top, .top, .ptr 0 0 0, .top, .ptr 1 0 0, .top, .top, .top, .top, .top, .top, .top, .top, .top, .top, .top, .top, .top, .top, .top, .top, .top, .top, .top, .top, .top, .top, .top, .top, .top, .top, .lst 15 v12 none v13, .val (.int .i64 v14), .val (.int .i64 v15), .top, .top, .top, .top, .top, .top, .top, .top, .top, .top, .top], [.live ⟨false, 49, 8, 1, fun _ => [.val (.int .i64 v1), .val (.int .i64 v2), .val (.int .i64 v3), .val (.int .i64 v4), .val (.int .i64 v5), .lst 11 v6 none v7, .lst 8 v8 none v9, .lst 5 v10 none v11], none⟩, .live ⟨false, 49, 8, 1, fun _ => [.val (.int .i64 0), .val (.int .i64 0), .val (.int .i64 0), .val (.int .i64 0), .val (.int .i64 0), .val (.slice none 0 0), .val (.slice none 0 0), .val (.slice none 0 0)], none⟩]⟩
  (kBlock 2 (kSeq order.All.G k0 (codeAt [1, 1, 1, 1, 1, 1] (bodyOf Try.f17)) 0 (kFin order.All.G Try.f17 (tT (tCons (tG (tCons (tI .i64) (tCons (tI .i64) (tCons (tI .i64) (tCons (tI .i64) (tCons (tI .i64) (tCons (tTL RiiiiiiiiiiL2 11 (0, 0, 0, 0, 0, 0, 0, 0, 0, 0, (0, fun _ => []))) (tCons (tTL Riiiiiiii 8 (0, 0, 0, 0, 0, 0, 0, 0)) (tOne (tTL Riiiii 5 (0, 0, 0, 0, 0))))))))))) (tOne (tI .i64)))).dec)))
noncomputable def order.All.l0 (k0 k1 : Nat) (v1 : Int) (v2 : Int) (v3 : Int) (v4 : Int) (v5 : Int) (v6 : Nat) (v7 : Nat → List AV) (v8 : Nat) (v9 : Nat → List AV) (v10 : Nat) (v11 : Nat → List AV) (v12 : Nat) (v13 : Nat → List AV) (v14 : Int) (v15 : Int) : Option ((Int × Int × Int × Int × Int × (Nat × (Nat → (Int × Int × Int × Int × Int × Int × Int × Int × Int × Int × (Nat × (Nat → List AV))))) × (Nat × (Nat → (Int × Int × Int × Int × Int × Int × Int × Int))) × (Nat × (Nat → (Int × Int × Int × Int × Int)))) × Int) :=
  evLoop (lookH order.All.hs 0) 2 (ev order.All.G k0 (codeAt [1, 1, 0, 1, 0, 0] (bodyOf Try.f17)) 0) k1
  ⟨[.top, .lst 15 v12 none v13, .ptr 0 0 0, .top, .ptr 1 0 0, .top, .top, .top, .top, .top, .top, .top, .top, .top, .lst 15 v12 none v13, .val (.int .i64 v14), .val (.int .i64 v15), .top, .top, .top, .top, .top, .top, .top, .top, .top, .top, .top, .top, .top, .top, .top, .top, .top, .top, .top, .top, .top, .top, .top, .top, .top, .top, .top, .top], [.live ⟨false, 49, 8, 1, fun _ => [.val (.int .i64 v1), .val (.int .i64 v2), .val (.int .i64 v3), .val (.int .i64 v4), .val (.int .i64 v5), .lst 11 v6 none v7, .lst 8 v8 none v9, .lst 5 v10 none v11], none⟩, .live ⟨false, 49, 8, 1, fun _ => [.val (.int .i64 0), .val (.int .i64 0), .val (.int .i64 0), .val (.int .i64 0), .val (.int .i64 0), .val (.slice none 0 0), .val (.slice none 0 0), .val (.slice none 0 0)], none⟩]⟩
  (kBlock 0 (kSeq order.All.G k0 (codeAt [1, 1, 1] (bodyOf Try.f17)) 0 (kFin order.All.G Try.f17 (tT (tCons (tG (tCons (tI .i64) (tCons (tI .i64) (tCons (tI .i64) (tCons (tI .i64) (tCons (tI .i64) (tCons (tTL RiiiiiiiiiiL2 11 (0, 0, 0, 0, 0, 0, 0, 0, 0, 0, (0, fun _ => []))) (tCons (tTL Riiiiiiii 8 (0, 0, 0, 0, 0, 0, 0, 0)) (tOne (tTL Riiiii 5 (0, 0, 0, 0, 0))))))))))) (tOne (tI .i64)))).dec)))
theorem order.All.l1_eq (k0 k1 : Nat) (v1 : Int) (v2 : Int) (v3 : Int) (v4 : Int) (v5 : Int) (v6 : Nat) (v7 : Nat → (Int × Int × Int × Int × Int × Int × Int × Int × Int × Int × (Nat × (Nat → List AV)))) (v8 : Nat) (v9 : Nat → (Int × Int × Int × Int × Int × Int × Int × Int)) (v10 : Nat) (v11 : Nat → (Int × Int × Int × Int × Int)) (v12 : Nat) (v13 : Nat → (Int × Int × Int × Int × Int × Int × Int × Int × Int × Int × Int × Int × Int × Int × (Nat × (Nat → List AV)))) (v14 : Int) (v15 : Int) : order.All.l1 k0 (k1 + 1) v1 v2 v3 v4 v5 v6 (fun i => RiiiiiiiiiiL2.enc (v7 i)) v8 (fun i => Riiiiiiii.enc (v9 i)) v10 (fun i => Riiiii.enc (v11 i)) v12 (fun i => RiiiiiiiiiiiiiiL2.enc (v13 i)) v14 v15 =
  bif (decide (v15 < v14)) then
    bif ((decide (0 ≤ v15)) && (decide (v15 < ((v12 : Nat) : Int)))) then
    (order.over.f ((v1, v2, v3, v4, v5, (v6, (fun i => RiiiiiiiiiiL2.enc (v7 i))), (v8, (fun i => Riiiiiiii.enc (v9 i))), (v10, (fun i => Riiiii.enc (v11 i)))), ((v13 (Int.toNat v15)).1, (v13 (Int.toNat v15)).2.1, (v13 (Int.toNat v15)).2.2.1, (v13 (Int.toNat v15)).2.2.2.1, (v13 (Int.toNat v15)).2.2.2.2.1, (v13 (Int.toNat v15)).2.2.2.2.2.1, (v13 (Int.toNat v15)).2.2.2.2.2.2.1, (v13 (Int.toNat v15)).2.2.2.2.2.2.2.1, (v13 (Int.toNat v15)).2.2.2.2.2.2.2.2.1, (v13 (Int.toNat v15)).2.2.2.2.2.2.2.2.2.1, (v13 (Int.toNat v15)).2.2.2.2.2.2.2.2.2.2.1, (v13 (Int.toNat v15)).2.2.2.2.2.2.2.2.2.2.2.1, (v13 (Int.toNat v15)).2.2.2.2.2.2.2.2.2.2.2.2.1, (v13 (Int.toNat v15)).2.2.2.2.2.2.2.2.2.2.2.2.2.1, ((v13 (Int.toNat v15)).2.2.2.2.2.2.2.2.2.2.2.2.2.2.1, (v13 (Int.toNat v15)).2.2.2.2.2.2.2.2.2.2.2.2.2.2.2)))).bind fun r3 =>
    bif r3 then
      (tT (tCons (tG (tCons (tI .i64) (tCons (tI .i64) (tCons (tI .i64) (tCons (tI .i64) (tCons (tI .i64) (tCons (tTL RiiiiiiiiiiL2 11 (0, 0, 0, 0, 0, 0, 0, 0, 0, 0, (0, fun _ => []))) (tCons (tTL Riiiiiiii 8 (0, 0, 0, 0, 0, 0, 0, 0)) (tOne (tTL Riiiii 5 (0, 0, 0, 0, 0))))))))))) (tOne (tI .i64)))).dec (.tup [.agg [.val (.int .i64 0), .val (.int .i64 0), .val (.int .i64 0), .val (.int .i64 0), .val (.int .i64 0), .val (.slice none 0 0), .val (.slice none 0 0), .val (.slice none 0 0)], .val (.int .i64 3)])
    else
    (order.Do.f ((v1, v2, v3, v4, v5, (v6, (fun i => RiiiiiiiiiiL2.enc (v7 i))), (v8, (fun i => Riiiiiiii.enc (v9 i))), (v10, (fun i => Riiiii.enc (v11 i)))), ((v13 (Int.toNat v15)).1, (v13 (Int.toNat v15)).2.1, (v13 (Int.toNat v15)).2.2.1, (v13 (Int.toNat v15)).2.2.2.1, (v13 (Int.toNat v15)).2.2.2.2.1, (v13 (Int.toNat v15)).2.2.2.2.2.1, (v13 (Int.toNat v15)).2.2.2.2.2.2.1, (v13 (Int.toNat v15)).2.2.2.2.2.2.2.1, (v13 (Int.toNat v15)).2.2.2.2.2.2.2.2.1, (v13 (Int.toNat v15)).2.2.2.2.2.2.2.2.2.1, (v13 (Int.toNat v15)).2.2.2.2.2.2.2.2.2.2.1, (v13 (Int.toNat v15)).2.2.2.2.2.2.2.2.2.2.2.1, (v13 (Int.toNat v15)).2.2.2.2.2.2.2.2.2.2.2.2.1, (v13 (Int.toNat v15)).2.2.2.2.2.2.2.2.2.2.2.2.2.1, ((v13 (Int.toNat v15)).2.2.2.2.2.2.2.2.2.2.2.2.2.2.1, (v13 (Int.toNat v15)).2.2.2.2.2.2.2.2.2.2.2.2.2.2.2)))).bind fun r4 =>
    order.All.l1 k0 k1 r4.2.1 r4.2.2.1 r4.2.2.2.1 r4.2.2.2.2.1 r4.2.2.2.2.2.1 r4.2.2.2.2.2.2.1.1 (fun i => RiiiiiiiiiiL2.enc (r4.2.2.2.2.2.2.1.2 i)) r4.2.2.2.2.2.2.2.1.1 (fun i => Riiiiiiii.enc (r4.2.2.2.2.2.2.2.1.2 i)) r4.2.2.2.2.2.2.2.2.1 (fun i => Riiiii.enc (r4.2.2.2.2.2.2.2.2.2 i)) v12 (fun i => RiiiiiiiiiiiiiiL2.enc (v13 i)) v14 (IntKind.i64.wrap (v15 + 1))
    else none
  else
  (tT (tCons (tG (tCons (tI .i64) (tCons (tI .i64) (tCons (tI .i64) (tCons (tI .i64) (tCons (tI .i64) (tCons (tTL RiiiiiiiiiiL2 11 (0, 0, 0, 0, 0, 0, 0, 0, 0, 0, (0, fun _ => []))) (tCons (tTL Riiiiiiii 8 (0, 0, 0, 0, 0, 0, 0, 0)) (tOne (tTL Riiiii 5 (0, 0, 0, 0, 0))))))))))) (tOne (tI .i64)))).dec (.tup [.agg [.val (.int .i64 v1), .val (.int .i64 v2), .val (.int .i64 v3), .val (.int .i64 v4), .val (.int .i64 v5), .lst 11 v6 none (fun i => RiiiiiiiiiiL2.enc (v7 i)), .lst 8 v8 none (fun i => Riiiiiiii.enc (v9 i)), .lst 5 v10 none (fun i => Riiiii.enc (v11 i))], .val (.int .i64 0)]) := by kernel_rfl
theorem order.All.l0_eq (k0 k1 : Nat) (v1 : Int) (v2 : Int) (v3 : Int) (v4 : Int) (v5 : Int) (v6 : Nat) (v7 : Nat → (Int × Int × Int × Int × Int × Int × Int × Int × Int × Int × (Nat × (Nat → List AV)))) (v8 : Nat) (v9 : Nat → (Int × Int × Int × Int × Int × Int × Int × Int)) (v10 : Nat) (v11 : Nat → (Int × Int × Int × Int × Int)) (v12 : Nat) (v13 : Nat → (Int × Int × Int × Int × Int × Int × Int × Int × Int × Int × Int × Int × Int × Int × (Nat × (Nat → List AV)))) (v14 : Int) (v15 : Int) : order.All.l0 k0 (k1 + 1) v1 v2 v3 v4 v5 v6 (fun i => RiiiiiiiiiiL2.enc (v7 i)) v8 (fun i => Riiiiiiii.enc (v9 i)) v10 (fun i => Riiiii.enc (v11 i)) v12 (fun i => RiiiiiiiiiiiiiiL2.enc (v13 i)) v14 v15 =
  bif (decide (v15 < v14)) then
    bif ((decide (0 ≤ v15)) && (decide (v15 < ((v12 : Nat) : Int)))) then
    (order.Right.f ((v13 (Int.toNat v15)).1, (v13 (Int.toNat v15)).2.1, (v13 (Int.toNat v15)).2.2.1, (v13 (Int.toNat v15)).2.2.2.1, (v13 (Int.toNat v15)).2.2.2.2.1, (v13 (Int.toNat v15)).2.2.2.2.2.1, (v13 (Int.toNat v15)).2.2.2.2.2.2.1, (v13 (Int.toNat v15)).2.2.2.2.2.2.2.1, (v13 (Int.toNat v15)).2.2.2.2.2.2.2.2.1, (v13 (Int.toNat v15)).2.2.2.2.2.2.2.2.2.1, (v13 (Int.toNat v15)).2.2.2.2.2.2.2.2.2.2.1, (v13 (Int.toNat v15)).2.2.2.2.2.2.2.2.2.2.2.1, (v13 (Int.toNat v15)).2.2.2.2.2.2.2.2.2.2.2.2.1, (v13 (Int.toNat v15)).2.2.2.2.2.2.2.2.2.2.2.2.2.1, ((v13 (Int.toNat v15)).2.2.2.2.2.2.2.2.2.2.2.2.2.2.1, (v13 (Int.toNat v15)).2.2.2.2.2.2.2.2.2.2.2.2.2.2.2))).bind fun r1 =>
    bif (!r1) then
      (tT (tCons (tG (tCons (tI .i64) (tCons (tI .i64) (tCons (tI .i64) (tCons (tI .i64) (tCons (tI .i64) (tCons (tTL RiiiiiiiiiiL2 11 (0, 0, 0, 0, 0, 0, 0, 0, 0, 0, (0, fun _ => []))) (tCons (tTL Riiiiiiii 8 (0, 0, 0, 0, 0, 0, 0, 0)) (tOne (tTL Riiiii 5 (0, 0, 0, 0, 0))))))))))) (tOne (tI .i64)))).dec (.tup [.agg [.val (.int .i64 0), .val (.int .i64 0), .val (.int .i64 0), .val (.int .i64 0), .val (.int .i64 0), .val (.slice none 0 0), .val (.slice none 0 0), .val (.slice none 0 0)], .val (.int .i64 2)])
    else
    order.All.l0 k0 k1 v1 v2 v3 v4 v5 v6 (fun i => RiiiiiiiiiiL2.enc (v7 i)) v8 (fun i => Riiiiiiii.enc (v9 i)) v10 (fun i => Riiiii.enc (v11 i)) v12 (fun i => RiiiiiiiiiiiiiiL2.enc (v13 i)) v14 (IntKind.i64.wrap (v15 + 1))
    else none
  else
  bif (decide (v1 ≥ 4611686018427387904)) then
    (tT (tCons (tG (tCons (tI .i64) (tCons (tI .i64) (tCons (tI .i64) (tCons (tI .i64) (tCons (tI .i64) (tCons (tTL RiiiiiiiiiiL2 11 (0, 0, 0, 0, 0, 0, 0, 0, 0, 0, (0, fun _ => []))) (tCons (tTL Riiiiiiii 8 (0, 0, 0, 0, 0, 0, 0, 0)) (tOne (tTL Riiiii 5 (0, 0, 0, 0, 0))))))))))) (tOne (tI .i64)))).dec (.tup [.agg [.val (.int .i64 0), .val (.int .i64 0), .val (.int .i64 0), .val (.int .i64 0), .val (.int .i64 0), .val (.slice none 0 0), .val (.slice none 0 0), .val (.slice none 0 0)], .val (.int .i64 3)])
  else
  (world.Copy.f (v1, v2, v3, v4, v5, (v6, (fun i => RiiiiiiiiiiL2.enc (v7 i))), (v8, (fun i => Riiiiiiii.enc (v9 i))), (v10, (fun i => Riiiii.enc (v11 i))))).bind fun r2 =>
  order.All.l1 k0 k0 r2.1 r2.2.1 r2.2.2.1 r2.2.2.2.1 r2.2.2.2.2.1 r2.2.2.2.2.2.1.1 (fun i => RiiiiiiiiiiL2.enc (r2.2.2.2.2.2.1.2 i)) r2.2.2.2.2.2.2.1.1 (fun i => Riiiiiiii.enc (r2.2.2.2.2.2.2.1.2 i)) r2.2.2.2.2.2.2.2.1 (fun i => Riiiii.enc (r2.2.2.2.2.2.2.2.2 i)) v12 (fun i => RiiiiiiiiiiiiiiL2.enc (v13 i)) ((v12 : Nat) : Int) 0 := by kernel_rfl
theorem order.All.eq (k0 : Nat) (p0_0 : Int) (p0_1 : Int) (p0_2 : Int) (p0_3 : Int) (p0_4 : Int) (p0_5_n : Nat) (p0_5_g : Nat → (Int × Int × Int × Int × Int × Int × Int × Int × Int × Int × (Nat × (Nat → List AV)))) (p0_6_n : Nat) (p0_6_g : Nat → (Int × Int × Int × Int × Int × Int × Int × Int)) (p0_7_n : Nat) (p0_7_g : Nat → (Int × Int × Int × Int × Int)) (p1_n : Nat) (p1_g : Nat → (Int × Int × Int × Int × Int × Int × Int × Int × Int × Int × Int × Int × Int × Int × (Nat × (Nat → List AV)))) : order.All.g k0 ((p0_0, p0_1, p0_2, p0_3, p0_4, (p0_5_n, (fun i => RiiiiiiiiiiL2.enc (p0_5_g i))), (p0_6_n, (fun i => Riiiiiiii.enc (p0_6_g i))), (p0_7_n, (fun i => Riiiii.enc (p0_7_g i)))), (p1_n, p1_g)) =
  bif (decide (((p1_n : Nat) : Int) > 64)) then
    (tT (tCons (tG (tCons (tI .i64) (tCons (tI .i64) (tCons (tI .i64) (tCons (tI .i64) (tCons (tI .i64) (tCons (tTL RiiiiiiiiiiL2 11 (0, 0, 0, 0, 0, 0, 0, 0, 0, 0, (0, fun _ => []))) (tCons (tTL Riiiiiiii 8 (0, 0, 0, 0, 0, 0, 0, 0)) (tOne (tTL Riiiii 5 (0, 0, 0, 0, 0))))))))))) (tOne (tI .i64)))).dec (.tup [.agg [.val (.int .i64 0), .val (.int .i64 0), .val (.int .i64 0), .val (.int .i64 0), .val (.int .i64 0), .val (.slice none 0 0), .val (.slice none 0 0), .val (.slice none 0 0)], .val (.int .i64 3)])
  else
  order.All.l0 k0 k0 p0_0 p0_1 p0_2 p0_3 p0_4 p0_5_n (fun i => RiiiiiiiiiiL2.enc (p0_5_g i)) p0_6_n (fun i => Riiiiiiii.enc (p0_6_g i)) p0_7_n (fun i => Riiiii.enc (p0_7_g i)) p1_n (fun i => RiiiiiiiiiiiiiiL2.enc (p1_g i)) ((p1_n : Nat) : Int) 0 := by kernel_rfl
/-! ### bagatelle/bagatellelaw10.fit -/
noncomputable def law10.fit.cs : List (Nat × Fw.Summ) := [(15, world.New.s), (17, order.All.s), (8, order.Right.s)]
theorem law10.fit.cs_ok : SumsOk Try.prog law10.fit.cs := .cons world.New.ok (.cons order.All.ok (.cons order.Right.ok (.nil)))
def law10.fit.hs : List (Nat × LHint) := []
noncomputable def law10.fit.G : Ctx := ⟨Try.prog, sumAt law10.fit.cs, lookH law10.fit.hs⟩
noncomputable def law10.fit.f (x : Unit) : Option Bool := evF law10.fit.G 0 Try.f6 (tNil.enc x) tB.dec
noncomputable def law10.fit.s : Fw.Summ := .mk' tNil tB law10.fit.f
theorem law10.fit.ok : law10.fit.s.Ok Try.prog 6 :=
  summ_ok (hint := lookH law10.fit.hs) (fn := Try.f6) (fun x => 0) law10.fit.cs_ok (by kernel_rfl) (by kernel_rfl) (by kernel_rfl) (by kernel_rfl) tNil_ok tB_ok (fun _ => rfl)
theorem law10.fit.eq  : law10.fit.f () =
  (world.New.f ()).bind fun r1 =>
  ((tCons (tG (tCons (tI .i64) (tCons (tI .i64) (tCons (tI .i64) (tCons (tI .i64) (tCons (tI .i64) (tCons (tLz 11 (RiiiiiiiiiiL2.enc (0, 0, 0, 0, 0, 0, 0, 0, 0, 0, (0, fun _ => [])))) (tCons (tLz 8 (Riiiiiiii.enc (0, 0, 0, 0, 0, 0, 0, 0))) (tOne (tLz 5 (Riiiii.enc (0, 0, 0, 0, 0)))))))))))) (tOne (tTL RiiiiiiiiiiiiiiL2 15 (0, 0, 0, 0, 0, 0, 0, 0, 0, 0, 0, 0, 0, 0, (0, fun _ => []))))).dec [.agg [.val (.int .i64 r1.1), .val (.int .i64 r1.2.1), .val (.int .i64 r1.2.2.1), .val (.int .i64 r1.2.2.2.1), .val (.int .i64 r1.2.2.2.2.1), .lst 11 r1.2.2.2.2.2.1.1 none (fun i => RiiiiiiiiiiL2.enc (r1.2.2.2.2.2.1.2 i)), .lst 8 r1.2.2.2.2.2.2.1.1 none (fun i => Riiiiiiii.enc (r1.2.2.2.2.2.2.1.2 i)), .lst 5 r1.2.2.2.2.2.2.2.1 none (fun i => Riiiii.enc (r1.2.2.2.2.2.2.2.2 i))], .lst 15 1 (some 1) (fun i => cloL (List.getD [[.val (.int .i64 6), .val (.int .i64 0), .val (.int .i64 0), .val (.int .i64 0), .val (.int .i64 0), .val (.int .i64 0), .val (.int .i64 0), .val (.int .i64 (-4294967296)), .val (.int .i64 0), .val (.int .i64 0), .val (.int .i64 0), .val (.int .i64 0), .val (.int .i64 0), .val (.int .i64 0), .val (.slice none 0 0)]] i ([.val (.int .i64 0), .val (.int .i64 0), .val (.int .i64 0), .val (.int .i64 0), .val (.int .i64 0), .val (.int .i64 0), .val (.int .i64 0), .val (.int .i64 0), .val (.int .i64 0), .val (.int .i64 0), .val (.int .i64 0), .val (.int .i64 0), .val (.int .i64 0), .val (.int .i64 0), .val (.slice none 0 0)])))]).bind fun r3 =>
  (order.All.f r3).bind fun r2 =>
  bif (r2.2 == 0) then
    bif (r2.1.2.2.2.2.1 == (-4294967296)) then
      (order.Right.f (6, 1, 0, 0, 0, 0, 0, 0, 0, 0, 0, 0, 0, 0, (0, fun _ => Rii.enc (0, 0)))).bind fun r4 =>
      bif (!r4) then
        (order.Right.f (0, 0, 0, 0, 0, 0, 0, 0, 0, 0, 0, 0, 0, 0, (0, fun _ => Rii.enc (0, 0)))).bind fun r5 =>
        some (!r5)
      else
      some false
    else
    some false
  else
  some false := by kernel_rfl
/-! ### bagatelle/shape.Box -/
noncomputable def shape.Box.cs : List (Nat × Fw.Summ) := [(58, fix.Neg.s)]
theorem shape.Box.cs_ok : SumsOk Try.prog shape.Box.cs := .cons fix.Neg.ok (.nil)
def shape.Box.hs : List (Nat × LHint) := []
noncomputable def shape.Box.G : Ctx := ⟨Try.prog, sumAt shape.Box.cs, lookH shape.Box.hs⟩
noncomputable def shape.Box.f (x : (Int × Int)) : Option (Int × Int × (Nat × (Nat → (Int × Int)))) := evF shape.Box.G 0 Try.f96 ((tCons (tI .i64) (tOne (tI .i64))).enc x) (tG (tCons (tI .i64) (tCons (tI .i64) (tOne (tTL Rii 2 (0, 0)))))).dec
noncomputable def shape.Box.s : Fw.Summ := .mk' (tCons (tI .i64) (tOne (tI .i64))) (tG (tCons (tI .i64) (tCons (tI .i64) (tOne (tTL Rii 2 (0, 0)))))) shape.Box.f
theorem shape.Box.ok : shape.Box.s.Ok Try.prog 96 :=
  summ_ok (hint := lookH shape.Box.hs) (fn := Try.f96) (fun x => 0) shape.Box.cs_ok (by kernel_rfl) (by kernel_rfl) (by kernel_rfl) (by kernel_rfl) (tCons_ok (tI_ok _) (tOne_ok (tI_ok _))) (tG_ok (tCons_ok (tI_ok _) (tCons_ok (tI_ok _) (tOne_ok (tTL_ok Rii_ok _ _))))) (fun _ => rfl)
theorem shape.Box.eq (p0 : Int) (p1 : Int) : shape.Box.f (p0, p1) =
  (fix.Neg.f p0).bind fun r1 =>
  (fix.Neg.f p1).bind fun r2 =>
  (fix.Neg.f p1).bind fun r3 =>
  (fix.Neg.f p0).bind fun r4 =>
  (tG (tCons (tI .i64) (tCons (tI .i64) (tOne (tTL Rii 2 (0, 0)))))).dec (.agg [.val (.int .i64 2), .val (.int .i64 0), .lst 2 4 (some 4) (fun i => cloL (List.getD (List.map Rii.enc [(r1, r2), (p0, r3), (p0, p1), (r4, p1)]) i (Rii.enc (0, 0))))]) := by kernel_rfl
/-! ### bagatelle/bagatellelaw04.ring -/
noncomputable def law04.ring.cs : List (Nat × Fw.Summ) := []
theorem law04.ring.cs_ok : SumsOk Try.prog law04.ring.cs := .nil
def law04.ring.hs : List (Nat × LHint) := []
noncomputable def law04.ring.G : Ctx := ⟨Try.prog, sumAt law04.ring.cs, lookH law04.ring.hs⟩
noncomputable def law04.ring.f (x : Unit) : Option (Nat × (Nat → (Int × Int))) := evF law04.ring.G 0 Try.f97 (tNil.enc x) (tTL Rii 2 (0, 0)).dec
noncomputable def law04.ring.s : Fw.Summ := .mk' tNil (tTL Rii 2 (0, 0)) law04.ring.f
theorem law04.ring.ok : law04.ring.s.Ok Try.prog 97 :=
  summ_ok (hint := lookH law04.ring.hs) (fn := Try.f97) (fun x => 0) law04.ring.cs_ok (by kernel_rfl) (by kernel_rfl) (by kernel_rfl) (by kernel_rfl) tNil_ok (tTL_ok Rii_ok _ _) (fun _ => rfl)
theorem law04.ring.eq  : law04.ring.f () =
  (tTL Rii 2 (0, 0)).dec (.lst 2 10 (some 10) (fun i => cloL (List.getD (List.map Rii.enc [(65, 0), (52, 39), (25, 60), ((-25), 60), ((-52), 39), ((-65), 0), ((-52), (-39)), ((-25), (-60)), (25, (-60)), (52, (-39))]) i (Rii.enc (0, 0))))) := by kernel_rfl
/-! ### (bagatelle/bagatellelaw04.Seed).Shape -/
noncomputable def law04.Seed.Shape.cs : List (Nat × Fw.Summ) := [(96, shape.Box.s), (97, law04.ring.s)]
theorem law04.Seed.Shape.cs_ok : SumsOk Try.prog law04.Seed.Shape.cs := .cons shape.Box.ok (.cons law04.ring.ok (.nil))
def law04.Seed.Shape.hs : List (Nat × LHint) := [(1, { mat := [(.cell 2 0 2, 24)], live := [1, 2, 3, 4, 5, 6, 39, 40], ren := [(.cell 2 0 2, 3)] })]
noncomputable def law04.Seed.Shape.G : Ctx := ⟨Try.prog, sumAt law04.Seed.Shape.cs, lookH law04.Seed.Shape.hs⟩
noncomputable def law04.Seed.Shape.g (k0 : Nat) (x : (Int × Int × Int × Int)) : Option (Int × Int × (Nat × (Nat → (Int × Int)))) := evF law04.Seed.Shape.G k0 Try.f79 ((tOne (tG (tCons (tI .i64) (tCons (tI .i64) (tCons (tI .i64) (tOne (tI .i64))))))).enc x) (tG (tCons (tI .i64) (tCons (tI .i64) (tOne (tTL Rii 2 (0, 0)))))).dec
noncomputable def law04.Seed.Shape.f (x : (Int × Int × Int × Int)) : Option (Int × Int × (Nat × (Nat → (Int × Int)))) := law04.Seed.Shape.g (1000000) x
noncomputable def law04.Seed.Shape.s : Fw.Summ := .mk' (tOne (tG (tCons (tI .i64) (tCons (tI .i64) (tCons (tI .i64) (tOne (tI .i64))))))) (tG (tCons (tI .i64) (tCons (tI .i64) (tOne (tTL Rii 2 (0, 0)))))) law04.Seed.Shape.f
theorem law04.Seed.Shape.ok : law04.Seed.Shape.s.Ok Try.prog 79 :=
  summ_ok (hint := lookH law04.Seed.Shape.hs) (fn := Try.f79) (fun x => 1000000) law04.Seed.Shape.cs_ok (by kernel_rfl) (by kernel_rfl) (by kernel_rfl) (by kernel_rfl) (tOne_ok (tG_ok (tCons_ok (tI_ok _) (tCons_ok (tI_ok _) (tCons_ok (tI_ok _) (tOne_ok (tI_ok _))))))) (tG_ok (tCons_ok (tI_ok _) (tCons_ok (tI_ok _) (tOne_ok (tTL_ok Rii_ok _ _))))) (fun _ => rfl)
noncomputable def law04.Seed.Shape.l2 (k0 k1 : Nat) (v1 : Int) (v2 : Int) (v3 : Int) (v4 : Int) (v5 : Nat) (v6 : Nat → List AV) (v7 : Int) (v8 : Int) (v9 : Nat) (v10 : Nat → List AV) (v11 : Int) : Option (Int × Int × (Nat × (Nat → (Int × Int)))) :=
  evLoop (lookH law04.Seed.Shape.hs 1) 4 (ev law04.Seed.Shape.G k0 (codeAt [1, 1, 1, 1, 1, 1, 0, 1, 0, 0] (bodyOf Try.f79)) 1) k1
  ⟨[.top, .ptr 0 0 0, .ptr 1 0 0, .val (.int .i64 v7), .val (.int .i64 v8), .ptr 2 0 0, .lst 2 v9 none v10, .top, .top, .top, .top, .top, .top, .top, .top, .top, .top, .top, .top, .top, .top, .top, .top, .top, .top, .top, .top, .top, .top, .top, .top, .top, .top, .top, .top, .top, .top, .top, .top, .val (.int .i64 v8), .val (.int .i64 v11), .top, .top, .top, .top, .top, .top, .top, .top, .top, .top, .top, .top, .top, .top, .top, .top, .top, .top, .top, .top, .top, .top, .top, .top, .top, .top, .top, .top, .top, .top, .top, .top], [.live ⟨false, 31, 4, 1, fun _ => [.val (.int .i64 v1), .val (.int .i64 v2), .val (.int .i64 v3), .val (.int .i64 v4)], none⟩, .live ⟨false, 27, 3, 1, fun _ => [.val (.int .i64 0), .val (.int .i64 0), .val (.slice none 0 0)], none⟩, .live ⟨false, 27, 3, 1, fun _ => [.val (.int .i64 2), .val (.int .i64 0), .slc 3 0 none none], none⟩, .live ⟨true, 24, 2, v5, v6, none⟩]⟩
  (kBlock 1 (kSeq law04.Seed.Shape.G k0 (codeAt [1, 1, 1, 1, 1, 1, 1] (bodyOf Try.f79)) 0 (kFin law04.Seed.Shape.G Try.f79 (tG (tCons (tI .i64) (tCons (tI .i64) (tOne (tTL Rii 2 (0, 0)))))).dec)))
theorem law04.Seed.Shape.l2_eq (k0 k1 : Nat) (v1 : Int) (v2 : Int) (v3 : Int) (v4 : Int) (v5 : Nat) (v6 : Nat → (Int × Int)) (v7 : Int) (v8 : Int) (v9 : Nat) (v10 : Nat → (Int × Int)) (v11 : Int) : law04.Seed.Shape.l2 k0 (k1 + 1) v1 v2 v3 v4 v5 (fun i => Rii.enc (v6 i)) v7 v8 v9 (fun i => Rii.enc (v10 i)) v11 =
  bif (decide (v11 < v8)) then
    bif (decide (v8 ≠ 0)) then
    bif ((decide (0 ≤ (Int.tmod (IntKind.i64.wrap ((IntKind.i64.wrap (Int.tdiv (IntKind.i64.wrap (v11 * 10)) v8)) + (Go.bits .and .i64 v4 255))) 10))) && (decide ((Int.tmod (IntKind.i64.wrap ((IntKind.i64.wrap (Int.tdiv (IntKind.i64.wrap (v11 * 10)) v8)) + (Go.bits .and .i64 v4 255))) 10) < ((v9 : Nat) : Int)))) then
    bif (decide ((v5 + 1) * 16 ≤ 140737488355328)) then
    law04.Seed.Shape.l2 k0 k1 v1 v2 v3 v4 (v5 + 1) (fun i => renL (lookF [(19, 3)] 4) (if i = v5 then Rii.enc ((IntKind.i64.wrap (Int.tdiv (IntKind.i64.wrap ((v10 (Int.toNat (Int.tmod (IntKind.i64.wrap ((IntKind.i64.wrap (Int.tdiv (IntKind.i64.wrap (v11 * 10)) v8)) + (Go.bits .and .i64 v4 255))) 10))).1 * v7)) 64)), (IntKind.i64.wrap (Int.tdiv (IntKind.i64.wrap ((v10 (Int.toNat (Int.tmod (IntKind.i64.wrap ((IntKind.i64.wrap (Int.tdiv (IntKind.i64.wrap (v11 * 10)) v8)) + (Go.bits .and .i64 v4 255))) 10))).2 * v7)) 64))) else Rii.enc (v6 i))) v7 v8 v9 (fun i => Rii.enc (v10 i)) (IntKind.i64.wrap (v11 + 1))
    else none
    else none
    else none
  else
  (tG (tCons (tI .i64) (tCons (tI .i64) (tOne (tTL Rii 2 (0, 0)))))).dec (.agg [.val (.int .i64 2), .val (.int .i64 0), .lst 2 v5 none (fun i => Rii.enc (v6 i))]) := by kernel_rfl
theorem law04.Seed.Shape.eq (k0 : Nat) (p0_0 : Int) (p0_1 : Int) (p0_2 : Int) (p0_3 : Int) : law04.Seed.Shape.g k0 (p0_0, p0_1, p0_2, p0_3) =
  bif ((Go.bits .and .i64 p0_0 3) == 0) then
    (tG (tCons (tI .i64) (tCons (tI .i64) (tOne (tTL Rii 2 (0, 0)))))).dec (.agg [.val (.int .i64 1), .val (.int .i64 (IntKind.i64.wrap (Int.tdiv (IntKind.i64.wrap ((IntKind.i64.wrap (1 + (Go.bits .and .i64 p0_2 63))) * 4294967296)) 16))), .val (.slice none 0 0)])
  else
  bif ((Go.bits .and .i64 p0_0 3) == 1) then
    (shape.Box.f ((IntKind.i64.wrap (Int.tdiv (IntKind.i64.wrap ((IntKind.i64.wrap (1 + (Go.bits .and .i64 p0_2 63))) * 4294967296)) 16)), (IntKind.i64.wrap (Int.tdiv (IntKind.i64.wrap ((IntKind.i64.wrap (1 + (Go.bits .and .i64 p0_3 31))) * 4294967296)) 16)))).bind fun r1 =>
    (tG (tCons (tI .i64) (tCons (tI .i64) (tOne (tTL Rii 2 (0, 0)))))).dec (.agg [.val (.int .i64 r1.1), .val (.int .i64 r1.2.1), .lst 2 r1.2.2.1 none (fun i => Rii.enc (r1.2.2.2 i))])
  else
  (law04.ring.f ()).bind fun r2 =>
  law04.Seed.Shape.l2 k0 k0 p0_0 p0_1 p0_2 p0_3 0 (fun _ => Rii.enc (0, 0)) (IntKind.i64.wrap (Int.tdiv (IntKind.i64.wrap ((IntKind.i64.wrap (1 + (Go.bits .and .i64 p0_2 63))) * 4294967296)) 16)) (IntKind.i64.wrap (3 + (Int.tmod (Go.bits .and .i64 p0_1 255) 6))) r2.1 (fun i => Rii.enc (r2.2 i)) 0 := by kernel_rfl
/-! ### (bagatelle/bagatellelaw06.Place).Body -/
noncomputable def law06.Place.Body.cs : List (Nat × Fw.Summ) := [(21, vec.Bring.s), (79, law04.Seed.Shape.s)]
theorem law06.Place.Body.cs_ok : SumsOk Try.prog law06.Place.Body.cs := .cons vec.Bring.ok (.cons law04.Seed.Shape.ok (.nil))
def law06.Place.Body.hs : List (Nat × LHint) := []
noncomputable def law06.Place.Body.G : Ctx := ⟨Try.prog, sumAt law06.Place.Body.cs, lookH law06.Place.Body.hs⟩
noncomputable def law06.Place.Body.f (x : (Int × Int × Int × Int × Int × Int × Int)) : Option (Int × Int × Int × Int × Int × Int × Int × Int × Int × Int × (Nat × (Nat → (Int × Int)))) := evF law06.Place.Body.G 0 Try.f55 ((tOne (tG (tCons (tI .i64) (tCons (tI .i64) (tCons (tI .i64) (tCons (tI .i64) (tCons (tI .i64) (tCons (tI .i64) (tOne (tI .i64)))))))))).enc x) (tG (tCons (tI .i64) (tCons (tI .i64) (tCons (tI .i64) (tCons (tI .i64) (tCons (tI .i64) (tCons (tI .i64) (tCons (tI .i64) (tCons (tI .i64) (tCons (tI .i64) (tCons (tI .i64) (tOne (tTL Rii 2 (0, 0)))))))))))))).dec
noncomputable def law06.Place.Body.s : Fw.Summ := .mk' (tOne (tG (tCons (tI .i64) (tCons (tI .i64) (tCons (tI .i64) (tCons (tI .i64) (tCons (tI .i64) (tCons (tI .i64) (tOne (tI .i64)))))))))) (tG (tCons (tI .i64) (tCons (tI .i64) (tCons (tI .i64) (tCons (tI .i64) (tCons (tI .i64) (tCons (tI .i64) (tCons (tI .i64) (tCons (tI .i64) (tCons (tI .i64) (tCons (tI .i64) (tOne (tTL Rii 2 (0, 0)))))))))))))) law06.Place.Body.f
theorem law06.Place.Body.ok : law06.Place.Body.s.Ok Try.prog 55 :=
  summ_ok (hint := lookH law06.Place.Body.hs) (fn := Try.f55) (fun x => 0) law06.Place.Body.cs_ok (by kernel_rfl) (by kernel_rfl) (by kernel_rfl) (by kernel_rfl) (tOne_ok (tG_ok (tCons_ok (tI_ok _) (tCons_ok (tI_ok _) (tCons_ok (tI_ok _) (tCons_ok (tI_ok _) (tCons_ok (tI_ok _) (tCons_ok (tI_ok _) (tOne_ok (tI_ok _)))))))))) (tG_ok (tCons_ok (tI_ok _) (tCons_ok (tI_ok _) (tCons_ok (tI_ok _) (tCons_ok (tI_ok _) (tCons_ok (tI_ok _) (tCons_ok (tI_ok _) (tCons_ok (tI_ok _) (tCons_ok (tI_ok _) (tCons_ok (tI_ok _) (tCons_ok (tI_ok _) (tOne_ok (tTL_ok Rii_ok _ _))))))))))))) (fun _ => rfl)
theorem law06.Place.Body.eq (p0_0 : Int) (p0_1 : Int) (p0_2 : Int) (p0_3 : Int) (p0_4 : Int) (p0_5 : Int) (p0_6 : Int) : law06.Place.Body.f (p0_0, p0_1, p0_2, p0_3, p0_4, p0_5, p0_6) =
  (vec.Bring.f ((p0_4, p0_5), 4294967296000)).bind fun r1 =>
  (law04.Seed.Shape.f (p0_0, p0_1, p0_2, p0_3)).bind fun r2 =>
  (tG (tCons (tI .i64) (tCons (tI .i64) (tCons (tI .i64) (tCons (tI .i64) (tCons (tI .i64) (tCons (tI .i64) (tCons (tI .i64) (tCons (tI .i64) (tCons (tI .i64) (tCons (tI .i64) (tOne (tTL Rii 2 (0, 0)))))))))))))).dec (.agg [.val (.int .i64 0), .val (.int .i64 r1.1), .val (.int .i64 r1.2), .val (.int .i64 0), .val (.int .i64 0), .val (.int .i64 (Go.bits .and .i64 p0_6 4294967295)), .val (.int .i64 0), .val (.int .i64 0), .val (.int .i64 r2.1), .val (.int .i64 r2.2.1), .lst 2 r2.2.2.1 none (fun i => Rii.enc (r2.2.2.2 i))]) := by kernel_rfl
/-! ### (bagatelle/bagatellelaw09.Deed).Body -/
noncomputable def law09.Deed.Body.cs : List (Nat × Fw.Summ) := [(55, law06.Place.Body.s), (21, vec.Bring.s), (22, fix.Bring.s)]
theorem law09.Deed.Body.cs_ok : SumsOk Try.prog law09.Deed.Body.cs := .cons law06.Place.Body.ok (.cons vec.Bring.ok (.cons fix.Bring.ok (.nil)))
def law09.Deed.Body.hs : List (Nat × LHint) := []
noncomputable def law09.Deed.Body.G : Ctx := ⟨Try.prog, sumAt law09.Deed.Body.cs, lookH law09.Deed.Body.hs⟩
noncomputable def law09.Deed.Body.f (x : (Int × Int × Int × Int × Int × Int × Int × Int × Int × Int × Int × Int × Int × Int × Int × Int × Int × Int × Int × Int × Int × Int × Int × Int × Int × Int × Int × Int × Int × (Nat × (Nat → List AV)))) : Option (Int × Int × Int × Int × Int × Int × Int × Int × Int × Int × (Nat × (Nat → (Int × Int)))) := evF law09.Deed.Body.G 0 Try.f19 ((tOne (tG (tCons (tI .i64) (tCons (tI .i64) (tCons (tI .i64) (tCons (tI .i64) (tCons (tI .i64) (tCons (tI .i64) (tCons (tI .i64) (tCons (tI .i64) (tCons (tI .i64) (tCons (tI .i64) (tCons (tI .i64) (tCons (tI .i64) (tCons (tI .i64) (tCons (tI .i64) (tCons (tI .i64) (tCons (tI .i64) (tCons (tI .i64) (tCons (tI .i64) (tCons (tI .i64) (tCons (tI .i64) (tCons (tI .i64) (tCons (tI .i64) (tCons (tI .i64) (tCons (tI .i64) (tCons (tI .i64) (tCons (tI .i64) (tCons (tI .i64) (tCons (tI .i64) (tCons (tI .i64) (tOne (tLz 2 (Rii.enc (0, 0))))))))))))))))))))))))))))))))))).enc x) (tG (tCons (tI .i64) (tCons (tI .i64) (tCons (tI .i64) (tCons (tI .i64) (tCons (tI .i64) (tCons (tI .i64) (tCons (tI .i64) (tCons (tI .i64) (tCons (tI .i64) (tCons (tI .i64) (tOne (tTL Rii 2 (0, 0)))))))))))))).dec
noncomputable def law09.Deed.Body.s : Fw.Summ := .mk' (tOne (tG (tCons (tI .i64) (tCons (tI .i64) (tCons (tI .i64) (tCons (tI .i64) (tCons (tI .i64) (tCons (tI .i64) (tCons (tI .i64) (tCons (tI .i64) (tCons (tI .i64) (tCons (tI .i64) (tCons (tI .i64) (tCons (tI .i64) (tCons (tI .i64) (tCons (tI .i64) (tCons (tI .i64) (tCons (tI .i64) (tCons (tI .i64) (tCons (tI .i64) (tCons (tI .i64) (tCons (tI .i64) (tCons (tI .i64) (tCons (tI .i64) (tCons (tI .i64) (tCons (tI .i64) (tCons (tI .i64) (tCons (tI .i64) (tCons (tI .i64) (tCons (tI .i64) (tCons (tI .i64) (tOne (tLz 2 (Rii.enc (0, 0))))))))))))))))))))))))))))))))))) (tG (tCons (tI .i64) (tCons (tI .i64) (tCons (tI .i64) (tCons (tI .i64) (tCons (tI .i64) (tCons (tI .i64) (tCons (tI .i64) (tCons (tI .i64) (tCons (tI .i64) (tCons (tI .i64) (tOne (tTL Rii 2 (0, 0)))))))))))))) law09.Deed.Body.f
theorem law09.Deed.Body.ok : law09.Deed.Body.s.Ok Try.prog 19 :=
  summ_ok (hint := lookH law09.Deed.Body.hs) (fn := Try.f19) (fun x => 0) law09.Deed.Body.cs_ok (by kernel_rfl) (by kernel_rfl) (by kernel_rfl) (by kernel_rfl) (tOne_ok (tG_ok (tCons_ok (tI_ok _) (tCons_ok (tI_ok _) (tCons_ok (tI_ok _) (tCons_ok (tI_ok _) (tCons_ok (tI_ok _) (tCons_ok (tI_ok _) (tCons_ok (tI_ok _) (tCons_ok (tI_ok _) (tCons_ok (tI_ok _) (tCons_ok (tI_ok _) (tCons_ok (tI_ok _) (tCons_ok (tI_ok _) (tCons_ok (tI_ok _) (tCons_ok (tI_ok _) (tCons_ok (tI_ok _) (tCons_ok (tI_ok _) (tCons_ok (tI_ok _) (tCons_ok (tI_ok _) (tCons_ok (tI_ok _) (tCons_ok (tI_ok _) (tCons_ok (tI_ok _) (tCons_ok (tI_ok _) (tCons_ok (tI_ok _) (tCons_ok (tI_ok _) (tCons_ok (tI_ok _) (tCons_ok (tI_ok _) (tCons_ok (tI_ok _) (tCons_ok (tI_ok _) (tCons_ok (tI_ok _) (tOne_ok (tLz_ok _ _))))))))))))))))))))))))))))))))) (tG_ok (tCons_ok (tI_ok _) (tCons_ok (tI_ok _) (tCons_ok (tI_ok _) (tCons_ok (tI_ok _) (tCons_ok (tI_ok _) (tCons_ok (tI_ok _) (tCons_ok (tI_ok _) (tCons_ok (tI_ok _) (tCons_ok (tI_ok _) (tCons_ok (tI_ok _) (tOne_ok (tTL_ok Rii_ok _ _))))))))))))) (fun _ => rfl)
theorem law09.Deed.Body.eq (p0_0 : Int) (p0_1 : Int) (p0_2 : Int) (p0_3 : Int) (p0_4 : Int) (p0_5 : Int) (p0_6 : Int) (p0_7 : Int) (p0_8 : Int) (p0_9 : Int) (p0_10 : Int) (p0_11 : Int) (p0_12 : Int) (p0_13 : Int) (p0_14 : Int) (p0_15 : Int) (p0_16 : Int) (p0_17 : Int) (p0_18 : Int) (p0_19 : Int) (p0_20 : Int) (p0_21 : Int) (p0_22 : Int) (p0_23 : Int) (p0_24 : Int) (p0_25 : Int) (p0_26 : Int) (p0_27 : Int) (p0_28 : Int) (p0_29_n : Nat) (p0_29_g : Nat → (Int × Int)) : law09.Deed.Body.f (p0_0, p0_1, p0_2, p0_3, p0_4, p0_5, p0_6, p0_7, p0_8, p0_9, p0_10, p0_11, p0_12, p0_13, p0_14, p0_15, p0_16, p0_17, p0_18, p0_19, p0_20, p0_21, p0_22, p0_23, p0_24, p0_25, p0_26, p0_27, p0_28, (p0_29_n, (fun i => Rii.enc (p0_29_g i)))) =
  bif ((Go.bits .and .i64 p0_0 15) == 15) then
    (tG (tCons (tI .i64) (tCons (tI .i64) (tCons (tI .i64) (tCons (tI .i64) (tCons (tI .i64) (tCons (tI .i64) (tCons (tI .i64) (tCons (tI .i64) (tCons (tI .i64) (tCons (tI .i64) (tOne (tTL Rii 2 (0, 0)))))))))))))).dec (.agg [.val (.int .i64 p0_19), .val (.int .i64 p0_20), .val (.int .i64 p0_21), .val (.int .i64 p0_22), .val (.int .i64 p0_23), .val (.int .i64 p0_24), .val (.int .i64 p0_25), .val (.int .i64 p0_26), .val (.int .i64 p0_27), .val (.int .i64 p0_28), .lst 2 p0_29_n none (fun i => Rii.enc (p0_29_g i))])
  else
  (law06.Place.Body.f (p0_1, p0_2, p0_3, p0_4, p0_5, p0_6, p0_7)).bind fun r1 =>
  bif ((Go.bits .and .i64 p0_11 3) == 0) then
    (tG (tCons (tI .i64) (tCons (tI .i64) (tCons (tI .i64) (tCons (tI .i64) (tCons (tI .i64) (tCons (tI .i64) (tCons (tI .i64) (tCons (tI .i64) (tCons (tI .i64) (tCons (tI .i64) (tOne (tTL Rii 2 (0, 0)))))))))))))).dec (.agg [.val (.int .i64 r1.1), .val (.int .i64 r1.2.1), .val (.int .i64 r1.2.2.1), .val (.int .i64 r1.2.2.2.1), .val (.int .i64 r1.2.2.2.2.1), .val (.int .i64 r1.2.2.2.2.2.1), .val (.int .i64 r1.2.2.2.2.2.2.1), .val (.int .i64 r1.2.2.2.2.2.2.2.1), .val (.int .i64 r1.2.2.2.2.2.2.2.2.1), .val (.int .i64 r1.2.2.2.2.2.2.2.2.2.1), .lst 2 r1.2.2.2.2.2.2.2.2.2.2.1 none (fun i => Rii.enc (r1.2.2.2.2.2.2.2.2.2.2.2 i))])
  else
  (vec.Bring.f ((p0_8, p0_9), 85899345920)).bind fun r2 =>
  (fix.Bring.f (p0_10, (-85899345920), 85899345920)).bind fun r3 =>
  (tG (tCons (tI .i64) (tCons (tI .i64) (tCons (tI .i64) (tCons (tI .i64) (tCons (tI .i64) (tCons (tI .i64) (tCons (tI .i64) (tCons (tI .i64) (tCons (tI .i64) (tCons (tI .i64) (tOne (tTL Rii 2 (0, 0)))))))))))))).dec (.agg [.val (.int .i64 r1.1), .val (.int .i64 r1.2.1), .val (.int .i64 r1.2.2.1), .val (.int .i64 r2.1), .val (.int .i64 r2.2), .val (.int .i64 r1.2.2.2.2.2.1), .val (.int .i64 r3), .val (.int .i64 (IntKind.i64.wrap (1 + (Go.bits .and .i64 p0_11 34359738367)))), .val (.int .i64 r1.2.2.2.2.2.2.2.2.1), .val (.int .i64 r1.2.2.2.2.2.2.2.2.2.1), .lst 2 r1.2.2.2.2.2.2.2.2.2.2.1 none (fun i => Rii.enc (r1.2.2.2.2.2.2.2.2.2.2.2 i))]) := by kernel_rfl
/-! ### (bagatelle/bagatellelaw09.Deed).Joint -/
noncomputable def law09.Deed.Joint.cs : List (Nat × Fw.Summ) := [(21, vec.Bring.s)]
theorem law09.Deed.Joint.cs_ok : SumsOk Try.prog law09.Deed.Joint.cs := .cons vec.Bring.ok (.nil)
def law09.Deed.Joint.hs : List (Nat × LHint) := []
noncomputable def law09.Deed.Joint.G : Ctx := ⟨Try.prog, sumAt law09.Deed.Joint.cs, lookH law09.Deed.Joint.hs⟩
noncomputable def law09.Deed.Joint.f (x : (Int × Int × Int × Int × Int × Int × Int × Int × Int × Int × Int × Int × Int × Int × Int × Int × Int × Int × Int × Int × Int × Int × Int × Int × Int × Int × Int × Int × Int × (Nat × (Nat → List AV)))) : Option (Int × Int × Int × Int × Int × Int × Int × Int) := evF law09.Deed.Joint.G 0 Try.f20 ((tOne (tG (tCons (tI .i64) (tCons (tI .i64) (tCons (tI .i64) (tCons (tI .i64) (tCons (tI .i64) (tCons (tI .i64) (tCons (tI .i64) (tCons (tI .i64) (tCons (tI .i64) (tCons (tI .i64) (tCons (tI .i64) (tCons (tI .i64) (tCons (tI .i64) (tCons (tI .i64) (tCons (tI .i64) (tCons (tI .i64) (tCons (tI .i64) (tCons (tI .i64) (tCons (tI .i64) (tCons (tI .i64) (tCons (tI .i64) (tCons (tI .i64) (tCons (tI .i64) (tCons (tI .i64) (tCons (tI .i64) (tCons (tI .i64) (tCons (tI .i64) (tCons (tI .i64) (tCons (tI .i64) (tOne (tLz 2 (Rii.enc (0, 0))))))))))))))))))))))))))))))))))).enc x) (tG (tCons (tI .i64) (tCons (tI .i64) (tCons (tI .i64) (tCons (tI .i64) (tCons (tI .i64) (tCons (tI .i64) (tCons (tI .i64) (tOne (tI .i64)))))))))).dec
noncomputable def law09.Deed.Joint.s : Fw.Summ := .mk' (tOne (tG (tCons (tI .i64) (tCons (tI .i64) (tCons (tI .i64) (tCons (tI .i64) (tCons (tI .i64) (tCons (tI .i64) (tCons (tI .i64) (tCons (tI .i64) (tCons (tI .i64) (tCons (tI .i64) (tCons (tI .i64) (tCons (tI .i64) (tCons (tI .i64) (tCons (tI .i64) (tCons (tI .i64) (tCons (tI .i64) (tCons (tI .i64) (tCons (tI .i64) (tCons (tI .i64) (tCons (tI .i64) (tCons (tI .i64) (tCons (tI .i64) (tCons (tI .i64) (tCons (tI .i64) (tCons (tI .i64) (tCons (tI .i64) (tCons (tI .i64) (tCons (tI .i64) (tCons (tI .i64) (tOne (tLz 2 (Rii.enc (0, 0))))))))))))))))))))))))))))))))))) (tG (tCons (tI .i64) (tCons (tI .i64) (tCons (tI .i64) (tCons (tI .i64) (tCons (tI .i64) (tCons (tI .i64) (tCons (tI .i64) (tOne (tI .i64)))))))))) law09.Deed.Joint.f
theorem law09.Deed.Joint.ok : law09.Deed.Joint.s.Ok Try.prog 20 :=
  summ_ok (hint := lookH law09.Deed.Joint.hs) (fn := Try.f20) (fun x => 0) law09.Deed.Joint.cs_ok (by kernel_rfl) (by kernel_rfl) (by kernel_rfl) (by kernel_rfl) (tOne_ok (tG_ok (tCons_ok (tI_ok _) (tCons_ok (tI_ok _) (tCons_ok (tI_ok _) (tCons_ok (tI_ok _) (tCons_ok (tI_ok _) (tCons_ok (tI_ok _) (tCons_ok (tI_ok _) (tCons_ok (tI_ok _) (tCons_ok (tI_ok _) (tCons_ok (tI_ok _) (tCons_ok (tI_ok _) (tCons_ok (tI_ok _) (tCons_ok (tI_ok _) (tCons_ok (tI_ok _) (tCons_ok (tI_ok _) (tCons_ok (tI_ok _) (tCons_ok (tI_ok _) (tCons_ok (tI_ok _) (tCons_ok (tI_ok _) (tCons_ok (tI_ok _) (tCons_ok (tI_ok _) (tCons_ok (tI_ok _) (tCons_ok (tI_ok _) (tCons_ok (tI_ok _) (tCons_ok (tI_ok _) (tCons_ok (tI_ok _) (tCons_ok (tI_ok _) (tCons_ok (tI_ok _) (tCons_ok (tI_ok _) (tOne_ok (tLz_ok _ _))))))))))))))))))))))))))))))))) (tG_ok (tCons_ok (tI_ok _) (tCons_ok (tI_ok _) (tCons_ok (tI_ok _) (tCons_ok (tI_ok _) (tCons_ok (tI_ok _) (tCons_ok (tI_ok _) (tCons_ok (tI_ok _) (tOne_ok (tI_ok _)))))))))) (fun _ => rfl)
theorem law09.Deed.Joint.eq (p0_0 : Int) (p0_1 : Int) (p0_2 : Int) (p0_3 : Int) (p0_4 : Int) (p0_5 : Int) (p0_6 : Int) (p0_7 : Int) (p0_8 : Int) (p0_9 : Int) (p0_10 : Int) (p0_11 : Int) (p0_12 : Int) (p0_13 : Int) (p0_14 : Int) (p0_15 : Int) (p0_16 : Int) (p0_17 : Int) (p0_18 : Int) (p0_19 : Int) (p0_20 : Int) (p0_21 : Int) (p0_22 : Int) (p0_23 : Int) (p0_24 : Int) (p0_25 : Int) (p0_26 : Int) (p0_27 : Int) (p0_28 : Int) (p0_29_n : Nat) (p0_29_g : Nat → (Int × Int)) : law09.Deed.Joint.f (p0_0, p0_1, p0_2, p0_3, p0_4, p0_5, p0_6, p0_7, p0_8, p0_9, p0_10, p0_11, p0_12, p0_13, p0_14, p0_15, p0_16, p0_17, p0_18, p0_19, p0_20, p0_21, p0_22, p0_23, p0_24, p0_25, p0_26, p0_27, p0_28, (p0_29_n, (fun i => Rii.enc (p0_29_g i)))) =
  (vec.Bring.f ((p0_14, p0_15), 17179869184)).bind fun r1 =>
  (vec.Bring.f ((p0_16, p0_17), 17179869184)).bind fun r2 =>
  some (0, (Go.bits .and .i64 p0_12 15), (Go.bits .and .i64 p0_13 15), r1.1, r1.2, r2.1, r2.2, p0_18) := by kernel_rfl
/-! ### bagatelle/bagatellelaw10.Order -/
noncomputable def law10.Order.cs : List (Nat × Fw.Summ) := [(19, law09.Deed.Body.s), (20, law09.Deed.Joint.s), (21, vec.Bring.s), (22, fix.Bring.s)]
theorem law10.Order.cs_ok : SumsOk Try.prog law10.Order.cs := .cons law09.Deed.Body.ok (.cons law09.Deed.Joint.ok (.cons vec.Bring.ok (.cons fix.Bring.ok (.nil))))
def law10.Order.hs : List (Nat × LHint) := []
noncomputable def law10.Order.G : Ctx := ⟨Try.prog, sumAt law10.Order.cs, lookH law10.Order.hs⟩
noncomputable def law10.Order.f (x : (Int × Int × Int × Int × Int × Int × Int × Int × Int × Int × Int × Int × Int × Int × Int × Int × Int × Int × Int × Int × Int × Int × Int × Int × Int × Int × Int × Int × Int × (Nat × (Nat → List AV)))) : Option (Int × Int × Int × Int × Int × Int × Int × Int × Int × Int × Int × Int × Int × Int × (Nat × (Nat → (Int × Int)))) := evF law10.Order.G 0 Try.f7 ((tOne (tG (tCons (tI .i64) (tCons (tI .i64) (tCons (tI .i64) (tCons (tI .i64) (tCons (tI .i64) (tCons (tI .i64) (tCons (tI .i64) (tCons (tI .i64) (tCons (tI .i64) (tCons (tI .i64) (tCons (tI .i64) (tCons (tI .i64) (tCons (tI .i64) (tCons (tI .i64) (tCons (tI .i64) (tCons (tI .i64) (tCons (tI .i64) (tCons (tI .i64) (tCons (tI .i64) (tCons (tI .i64) (tCons (tI .i64) (tCons (tI .i64) (tCons (tI .i64) (tCons (tI .i64) (tCons (tI .i64) (tCons (tI .i64) (tCons (tI .i64) (tCons (tI .i64) (tCons (tI .i64) (tOne (tLz 2 (Rii.enc (0, 0))))))))))))))))))))))))))))))))))).enc x) (tG (tCons (tI .i64) (tCons (tI .i64) (tCons (tI .i64) (tCons (tI .i64) (tCons (tI .i64) (tCons (tI .i64) (tCons (tI .i64) (tCons (tI .i64) (tCons (tI .i64) (tCons (tI .i64) (tCons (tI .i64) (tCons (tI .i64) (tCons (tI .i64) (tCons (tI .i64) (tOne (tTL Rii 2 (0, 0)))))))))))))))))).dec
noncomputable def law10.Order.s : Fw.Summ := .mk' (tOne (tG (tCons (tI .i64) (tCons (tI .i64) (tCons (tI .i64) (tCons (tI .i64) (tCons (tI .i64) (tCons (tI .i64) (tCons (tI .i64) (tCons (tI .i64) (tCons (tI .i64) (tCons (tI .i64) (tCons (tI .i64) (tCons (tI .i64) (tCons (tI .i64) (tCons (tI .i64) (tCons (tI .i64) (tCons (tI .i64) (tCons (tI .i64) (tCons (tI .i64) (tCons (tI .i64) (tCons (tI .i64) (tCons (tI .i64) (tCons (tI .i64) (tCons (tI .i64) (tCons (tI .i64) (tCons (tI .i64) (tCons (tI .i64) (tCons (tI .i64) (tCons (tI .i64) (tCons (tI .i64) (tOne (tLz 2 (Rii.enc (0, 0))))))))))))))))))))))))))))))))))) (tG (tCons (tI .i64) (tCons (tI .i64) (tCons (tI .i64) (tCons (tI .i64) (tCons (tI .i64) (tCons (tI .i64) (tCons (tI .i64) (tCons (tI .i64) (tCons (tI .i64) (tCons (tI .i64) (tCons (tI .i64) (tCons (tI .i64) (tCons (tI .i64) (tCons (tI .i64) (tOne (tTL Rii 2 (0, 0)))))))))))))))))) law10.Order.f
theorem law10.Order.ok : law10.Order.s.Ok Try.prog 7 :=
  summ_ok (hint := lookH law10.Order.hs) (fn := Try.f7) (fun x => 0) law10.Order.cs_ok (by kernel_rfl) (by kernel_rfl) (by kernel_rfl) (by kernel_rfl) (tOne_ok (tG_ok (tCons_ok (tI_ok _) (tCons_ok (tI_ok _) (tCons_ok (tI_ok _) (tCons_ok (tI_ok _) (tCons_ok (tI_ok _) (tCons_ok (tI_ok _) (tCons_ok (tI_ok _) (tCons_ok (tI_ok _) (tCons_ok (tI_ok _) (tCons_ok (tI_ok _) (tCons_ok (tI_ok _) (tCons_ok (tI_ok _) (tCons_ok (tI_ok _) (tCons_ok (tI_ok _) (tCons_ok (tI_ok _) (tCons_ok (tI_ok _) (tCons_ok (tI_ok _) (tCons_ok (tI_ok _) (tCons_ok (tI_ok _) (tCons_ok (tI_ok _) (tCons_ok (tI_ok _) (tCons_ok (tI_ok _) (tCons_ok (tI_ok _) (tCons_ok (tI_ok _) (tCons_ok (tI_ok _) (tCons_ok (tI_ok _) (tCons_ok (tI_ok _) (tCons_ok (tI_ok _) (tCons_ok (tI_ok _) (tOne_ok (tLz_ok _ _))))))))))))))))))))))))))))))))) (tG_ok (tCons_ok (tI_ok _) (tCons_ok (tI_ok _) (tCons_ok (tI_ok _) (tCons_ok (tI_ok _) (tCons_ok (tI_ok _) (tCons_ok (tI_ok _) (tCons_ok (tI_ok _) (tCons_ok (tI_ok _) (tCons_ok (tI_ok _) (tCons_ok (tI_ok _) (tCons_ok (tI_ok _) (tCons_ok (tI_ok _) (tCons_ok (tI_ok _) (tCons_ok (tI_ok _) (tOne_ok (tTL_ok Rii_ok _ _))))))))))))))))) (fun _ => rfl)
theorem law10.Order.eq (p0_0 : Int) (p0_1 : Int) (p0_2 : Int) (p0_3 : Int) (p0_4 : Int) (p0_5 : Int) (p0_6 : Int) (p0_7 : Int) (p0_8 : Int) (p0_9 : Int) (p0_10 : Int) (p0_11 : Int) (p0_12 : Int) (p0_13 : Int) (p0_14 : Int) (p0_15 : Int) (p0_16 : Int) (p0_17 : Int) (p0_18 : Int) (p0_19 : Int) (p0_20 : Int) (p0_21 : Int) (p0_22 : Int) (p0_23 : Int) (p0_24 : Int) (p0_25 : Int) (p0_26 : Int) (p0_27 : Int) (p0_28 : Int) (p0_29_n : Nat) (p0_29_g : Nat → (Int × Int)) : law10.Order.f (p0_0, p0_1, p0_2, p0_3, p0_4, p0_5, p0_6, p0_7, p0_8, p0_9, p0_10, p0_11, p0_12, p0_13, p0_14, p0_15, p0_16, p0_17, p0_18, p0_19, p0_20, p0_21, p0_22, p0_23, p0_24, p0_25, p0_26, p0_27, p0_28, (p0_29_n, (fun i => Rii.enc (p0_29_g i)))) =
  (law09.Deed.Body.f (p0_0, p0_1, p0_2, p0_3, p0_4, p0_5, p0_6, p0_7, p0_8, p0_9, p0_10, p0_11, p0_12, p0_13, p0_14, p0_15, p0_16, p0_17, p0_18, p0_19, p0_20, p0_21, p0_22, p0_23, p0_24, p0_25, p0_26, p0_27, p0_28, (p0_29_n, (fun i => Rii.enc (p0_29_g i))))).bind fun r1 =>
  (law09.Deed.Joint.f (p0_0, p0_1, p0_2, p0_3, p0_4, p0_5, p0_6, p0_7, p0_8, p0_9, p0_10, p0_11, p0_12, p0_13, p0_14, p0_15, p0_16, p0_17, p0_18, p0_19, p0_20, p0_21, p0_22, p0_23, p0_24, p0_25, p0_26, p0_27, p0_28, (p0_29_n, (fun i => Rii.enc (p0_29_g i))))).bind fun r2 =>
  bif ((Go.bits .and .i64 p0_0 7) == 2) then
    (vec.Bring.f ((p0_8, p0_9), 858993459200)).bind fun r3 =>
    (fix.Bring.f (p0_10, (-858993459200), 858993459200)).bind fun r4 =>
    (tG (tCons (tI .i64) (tCons (tI .i64) (tCons (tI .i64) (tCons (tI .i64) (tCons (tI .i64) (tCons (tI .i64) (tCons (tI .i64) (tCons (tI .i64) (tCons (tI .i64) (tCons (tI .i64) (tCons (tI .i64) (tCons (tI .i64) (tCons (tI .i64) (tCons (tI .i64) (tOne (tTL Rii 2 (0, 0)))))))))))))))))).dec (.agg [.val (.int .i64 5), .val (.int .i64 (Go.bits .and .i64 p0_12 15)), .val (.int .i64 0), .val (.int .i64 0), .val (.int .i64 0), .val (.int .i64 0), .val (.int .i64 r3.1), .val (.int .i64 r3.2), .val (.int .i64 0), .val (.int .i64 r4), .val (.int .i64 0), .val (.int .i64 0), .val (.int .i64 0), .val (.int .i64 0), .val (.slice none 0 0)])
  else
  bif ((Go.bits .and .i64 p0_0 7) == 3) then
    (tG (tCons (tI .i64) (tCons (tI .i64) (tCons (tI .i64) (tCons (tI .i64) (tCons (tI .i64) (tCons (tI .i64) (tCons (tI .i64) (tCons (tI .i64) (tCons (tI .i64) (tCons (tI .i64) (tCons (tI .i64) (tCons (tI .i64) (tCons (tI .i64) (tCons (tI .i64) (tOne (tTL Rii 2 (0, 0)))))))))))))))))).dec (.agg [.val (.int .i64 4), .val (.int .i64 (Go.bits .and .i64 p0_12 15)), .val (.int .i64 0), .val (.int .i64 0), .val (.int .i64 0), .val (.int .i64 0), .val (.int .i64 0), .val (.int .i64 0), .val (.int .i64 0), .val (.int .i64 0), .val (.int .i64 0), .val (.int .i64 0), .val (.int .i64 0), .val (.int .i64 0), .val (.slice none 0 0)])
  else
  bif ((Go.bits .and .i64 p0_0 7) == 4) then
    bif ((Go.bits .and .i64 p0_0 7) == 4) then
      (tG (tCons (tI .i64) (tCons (tI .i64) (tCons (tI .i64) (tCons (tI .i64) (tCons (tI .i64) (tCons (tI .i64) (tCons (tI .i64) (tCons (tI .i64) (tCons (tI .i64) (tCons (tI .i64) (tCons (tI .i64) (tCons (tI .i64) (tCons (tI .i64) (tCons (tI .i64) (tOne (tTL Rii 2 (0, 0)))))))))))))))))).dec (.agg [.val (.int .i64 3), .val (.int .i64 0), .val (.int .i64 r2.2.1), .val (.int .i64 r2.2.2.1), .val (.int .i64 r2.2.2.2.1), .val (.int .i64 r2.2.2.2.2.1), .val (.int .i64 r2.2.2.2.2.2.1), .val (.int .i64 r2.2.2.2.2.2.2.1), .val (.int .i64 0), .val (.int .i64 0), .val (.int .i64 0), .val (.int .i64 r2.2.2.2.2.2.2.2), .val (.int .i64 0), .val (.int .i64 0), .val (.slice none 0 0)])
    else
    bif ((Go.bits .and .i64 p0_0 7) == 6) then
      (tG (tCons (tI .i64) (tCons (tI .i64) (tCons (tI .i64) (tCons (tI .i64) (tCons (tI .i64) (tCons (tI .i64) (tCons (tI .i64) (tCons (tI .i64) (tCons (tI .i64) (tCons (tI .i64) (tCons (tI .i64) (tCons (tI .i64) (tCons (tI .i64) (tCons (tI .i64) (tOne (tTL Rii 2 (0, 0)))))))))))))))))).dec (.agg [.val (.int .i64 2), .val (.int .i64 (Go.bits .and .i64 p0_12 15)), .val (.int .i64 0), .val (.int .i64 0), .val (.int .i64 0), .val (.int .i64 0), .val (.int .i64 0), .val (.int .i64 0), .val (.int .i64 0), .val (.int .i64 0), .val (.int .i64 0), .val (.int .i64 0), .val (.int .i64 0), .val (.int .i64 0), .val (.slice none 0 0)])
    else
    bif ((Go.bits .and .i64 p0_0 7) == 7) then
      (vec.Bring.f ((p0_8, p0_9), 214748364800)).bind fun r5 =>
      (tG (tCons (tI .i64) (tCons (tI .i64) (tCons (tI .i64) (tCons (tI .i64) (tCons (tI .i64) (tCons (tI .i64) (tCons (tI .i64) (tCons (tI .i64) (tCons (tI .i64) (tCons (tI .i64) (tCons (tI .i64) (tCons (tI .i64) (tCons (tI .i64) (tCons (tI .i64) (tOne (tTL Rii 2 (0, 0)))))))))))))))))).dec (.agg [.val (.int .i64 6), .val (.int .i64 0), .val (.int .i64 0), .val (.int .i64 0), .val (.int .i64 0), .val (.int .i64 0), .val (.int .i64 r5.1), .val (.int .i64 r5.2), .val (.int .i64 0), .val (.int .i64 0), .val (.int .i64 0), .val (.int .i64 0), .val (.int .i64 0), .val (.int .i64 0), .val (.slice none 0 0)])
    else
    (tG (tCons (tI .i64) (tCons (tI .i64) (tCons (tI .i64) (tCons (tI .i64) (tCons (tI .i64) (tCons (tI .i64) (tCons (tI .i64) (tCons (tI .i64) (tCons (tI .i64) (tCons (tI .i64) (tCons (tI .i64) (tCons (tI .i64) (tCons (tI .i64) (tCons (tI .i64) (tOne (tTL Rii 2 (0, 0)))))))))))))))))).dec (.agg [.val (.int .i64 1), .val (.int .i64 0), .val (.int .i64 0), .val (.int .i64 0), .val (.int .i64 r1.2.1), .val (.int .i64 r1.2.2.1), .val (.int .i64 r1.2.2.2.1), .val (.int .i64 r1.2.2.2.2.1), .val (.int .i64 r1.2.2.2.2.2.1), .val (.int .i64 r1.2.2.2.2.2.2.1), .val (.int .i64 r1.2.2.2.2.2.2.2.1), .val (.int .i64 0), .val (.int .i64 r1.2.2.2.2.2.2.2.2.1), .val (.int .i64 r1.2.2.2.2.2.2.2.2.2.1), .lst 2 r1.2.2.2.2.2.2.2.2.2.2.1 none (fun i => Rii.enc (r1.2.2.2.2.2.2.2.2.2.2.2 i))])
  else
  bif ((Go.bits .and .i64 p0_0 7) == 5) then
    (tG (tCons (tI .i64) (tCons (tI .i64) (tCons (tI .i64) (tCons (tI .i64) (tCons (tI .i64) (tCons (tI .i64) (tCons (tI .i64) (tCons (tI .i64) (tCons (tI .i64) (tCons (tI .i64) (tCons (tI .i64) (tCons (tI .i64) (tCons (tI .i64) (tCons (tI .i64) (tOne (tTL Rii 2 (0, 0)))))))))))))))))).dec (.agg [.val (.int .i64 3), .val (.int .i64 0), .val (.int .i64 r2.2.1), .val (.int .i64 r2.2.2.1), .val (.int .i64 r2.2.2.2.1), .val (.int .i64 r2.2.2.2.2.1), .val (.int .i64 r2.2.2.2.2.2.1), .val (.int .i64 r2.2.2.2.2.2.2.1), .val (.int .i64 0), .val (.int .i64 0), .val (.int .i64 0), .val (.int .i64 r2.2.2.2.2.2.2.2), .val (.int .i64 0), .val (.int .i64 0), .val (.slice none 0 0)])
  else
  bif ((Go.bits .and .i64 p0_0 7) == 6) then
    (tG (tCons (tI .i64) (tCons (tI .i64) (tCons (tI .i64) (tCons (tI .i64) (tCons (tI .i64) (tCons (tI .i64) (tCons (tI .i64) (tCons (tI .i64) (tCons (tI .i64) (tCons (tI .i64) (tCons (tI .i64) (tCons (tI .i64) (tCons (tI .i64) (tCons (tI .i64) (tOne (tTL Rii 2 (0, 0)))))))))))))))))).dec (.agg [.val (.int .i64 2), .val (.int .i64 (Go.bits .and .i64 p0_12 15)), .val (.int .i64 0), .val (.int .i64 0), .val (.int .i64 0), .val (.int .i64 0), .val (.int .i64 0), .val (.int .i64 0), .val (.int .i64 0), .val (.int .i64 0), .val (.int .i64 0), .val (.int .i64 0), .val (.int .i64 0), .val (.int .i64 0), .val (.slice none 0 0)])
  else
  bif ((Go.bits .and .i64 p0_0 7) == 7) then
    (vec.Bring.f ((p0_8, p0_9), 214748364800)).bind fun r6 =>
    (tG (tCons (tI .i64) (tCons (tI .i64) (tCons (tI .i64) (tCons (tI .i64) (tCons (tI .i64) (tCons (tI .i64) (tCons (tI .i64) (tCons (tI .i64) (tCons (tI .i64) (tCons (tI .i64) (tCons (tI .i64) (tCons (tI .i64) (tCons (tI .i64) (tCons (tI .i64) (tOne (tTL Rii 2 (0, 0)))))))))))))))))).dec (.agg [.val (.int .i64 6), .val (.int .i64 0), .val (.int .i64 0), .val (.int .i64 0), .val (.int .i64 0), .val (.int .i64 0), .val (.int .i64 r6.1), .val (.int .i64 r6.2), .val (.int .i64 0), .val (.int .i64 0), .val (.int .i64 0), .val (.int .i64 0), .val (.int .i64 0), .val (.int .i64 0), .val (.slice none 0 0)])
  else
  (tG (tCons (tI .i64) (tCons (tI .i64) (tCons (tI .i64) (tCons (tI .i64) (tCons (tI .i64) (tCons (tI .i64) (tCons (tI .i64) (tCons (tI .i64) (tCons (tI .i64) (tCons (tI .i64) (tCons (tI .i64) (tCons (tI .i64) (tCons (tI .i64) (tCons (tI .i64) (tOne (tTL Rii 2 (0, 0)))))))))))))))))).dec (.agg [.val (.int .i64 1), .val (.int .i64 0), .val (.int .i64 0), .val (.int .i64 0), .val (.int .i64 r1.2.1), .val (.int .i64 r1.2.2.1), .val (.int .i64 r1.2.2.2.1), .val (.int .i64 r1.2.2.2.2.1), .val (.int .i64 r1.2.2.2.2.2.1), .val (.int .i64 r1.2.2.2.2.2.2.1), .val (.int .i64 r1.2.2.2.2.2.2.2.1), .val (.int .i64 0), .val (.int .i64 r1.2.2.2.2.2.2.2.2.1), .val (.int .i64 r1.2.2.2.2.2.2.2.2.2.1), .lst 2 r1.2.2.2.2.2.2.2.2.2.2.1 none (fun i => Rii.enc (r1.2.2.2.2.2.2.2.2.2.2.2 i))]) := by kernel_rfl
/-! ### (bagatelle/bagatellelaw09.Deed).Do -/
noncomputable def law09.Deed.Do.cs : List (Nat × Fw.Summ) := [(20, law09.Deed.Joint.s), (39, world.AddJoint.s), (38, world.RemoveBody.s), (40, world.RemoveJoint.s), (19, law09.Deed.Body.s), (37, world.AddBody.s)]
theorem law09.Deed.Do.cs_ok : SumsOk Try.prog law09.Deed.Do.cs := .cons law09.Deed.Joint.ok (.cons world.AddJoint.ok (.cons world.RemoveBody.ok (.cons world.RemoveJoint.ok (.cons law09.Deed.Body.ok (.cons world.AddBody.ok (.nil))))))
noncomputable def law09.Deed.Do.G : Ctx := ⟨Try.prog, sumAt law09.Deed.Do.cs, fun _ => { unroll := true }⟩
noncomputable def law09.Deed.Do.s : Fw.Summ := .mkI law09.Deed.Do.G Try.f32
theorem law09.Deed.Do.ok : law09.Deed.Do.s.Ok Try.prog 32 := isumm_ok law09.Deed.Do.cs_ok (by kernel_rfl) (by kernel_rfl) (by kernel_rfl) (by kernel_rfl)
/-! ### bagatelle/bagatellelaw09.Made -/
noncomputable def law09.Made.cs : List (Nat × Fw.Summ) := [(15, world.New.s), (32, law09.Deed.Do.s)]
theorem law09.Made.cs_ok : SumsOk Try.prog law09.Made.cs := .cons world.New.ok (.cons law09.Deed.Do.ok (.nil))
def law09.Made.hs : List (Nat × LHint) := [(0, { mat := [], live := [4, 5, 14, 15, 16], ren := [] })]
noncomputable def law09.Made.G : Ctx := ⟨Try.prog, sumAt law09.Made.cs, lookH law09.Made.hs⟩
noncomputable def law09.Made.g (k0 : Nat) (x : ((Nat × (Nat → List AV)) × Int)) : Option (Int × Int × Int × Int × Int × (Nat × (Nat → (Int × Int × Int × Int × Int × Int × Int × Int × Int × Int × (Nat × (Nat → List AV))))) × (Nat × (Nat → (Int × Int × Int × Int × Int × Int × Int × Int))) × (Nat × (Nat → (Int × Int × Int × Int × Int)))) := evF law09.Made.G k0 Try.f11 ((tCons (tLz 30 (RiiiiiiiiiiiiiiiiiiiiiiiiiiiiiL2.enc (0, 0, 0, 0, 0, 0, 0, 0, 0, 0, 0, 0, 0, 0, 0, 0, 0, 0, 0, 0, 0, 0, 0, 0, 0, 0, 0, 0, 0, (0, fun _ => [])))) (tOne (tI .i64))).enc x) (tG (tCons (tI .i64) (tCons (tI .i64) (tCons (tI .i64) (tCons (tI .i64) (tCons (tI .i64) (tCons (tTL RiiiiiiiiiiL2 11 (0, 0, 0, 0, 0, 0, 0, 0, 0, 0, (0, fun _ => []))) (tCons (tTL Riiiiiiii 8 (0, 0, 0, 0, 0, 0, 0, 0)) (tOne (tTL Riiiii 5 (0, 0, 0, 0, 0))))))))))).dec
noncomputable def law09.Made.f (x : ((Nat × (Nat → List AV)) × Int)) : Option (Int × Int × Int × Int × Int × (Nat × (Nat → (Int × Int × Int × Int × Int × Int × Int × Int × Int × Int × (Nat × (Nat → List AV))))) × (Nat × (Nat → (Int × Int × Int × Int × Int × Int × Int × Int))) × (Nat × (Nat → (Int × Int × Int × Int × Int)))) := law09.Made.g (1000000) x
noncomputable def law09.Made.s : Fw.Summ := .mk' (tCons (tLz 30 (RiiiiiiiiiiiiiiiiiiiiiiiiiiiiiL2.enc (0, 0, 0, 0, 0, 0, 0, 0, 0, 0, 0, 0, 0, 0, 0, 0, 0, 0, 0, 0, 0, 0, 0, 0, 0, 0, 0, 0, 0, (0, fun _ => [])))) (tOne (tI .i64))) (tG (tCons (tI .i64) (tCons (tI .i64) (tCons (tI .i64) (tCons (tI .i64) (tCons (tI .i64) (tCons (tTL RiiiiiiiiiiL2 11 (0, 0, 0, 0, 0, 0, 0, 0, 0, 0, (0, fun _ => []))) (tCons (tTL Riiiiiiii 8 (0, 0, 0, 0, 0, 0, 0, 0)) (tOne (tTL Riiiii 5 (0, 0, 0, 0, 0))))))))))) law09.Made.f
theorem law09.Made.ok : law09.Made.s.Ok Try.prog 11 :=
  summ_ok (hint := lookH law09.Made.hs) (fn := Try.f11) (fun x => 1000000) law09.Made.cs_ok (by kernel_rfl) (by kernel_rfl) (by kernel_rfl) (by kernel_rfl) (tCons_ok (tLz_ok _ _) (tOne_ok (tI_ok _))) (tG_ok (tCons_ok (tI_ok _) (tCons_ok (tI_ok _) (tCons_ok (tI_ok _) (tCons_ok (tI_ok _) (tCons_ok (tI_ok _) (tCons_ok (tTL_ok RiiiiiiiiiiL2_ok _ _) (tCons_ok (tTL_ok Riiiiiiii_ok _ _) (tOne_ok (tTL_ok Riiiii_ok _ _)))))))))) (fun _ => rfl)
noncomputable def law09.Made.l0 (k0 k1 : Nat) (v1 : Int) (v2 : Int) (v3 : Int) (v4 : Int) (v5 : Int) (v6 : Nat) (v7 : Nat → List AV) (v8 : Nat) (v9 : Nat → List AV) (v10 : Nat) (v11 : Nat → List AV) (v12 : Nat) (v13 : Nat → List AV) (v14 : Int) (v15 : Int) : Option (Int × Int × Int × Int × Int × (Nat × (Nat → (Int × Int × Int × Int × Int × Int × Int × Int × Int × Int × (Nat × (Nat → List AV))))) × (Nat × (Nat → (Int × Int × Int × Int × Int × Int × Int × Int))) × (Nat × (Nat → (Int × Int × Int × Int × Int)))) :=
  evLoop (lookH law09.Made.hs 0) 2 (ev law09.Made.G k0 (codeAt [1, 1, 0, 1, 0, 0] (bodyOf Try.f11)) 0) k1
  ⟨[.top, .top, .top, .top, .ptr 0 0 0, .ptr 1 0 0, .top, .top, .top, .top, .top, .top, .top, .top, .lst 30 v12 none v13, .val (.int .i64 v14), .val (.int .i64 v15), .top, .top, .top, .top, .top, .top, .top], [.live ⟨false, 49, 8, 1, fun _ => [.val (.int .i64 0), .val (.int .i64 0), .val (.int .i64 0), .val (.int .i64 0), .val (.int .i64 0), .val (.slice none 0 0), .val (.slice none 0 0), .val (.slice none 0 0)], none⟩, .live ⟨false, 49, 8, 1, fun _ => [.val (.int .i64 v1), .val (.int .i64 v2), .val (.int .i64 v3), .val (.int .i64 v4), .val (.int .i64 v5), .lst 11 v6 none v7, .lst 8 v8 none v9, .lst 5 v10 none v11], none⟩]⟩
  (kBlock 0 (kSeq law09.Made.G k0 (codeAt [1, 1, 1] (bodyOf Try.f11)) 0 (kFin law09.Made.G Try.f11 (tG (tCons (tI .i64) (tCons (tI .i64) (tCons (tI .i64) (tCons (tI .i64) (tCons (tI .i64) (tCons (tTL RiiiiiiiiiiL2 11 (0, 0, 0, 0, 0, 0, 0, 0, 0, 0, (0, fun _ => []))) (tCons (tTL Riiiiiiii 8 (0, 0, 0, 0, 0, 0, 0, 0)) (tOne (tTL Riiiii 5 (0, 0, 0, 0, 0))))))))))).dec)))
theorem law09.Made.l0_eq (k0 k1 : Nat) (v1 : Int) (v2 : Int) (v3 : Int) (v4 : Int) (v5 : Int) (v6 : Nat) (v7 : Nat → (Int × Int × Int × Int × Int × Int × Int × Int × Int × Int × (Nat × (Nat → List AV)))) (v8 : Nat) (v9 : Nat → (Int × Int × Int × Int × Int × Int × Int × Int)) (v10 : Nat) (v11 : Nat → (Int × Int × Int × Int × Int)) (v12 : Nat) (v13 : Nat → (Int × Int × Int × Int × Int × Int × Int × Int × Int × Int × Int × Int × Int × Int × Int × Int × Int × Int × Int × Int × Int × Int × Int × Int × Int × Int × Int × Int × Int × (Nat × (Nat → List AV)))) (v14 : Int) (v15 : Int) : law09.Made.l0 k0 (k1 + 1) v1 v2 v3 v4 v5 v6 (fun i => RiiiiiiiiiiL2.enc (v7 i)) v8 (fun i => Riiiiiiii.enc (v9 i)) v10 (fun i => Riiiii.enc (v11 i)) v12 (fun i => RiiiiiiiiiiiiiiiiiiiiiiiiiiiiiL2.enc (v13 i)) v14 v15 =
  bif (decide (v15 < v14)) then
    bif ((decide (0 ≤ v15)) && (decide (v15 < ((v12 : Nat) : Int)))) then
    bif ((Go.bits .and .i64 (v13 (Int.toNat v15)).1 7) == 4) then
      bif ((Go.bits .and .i64 (v13 (Int.toNat v15)).1 7) == 4) then
        (law09.Deed.Joint.f ((v13 (Int.toNat v15)).1, (v13 (Int.toNat v15)).2.1, (v13 (Int.toNat v15)).2.2.1, (v13 (Int.toNat v15)).2.2.2.1, (v13 (Int.toNat v15)).2.2.2.2.1, (v13 (Int.toNat v15)).2.2.2.2.2.1, (v13 (Int.toNat v15)).2.2.2.2.2.2.1, (v13 (Int.toNat v15)).2.2.2.2.2.2.2.1, (v13 (Int.toNat v15)).2.2.2.2.2.2.2.2.1, (v13 (Int.toNat v15)).2.2.2.2.2.2.2.2.2.1, (v13 (Int.toNat v15)).2.2.2.2.2.2.2.2.2.2.1, (v13 (Int.toNat v15)).2.2.2.2.2.2.2.2.2.2.2.1, (v13 (Int.toNat v15)).2.2.2.2.2.2.2.2.2.2.2.2.1, (v13 (Int.toNat v15)).2.2.2.2.2.2.2.2.2.2.2.2.2.1, (v13 (Int.toNat v15)).2.2.2.2.2.2.2.2.2.2.2.2.2.2.1, (v13 (Int.toNat v15)).2.2.2.2.2.2.2.2.2.2.2.2.2.2.2.1, (v13 (Int.toNat v15)).2.2.2.2.2.2.2.2.2.2.2.2.2.2.2.2.1, (v13 (Int.toNat v15)).2.2.2.2.2.2.2.2.2.2.2.2.2.2.2.2.2.1, (v13 (Int.toNat v15)).2.2.2.2.2.2.2.2.2.2.2.2.2.2.2.2.2.2.1, (v13 (Int.toNat v15)).2.2.2.2.2.2.2.2.2.2.2.2.2.2.2.2.2.2.2.1, (v13 (Int.toNat v15)).2.2.2.2.2.2.2.2.2.2.2.2.2.2.2.2.2.2.2.2.1, (v13 (Int.toNat v15)).2.2.2.2.2.2.2.2.2.2.2.2.2.2.2.2.2.2.2.2.2.1, (v13 (Int.toNat v15)).2.2.2.2.2.2.2.2.2.2.2.2.2.2.2.2.2.2.2.2.2.2.1, (v13 (Int.toNat v15)).2.2.2.2.2.2.2.2.2.2.2.2.2.2.2.2.2.2.2.2.2.2.2.1, (v13 (Int.toNat v15)).2.2.2.2.2.2.2.2.2.2.2.2.2.2.2.2.2.2.2.2.2.2.2.2.1, (v13 (Int.toNat v15)).2.2.2.2.2.2.2.2.2.2.2.2.2.2.2.2.2.2.2.2.2.2.2.2.2.1, (v13 (Int.toNat v15)).2.2.2.2.2.2.2.2.2.2.2.2.2.2.2.2.2.2.2.2.2.2.2.2.2.2.1, (v13 (Int.toNat v15)).2.2.2.2.2.2.2.2.2.2.2.2.2.2.2.2.2.2.2.2.2.2.2.2.2.2.2.1, (v13 (Int.toNat v15)).2.2.2.2.2.2.2.2.2.2.2.2.2.2.2.2.2.2.2.2.2.2.2.2.2.2.2.2.1, ((v13 (Int.toNat v15)).2.2.2.2.2.2.2.2.2.2.2.2.2.2.2.2.2.2.2.2.2.2.2.2.2.2.2.2.2.1, (v13 (Int.toNat v15)).2.2.2.2.2.2.2.2.2.2.2.2.2.2.2.2.2.2.2.2.2.2.2.2.2.2.2.2.2.2))).bind fun r2 =>
        (world.AddJoint.f ((v1, v2, v3, v4, v5, (v6, (fun i => RiiiiiiiiiiL2.enc (v7 i))), (v8, (fun i => Riiiiiiii.enc (v9 i))), (v10, (fun i => Riiiii.enc (v11 i)))), (r2.1, r2.2.1, r2.2.2.1, r2.2.2.2.1, r2.2.2.2.2.1, r2.2.2.2.2.2.1, r2.2.2.2.2.2.2.1, r2.2.2.2.2.2.2.2))).bind fun r3 =>
        law09.Made.l0 k0 k1 r3.2.1 r3.2.2.1 r3.2.2.2.1 r3.2.2.2.2.1 r3.2.2.2.2.2.1 r3.2.2.2.2.2.2.1.1 (fun i => RiiiiiiiiiiL2.enc (r3.2.2.2.2.2.2.1.2 i)) r3.2.2.2.2.2.2.2.1.1 (fun i => Riiiiiiii.enc (r3.2.2.2.2.2.2.2.1.2 i)) r3.2.2.2.2.2.2.2.2.1 (fun i => Riiiii.enc (r3.2.2.2.2.2.2.2.2.2 i)) v12 (fun i => RiiiiiiiiiiiiiiiiiiiiiiiiiiiiiL2.enc (v13 i)) v14 (IntKind.i64.wrap (v15 + 1))
      else
      bif ((Go.bits .and .i64 (v13 (Int.toNat v15)).1 7) == 6) then
        (world.RemoveBody.f ((v1, v2, v3, v4, v5, (v6, (fun i => RiiiiiiiiiiL2.enc (v7 i))), (v8, (fun i => Riiiiiiii.enc (v9 i))), (v10, (fun i => Riiiii.enc (v11 i)))), (Go.bits .and .i64 (v13 (Int.toNat v15)).2.2.2.2.2.2.2.2.2.2.2.2.1 15))).bind fun r4 =>
        law09.Made.l0 k0 k1 r4.2.1 r4.2.2.1 r4.2.2.2.1 r4.2.2.2.2.1 r4.2.2.2.2.2.1 r4.2.2.2.2.2.2.1.1 (fun i => RiiiiiiiiiiL2.enc (r4.2.2.2.2.2.2.1.2 i)) r4.2.2.2.2.2.2.2.1.1 (fun i => Riiiiiiii.enc (r4.2.2.2.2.2.2.2.1.2 i)) r4.2.2.2.2.2.2.2.2.1 (fun i => Riiiii.enc (r4.2.2.2.2.2.2.2.2.2 i)) v12 (fun i => RiiiiiiiiiiiiiiiiiiiiiiiiiiiiiL2.enc (v13 i)) v14 (IntKind.i64.wrap (v15 + 1))
      else
      bif ((Go.bits .and .i64 (v13 (Int.toNat v15)).1 7) == 3) then
        (world.RemoveJoint.f ((v1, v2, v3, v4, v5, (v6, (fun i => RiiiiiiiiiiL2.enc (v7 i))), (v8, (fun i => Riiiiiiii.enc (v9 i))), (v10, (fun i => Riiiii.enc (v11 i)))), (Go.bits .and .i64 (v13 (Int.toNat v15)).2.2.2.2.2.2.2.2.2.2.2.2.1 15))).bind fun r5 =>
        law09.Made.l0 k0 k1 r5.2.1 r5.2.2.1 r5.2.2.2.1 r5.2.2.2.2.1 r5.2.2.2.2.2.1 r5.2.2.2.2.2.2.1.1 (fun i => RiiiiiiiiiiL2.enc (r5.2.2.2.2.2.2.1.2 i)) r5.2.2.2.2.2.2.2.1.1 (fun i => Riiiiiiii.enc (r5.2.2.2.2.2.2.2.1.2 i)) r5.2.2.2.2.2.2.2.2.1 (fun i => Riiiii.enc (r5.2.2.2.2.2.2.2.2.2 i)) v12 (fun i => RiiiiiiiiiiiiiiiiiiiiiiiiiiiiiL2.enc (v13 i)) v14 (IntKind.i64.wrap (v15 + 1))
      else
      (law09.Deed.Body.f ((v13 (Int.toNat v15)).1, (v13 (Int.toNat v15)).2.1, (v13 (Int.toNat v15)).2.2.1, (v13 (Int.toNat v15)).2.2.2.1, (v13 (Int.toNat v15)).2.2.2.2.1, (v13 (Int.toNat v15)).2.2.2.2.2.1, (v13 (Int.toNat v15)).2.2.2.2.2.2.1, (v13 (Int.toNat v15)).2.2.2.2.2.2.2.1, (v13 (Int.toNat v15)).2.2.2.2.2.2.2.2.1, (v13 (Int.toNat v15)).2.2.2.2.2.2.2.2.2.1, (v13 (Int.toNat v15)).2.2.2.2.2.2.2.2.2.2.1, (v13 (Int.toNat v15)).2.2.2.2.2.2.2.2.2.2.2.1, (v13 (Int.toNat v15)).2.2.2.2.2.2.2.2.2.2.2.2.1, (v13 (Int.toNat v15)).2.2.2.2.2.2.2.2.2.2.2.2.2.1, (v13 (Int.toNat v15)).2.2.2.2.2.2.2.2.2.2.2.2.2.2.1, (v13 (Int.toNat v15)).2.2.2.2.2.2.2.2.2.2.2.2.2.2.2.1, (v13 (Int.toNat v15)).2.2.2.2.2.2.2.2.2.2.2.2.2.2.2.2.1, (v13 (Int.toNat v15)).2.2.2.2.2.2.2.2.2.2.2.2.2.2.2.2.2.1, (v13 (Int.toNat v15)).2.2.2.2.2.2.2.2.2.2.2.2.2.2.2.2.2.2.1, (v13 (Int.toNat v15)).2.2.2.2.2.2.2.2.2.2.2.2.2.2.2.2.2.2.2.1, (v13 (Int.toNat v15)).2.2.2.2.2.2.2.2.2.2.2.2.2.2.2.2.2.2.2.2.1, (v13 (Int.toNat v15)).2.2.2.2.2.2.2.2.2.2.2.2.2.2.2.2.2.2.2.2.2.1, (v13 (Int.toNat v15)).2.2.2.2.2.2.2.2.2.2.2.2.2.2.2.2.2.2.2.2.2.2.1, (v13 (Int.toNat v15)).2.2.2.2.2.2.2.2.2.2.2.2.2.2.2.2.2.2.2.2.2.2.2.1, (v13 (Int.toNat v15)).2.2.2.2.2.2.2.2.2.2.2.2.2.2.2.2.2.2.2.2.2.2.2.2.1, (v13 (Int.toNat v15)).2.2.2.2.2.2.2.2.2.2.2.2.2.2.2.2.2.2.2.2.2.2.2.2.2.1, (v13 (Int.toNat v15)).2.2.2.2.2.2.2.2.2.2.2.2.2.2.2.2.2.2.2.2.2.2.2.2.2.2.1, (v13 (Int.toNat v15)).2.2.2.2.2.2.2.2.2.2.2.2.2.2.2.2.2.2.2.2.2.2.2.2.2.2.2.1, (v13 (Int.toNat v15)).2.2.2.2.2.2.2.2.2.2.2.2.2.2.2.2.2.2.2.2.2.2.2.2.2.2.2.2.1, ((v13 (Int.toNat v15)).2.2.2.2.2.2.2.2.2.2.2.2.2.2.2.2.2.2.2.2.2.2.2.2.2.2.2.2.2.1, (v13 (Int.toNat v15)).2.2.2.2.2.2.2.2.2.2.2.2.2.2.2.2.2.2.2.2.2.2.2.2.2.2.2.2.2.2))).bind fun r6 =>
      (world.AddBody.f ((v1, v2, v3, v4, v5, (v6, (fun i => RiiiiiiiiiiL2.enc (v7 i))), (v8, (fun i => Riiiiiiii.enc (v9 i))), (v10, (fun i => Riiiii.enc (v11 i)))), (r6.1, r6.2.1, r6.2.2.1, r6.2.2.2.1, r6.2.2.2.2.1, r6.2.2.2.2.2.1, r6.2.2.2.2.2.2.1, r6.2.2.2.2.2.2.2.1, r6.2.2.2.2.2.2.2.2.1, r6.2.2.2.2.2.2.2.2.2.1, (r6.2.2.2.2.2.2.2.2.2.2.1, (fun i => Rii.enc (r6.2.2.2.2.2.2.2.2.2.2.2 i)))))).bind fun r7 =>
      law09.Made.l0 k0 k1 r7.2.1 r7.2.2.1 r7.2.2.2.1 r7.2.2.2.2.1 r7.2.2.2.2.2.1 r7.2.2.2.2.2.2.1.1 (fun i => RiiiiiiiiiiL2.enc (r7.2.2.2.2.2.2.1.2 i)) r7.2.2.2.2.2.2.2.1.1 (fun i => Riiiiiiii.enc (r7.2.2.2.2.2.2.2.1.2 i)) r7.2.2.2.2.2.2.2.2.1 (fun i => Riiiii.enc (r7.2.2.2.2.2.2.2.2.2 i)) v12 (fun i => RiiiiiiiiiiiiiiiiiiiiiiiiiiiiiL2.enc (v13 i)) v14 (IntKind.i64.wrap (v15 + 1))
    else
    bif ((Go.bits .and .i64 (v13 (Int.toNat v15)).1 7) == 5) then
      (law09.Deed.Joint.f ((v13 (Int.toNat v15)).1, (v13 (Int.toNat v15)).2.1, (v13 (Int.toNat v15)).2.2.1, (v13 (Int.toNat v15)).2.2.2.1, (v13 (Int.toNat v15)).2.2.2.2.1, (v13 (Int.toNat v15)).2.2.2.2.2.1, (v13 (Int.toNat v15)).2.2.2.2.2.2.1, (v13 (Int.toNat v15)).2.2.2.2.2.2.2.1, (v13 (Int.toNat v15)).2.2.2.2.2.2.2.2.1, (v13 (Int.toNat v15)).2.2.2.2.2.2.2.2.2.1, (v13 (Int.toNat v15)).2.2.2.2.2.2.2.2.2.2.1, (v13 (Int.toNat v15)).2.2.2.2.2.2.2.2.2.2.2.1, (v13 (Int.toNat v15)).2.2.2.2.2.2.2.2.2.2.2.2.1, (v13 (Int.toNat v15)).2.2.2.2.2.2.2.2.2.2.2.2.2.1, (v13 (Int.toNat v15)).2.2.2.2.2.2.2.2.2.2.2.2.2.2.1, (v13 (Int.toNat v15)).2.2.2.2.2.2.2.2.2.2.2.2.2.2.2.1, (v13 (Int.toNat v15)).2.2.2.2.2.2.2.2.2.2.2.2.2.2.2.2.1, (v13 (Int.toNat v15)).2.2.2.2.2.2.2.2.2.2.2.2.2.2.2.2.2.1, (v13 (Int.toNat v15)).2.2.2.2.2.2.2.2.2.2.2.2.2.2.2.2.2.2.1, (v13 (Int.toNat v15)).2.2.2.2.2.2.2.2.2.2.2.2.2.2.2.2.2.2.2.1, (v13 (Int.toNat v15)).2.2.2.2.2.2.2.2.2.2.2.2.2.2.2.2.2.2.2.2.1, (v13 (Int.toNat v15)).2.2.2.2.2.2.2.2.2.2.2.2.2.2.2.2.2.2.2.2.2.1, (v13 (Int.toNat v15)).2.2.2.2.2.2.2.2.2.2.2.2.2.2.2.2.2.2.2.2.2.2.1, (v13 (Int.toNat v15)).2.2.2.2.2.2.2.2.2.2.2.2.2.2.2.2.2.2.2.2.2.2.2.1, (v13 (Int.toNat v15)).2.2.2.2.2.2.2.2.2.2.2.2.2.2.2.2.2.2.2.2.2.2.2.2.1, (v13 (Int.toNat v15)).2.2.2.2.2.2.2.2.2.2.2.2.2.2.2.2.2.2.2.2.2.2.2.2.2.1, (v13 (Int.toNat v15)).2.2.2.2.2.2.2.2.2.2.2.2.2.2.2.2.2.2.2.2.2.2.2.2.2.2.1, (v13 (Int.toNat v15)).2.2.2.2.2.2.2.2.2.2.2.2.2.2.2.2.2.2.2.2.2.2.2.2.2.2.2.1, (v13 (Int.toNat v15)).2.2.2.2.2.2.2.2.2.2.2.2.2.2.2.2.2.2.2.2.2.2.2.2.2.2.2.2.1, ((v13 (Int.toNat v15)).2.2.2.2.2.2.2.2.2.2.2.2.2.2.2.2.2.2.2.2.2.2.2.2.2.2.2.2.2.1, (v13 (Int.toNat v15)).2.2.2.2.2.2.2.2.2.2.2.2.2.2.2.2.2.2.2.2.2.2.2.2.2.2.2.2.2.2))).bind fun r8 =>
      (world.AddJoint.f ((v1, v2, v3, v4, v5, (v6, (fun i => RiiiiiiiiiiL2.enc (v7 i))), (v8, (fun i => Riiiiiiii.enc (v9 i))), (v10, (fun i => Riiiii.enc (v11 i)))), (r8.1, r8.2.1, r8.2.2.1, r8.2.2.2.1, r8.2.2.2.2.1, r8.2.2.2.2.2.1, r8.2.2.2.2.2.2.1, r8.2.2.2.2.2.2.2))).bind fun r9 =>
      law09.Made.l0 k0 k1 r9.2.1 r9.2.2.1 r9.2.2.2.1 r9.2.2.2.2.1 r9.2.2.2.2.2.1 r9.2.2.2.2.2.2.1.1 (fun i => RiiiiiiiiiiL2.enc (r9.2.2.2.2.2.2.1.2 i)) r9.2.2.2.2.2.2.2.1.1 (fun i => Riiiiiiii.enc (r9.2.2.2.2.2.2.2.1.2 i)) r9.2.2.2.2.2.2.2.2.1 (fun i => Riiiii.enc (r9.2.2.2.2.2.2.2.2.2 i)) v12 (fun i => RiiiiiiiiiiiiiiiiiiiiiiiiiiiiiL2.enc (v13 i)) v14 (IntKind.i64.wrap (v15 + 1))
    else
    bif ((Go.bits .and .i64 (v13 (Int.toNat v15)).1 7) == 6) then
      (world.RemoveBody.f ((v1, v2, v3, v4, v5, (v6, (fun i => RiiiiiiiiiiL2.enc (v7 i))), (v8, (fun i => Riiiiiiii.enc (v9 i))), (v10, (fun i => Riiiii.enc (v11 i)))), (Go.bits .and .i64 (v13 (Int.toNat v15)).2.2.2.2.2.2.2.2.2.2.2.2.1 15))).bind fun r10 =>
      law09.Made.l0 k0 k1 r10.2.1 r10.2.2.1 r10.2.2.2.1 r10.2.2.2.2.1 r10.2.2.2.2.2.1 r10.2.2.2.2.2.2.1.1 (fun i => RiiiiiiiiiiL2.enc (r10.2.2.2.2.2.2.1.2 i)) r10.2.2.2.2.2.2.2.1.1 (fun i => Riiiiiiii.enc (r10.2.2.2.2.2.2.2.1.2 i)) r10.2.2.2.2.2.2.2.2.1 (fun i => Riiiii.enc (r10.2.2.2.2.2.2.2.2.2 i)) v12 (fun i => RiiiiiiiiiiiiiiiiiiiiiiiiiiiiiL2.enc (v13 i)) v14 (IntKind.i64.wrap (v15 + 1))
    else
    bif ((Go.bits .and .i64 (v13 (Int.toNat v15)).1 7) == 3) then
      (world.RemoveJoint.f ((v1, v2, v3, v4, v5, (v6, (fun i => RiiiiiiiiiiL2.enc (v7 i))), (v8, (fun i => Riiiiiiii.enc (v9 i))), (v10, (fun i => Riiiii.enc (v11 i)))), (Go.bits .and .i64 (v13 (Int.toNat v15)).2.2.2.2.2.2.2.2.2.2.2.2.1 15))).bind fun r11 =>
      law09.Made.l0 k0 k1 r11.2.1 r11.2.2.1 r11.2.2.2.1 r11.2.2.2.2.1 r11.2.2.2.2.2.1 r11.2.2.2.2.2.2.1.1 (fun i => RiiiiiiiiiiL2.enc (r11.2.2.2.2.2.2.1.2 i)) r11.2.2.2.2.2.2.2.1.1 (fun i => Riiiiiiii.enc (r11.2.2.2.2.2.2.2.1.2 i)) r11.2.2.2.2.2.2.2.2.1 (fun i => Riiiii.enc (r11.2.2.2.2.2.2.2.2.2 i)) v12 (fun i => RiiiiiiiiiiiiiiiiiiiiiiiiiiiiiL2.enc (v13 i)) v14 (IntKind.i64.wrap (v15 + 1))
    else
    (law09.Deed.Body.f ((v13 (Int.toNat v15)).1, (v13 (Int.toNat v15)).2.1, (v13 (Int.toNat v15)).2.2.1, (v13 (Int.toNat v15)).2.2.2.1, (v13 (Int.toNat v15)).2.2.2.2.1, (v13 (Int.toNat v15)).2.2.2.2.2.1, (v13 (Int.toNat v15)).2.2.2.2.2.2.1, (v13 (Int.toNat v15)).2.2.2.2.2.2.2.1, (v13 (Int.toNat v15)).2.2.2.2.2.2.2.2.1, (v13 (Int.toNat v15)).2.2.2.2.2.2.2.2.2.1, (v13 (Int.toNat v15)).2.2.2.2.2.2.2.2.2.2.1, (v13 (Int.toNat v15)).2.2.2.2.2.2.2.2.2.2.2.1, (v13 (Int.toNat v15)).2.2.2.2.2.2.2.2.2.2.2.2.1, (v13 (Int.toNat v15)).2.2.2.2.2.2.2.2.2.2.2.2.2.1, (v13 (Int.toNat v15)).2.2.2.2.2.2.2.2.2.2.2.2.2.2.1, (v13 (Int.toNat v15)).2.2.2.2.2.2.2.2.2.2.2.2.2.2.2.1, (v13 (Int.toNat v15)).2.2.2.2.2.2.2.2.2.2.2.2.2.2.2.2.1, (v13 (Int.toNat v15)).2.2.2.2.2.2.2.2.2.2.2.2.2.2.2.2.2.1, (v13 (Int.toNat v15)).2.2.2.2.2.2.2.2.2.2.2.2.2.2.2.2.2.2.1, (v13 (Int.toNat v15)).2.2.2.2.2.2.2.2.2.2.2.2.2.2.2.2.2.2.2.1, (v13 (Int.toNat v15)).2.2.2.2.2.2.2.2.2.2.2.2.2.2.2.2.2.2.2.2.1, (v13 (Int.toNat v15)).2.2.2.2.2.2.2.2.2.2.2.2.2.2.2.2.2.2.2.2.2.1, (v13 (Int.toNat v15)).2.2.2.2.2.2.2.2.2.2.2.2.2.2.2.2.2.2.2.2.2.2.1, (v13 (Int.toNat v15)).2.2.2.2.2.2.2.2.2.2.2.2.2.2.2.2.2.2.2.2.2.2.2.1, (v13 (Int.toNat v15)).2.2.2.2.2.2.2.2.2.2.2.2.2.2.2.2.2.2.2.2.2.2.2.2.1, (v13 (Int.toNat v15)).2.2.2.2.2.2.2.2.2.2.2.2.2.2.2.2.2.2.2.2.2.2.2.2.2.1, (v13 (Int.toNat v15)).2.2.2.2.2.2.2.2.2.2.2.2.2.2.2.2.2.2.2.2.2.2.2.2.2.2.1, (v13 (Int.toNat v15)).2.2.2.2.2.2.2.2.2.2.2.2.2.2.2.2.2.2.2.2.2.2.2.2.2.2.2.1, (v13 (Int.toNat v15)).2.2.2.2.2.2.2.2.2.2.2.2.2.2.2.2.2.2.2.2.2.2.2.2.2.2.2.2.1, ((v13 (Int.toNat v15)).2.2.2.2.2.2.2.2.2.2.2.2.2.2.2.2.2.2.2.2.2.2.2.2.2.2.2.2.2.1, (v13 (Int.toNat v15)).2.2.2.2.2.2.2.2.2.2.2.2.2.2.2.2.2.2.2.2.2.2.2.2.2.2.2.2.2.2))).bind fun r12 =>
    (world.AddBody.f ((v1, v2, v3, v4, v5, (v6, (fun i => RiiiiiiiiiiL2.enc (v7 i))), (v8, (fun i => Riiiiiiii.enc (v9 i))), (v10, (fun i => Riiiii.enc (v11 i)))), (r12.1, r12.2.1, r12.2.2.1, r12.2.2.2.1, r12.2.2.2.2.1, r12.2.2.2.2.2.1, r12.2.2.2.2.2.2.1, r12.2.2.2.2.2.2.2.1, r12.2.2.2.2.2.2.2.2.1, r12.2.2.2.2.2.2.2.2.2.1, (r12.2.2.2.2.2.2.2.2.2.2.1, (fun i => Rii.enc (r12.2.2.2.2.2.2.2.2.2.2.2 i)))))).bind fun r13 =>
    law09.Made.l0 k0 k1 r13.2.1 r13.2.2.1 r13.2.2.2.1 r13.2.2.2.2.1 r13.2.2.2.2.2.1 r13.2.2.2.2.2.2.1.1 (fun i => RiiiiiiiiiiL2.enc (r13.2.2.2.2.2.2.1.2 i)) r13.2.2.2.2.2.2.2.1.1 (fun i => Riiiiiiii.enc (r13.2.2.2.2.2.2.2.1.2 i)) r13.2.2.2.2.2.2.2.2.1 (fun i => Riiiii.enc (r13.2.2.2.2.2.2.2.2.2 i)) v12 (fun i => RiiiiiiiiiiiiiiiiiiiiiiiiiiiiiL2.enc (v13 i)) v14 (IntKind.i64.wrap (v15 + 1))
    else none
  else
  (tG (tCons (tI .i64) (tCons (tI .i64) (tCons (tI .i64) (tCons (tI .i64) (tCons (tI .i64) (tCons (tTL RiiiiiiiiiiL2 11 (0, 0, 0, 0, 0, 0, 0, 0, 0, 0, (0, fun _ => []))) (tCons (tTL Riiiiiiii 8 (0, 0, 0, 0, 0, 0, 0, 0)) (tOne (tTL Riiiii 5 (0, 0, 0, 0, 0))))))))))).dec (.agg [.val (.int .i64 v1), .val (.int .i64 v2), .val (.int .i64 v3), .val (.int .i64 v4), .val (.int .i64 v5), .lst 11 v6 none (fun i => RiiiiiiiiiiL2.enc (v7 i)), .lst 8 v8 none (fun i => Riiiiiiii.enc (v9 i)), .lst 5 v10 none (fun i => Riiiii.enc (v11 i))]) := by kernel_rfl
theorem law09.Made.eq (k0 : Nat) (p0_n : Nat) (p0_g : Nat → (Int × Int × Int × Int × Int × Int × Int × Int × Int × Int × Int × Int × Int × Int × Int × Int × Int × Int × Int × Int × Int × Int × Int × Int × Int × Int × Int × Int × Int × (Nat × (Nat → List AV)))) (p1 : Int) : law09.Made.g k0 ((p0_n, (fun i => RiiiiiiiiiiiiiiiiiiiiiiiiiiiiiL2.enc (p0_g i))), p1) =
  (world.New.f ()).bind fun r1 =>
  bif ((decide (0 ≤ (if p1 < ((p0_n : Nat) : Int) then p1 else ((p0_n : Nat) : Int)))) && (decide ((if p1 < ((p0_n : Nat) : Int) then p1 else ((p0_n : Nat) : Int)) ≤ ((p0_n : Nat) : Int)))) then
  law09.Made.l0 k0 k0 r1.1 r1.2.1 r1.2.2.1 r1.2.2.2.1 r1.2.2.2.2.1 r1.2.2.2.2.2.1.1 (fun i => RiiiiiiiiiiL2.enc (r1.2.2.2.2.2.1.2 i)) r1.2.2.2.2.2.2.1.1 (fun i => Riiiiiiii.enc (r1.2.2.2.2.2.2.1.2 i)) r1.2.2.2.2.2.2.2.1 (fun i => Riiiii.enc (r1.2.2.2.2.2.2.2.2 i)) (Int.toNat (if p1 < ((p0_n : Nat) : Int) then p1 else ((p0_n : Nat) : Int))) (fun i => RiiiiiiiiiiiiiiiiiiiiiiiiiiiiiL2.enc (p0_g i)) (((Int.toNat (if p1 < ((p0_n : Nat) : Int) then p1 else ((p0_n : Nat) : Int))) : Nat) : Int) 0
  else none := by kernel_rfl
/-! ### bagatelle/world.sameBody -/
noncomputable def world.sameBody.cs : List (Nat × Fw.Summ) := [(31, shape.Same.s)]
theorem world.sameBody.cs_ok : SumsOk Try.prog world.sameBody.cs := .cons shape.Same.ok (.nil)
def world.sameBody.hs : List (Nat × LHint) := []
noncomputable def world.sameBody.G : Ctx := ⟨Try.prog, sumAt world.sameBody.cs, lookH world.sameBody.hs⟩
noncomputable def world.sameBody.f (x : ((Int × Int × Int × Int × Int × Int × Int × Int × Int × Int × (Nat × (Nat → List AV))) × (Int × Int × Int × Int × Int × Int × Int × Int × Int × Int × (Nat × (Nat → List AV))))) : Option Bool := evF world.sameBody.G 0 Try.f43 ((tCons (tG (tCons (tI .i64) (tCons (tI .i64) (tCons (tI .i64) (tCons (tI .i64) (tCons (tI .i64) (tCons (tI .i64) (tCons (tI .i64) (tCons (tI .i64) (tCons (tI .i64) (tCons (tI .i64) (tOne (tLz 2 (Rii.enc (0, 0))))))))))))))) (tOne (tG (tCons (tI .i64) (tCons (tI .i64) (tCons (tI .i64) (tCons (tI .i64) (tCons (tI .i64) (tCons (tI .i64) (tCons (tI .i64) (tCons (tI .i64) (tCons (tI .i64) (tCons (tI .i64) (tOne (tLz 2 (Rii.enc (0, 0))))))))))))))))).enc x) tB.dec
noncomputable def world.sameBody.s : Fw.Summ := .mk' (tCons (tG (tCons (tI .i64) (tCons (tI .i64) (tCons (tI .i64) (tCons (tI .i64) (tCons (tI .i64) (tCons (tI .i64) (tCons (tI .i64) (tCons (tI .i64) (tCons (tI .i64) (tCons (tI .i64) (tOne (tLz 2 (Rii.enc (0, 0))))))))))))))) (tOne (tG (tCons (tI .i64) (tCons (tI .i64) (tCons (tI .i64) (tCons (tI .i64) (tCons (tI .i64) (tCons (tI .i64) (tCons (tI .i64) (tCons (tI .i64) (tCons (tI .i64) (tCons (tI .i64) (tOne (tLz 2 (Rii.enc (0, 0))))))))))))))))) tB world.sameBody.f
theorem world.sameBody.ok : world.sameBody.s.Ok Try.prog 43 :=
  summ_ok (hint := lookH world.sameBody.hs) (fn := Try.f43) (fun x => 0) world.sameBody.cs_ok (by kernel_rfl) (by kernel_rfl) (by kernel_rfl) (by kernel_rfl) (tCons_ok (tG_ok (tCons_ok (tI_ok _) (tCons_ok (tI_ok _) (tCons_ok (tI_ok _) (tCons_ok (tI_ok _) (tCons_ok (tI_ok _) (tCons_ok (tI_ok _) (tCons_ok (tI_ok _) (tCons_ok (tI_ok _) (tCons_ok (tI_ok _) (tCons_ok (tI_ok _) (tOne_ok (tLz_ok _ _))))))))))))) (tOne_ok (tG_ok (tCons_ok (tI_ok _) (tCons_ok (tI_ok _) (tCons_ok (tI_ok _) (tCons_ok (tI_ok _) (tCons_ok (tI_ok _) (tCons_ok (tI_ok _) (tCons_ok (tI_ok _) (tCons_ok (tI_ok _) (tCons_ok (tI_ok _) (tCons_ok (tI_ok _) (tOne_ok (tLz_ok _ _))))))))))))))) tB_ok (fun _ => rfl)
theorem world.sameBody.eq (p0_0 : Int) (p0_1 : Int) (p0_2 : Int) (p0_3 : Int) (p0_4 : Int) (p0_5 : Int) (p0_6 : Int) (p0_7 : Int) (p0_8 : Int) (p0_9 : Int) (p0_10_n : Nat) (p0_10_g : Nat → (Int × Int)) (p1_0 : Int) (p1_1 : Int) (p1_2 : Int) (p1_3 : Int) (p1_4 : Int) (p1_5 : Int) (p1_6 : Int) (p1_7 : Int) (p1_8 : Int) (p1_9 : Int) (p1_10_n : Nat) (p1_10_g : Nat → (Int × Int)) : world.sameBody.f ((p0_0, p0_1, p0_2, p0_3, p0_4, p0_5, p0_6, p0_7, p0_8, p0_9, (p0_10_n, (fun i => Rii.enc (p0_10_g i)))), (p1_0, p1_1, p1_2, p1_3, p1_4, p1_5, p1_6, p1_7, p1_8, p1_9, (p1_10_n, (fun i => Rii.enc (p1_10_g i))))) =
  bif (p0_0 == p1_0) then
    bif ((p0_1 == p1_1) && ((p0_2 == p1_2) && true)) then
      bif ((p0_3 == p1_3) && ((p0_4 == p1_4) && true)) then
        bif (p0_5 == p1_5) then
          bif (p0_6 == p1_6) then
            bif (p0_7 == p1_7) then
              (shape.Same.f ((p0_8, p0_9, (p0_10_n, (fun i => Rii.enc (p0_10_g i)))), (p1_8, p1_9, (p1_10_n, (fun i => Rii.enc (p1_10_g i)))))).bind fun r1 =>
              some r1
            else
            some false
          else
          some false
        else
        some false
      else
      some false
    else
    some false
  else
  some false := by kernel_rfl
/-! ### slices.Equal[[]bagatelle/api.Joint,bagatelle/api.Joint] -/
noncomputable def slices.Equal_lJoint_Joint.cs : List (Nat × Fw.Summ) := []
theorem slices.Equal_lJoint_Joint.cs_ok : SumsOk Try.prog slices.Equal_lJoint_Joint.cs := .nil
def slices.Equal_lJoint_Joint.hs : List (Nat × LHint) := [(0, { mat := [], live := [0, 1, 12, 13], ren := [] })]
noncomputable def slices.Equal_lJoint_Joint.G : Ctx := ⟨Try.prog, sumAt slices.Equal_lJoint_Joint.cs, lookH slices.Equal_lJoint_Joint.hs⟩
noncomputable def slices.Equal_lJoint_Joint.g (k0 : Nat) (x : ((Nat × (Nat → List AV)) × (Nat × (Nat → List AV)))) : Option Bool := evF slices.Equal_lJoint_Joint.G k0 Try.f44 ((tCons (tLz 8 (Riiiiiiii.enc (0, 0, 0, 0, 0, 0, 0, 0))) (tOne (tLz 8 (Riiiiiiii.enc (0, 0, 0, 0, 0, 0, 0, 0))))).enc x) tB.dec
noncomputable def slices.Equal_lJoint_Joint.f (x : ((Nat × (Nat → List AV)) × (Nat × (Nat → List AV)))) : Option Bool := slices.Equal_lJoint_Joint.g (1000000) x
noncomputable def slices.Equal_lJoint_Joint.s : Fw.Summ := .mk' (tCons (tLz 8 (Riiiiiiii.enc (0, 0, 0, 0, 0, 0, 0, 0))) (tOne (tLz 8 (Riiiiiiii.enc (0, 0, 0, 0, 0, 0, 0, 0))))) tB slices.Equal_lJoint_Joint.f
theorem slices.Equal_lJoint_Joint.ok : slices.Equal_lJoint_Joint.s.Ok Try.prog 44 :=
  summ_ok (hint := lookH slices.Equal_lJoint_Joint.hs) (fn := Try.f44) (fun x => 1000000) slices.Equal_lJoint_Joint.cs_ok (by kernel_rfl) (by kernel_rfl) (by kernel_rfl) (by kernel_rfl) (tCons_ok (tLz_ok _ _) (tOne_ok (tLz_ok _ _))) tB_ok (fun _ => rfl)
noncomputable def slices.Equal_lJoint_Joint.l0 (k0 k1 : Nat) (v1 : Nat) (v2 : Nat → List AV) (v3 : Nat) (v4 : Nat → List AV) (v5 : Int) (v6 : Int) : Option Bool :=
  evLoop (lookH slices.Equal_lJoint_Joint.hs 0) 0 (ev slices.Equal_lJoint_Joint.G k0 (codeAt [1, 1, 0, 1, 0, 0] (bodyOf Try.f44)) 0) k1
  ⟨[.lst 8 v1 none v2, .lst 8 v3 none v4, .top, .top, .top, .top, .top, .top, .top, .top, .top, .top, .val (.int .i64 v5), .val (.int .i64 v6), .top, .top, .top, .top, .top, .top, .top, .top, .top, .top, .top, .top], []⟩
  (kBlock 0 (kSeq slices.Equal_lJoint_Joint.G k0 (codeAt [1, 1, 1] (bodyOf Try.f44)) 0 (kFin slices.Equal_lJoint_Joint.G Try.f44 tB.dec)))
theorem slices.Equal_lJoint_Joint.l0_eq (k0 k1 : Nat) (v1 : Nat) (v2 : Nat → (Int × Int × Int × Int × Int × Int × Int × Int)) (v3 : Nat) (v4 : Nat → (Int × Int × Int × Int × Int × Int × Int × Int)) (v5 : Int) (v6 : Int) : slices.Equal_lJoint_Joint.l0 k0 (k1 + 1) v1 (fun i => Riiiiiiii.enc (v2 i)) v3 (fun i => Riiiiiiii.enc (v4 i)) v5 v6 =
  bif (decide (v6 < v5)) then
    bif ((decide (0 ≤ v6)) && (decide (v6 < ((v1 : Nat) : Int)))) then
    bif ((decide (0 ≤ v6)) && (decide (v6 < ((v3 : Nat) : Int)))) then
    bif (!(((v2 (Int.toNat v6)).1 == (v4 (Int.toNat v6)).1) && (((v2 (Int.toNat v6)).2.1 == (v4 (Int.toNat v6)).2.1) && (((v2 (Int.toNat v6)).2.2.1 == (v4 (Int.toNat v6)).2.2.1) && ((((v2 (Int.toNat v6)).2.2.2.1 == (v4 (Int.toNat v6)).2.2.2.1) && (((v2 (Int.toNat v6)).2.2.2.2.1 == (v4 (Int.toNat v6)).2.2.2.2.1) && true)) && ((((v2 (Int.toNat v6)).2.2.2.2.2.1 == (v4 (Int.toNat v6)).2.2.2.2.2.1) && (((v2 (Int.toNat v6)).2.2.2.2.2.2.1 == (v4 (Int.toNat v6)).2.2.2.2.2.2.1) && true)) && (((v2 (Int.toNat v6)).2.2.2.2.2.2.2 == (v4 (Int.toNat v6)).2.2.2.2.2.2.2) && true))))))) then
      some false
    else
    slices.Equal_lJoint_Joint.l0 k0 k1 v1 (fun i => Riiiiiiii.enc (v2 i)) v3 (fun i => Riiiiiiii.enc (v4 i)) v5 (IntKind.i64.wrap (v6 + 1))
    else none
    else none
  else
  some true := by kernel_rfl
theorem slices.Equal_lJoint_Joint.eq (k0 : Nat) (p0_n : Nat) (p0_g : Nat → (Int × Int × Int × Int × Int × Int × Int × Int)) (p1_n : Nat) (p1_g : Nat → (Int × Int × Int × Int × Int × Int × Int × Int)) : slices.Equal_lJoint_Joint.g k0 ((p0_n, (fun i => Riiiiiiii.enc (p0_g i))), (p1_n, (fun i => Riiiiiiii.enc (p1_g i)))) =
  bif (((p0_n : Nat) : Int) != ((p1_n : Nat) : Int)) then
    some false
  else
  slices.Equal_lJoint_Joint.l0 k0 k0 p0_n (fun i => Riiiiiiii.enc (p0_g i)) p1_n (fun i => Riiiiiiii.enc (p1_g i)) ((p0_n : Nat) : Int) 0 := by kernel_rfl
/-! ### slices.Equal[[]bagatelle/api.Contact,bagatelle/api.Contact] -/
noncomputable def slices.Equal_lContact_Contact.cs : List (Nat × Fw.Summ) := []
theorem slices.Equal_lContact_Contact.cs_ok : SumsOk Try.prog slices.Equal_lContact_Contact.cs := .nil
def slices.Equal_lContact_Contact.hs : List (Nat × LHint) := [(0, { mat := [], live := [0, 1, 12, 13], ren := [] })]
noncomputable def slices.Equal_lContact_Contact.G : Ctx := ⟨Try.prog, sumAt slices.Equal_lContact_Contact.cs, lookH slices.Equal_lContact_Contact.hs⟩
noncomputable def slices.Equal_lContact_Contact.g (k0 : Nat) (x : ((Nat × (Nat → List AV)) × (Nat × (Nat → List AV)))) : Option Bool := evF slices.Equal_lContact_Contact.G k0 Try.f45 ((tCons (tLz 5 (Riiiii.enc (0, 0, 0, 0, 0))) (tOne (tLz 5 (Riiiii.enc (0, 0, 0, 0, 0))))).enc x) tB.dec
noncomputable def slices.Equal_lContact_Contact.f (x : ((Nat × (Nat → List AV)) × (Nat × (Nat → List AV)))) : Option Bool := slices.Equal_lContact_Contact.g (1000000) x
noncomputable def slices.Equal_lContact_Contact.s : Fw.Summ := .mk' (tCons (tLz 5 (Riiiii.enc (0, 0, 0, 0, 0))) (tOne (tLz 5 (Riiiii.enc (0, 0, 0, 0, 0))))) tB slices.Equal_lContact_Contact.f
theorem slices.Equal_lContact_Contact.ok : slices.Equal_lContact_Contact.s.Ok Try.prog 45 :=
  summ_ok (hint := lookH slices.Equal_lContact_Contact.hs) (fn := Try.f45) (fun x => 1000000) slices.Equal_lContact_Contact.cs_ok (by kernel_rfl) (by kernel_rfl) (by kernel_rfl) (by kernel_rfl) (tCons_ok (tLz_ok _ _) (tOne_ok (tLz_ok _ _))) tB_ok (fun _ => rfl)
noncomputable def slices.Equal_lContact_Contact.l0 (k0 k1 : Nat) (v1 : Nat) (v2 : Nat → List AV) (v3 : Nat) (v4 : Nat → List AV) (v5 : Int) (v6 : Int) : Option Bool :=
  evLoop (lookH slices.Equal_lContact_Contact.hs 0) 0 (ev slices.Equal_lContact_Contact.G k0 (codeAt [1, 1, 0, 1, 0, 0] (bodyOf Try.f45)) 0) k1
  ⟨[.lst 5 v1 none v2, .lst 5 v3 none v4, .top, .top, .top, .top, .top, .top, .top, .top, .top, .top, .val (.int .i64 v5), .val (.int .i64 v6), .top, .top, .top, .top, .top, .top, .top, .top, .top, .top, .top, .top], []⟩
  (kBlock 0 (kSeq slices.Equal_lContact_Contact.G k0 (codeAt [1, 1, 1] (bodyOf Try.f45)) 0 (kFin slices.Equal_lContact_Contact.G Try.f45 tB.dec)))
theorem slices.Equal_lContact_Contact.l0_eq (k0 k1 : Nat) (v1 : Nat) (v2 : Nat → (Int × Int × Int × Int × Int)) (v3 : Nat) (v4 : Nat → (Int × Int × Int × Int × Int)) (v5 : Int) (v6 : Int) : slices.Equal_lContact_Contact.l0 k0 (k1 + 1) v1 (fun i => Riiiii.enc (v2 i)) v3 (fun i => Riiiii.enc (v4 i)) v5 v6 =
  bif (decide (v6 < v5)) then
    bif ((decide (0 ≤ v6)) && (decide (v6 < ((v1 : Nat) : Int)))) then
    bif ((decide (0 ≤ v6)) && (decide (v6 < ((v3 : Nat) : Int)))) then
    bif (!(((v2 (Int.toNat v6)).1 == (v4 (Int.toNat v6)).1) && (((v2 (Int.toNat v6)).2.1 == (v4 (Int.toNat v6)).2.1) && (((v2 (Int.toNat v6)).2.2.1 == (v4 (Int.toNat v6)).2.2.1) && (((v2 (Int.toNat v6)).2.2.2.1 == (v4 (Int.toNat v6)).2.2.2.1) && (((v2 (Int.toNat v6)).2.2.2.2 == (v4 (Int.toNat v6)).2.2.2.2) && true)))))) then
      some false
    else
    slices.Equal_lContact_Contact.l0 k0 k1 v1 (fun i => Riiiii.enc (v2 i)) v3 (fun i => Riiiii.enc (v4 i)) v5 (IntKind.i64.wrap (v6 + 1))
    else none
    else none
  else
  some true := by kernel_rfl
theorem slices.Equal_lContact_Contact.eq (k0 : Nat) (p0_n : Nat) (p0_g : Nat → (Int × Int × Int × Int × Int)) (p1_n : Nat) (p1_g : Nat → (Int × Int × Int × Int × Int)) : slices.Equal_lContact_Contact.g k0 ((p0_n, (fun i => Riiiii.enc (p0_g i))), (p1_n, (fun i => Riiiii.enc (p1_g i)))) =
  bif (((p0_n : Nat) : Int) != ((p1_n : Nat) : Int)) then
    some false
  else
  slices.Equal_lContact_Contact.l0 k0 k0 p0_n (fun i => Riiiii.enc (p0_g i)) p1_n (fun i => Riiiii.enc (p1_g i)) ((p0_n : Nat) : Int) 0 := by kernel_rfl
/-! ### slices.EqualFunc[[]bagatelle/api.Body,[]bagatelle/api.Body,bagatelle/api.Body,bagatelle/api.Body] -/
noncomputable def slices.EqualFunc_lBody_lBody_Body_Body.cs : List (Nat × Fw.Summ) := [(43, world.sameBody.s)]
theorem slices.EqualFunc_lBody_lBody_Body_Body.cs_ok : SumsOk Try.prog slices.EqualFunc_lBody_lBody_Body_Body.cs := .cons world.sameBody.ok (.nil)
def slices.EqualFunc_lBody_lBody_Body_Body.hs : List (Nat × LHint) := [(0, { mat := [], live := [1, 2, 15, 16, 17], ren := [] })]
noncomputable def slices.EqualFunc_lBody_lBody_Body_Body.G : Ctx := ⟨Try.prog, sumAt slices.EqualFunc_lBody_lBody_Body_Body.cs, lookH slices.EqualFunc_lBody_lBody_Body_Body.hs⟩
noncomputable def slices.EqualFunc_lBody_lBody_Body_Body.g (k0 : Nat) (x : ((Nat × (Nat → List AV)) × (Nat × (Nat → List AV)) × Unit)) : Option Bool := evF slices.EqualFunc_lBody_lBody_Body_Body.G k0 Try.f42 ((tCons (tLz 11 (RiiiiiiiiiiL2.enc (0, 0, 0, 0, 0, 0, 0, 0, 0, 0, (0, fun _ => [])))) (tCons (tLz 11 (RiiiiiiiiiiL2.enc (0, 0, 0, 0, 0, 0, 0, 0, 0, 0, (0, fun _ => [])))) (tOne (tF 43 tNil)))).enc x) tB.dec
noncomputable def slices.EqualFunc_lBody_lBody_Body_Body.f (x : ((Nat × (Nat → List AV)) × (Nat × (Nat → List AV)) × Unit)) : Option Bool := slices.EqualFunc_lBody_lBody_Body_Body.g (1000000) x
noncomputable def slices.EqualFunc_lBody_lBody_Body_Body.s : Fw.Summ := .mk' (tCons (tLz 11 (RiiiiiiiiiiL2.enc (0, 0, 0, 0, 0, 0, 0, 0, 0, 0, (0, fun _ => [])))) (tCons (tLz 11 (RiiiiiiiiiiL2.enc (0, 0, 0, 0, 0, 0, 0, 0, 0, 0, (0, fun _ => [])))) (tOne (tF 43 tNil)))) tB slices.EqualFunc_lBody_lBody_Body_Body.f
theorem slices.EqualFunc_lBody_lBody_Body_Body.ok : slices.EqualFunc_lBody_lBody_Body_Body.s.Ok Try.prog 42 :=
  summ_ok (hint := lookH slices.EqualFunc_lBody_lBody_Body_Body.hs) (fn := Try.f42) (fun x => 1000000) slices.EqualFunc_lBody_lBody_Body_Body.cs_ok (by kernel_rfl) (by kernel_rfl) (by kernel_rfl) (by kernel_rfl) (tCons_ok (tLz_ok _ _) (tCons_ok (tLz_ok _ _) (tOne_ok (tF_ok _ tNil_ok)))) tB_ok (fun _ => rfl)
noncomputable def slices.EqualFunc_lBody_lBody_Body_Body.l0 (k0 k1 : Nat) (v1 : Nat) (v2 : Nat → List AV) (v3 : Nat) (v4 : Nat → List AV) (v5 : Int) (v6 : Int) : Option Bool :=
  evLoop (lookH slices.EqualFunc_lBody_lBody_Body_Body.hs 0) 0 (ev slices.EqualFunc_lBody_lBody_Body_Body.G k0 (codeAt [1, 1, 0, 1, 0, 0] (bodyOf Try.f42)) 0) k1
  ⟨[.top, .lst 11 v1 none v2, .fn 43 [], .top, .top, .top, .top, .top, .top, .top, .top, .top, .top, .top, .top, .lst 11 v3 none v4, .val (.int .i64 v5), .val (.int .i64 v6), .top, .top, .top, .top, .top, .top, .top, .top, .top, .top, .top, .top, .top, .top], []⟩
  (kBlock 0 (kSeq slices.EqualFunc_lBody_lBody_Body_Body.G k0 (codeAt [1, 1, 1] (bodyOf Try.f42)) 0 (kFin slices.EqualFunc_lBody_lBody_Body_Body.G Try.f42 tB.dec)))
theorem slices.EqualFunc_lBody_lBody_Body_Body.l0_eq (k0 k1 : Nat) (v1 : Nat) (v2 : Nat → (Int × Int × Int × Int × Int × Int × Int × Int × Int × Int × (Nat × (Nat → List AV)))) (v3 : Nat) (v4 : Nat → (Int × Int × Int × Int × Int × Int × Int × Int × Int × Int × (Nat × (Nat → List AV)))) (v5 : Int) (v6 : Int) : slices.EqualFunc_lBody_lBody_Body_Body.l0 k0 (k1 + 1) v1 (fun i => RiiiiiiiiiiL2.enc (v2 i)) v3 (fun i => RiiiiiiiiiiL2.enc (v4 i)) v5 v6 =
  bif (decide (v6 < v5)) then
    bif ((decide (0 ≤ v6)) && (decide (v6 < ((v3 : Nat) : Int)))) then
    bif ((decide (0 ≤ v6)) && (decide (v6 < ((v1 : Nat) : Int)))) then
    (world.sameBody.f (((v4 (Int.toNat v6)).1, (v4 (Int.toNat v6)).2.1, (v4 (Int.toNat v6)).2.2.1, (v4 (Int.toNat v6)).2.2.2.1, (v4 (Int.toNat v6)).2.2.2.2.1, (v4 (Int.toNat v6)).2.2.2.2.2.1, (v4 (Int.toNat v6)).2.2.2.2.2.2.1, (v4 (Int.toNat v6)).2.2.2.2.2.2.2.1, (v4 (Int.toNat v6)).2.2.2.2.2.2.2.2.1, (v4 (Int.toNat v6)).2.2.2.2.2.2.2.2.2.1, ((v4 (Int.toNat v6)).2.2.2.2.2.2.2.2.2.2.1, (v4 (Int.toNat v6)).2.2.2.2.2.2.2.2.2.2.2)), ((v2 (Int.toNat v6)).1, (v2 (Int.toNat v6)).2.1, (v2 (Int.toNat v6)).2.2.1, (v2 (Int.toNat v6)).2.2.2.1, (v2 (Int.toNat v6)).2.2.2.2.1, (v2 (Int.toNat v6)).2.2.2.2.2.1, (v2 (Int.toNat v6)).2.2.2.2.2.2.1, (v2 (Int.toNat v6)).2.2.2.2.2.2.2.1, (v2 (Int.toNat v6)).2.2.2.2.2.2.2.2.1, (v2 (Int.toNat v6)).2.2.2.2.2.2.2.2.2.1, ((v2 (Int.toNat v6)).2.2.2.2.2.2.2.2.2.2.1, (v2 (Int.toNat v6)).2.2.2.2.2.2.2.2.2.2.2)))).bind fun r1 =>
    bif (!r1) then
      some false
    else
    slices.EqualFunc_lBody_lBody_Body_Body.l0 k0 k1 v1 (fun i => RiiiiiiiiiiL2.enc (v2 i)) v3 (fun i => RiiiiiiiiiiL2.enc (v4 i)) v5 (IntKind.i64.wrap (v6 + 1))
    else none
    else none
  else
  some true := by kernel_rfl
theorem slices.EqualFunc_lBody_lBody_Body_Body.eq (k0 : Nat) (p0_n : Nat) (p0_g : Nat → (Int × Int × Int × Int × Int × Int × Int × Int × Int × Int × (Nat × (Nat → List AV)))) (p1_n : Nat) (p1_g : Nat → (Int × Int × Int × Int × Int × Int × Int × Int × Int × Int × (Nat × (Nat → List AV)))) : slices.EqualFunc_lBody_lBody_Body_Body.g k0 ((p0_n, (fun i => RiiiiiiiiiiL2.enc (p0_g i))), (p1_n, (fun i => RiiiiiiiiiiL2.enc (p1_g i))), ()) =
  bif (((p0_n : Nat) : Int) != ((p1_n : Nat) : Int)) then
    some false
  else
  slices.EqualFunc_lBody_lBody_Body_Body.l0 k0 k0 p1_n (fun i => RiiiiiiiiiiL2.enc (p1_g i)) p0_n (fun i => RiiiiiiiiiiL2.enc (p0_g i)) ((p0_n : Nat) : Int) 0 := by kernel_rfl
/-! ### bagatelle/world.Same -/
noncomputable def world.Same.cs : List (Nat × Fw.Summ) := [(42, slices.EqualFunc_lBody_lBody_Body_Body.s), (44, slices.Equal_lJoint_Joint.s), (45, slices.Equal_lContact_Contact.s)]
theorem world.Same.cs_ok : SumsOk Try.prog world.Same.cs := .cons slices.EqualFunc_lBody_lBody_Body_Body.ok (.cons slices.Equal_lJoint_Joint.ok (.cons slices.Equal_lContact_Contact.ok (.nil)))
def world.Same.hs : List (Nat × LHint) := []
noncomputable def world.Same.G : Ctx := ⟨Try.prog, sumAt world.Same.cs, lookH world.Same.hs⟩
noncomputable def world.Same.f (x : ((Int × Int × Int × Int × Int × (Nat × (Nat → List AV)) × (Nat × (Nat → List AV)) × (Nat × (Nat → List AV))) × (Int × Int × Int × Int × Int × (Nat × (Nat → List AV)) × (Nat × (Nat → List AV)) × (Nat × (Nat → List AV))))) : Option Bool := evF world.Same.G 0 Try.f14 ((tCons (tG (tCons (tI .i64) (tCons (tI .i64) (tCons (tI .i64) (tCons (tI .i64) (tCons (tI .i64) (tCons (tLz 11 (RiiiiiiiiiiL2.enc (0, 0, 0, 0, 0, 0, 0, 0, 0, 0, (0, fun _ => [])))) (tCons (tLz 8 (Riiiiiiii.enc (0, 0, 0, 0, 0, 0, 0, 0))) (tOne (tLz 5 (Riiiii.enc (0, 0, 0, 0, 0)))))))))))) (tOne (tG (tCons (tI .i64) (tCons (tI .i64) (tCons (tI .i64) (tCons (tI .i64) (tCons (tI .i64) (tCons (tLz 11 (RiiiiiiiiiiL2.enc (0, 0, 0, 0, 0, 0, 0, 0, 0, 0, (0, fun _ => [])))) (tCons (tLz 8 (Riiiiiiii.enc (0, 0, 0, 0, 0, 0, 0, 0))) (tOne (tLz 5 (Riiiii.enc (0, 0, 0, 0, 0)))))))))))))).enc x) tB.dec
noncomputable def world.Same.s : Fw.Summ := .mk' (tCons (tG (tCons (tI .i64) (tCons (tI .i64) (tCons (tI .i64) (tCons (tI .i64) (tCons (tI .i64) (tCons (tLz 11 (RiiiiiiiiiiL2.enc (0, 0, 0, 0, 0, 0, 0, 0, 0, 0, (0, fun _ => [])))) (tCons (tLz 8 (Riiiiiiii.enc (0, 0, 0, 0, 0, 0, 0, 0))) (tOne (tLz 5 (Riiiii.enc (0, 0, 0, 0, 0)))))))))))) (tOne (tG (tCons (tI .i64) (tCons (tI .i64) (tCons (tI .i64) (tCons (tI .i64) (tCons (tI .i64) (tCons (tLz 11 (RiiiiiiiiiiL2.enc (0, 0, 0, 0, 0, 0, 0, 0, 0, 0, (0, fun _ => [])))) (tCons (tLz 8 (Riiiiiiii.enc (0, 0, 0, 0, 0, 0, 0, 0))) (tOne (tLz 5 (Riiiii.enc (0, 0, 0, 0, 0)))))))))))))) tB world.Same.f
theorem world.Same.ok : world.Same.s.Ok Try.prog 14 :=
  summ_ok (hint := lookH world.Same.hs) (fn := Try.f14) (fun x => 0) world.Same.cs_ok (by kernel_rfl) (by kernel_rfl) (by kernel_rfl) (by kernel_rfl) (tCons_ok (tG_ok (tCons_ok (tI_ok _) (tCons_ok (tI_ok _) (tCons_ok (tI_ok _) (tCons_ok (tI_ok _) (tCons_ok (tI_ok _) (tCons_ok (tLz_ok _ _) (tCons_ok (tLz_ok _ _) (tOne_ok (tLz_ok _ _)))))))))) (tOne_ok (tG_ok (tCons_ok (tI_ok _) (tCons_ok (tI_ok _) (tCons_ok (tI_ok _) (tCons_ok (tI_ok _) (tCons_ok (tI_ok _) (tCons_ok (tLz_ok _ _) (tCons_ok (tLz_ok _ _) (tOne_ok (tLz_ok _ _)))))))))))) tB_ok (fun _ => rfl)
theorem world.Same.eq (p0_0 : Int) (p0_1 : Int) (p0_2 : Int) (p0_3 : Int) (p0_4 : Int) (p0_5_n : Nat) (p0_5_g : Nat → (Int × Int × Int × Int × Int × Int × Int × Int × Int × Int × (Nat × (Nat → List AV)))) (p0_6_n : Nat) (p0_6_g : Nat → (Int × Int × Int × Int × Int × Int × Int × Int)) (p0_7_n : Nat) (p0_7_g : Nat → (Int × Int × Int × Int × Int)) (p1_0 : Int) (p1_1 : Int) (p1_2 : Int) (p1_3 : Int) (p1_4 : Int) (p1_5_n : Nat) (p1_5_g : Nat → (Int × Int × Int × Int × Int × Int × Int × Int × Int × Int × (Nat × (Nat → List AV)))) (p1_6_n : Nat) (p1_6_g : Nat → (Int × Int × Int × Int × Int × Int × Int × Int)) (p1_7_n : Nat) (p1_7_g : Nat → (Int × Int × Int × Int × Int)) : world.Same.f ((p0_0, p0_1, p0_2, p0_3, p0_4, (p0_5_n, (fun i => RiiiiiiiiiiL2.enc (p0_5_g i))), (p0_6_n, (fun i => Riiiiiiii.enc (p0_6_g i))), (p0_7_n, (fun i => Riiiii.enc (p0_7_g i)))), (p1_0, p1_1, p1_2, p1_3, p1_4, (p1_5_n, (fun i => RiiiiiiiiiiL2.enc (p1_5_g i))), (p1_6_n, (fun i => Riiiiiiii.enc (p1_6_g i))), (p1_7_n, (fun i => Riiiii.enc (p1_7_g i))))) =
  bif (p0_0 != p1_0) then
    some false
  else
  bif (p0_1 != p1_1) then
    some false
  else
  bif (p0_2 != p1_2) then
    some false
  else
  bif (!((p0_3 == p1_3) && ((p0_4 == p1_4) && true))) then
    some false
  else
  (slices.EqualFunc_lBody_lBody_Body_Body.f ((p0_5_n, (fun i => RiiiiiiiiiiL2.enc (p0_5_g i))), (p1_5_n, (fun i => RiiiiiiiiiiL2.enc (p1_5_g i))), ())).bind fun r1 =>
  bif r1 then
    (slices.Equal_lJoint_Joint.f ((p0_6_n, (fun i => Riiiiiiii.enc (p0_6_g i))), (p1_6_n, (fun i => Riiiiiiii.enc (p1_6_g i))))).bind fun r2 =>
    bif r2 then
      (slices.Equal_lContact_Contact.f ((p0_7_n, (fun i => Riiiii.enc (p0_7_g i))), (p1_7_n, (fun i => Riiiii.enc (p1_7_g i))))).bind fun r3 =>
      some r3
    else
    some false
  else
  some false := by kernel_rfl
/-! ### bagatelle/bagatellelaw10.OrderSames -/
noncomputable def law10.OrderSames.cs : List (Nat × Fw.Summ) := [(6, law10.fit.s), (7, law10.Order.s), (10, order.Same.s), (11, law09.Made.s), (12, world.Copy.s), (13, order.Do.s), (14, world.Same.s)]
theorem law10.OrderSames.cs_ok : SumsOk Try.prog law10.OrderSames.cs := .cons law10.fit.ok (.cons law10.Order.ok (.cons order.Same.ok (.cons law09.Made.ok (.cons world.Copy.ok (.cons order.Do.ok (.cons world.Same.ok (.nil)))))))
def law10.OrderSames.hs : List (Nat × LHint) := []
noncomputable def law10.OrderSames.hf : Nat → LHint := fun b => { lookH law10.OrderSames.hs b with rt := some rtF }
noncomputable def law10.OrderSames.G : Ctx := ⟨Try.prog, sumAt law10.OrderSames.cs, law10.OrderSames.hf⟩
noncomputable def law10.OrderSames.f (x : ((Int × Int × Int × Int × Int × Int × Int × Int × Int × Int × Int × Int × Int × Int × Int × Int × Int × Int × Int × Int × Int × Int × Int × Int × Int × Int × Int × Int × Int × (Nat × (Nat → List AV))) × (Int × Int × Int × Int × Int × Int × Int × Int × Int × Int × Int × Int × Int × Int × Int × Int × Int × Int × Int × Int × Int × Int × Int × Int × Int × Int × Int × Int × Int × (Nat × (Nat → List AV))) × (Nat × (Nat → List AV)))) : Option Bool := evF law10.OrderSames.G 0 Try.f4 ((tCons (tG (tCons (tI .i64) (tCons (tI .i64) (tCons (tI .i64) (tCons (tI .i64) (tCons (tI .i64) (tCons (tI .i64) (tCons (tI .i64) (tCons (tI .i64) (tCons (tI .i64) (tCons (tI .i64) (tCons (tI .i64) (tCons (tI .i64) (tCons (tI .i64) (tCons (tI .i64) (tCons (tI .i64) (tCons (tI .i64) (tCons (tI .i64) (tCons (tI .i64) (tCons (tI .i64) (tCons (tI .i64) (tCons (tI .i64) (tCons (tI .i64) (tCons (tI .i64) (tCons (tI .i64) (tCons (tI .i64) (tCons (tI .i64) (tCons (tI .i64) (tCons (tI .i64) (tCons (tI .i64) (tOne (tLz 2 (Rii.enc (0, 0)))))))))))))))))))))))))))))))))) (tCons (tG (tCons (tI .i64) (tCons (tI .i64) (tCons (tI .i64) (tCons (tI .i64) (tCons (tI .i64) (tCons (tI .i64) (tCons (tI .i64) (tCons (tI .i64) (tCons (tI .i64) (tCons (tI .i64) (tCons (tI .i64) (tCons (tI .i64) (tCons (tI .i64) (tCons (tI .i64) (tCons (tI .i64) (tCons (tI .i64) (tCons (tI .i64) (tCons (tI .i64) (tCons (tI .i64) (tCons (tI .i64) (tCons (tI .i64) (tCons (tI .i64) (tCons (tI .i64) (tCons (tI .i64) (tCons (tI .i64) (tCons (tI .i64) (tCons (tI .i64) (tCons (tI .i64) (tCons (tI .i64) (tOne (tLz 2 (Rii.enc (0, 0)))))))))))))))))))))))))))))))))) (tOne (tLz 30 (RiiiiiiiiiiiiiiiiiiiiiiiiiiiiiL2.enc (0, 0, 0, 0, 0, 0, 0, 0, 0, 0, 0, 0, 0, 0, 0, 0, 0, 0, 0, 0, 0, 0, 0, 0, 0, 0, 0, 0, 0, (0, fun _ => []))))))).enc x) tB.dec
noncomputable def law10.OrderSames.s : Fw.Summ := .mk' (tCons (tG (tCons (tI .i64) (tCons (tI .i64) (tCons (tI .i64) (tCons (tI .i64) (tCons (tI .i64) (tCons (tI .i64) (tCons (tI .i64) (tCons (tI .i64) (tCons (tI .i64) (tCons (tI .i64) (tCons (tI .i64) (tCons (tI .i64) (tCons (tI .i64) (tCons (tI .i64) (tCons (tI .i64) (tCons (tI .i64) (tCons (tI .i64) (tCons (tI .i64) (tCons (tI .i64) (tCons (tI .i64) (tCons (tI .i64) (tCons (tI .i64) (tCons (tI .i64) (tCons (tI .i64) (tCons (tI .i64) (tCons (tI .i64) (tCons (tI .i64) (tCons (tI .i64) (tCons (tI .i64) (tOne (tLz 2 (Rii.enc (0, 0)))))))))))))))))))))))))))))))))) (tCons (tG (tCons (tI .i64) (tCons (tI .i64) (tCons (tI .i64) (tCons (tI .i64) (tCons (tI .i64) (tCons (tI .i64) (tCons (tI .i64) (tCons (tI .i64) (tCons (tI .i64) (tCons (tI .i64) (tCons (tI .i64) (tCons (tI .i64) (tCons (tI .i64) (tCons (tI .i64) (tCons (tI .i64) (tCons (tI .i64) (tCons (tI .i64) (tCons (tI .i64) (tCons (tI .i64) (tCons (tI .i64) (tCons (tI .i64) (tCons (tI .i64) (tCons (tI .i64) (tCons (tI .i64) (tCons (tI .i64) (tCons (tI .i64) (tCons (tI .i64) (tCons (tI .i64) (tCons (tI .i64) (tOne (tLz 2 (Rii.enc (0, 0)))))))))))))))))))))))))))))))))) (tOne (tLz 30 (RiiiiiiiiiiiiiiiiiiiiiiiiiiiiiL2.enc (0, 0, 0, 0, 0, 0, 0, 0, 0, 0, 0, 0, 0, 0, 0, 0, 0, 0, 0, 0, 0, 0, 0, 0, 0, 0, 0, 0, 0, (0, fun _ => []))))))) tB law10.OrderSames.f
theorem law10.OrderSames.ok : law10.OrderSames.s.Ok Try.prog 4 :=
  summ_ok (hint := law10.OrderSames.hf) (fn := Try.f4) (fun x => 0) law10.OrderSames.cs_ok (by kernel_rfl) (by kernel_rfl) (by kernel_rfl) (by kernel_rfl) (tCons_ok (tG_ok (tCons_ok (tI_ok _) (tCons_ok (tI_ok _) (tCons_ok (tI_ok _) (tCons_ok (tI_ok _) (tCons_ok (tI_ok _) (tCons_ok (tI_ok _) (tCons_ok (tI_ok _) (tCons_ok (tI_ok _) (tCons_ok (tI_ok _) (tCons_ok (tI_ok _) (tCons_ok (tI_ok _) (tCons_ok (tI_ok _) (tCons_ok (tI_ok _) (tCons_ok (tI_ok _) (tCons_ok (tI_ok _) (tCons_ok (tI_ok _) (tCons_ok (tI_ok _) (tCons_ok (tI_ok _) (tCons_ok (tI_ok _) (tCons_ok (tI_ok _) (tCons_ok (tI_ok _) (tCons_ok (tI_ok _) (tCons_ok (tI_ok _) (tCons_ok (tI_ok _) (tCons_ok (tI_ok _) (tCons_ok (tI_ok _) (tCons_ok (tI_ok _) (tCons_ok (tI_ok _) (tCons_ok (tI_ok _) (tOne_ok (tLz_ok _ _)))))))))))))))))))))))))))))))) (tCons_ok (tG_ok (tCons_ok (tI_ok _) (tCons_ok (tI_ok _) (tCons_ok (tI_ok _) (tCons_ok (tI_ok _) (tCons_ok (tI_ok _) (tCons_ok (tI_ok _) (tCons_ok (tI_ok _) (tCons_ok (tI_ok _) (tCons_ok (tI_ok _) (tCons_ok (tI_ok _) (tCons_ok (tI_ok _) (tCons_ok (tI_ok _) (tCons_ok (tI_ok _) (tCons_ok (tI_ok _) (tCons_ok (tI_ok _) (tCons_ok (tI_ok _) (tCons_ok (tI_ok _) (tCons_ok (tI_ok _) (tCons_ok (tI_ok _) (tCons_ok (tI_ok _) (tCons_ok (tI_ok _) (tCons_ok (tI_ok _) (tCons_ok (tI_ok _) (tCons_ok (tI_ok _) (tCons_ok (tI_ok _) (tCons_ok (tI_ok _) (tCons_ok (tI_ok _) (tCons_ok (tI_ok _) (tCons_ok (tI_ok _) (tOne_ok (tLz_ok _ _)))))))))))))))))))))))))))))))) (tOne_ok (tLz_ok _ _)))) tB_ok (fun _ => rfl)
theorem law10.OrderSames.eq (p0_0 : Int) (p0_1 : Int) (p0_2 : Int) (p0_3 : Int) (p0_4 : Int) (p0_5 : Int) (p0_6 : Int) (p0_7 : Int) (p0_8 : Int) (p0_9 : Int) (p0_10 : Int) (p0_11 : Int) (p0_12 : Int) (p0_13 : Int) (p0_14 : Int) (p0_15 : Int) (p0_16 : Int) (p0_17 : Int) (p0_18 : Int) (p0_19 : Int) (p0_20 : Int) (p0_21 : Int) (p0_22 : Int) (p0_23 : Int) (p0_24 : Int) (p0_25 : Int) (p0_26 : Int) (p0_27 : Int) (p0_28 : Int) (p0_29_n : Nat) (p0_29_g : Nat → (Int × Int)) (p1_0 : Int) (p1_1 : Int) (p1_2 : Int) (p1_3 : Int) (p1_4 : Int) (p1_5 : Int) (p1_6 : Int) (p1_7 : Int) (p1_8 : Int) (p1_9 : Int) (p1_10 : Int) (p1_11 : Int) (p1_12 : Int) (p1_13 : Int) (p1_14 : Int) (p1_15 : Int) (p1_16 : Int) (p1_17 : Int) (p1_18 : Int) (p1_19 : Int) (p1_20 : Int) (p1_21 : Int) (p1_22 : Int) (p1_23 : Int) (p1_24 : Int) (p1_25 : Int) (p1_26 : Int) (p1_27 : Int) (p1_28 : Int) (p1_29_n : Nat) (p1_29_g : Nat → (Int × Int)) (p2_n : Nat) (p2_g : Nat → (Int × Int × Int × Int × Int × Int × Int × Int × Int × Int × Int × Int × Int × Int × Int × Int × Int × Int × Int × Int × Int × Int × Int × Int × Int × Int × Int × Int × Int × (Nat × (Nat → List AV)))) : law10.OrderSames.f ((p0_0, p0_1, p0_2, p0_3, p0_4, p0_5, p0_6, p0_7, p0_8, p0_9, p0_10, p0_11, p0_12, p0_13, p0_14, p0_15, p0_16, p0_17, p0_18, p0_19, p0_20, p0_21, p0_22, p0_23, p0_24, p0_25, p0_26, p0_27, p0_28, (p0_29_n, (fun i => Rii.enc (p0_29_g i)))), (p1_0, p1_1, p1_2, p1_3, p1_4, p1_5, p1_6, p1_7, p1_8, p1_9, p1_10, p1_11, p1_12, p1_13, p1_14, p1_15, p1_16, p1_17, p1_18, p1_19, p1_20, p1_21, p1_22, p1_23, p1_24, p1_25, p1_26, p1_27, p1_28, (p1_29_n, (fun i => Rii.enc (p1_29_g i)))), (p2_n, (fun i => RiiiiiiiiiiiiiiiiiiiiiiiiiiiiiL2.enc (p2_g i)))) =
  (law10.fit.f ()).bind fun r1 =>
  bif (!r1) then
    some false
  else
  bif (decide (((p0_29_n : Nat) : Int) > 12)) then
    some true
  else
  bif (decide (((p1_29_n : Nat) : Int) > 12)) then
    some true
  else
  (law10.Order.f (p0_0, p0_1, p0_2, p0_3, p0_4, p0_5, p0_6, p0_7, p0_8, p0_9, p0_10, p0_11, p0_12, p0_13, p0_14, p0_15, p0_16, p0_17, p0_18, p0_19, p0_20, p0_21, p0_22, p0_23, p0_24, p0_25, p0_26, p0_27, p0_28, (p0_29_n, (fun i => Rii.enc (p0_29_g i))))).bind fun r2 =>
  (law10.Order.f (p1_0, p1_1, p1_2, p1_3, p1_4, p1_5, p1_6, p1_7, p1_8, p1_9, p1_10, p1_11, p1_12, p1_13, p1_14, p1_15, p1_16, p1_17, p1_18, p1_19, p1_20, p1_21, p1_22, p1_23, p1_24, p1_25, p1_26, p1_27, p1_28, (p1_29_n, (fun i => Rii.enc (p1_29_g i))))).bind fun r3 =>
  bif (decide (r2.2.2.2.2.2.2.2.2.2.2.2.2.2.2.1 * 16 ≤ 140737488355328)) then
  bif (decide ((r2.2.2.2.2.2.2.2.2.2.2.2.2.2.2.1 + 1) * 16 ≤ 140737488355328)) then
  (law10.Order.f (p0_0, p0_1, p0_2, p0_3, p0_4, p0_5, p0_6, p0_7, p0_8, p0_9, p0_10, p0_11, p0_12, p0_13, p0_14, p0_15, p0_16, p0_17, p0_18, p0_19, p0_20, p0_21, p0_22, p0_23, p0_24, p0_25, p0_26, p0_27, p0_28, (p0_29_n, (fun i => Rii.enc (p0_29_g i))))).bind fun r4 =>
  (order.Same.f ((r2.1, r2.2.1, r2.2.2.1, r2.2.2.2.1, r2.2.2.2.2.1, r2.2.2.2.2.2.1, r2.2.2.2.2.2.2.1, r2.2.2.2.2.2.2.2.1, r2.2.2.2.2.2.2.2.2.1, r2.2.2.2.2.2.2.2.2.2.1, r2.2.2.2.2.2.2.2.2.2.2.1, r2.2.2.2.2.2.2.2.2.2.2.2.1, r2.2.2.2.2.2.2.2.2.2.2.2.2.1, r2.2.2.2.2.2.2.2.2.2.2.2.2.2.1, (r2.2.2.2.2.2.2.2.2.2.2.2.2.2.2.1, (fun i => Rii.enc (r2.2.2.2.2.2.2.2.2.2.2.2.2.2.2.2 i)))), (r4.1, r4.2.1, r4.2.2.1, r4.2.2.2.1, r4.2.2.2.2.1, r4.2.2.2.2.2.1, r4.2.2.2.2.2.2.1, r4.2.2.2.2.2.2.2.1, r4.2.2.2.2.2.2.2.2.1, r4.2.2.2.2.2.2.2.2.2.1, r4.2.2.2.2.2.2.2.2.2.2.1, r4.2.2.2.2.2.2.2.2.2.2.2.1, r4.2.2.2.2.2.2.2.2.2.2.2.2.1, r4.2.2.2.2.2.2.2.2.2.2.2.2.2.1, (r4.2.2.2.2.2.2.2.2.2.2.2.2.2.2.1, (fun i => Rii.enc (r4.2.2.2.2.2.2.2.2.2.2.2.2.2.2.2 i)))))).bind fun r5 =>
  bif (!r5) then
    some false
  else
  (order.Same.f ((r2.1, r2.2.1, r2.2.2.1, r2.2.2.2.1, r2.2.2.2.2.1, r2.2.2.2.2.2.1, r2.2.2.2.2.2.2.1, r2.2.2.2.2.2.2.2.1, r2.2.2.2.2.2.2.2.2.1, r2.2.2.2.2.2.2.2.2.2.1, r2.2.2.2.2.2.2.2.2.2.2.1, r2.2.2.2.2.2.2.2.2.2.2.2.1, r2.2.2.2.2.2.2.2.2.2.2.2.2.1, r2.2.2.2.2.2.2.2.2.2.2.2.2.2.1, (r2.2.2.2.2.2.2.2.2.2.2.2.2.2.2.1, (fun i => Rii.enc (r2.2.2.2.2.2.2.2.2.2.2.2.2.2.2.2 i)))), (r2.1, r2.2.1, r2.2.2.1, r2.2.2.2.1, r2.2.2.2.2.1, r2.2.2.2.2.2.1, r2.2.2.2.2.2.2.1, r2.2.2.2.2.2.2.2.1, r2.2.2.2.2.2.2.2.2.1, r2.2.2.2.2.2.2.2.2.2.1, r2.2.2.2.2.2.2.2.2.2.2.1, (IntKind.i64.wrap (r2.2.2.2.2.2.2.2.2.2.2.2.1 + 1)), r2.2.2.2.2.2.2.2.2.2.2.2.2.1, r2.2.2.2.2.2.2.2.2.2.2.2.2.2.1, (r2.2.2.2.2.2.2.2.2.2.2.2.2.2.2.1, (fun i => Rii.enc (r2.2.2.2.2.2.2.2.2.2.2.2.2.2.2.2 i)))))).bind fun r6 =>
  bif r6 then
    some false
  else
  (order.Same.f ((r2.1, r2.2.1, r2.2.2.1, r2.2.2.2.1, r2.2.2.2.2.1, r2.2.2.2.2.2.1, r2.2.2.2.2.2.2.1, r2.2.2.2.2.2.2.2.1, r2.2.2.2.2.2.2.2.2.1, r2.2.2.2.2.2.2.2.2.2.1, r2.2.2.2.2.2.2.2.2.2.2.1, r2.2.2.2.2.2.2.2.2.2.2.2.1, r2.2.2.2.2.2.2.2.2.2.2.2.2.1, r2.2.2.2.2.2.2.2.2.2.2.2.2.2.1, (r2.2.2.2.2.2.2.2.2.2.2.2.2.2.2.1, (fun i => Rii.enc (r2.2.2.2.2.2.2.2.2.2.2.2.2.2.2.2 i)))), (r2.1, r2.2.1, r2.2.2.1, r2.2.2.2.1, r2.2.2.2.2.1, r2.2.2.2.2.2.1, r2.2.2.2.2.2.2.1, r2.2.2.2.2.2.2.2.1, r2.2.2.2.2.2.2.2.2.1, r2.2.2.2.2.2.2.2.2.2.1, r2.2.2.2.2.2.2.2.2.2.2.1, r2.2.2.2.2.2.2.2.2.2.2.2.1, r2.2.2.2.2.2.2.2.2.2.2.2.2.1, r2.2.2.2.2.2.2.2.2.2.2.2.2.2.1, ((r2.2.2.2.2.2.2.2.2.2.2.2.2.2.2.1 + 1), (fun i => cloL (if i = r2.2.2.2.2.2.2.2.2.2.2.2.2.2.2.1 then Rii.enc (0, 0) else if i < 0 then (fun _ => Rii.enc (0, 0)) i else (fun i => Rii.enc (r2.2.2.2.2.2.2.2.2.2.2.2.2.2.2.2 i)) (i - 0))))))).bind fun r7 =>
  bif r7 then
    some false
  else
  (order.Same.f ((r2.1, r2.2.1, r2.2.2.1, r2.2.2.2.1, r2.2.2.2.2.1, r2.2.2.2.2.2.1, r2.2.2.2.2.2.2.1, r2.2.2.2.2.2.2.2.1, r2.2.2.2.2.2.2.2.2.1, r2.2.2.2.2.2.2.2.2.2.1, r2.2.2.2.2.2.2.2.2.2.2.1, r2.2.2.2.2.2.2.2.2.2.2.2.1, r2.2.2.2.2.2.2.2.2.2.2.2.2.1, r2.2.2.2.2.2.2.2.2.2.2.2.2.2.1, (r2.2.2.2.2.2.2.2.2.2.2.2.2.2.2.1, (fun i => Rii.enc (r2.2.2.2.2.2.2.2.2.2.2.2.2.2.2.2 i)))), (r3.1, r3.2.1, r3.2.2.1, r3.2.2.2.1, r3.2.2.2.2.1, r3.2.2.2.2.2.1, r3.2.2.2.2.2.2.1, r3.2.2.2.2.2.2.2.1, r3.2.2.2.2.2.2.2.2.1, r3.2.2.2.2.2.2.2.2.2.1, r3.2.2.2.2.2.2.2.2.2.2.1, r3.2.2.2.2.2.2.2.2.2.2.2.1, r3.2.2.2.2.2.2.2.2.2.2.2.2.1, r3.2.2.2.2.2.2.2.2.2.2.2.2.2.1, (r3.2.2.2.2.2.2.2.2.2.2.2.2.2.2.1, (fun i => Rii.enc (r3.2.2.2.2.2.2.2.2.2.2.2.2.2.2.2 i)))))).bind fun r8 =>
  (order.Same.f ((r3.1, r3.2.1, r3.2.2.1, r3.2.2.2.1, r3.2.2.2.2.1, r3.2.2.2.2.2.1, r3.2.2.2.2.2.2.1, r3.2.2.2.2.2.2.2.1, r3.2.2.2.2.2.2.2.2.1, r3.2.2.2.2.2.2.2.2.2.1, r3.2.2.2.2.2.2.2.2.2.2.1, r3.2.2.2.2.2.2.2.2.2.2.2.1, r3.2.2.2.2.2.2.2.2.2.2.2.2.1, r3.2.2.2.2.2.2.2.2.2.2.2.2.2.1, (r3.2.2.2.2.2.2.2.2.2.2.2.2.2.2.1, (fun i => Rii.enc (r3.2.2.2.2.2.2.2.2.2.2.2.2.2.2.2 i)))), (r2.1, r2.2.1, r2.2.2.1, r2.2.2.2.1, r2.2.2.2.2.1, r2.2.2.2.2.2.1, r2.2.2.2.2.2.2.1, r2.2.2.2.2.2.2.2.1, r2.2.2.2.2.2.2.2.2.1, r2.2.2.2.2.2.2.2.2.2.1, r2.2.2.2.2.2.2.2.2.2.2.1, r2.2.2.2.2.2.2.2.2.2.2.2.1, r2.2.2.2.2.2.2.2.2.2.2.2.2.1, r2.2.2.2.2.2.2.2.2.2.2.2.2.2.1, (r2.2.2.2.2.2.2.2.2.2.2.2.2.2.2.1, (fun i => Rii.enc (r2.2.2.2.2.2.2.2.2.2.2.2.2.2.2.2 i)))))).bind fun r9 =>
  bif (!(r8 == r9)) then
    some false
  else
  (law09.Made.f ((p2_n, (fun i => RiiiiiiiiiiiiiiiiiiiiiiiiiiiiiL2.enc (p2_g i))), 8)).bind fun r10 =>
  (world.Copy.f (r10.1, r10.2.1, r10.2.2.1, r10.2.2.2.1, r10.2.2.2.2.1, (r10.2.2.2.2.2.1.1, (fun i => RiiiiiiiiiiL2.enc (r10.2.2.2.2.2.1.2 i))), (r10.2.2.2.2.2.2.1.1, (fun i => Riiiiiiii.enc (r10.2.2.2.2.2.2.1.2 i))), (r10.2.2.2.2.2.2.2.1, (fun i => Riiiii.enc (r10.2.2.2.2.2.2.2.2 i))))).bind fun r11 =>
  (order.Do.f ((r11.1, r11.2.1, r11.2.2.1, r11.2.2.2.1, r11.2.2.2.2.1, (r11.2.2.2.2.2.1.1, (fun i => RiiiiiiiiiiL2.enc (r11.2.2.2.2.2.1.2 i))), (r11.2.2.2.2.2.2.1.1, (fun i => Riiiiiiii.enc (r11.2.2.2.2.2.2.1.2 i))), (r11.2.2.2.2.2.2.2.1, (fun i => Riiiii.enc (r11.2.2.2.2.2.2.2.2 i)))), (2, r10.2.1, 0, 0, 0, 0, 0, 0, 0, 0, 0, 0, 0, 0, (0, fun _ => Rii.enc (0, 0))))).bind fun r12 =>
  (order.Do.f ((r12.2.1, r12.2.2.1, r12.2.2.2.1, r12.2.2.2.2.1, r12.2.2.2.2.2.1, (r12.2.2.2.2.2.2.1.1, (fun i => RiiiiiiiiiiL2.enc (r12.2.2.2.2.2.2.1.2 i))), (r12.2.2.2.2.2.2.2.1.1, (fun i => Riiiiiiii.enc (r12.2.2.2.2.2.2.2.1.2 i))), (r12.2.2.2.2.2.2.2.2.1, (fun i => Riiiii.enc (r12.2.2.2.2.2.2.2.2.2 i)))), (4, r10.2.2.1, 0, 0, 0, 0, 0, 0, 0, 0, 0, 0, 0, 0, (0, fun _ => Rii.enc (0, 0))))).bind fun r13 =>
  (order.Do.f ((r13.2.1, r13.2.2.1, r13.2.2.2.1, r13.2.2.2.2.1, r13.2.2.2.2.2.1, (r13.2.2.2.2.2.2.1.1, (fun i => RiiiiiiiiiiL2.enc (r13.2.2.2.2.2.2.1.2 i))), (r13.2.2.2.2.2.2.2.1.1, (fun i => Riiiiiiii.enc (r13.2.2.2.2.2.2.2.1.2 i))), (r13.2.2.2.2.2.2.2.2.1, (fun i => Riiiii.enc (r13.2.2.2.2.2.2.2.2.2 i)))), (5, r10.2.1, 0, 0, 0, 0, 5, 0, 0, 0, 0, 0, 0, 0, (0, fun _ => Rii.enc (0, 0))))).bind fun r14 =>
  (order.Do.f ((r14.2.1, r14.2.2.1, r14.2.2.2.1, r14.2.2.2.2.1, r14.2.2.2.2.2.1, (r14.2.2.2.2.2.2.1.1, (fun i => RiiiiiiiiiiL2.enc (r14.2.2.2.2.2.2.1.2 i))), (r14.2.2.2.2.2.2.2.1.1, (fun i => Riiiiiiii.enc (r14.2.2.2.2.2.2.2.1.2 i))), (r14.2.2.2.2.2.2.2.2.1, (fun i => Riiiii.enc (r14.2.2.2.2.2.2.2.2.2 i)))), (3, 0, r10.2.1, (IntKind.i64.wrap (r10.2.1 + 1)), 0, 0, 0, 0, 0, 0, 0, 0, 0, 0, (0, fun _ => Rii.enc (0, 0))))).bind fun r15 =>
  (world.Same.f ((r15.2.1, r15.2.2.1, r15.2.2.2.1, r15.2.2.2.2.1, r15.2.2.2.2.2.1, (r15.2.2.2.2.2.2.1.1, (fun i => RiiiiiiiiiiL2.enc (r15.2.2.2.2.2.2.1.2 i))), (r15.2.2.2.2.2.2.2.1.1, (fun i => Riiiiiiii.enc (r15.2.2.2.2.2.2.2.1.2 i))), (r15.2.2.2.2.2.2.2.2.1, (fun i => Riiiii.enc (r15.2.2.2.2.2.2.2.2.2 i)))), (r10.1, r10.2.1, r10.2.2.1, r10.2.2.2.1, r10.2.2.2.2.1, (r10.2.2.2.2.2.1.1, (fun i => RiiiiiiiiiiL2.enc (r10.2.2.2.2.2.1.2 i))), (r10.2.2.2.2.2.2.1.1, (fun i => Riiiiiiii.enc (r10.2.2.2.2.2.2.1.2 i))), (r10.2.2.2.2.2.2.2.1, (fun i => Riiiii.enc (r10.2.2.2.2.2.2.2.2 i)))))).bind fun r16 =>
  some r16
  else none
  else none := by kernel_rfl
/-! ### bagatelle/world.Right$1 -/
noncomputable def world.Right_1.cs : List (Nat × Fw.Summ) := []
theorem world.Right_1.cs_ok : SumsOk Try.prog world.Right_1.cs := .nil
def world.Right_1.hs : List (Nat × LHint) := []
noncomputable def world.Right_1.G : Ctx := ⟨Try.prog, sumAt world.Right_1.cs, lookH world.Right_1.hs⟩
noncomputable def world.Right_1.f (x : (Int × Int × Int × Int × Int × Int × Int × Int × Int × Int × (Nat × (Nat → List AV)))) : Option Int := evF world.Right_1.G 0 Try.f48 ((tOne (tG (tCons (tI .i64) (tCons (tI .i64) (tCons (tI .i64) (tCons (tI .i64) (tCons (tI .i64) (tCons (tI .i64) (tCons (tI .i64) (tCons (tI .i64) (tCons (tI .i64) (tCons (tI .i64) (tOne (tLz 2 (Rii.enc (0, 0)))))))))))))))).enc x) (tI .i64).dec
noncomputable def world.Right_1.s : Fw.Summ := .mk' (tOne (tG (tCons (tI .i64) (tCons (tI .i64) (tCons (tI .i64) (tCons (tI .i64) (tCons (tI .i64) (tCons (tI .i64) (tCons (tI .i64) (tCons (tI .i64) (tCons (tI .i64) (tCons (tI .i64) (tOne (tLz 2 (Rii.enc (0, 0)))))))))))))))) (tI .i64) world.Right_1.f
theorem world.Right_1.ok : world.Right_1.s.Ok Try.prog 48 :=
  summ_ok (hint := lookH world.Right_1.hs) (fn := Try.f48) (fun x => 0) world.Right_1.cs_ok (by kernel_rfl) (by kernel_rfl) (by kernel_rfl) (by kernel_rfl) (tOne_ok (tG_ok (tCons_ok (tI_ok _) (tCons_ok (tI_ok _) (tCons_ok (tI_ok _) (tCons_ok (tI_ok _) (tCons_ok (tI_ok _) (tCons_ok (tI_ok _) (tCons_ok (tI_ok _) (tCons_ok (tI_ok _) (tCons_ok (tI_ok _) (tCons_ok (tI_ok _) (tOne_ok (tLz_ok _ _)))))))))))))) (tI_ok _) (fun _ => rfl)
theorem world.Right_1.eq (p0_0 : Int) (p0_1 : Int) (p0_2 : Int) (p0_3 : Int) (p0_4 : Int) (p0_5 : Int) (p0_6 : Int) (p0_7 : Int) (p0_8 : Int) (p0_9 : Int) (p0_10_n : Nat) (p0_10_g : Nat → (Int × Int)) : world.Right_1.f (p0_0, p0_1, p0_2, p0_3, p0_4, p0_5, p0_6, p0_7, p0_8, p0_9, (p0_10_n, (fun i => Rii.enc (p0_10_g i)))) =
  some p0_0 := by kernel_rfl
/-! ### bagatelle/world.Right$2 -/
noncomputable def world.Right_2.cs : List (Nat × Fw.Summ) := []
theorem world.Right_2.cs_ok : SumsOk Try.prog world.Right_2.cs := .nil
def world.Right_2.hs : List (Nat × LHint) := []
noncomputable def world.Right_2.G : Ctx := ⟨Try.prog, sumAt world.Right_2.cs, lookH world.Right_2.hs⟩
noncomputable def world.Right_2.f (x : (Int × Int × Int × Int × Int × Int × Int × Int)) : Option Int := evF world.Right_2.G 0 Try.f50 ((tOne (tG (tCons (tI .i64) (tCons (tI .i64) (tCons (tI .i64) (tCons (tI .i64) (tCons (tI .i64) (tCons (tI .i64) (tCons (tI .i64) (tOne (tI .i64))))))))))).enc x) (tI .i64).dec
noncomputable def world.Right_2.s : Fw.Summ := .mk' (tOne (tG (tCons (tI .i64) (tCons (tI .i64) (tCons (tI .i64) (tCons (tI .i64) (tCons (tI .i64) (tCons (tI .i64) (tCons (tI .i64) (tOne (tI .i64))))))))))) (tI .i64) world.Right_2.f
theorem world.Right_2.ok : world.Right_2.s.Ok Try.prog 50 :=
  summ_ok (hint := lookH world.Right_2.hs) (fn := Try.f50) (fun x => 0) world.Right_2.cs_ok (by kernel_rfl) (by kernel_rfl) (by kernel_rfl) (by kernel_rfl) (tOne_ok (tG_ok (tCons_ok (tI_ok _) (tCons_ok (tI_ok _) (tCons_ok (tI_ok _) (tCons_ok (tI_ok _) (tCons_ok (tI_ok _) (tCons_ok (tI_ok _) (tCons_ok (tI_ok _) (tOne_ok (tI_ok _))))))))))) (tI_ok _) (fun _ => rfl)
theorem world.Right_2.eq (p0_0 : Int) (p0_1 : Int) (p0_2 : Int) (p0_3 : Int) (p0_4 : Int) (p0_5 : Int) (p0_6 : Int) (p0_7 : Int) : world.Right_2.f (p0_0, p0_1, p0_2, p0_3, p0_4, p0_5, p0_6, p0_7) =
  some p0_0 := by kernel_rfl
/-! ### cmp.Or[int] -/
noncomputable def cmp.Or_int.cs : List (Nat × Fw.Summ) := []
theorem cmp.Or_int.cs_ok : SumsOk Try.prog cmp.Or_int.cs := .nil
def cmp.Or_int.hs : List (Nat × LHint) := [(0, { mat := [], live := [3, 6, 7, 8], ren := [] })]
noncomputable def cmp.Or_int.G : Ctx := ⟨Try.prog, sumAt cmp.Or_int.cs, lookH cmp.Or_int.hs⟩
noncomputable def cmp.Or_int.g (k0 : Nat) (x : (Nat × (Nat → List AV))) : Option Int := evF cmp.Or_int.G k0 Try.f77 ((tOne (tLz 1 (Ri.enc 0))).enc x) (tI .i64).dec
noncomputable def cmp.Or_int.f (x : (Nat × (Nat → List AV))) : Option Int := cmp.Or_int.g (1000000) x
noncomputable def cmp.Or_int.s : Fw.Summ := .mk' (tOne (tLz 1 (Ri.enc 0))) (tI .i64) cmp.Or_int.f
theorem cmp.Or_int.ok : cmp.Or_int.s.Ok Try.prog 77 :=
  summ_ok (hint := lookH cmp.Or_int.hs) (fn := Try.f77) (fun x => 1000000) cmp.Or_int.cs_ok (by kernel_rfl) (by kernel_rfl) (by kernel_rfl) (by kernel_rfl) (tOne_ok (tLz_ok _ _)) (tI_ok _) (fun _ => rfl)
noncomputable def cmp.Or_int.l0 (k0 k1 : Nat) (v1 : Nat) (v2 : Nat → List AV) (v3 : Int) (v4 : Int) : Option Int :=
  evLoop (lookH cmp.Or_int.hs 0) 0 (ev cmp.Or_int.G k0 (codeAt [1, 1, 0, 1, 0, 0] (bodyOf Try.f77)) 0) k1
  ⟨[.top, .top, .top, .val (.int .i64 0), .top, .top, .lst 1 v1 none v2, .val (.int .i64 v3), .val (.int .i64 v4), .top, .top, .top, .top, .top, .top, .top, .top, .top], []⟩
  (kBlock 0 (kSeq cmp.Or_int.G k0 (codeAt [1, 1, 1] (bodyOf Try.f77)) 0 (kFin cmp.Or_int.G Try.f77 (tI .i64).dec)))
theorem cmp.Or_int.l0_eq (k0 k1 : Nat) (v1 : Nat) (v2 : Nat → Int) (v3 : Int) (v4 : Int) : cmp.Or_int.l0 k0 (k1 + 1) v1 (fun i => Ri.enc (v2 i)) v3 v4 =
  bif (decide (v4 < v3)) then
    bif ((decide (0 ≤ v4)) && (decide (v4 < ((v1 : Nat) : Int)))) then
    bif ((v2 (Int.toNat v4)) != 0) then
      some (v2 (Int.toNat v4))
    else
    cmp.Or_int.l0 k0 k1 v1 (fun i => Ri.enc (v2 i)) v3 (IntKind.i64.wrap (v4 + 1))
    else none
  else
  some 0 := by kernel_rfl
theorem cmp.Or_int.eq (k0 : Nat) (p0_n : Nat) (p0_g : Nat → Int) : cmp.Or_int.g k0 (p0_n, (fun i => Ri.enc (p0_g i))) =
  cmp.Or_int.l0 k0 k0 p0_n (fun i => Ri.enc (p0_g i)) ((p0_n : Nat) : Int) 0 := by kernel_rfl
/-! ### bagatelle/world.order -/
noncomputable def world.order.cs : List (Nat × Fw.Summ) := [(78, cmp.Compare_int.s), (77, cmp.Or_int.s)]
theorem world.order.cs_ok : SumsOk Try.prog world.order.cs := .cons cmp.Compare_int.ok (.cons cmp.Or_int.ok (.nil))
def world.order.hs : List (Nat × LHint) := []
noncomputable def world.order.G : Ctx := ⟨Try.prog, sumAt world.order.cs, lookH world.order.hs⟩
noncomputable def world.order.f (x : ((Int × Int × Int × Int × Int) × (Int × Int × Int × Int × Int))) : Option Int := evF world.order.G 0 Try.f53 ((tCons (tG (tCons (tI .i64) (tCons (tI .i64) (tCons (tI .i64) (tCons (tI .i64) (tOne (tI .i64))))))) (tOne (tG (tCons (tI .i64) (tCons (tI .i64) (tCons (tI .i64) (tCons (tI .i64) (tOne (tI .i64))))))))).enc x) (tI .i64).dec
noncomputable def world.order.s : Fw.Summ := .mk' (tCons (tG (tCons (tI .i64) (tCons (tI .i64) (tCons (tI .i64) (tCons (tI .i64) (tOne (tI .i64))))))) (tOne (tG (tCons (tI .i64) (tCons (tI .i64) (tCons (tI .i64) (tCons (tI .i64) (tOne (tI .i64))))))))) (tI .i64) world.order.f
theorem world.order.ok : world.order.s.Ok Try.prog 53 :=
  summ_ok (hint := lookH world.order.hs) (fn := Try.f53) (fun x => 0) world.order.cs_ok (by kernel_rfl) (by kernel_rfl) (by kernel_rfl) (by kernel_rfl) (tCons_ok (tG_ok (tCons_ok (tI_ok _) (tCons_ok (tI_ok _) (tCons_ok (tI_ok _) (tCons_ok (tI_ok _) (tOne_ok (tI_ok _))))))) (tOne_ok (tG_ok (tCons_ok (tI_ok _) (tCons_ok (tI_ok _) (tCons_ok (tI_ok _) (tCons_ok (tI_ok _) (tOne_ok (tI_ok _))))))))) (tI_ok _) (fun _ => rfl)
theorem world.order.eq (p0_0 : Int) (p0_1 : Int) (p0_2 : Int) (p0_3 : Int) (p0_4 : Int) (p1_0 : Int) (p1_1 : Int) (p1_2 : Int) (p1_3 : Int) (p1_4 : Int) : world.order.f ((p0_0, p0_1, p0_2, p0_3, p0_4), (p1_0, p1_1, p1_2, p1_3, p1_4)) =
  (cmp.Compare_int.f (p0_0, p1_0)).bind fun r1 =>
  (cmp.Compare_int.f (p0_1, p1_1)).bind fun r2 =>
  (cmp.Compare_int.f (p0_2, p1_2)).bind fun r3 =>
  (cmp.Or_int.f (3, (fun i => cloL (List.getD (List.map Ri.enc [r1, r2, r3]) i (Ri.enc 0))))).bind fun r4 =>
  some r4 := by kernel_rfl
/-! ### bagatelle/world.rising[bagatelle/api.Body] -/
noncomputable def world.rising_Body.cs : List (Nat × Fw.Summ) := [(48, world.Right_1.s)]
theorem world.rising_Body.cs_ok : SumsOk Try.prog world.rising_Body.cs := .cons world.Right_1.ok (.nil)
def world.rising_Body.hs : List (Nat × LHint) := [(0, { mat := [], live := [1, 2, 7, 10, 11, 12], ren := [] })]
noncomputable def world.rising_Body.G : Ctx := ⟨Try.prog, sumAt world.rising_Body.cs, lookH world.rising_Body.hs⟩
noncomputable def world.rising_Body.g (k0 : Nat) (x : ((Nat × (Nat → List AV)) × Int × Unit)) : Option Bool := evF world.rising_Body.G k0 Try.f47 ((tCons (tLz 11 (RiiiiiiiiiiL2.enc (0, 0, 0, 0, 0, 0, 0, 0, 0, 0, (0, fun _ => [])))) (tCons (tI .i64) (tOne (tF 48 tNil)))).enc x) tB.dec
noncomputable def world.rising_Body.f (x : ((Nat × (Nat → List AV)) × Int × Unit)) : Option Bool := world.rising_Body.g (1000000) x
noncomputable def world.rising_Body.s : Fw.Summ := .mk' (tCons (tLz 11 (RiiiiiiiiiiL2.enc (0, 0, 0, 0, 0, 0, 0, 0, 0, 0, (0, fun _ => [])))) (tCons (tI .i64) (tOne (tF 48 tNil)))) tB world.rising_Body.f
theorem world.rising_Body.ok : world.rising_Body.s.Ok Try.prog 47 :=
  summ_ok (hint := lookH world.rising_Body.hs) (fn := Try.f47) (fun x => 1000000) world.rising_Body.cs_ok (by kernel_rfl) (by kernel_rfl) (by kernel_rfl) (by kernel_rfl) (tCons_ok (tLz_ok _ _) (tCons_ok (tI_ok _) (tOne_ok (tF_ok _ tNil_ok)))) tB_ok (fun _ => rfl)
noncomputable def world.rising_Body.l0 (k0 k1 : Nat) (v1 : Int) (v2 : Int) (v3 : Nat) (v4 : Nat → List AV) (v5 : Int) (v6 : Int) : Option Bool :=
  evLoop (lookH world.rising_Body.hs 0) 0 (ev world.rising_Body.G k0 (codeAt [1, 1, 0, 1, 0, 0] (bodyOf Try.f47)) 0) k1
  ⟨[.top, .val (.int .i64 v1), .fn 48 [], .top, .top, .top, .top, .val (.int .i64 v2), .top, .top, .lst 11 v3 none v4, .val (.int .i64 v5), .val (.int .i64 v6), .top, .top, .top, .top, .top, .top, .top, .top, .top, .top, .top, .top, .top, .top, .top, .top, .top, .top, .top, .top, .top], []⟩
  (kBlock 0 (kSeq world.rising_Body.G k0 (codeAt [1, 1, 1] (bodyOf Try.f47)) 0 (kFin world.rising_Body.G Try.f47 tB.dec)))
theorem world.rising_Body.l0_eq (k0 k1 : Nat) (v1 : Int) (v2 : Int) (v3 : Nat) (v4 : Nat → (Int × Int × Int × Int × Int × Int × Int × Int × Int × Int × (Nat × (Nat → List AV)))) (v5 : Int) (v6 : Int) : world.rising_Body.l0 k0 (k1 + 1) v1 v2 v3 (fun i => RiiiiiiiiiiL2.enc (v4 i)) v5 v6 =
  bif (decide (v6 < v5)) then
    bif ((decide (0 ≤ v6)) && (decide (v6 < ((v3 : Nat) : Int)))) then
    (world.Right_1.f ((v4 (Int.toNat v6)).1, (v4 (Int.toNat v6)).2.1, (v4 (Int.toNat v6)).2.2.1, (v4 (Int.toNat v6)).2.2.2.1, (v4 (Int.toNat v6)).2.2.2.2.1, (v4 (Int.toNat v6)).2.2.2.2.2.1, (v4 (Int.toNat v6)).2.2.2.2.2.2.1, (v4 (Int.toNat v6)).2.2.2.2.2.2.2.1, (v4 (Int.toNat v6)).2.2.2.2.2.2.2.2.1, (v4 (Int.toNat v6)).2.2.2.2.2.2.2.2.2.1, ((v4 (Int.toNat v6)).2.2.2.2.2.2.2.2.2.2.1, (v4 (Int.toNat v6)).2.2.2.2.2.2.2.2.2.2.2))).bind fun r1 =>
    bif (decide (r1 ≤ v2)) then
      some false
    else
    (world.Right_1.f ((v4 (Int.toNat v6)).1, (v4 (Int.toNat v6)).2.1, (v4 (Int.toNat v6)).2.2.1, (v4 (Int.toNat v6)).2.2.2.1, (v4 (Int.toNat v6)).2.2.2.2.1, (v4 (Int.toNat v6)).2.2.2.2.2.1, (v4 (Int.toNat v6)).2.2.2.2.2.2.1, (v4 (Int.toNat v6)).2.2.2.2.2.2.2.1, (v4 (Int.toNat v6)).2.2.2.2.2.2.2.2.1, (v4 (Int.toNat v6)).2.2.2.2.2.2.2.2.2.1, ((v4 (Int.toNat v6)).2.2.2.2.2.2.2.2.2.2.1, (v4 (Int.toNat v6)).2.2.2.2.2.2.2.2.2.2.2))).bind fun r2 =>
    bif (decide (r2 ≥ v1)) then
      some false
    else
    (world.Right_1.f ((v4 (Int.toNat v6)).1, (v4 (Int.toNat v6)).2.1, (v4 (Int.toNat v6)).2.2.1, (v4 (Int.toNat v6)).2.2.2.1, (v4 (Int.toNat v6)).2.2.2.2.1, (v4 (Int.toNat v6)).2.2.2.2.2.1, (v4 (Int.toNat v6)).2.2.2.2.2.2.1, (v4 (Int.toNat v6)).2.2.2.2.2.2.2.1, (v4 (Int.toNat v6)).2.2.2.2.2.2.2.2.1, (v4 (Int.toNat v6)).2.2.2.2.2.2.2.2.2.1, ((v4 (Int.toNat v6)).2.2.2.2.2.2.2.2.2.2.1, (v4 (Int.toNat v6)).2.2.2.2.2.2.2.2.2.2.2))).bind fun r3 =>
    world.rising_Body.l0 k0 k1 v1 r3 v3 (fun i => RiiiiiiiiiiL2.enc (v4 i)) v5 (IntKind.i64.wrap (v6 + 1))
    else none
  else
  some (decide (v1 ≥ 1)) := by kernel_rfl
theorem world.rising_Body.eq (k0 : Nat) (p0_n : Nat) (p0_g : Nat → (Int × Int × Int × Int × Int × Int × Int × Int × Int × Int × (Nat × (Nat → List AV)))) (p1 : Int) : world.rising_Body.g k0 ((p0_n, (fun i => RiiiiiiiiiiL2.enc (p0_g i))), p1, ()) =
  world.rising_Body.l0 k0 k0 p1 0 p0_n (fun i => RiiiiiiiiiiL2.enc (p0_g i)) ((p0_n : Nat) : Int) 0 := by kernel_rfl
/-! ### bagatelle/world.rising[bagatelle/api.Joint] -/
noncomputable def world.rising_Joint.cs : List (Nat × Fw.Summ) := [(50, world.Right_2.s)]
theorem world.rising_Joint.cs_ok : SumsOk Try.prog world.rising_Joint.cs := .cons world.Right_2.ok (.nil)
def world.rising_Joint.hs : List (Nat × LHint) := [(0, { mat := [], live := [1, 2, 7, 10, 11, 12], ren := [] })]
noncomputable def world.rising_Joint.G : Ctx := ⟨Try.prog, sumAt world.rising_Joint.cs, lookH world.rising_Joint.hs⟩
noncomputable def world.rising_Joint.g (k0 : Nat) (x : ((Nat × (Nat → List AV)) × Int × Unit)) : Option Bool := evF world.rising_Joint.G k0 Try.f49 ((tCons (tLz 8 (Riiiiiiii.enc (0, 0, 0, 0, 0, 0, 0, 0))) (tCons (tI .i64) (tOne (tF 50 tNil)))).enc x) tB.dec
noncomputable def world.rising_Joint.f (x : ((Nat × (Nat → List AV)) × Int × Unit)) : Option Bool := world.rising_Joint.g (1000000) x
noncomputable def world.rising_Joint.s : Fw.Summ := .mk' (tCons (tLz 8 (Riiiiiiii.enc (0, 0, 0, 0, 0, 0, 0, 0))) (tCons (tI .i64) (tOne (tF 50 tNil)))) tB world.rising_Joint.f
theorem world.rising_Joint.ok : world.rising_Joint.s.Ok Try.prog 49 :=
  summ_ok (hint := lookH world.rising_Joint.hs) (fn := Try.f49) (fun x => 1000000) world.rising_Joint.cs_ok (by kernel_rfl) (by kernel_rfl) (by kernel_rfl) (by kernel_rfl) (tCons_ok (tLz_ok _ _) (tCons_ok (tI_ok _) (tOne_ok (tF_ok _ tNil_ok)))) tB_ok (fun _ => rfl)
noncomputable def world.rising_Joint.l0 (k0 k1 : Nat) (v1 : Int) (v2 : Int) (v3 : Nat) (v4 : Nat → List AV) (v5 : Int) (v6 : Int) : Option Bool :=
  evLoop (lookH world.rising_Joint.hs 0) 0 (ev world.rising_Joint.G k0 (codeAt [1, 1, 0, 1, 0, 0] (bodyOf Try.f49)) 0) k1
  ⟨[.top, .val (.int .i64 v1), .fn 50 [], .top, .top, .top, .top, .val (.int .i64 v2), .top, .top, .lst 8 v3 none v4, .val (.int .i64 v5), .val (.int .i64 v6), .top, .top, .top, .top, .top, .top, .top, .top, .top, .top, .top, .top, .top, .top, .top, .top, .top, .top, .top, .top, .top], []⟩
  (kBlock 0 (kSeq world.rising_Joint.G k0 (codeAt [1, 1, 1] (bodyOf Try.f49)) 0 (kFin world.rising_Joint.G Try.f49 tB.dec)))
theorem world.rising_Joint.l0_eq (k0 k1 : Nat) (v1 : Int) (v2 : Int) (v3 : Nat) (v4 : Nat → (Int × Int × Int × Int × Int × Int × Int × Int)) (v5 : Int) (v6 : Int) : world.rising_Joint.l0 k0 (k1 + 1) v1 v2 v3 (fun i => Riiiiiiii.enc (v4 i)) v5 v6 =
  bif (decide (v6 < v5)) then
    bif ((decide (0 ≤ v6)) && (decide (v6 < ((v3 : Nat) : Int)))) then
    (world.Right_2.f ((v4 (Int.toNat v6)).1, (v4 (Int.toNat v6)).2.1, (v4 (Int.toNat v6)).2.2.1, (v4 (Int.toNat v6)).2.2.2.1, (v4 (Int.toNat v6)).2.2.2.2.1, (v4 (Int.toNat v6)).2.2.2.2.2.1, (v4 (Int.toNat v6)).2.2.2.2.2.2.1, (v4 (Int.toNat v6)).2.2.2.2.2.2.2)).bind fun r1 =>
    bif (decide (r1 ≤ v2)) then
      some false
    else
    (world.Right_2.f ((v4 (Int.toNat v6)).1, (v4 (Int.toNat v6)).2.1, (v4 (Int.toNat v6)).2.2.1, (v4 (Int.toNat v6)).2.2.2.1, (v4 (Int.toNat v6)).2.2.2.2.1, (v4 (Int.toNat v6)).2.2.2.2.2.1, (v4 (Int.toNat v6)).2.2.2.2.2.2.1, (v4 (Int.toNat v6)).2.2.2.2.2.2.2)).bind fun r2 =>
    bif (decide (r2 ≥ v1)) then
      some false
    else
    (world.Right_2.f ((v4 (Int.toNat v6)).1, (v4 (Int.toNat v6)).2.1, (v4 (Int.toNat v6)).2.2.1, (v4 (Int.toNat v6)).2.2.2.1, (v4 (Int.toNat v6)).2.2.2.2.1, (v4 (Int.toNat v6)).2.2.2.2.2.1, (v4 (Int.toNat v6)).2.2.2.2.2.2.1, (v4 (Int.toNat v6)).2.2.2.2.2.2.2)).bind fun r3 =>
    world.rising_Joint.l0 k0 k1 v1 r3 v3 (fun i => Riiiiiiii.enc (v4 i)) v5 (IntKind.i64.wrap (v6 + 1))
    else none
  else
  some (decide (v1 ≥ 1)) := by kernel_rfl
theorem world.rising_Joint.eq (k0 : Nat) (p0_n : Nat) (p0_g : Nat → (Int × Int × Int × Int × Int × Int × Int × Int)) (p1 : Int) : world.rising_Joint.g k0 ((p0_n, (fun i => Riiiiiiii.enc (p0_g i))), p1, ()) =
  world.rising_Joint.l0 k0 k0 p1 0 p0_n (fun i => Riiiiiiii.enc (p0_g i)) ((p0_n : Nat) : Int) 0 := by kernel_rfl
/-! ### bagatelle/world.Right$3 -/
noncomputable def world.Right_3.cs : List (Nat × Fw.Summ) := [(52, world.Body.s)]
theorem world.Right_3.cs_ok : SumsOk Try.prog world.Right_3.cs := .cons world.Body.ok (.nil)
def world.Right_3.hs : List (Nat × LHint) := []
noncomputable def world.Right_3.G : Ctx := ⟨Try.prog, sumAt world.Right_3.cs, lookH world.Right_3.hs⟩
noncomputable def world.Right_3.f (x : (Int × Int × (Int × Int × Int × Int × Int × (Nat × (Nat → List AV)) × (Nat × (Nat → List AV)) × (Nat × (Nat → List AV))))) : Option Bool := evF world.Right_3.G 0 Try.f51 ((tCons (tI .i64) (tCons (tI .i64) (tOne (tP (tCons (tI .i64) (tCons (tI .i64) (tCons (tI .i64) (tCons (tI .i64) (tCons (tI .i64) (tCons (tLz 11 (RiiiiiiiiiiL2.enc (0, 0, 0, 0, 0, 0, 0, 0, 0, 0, (0, fun _ => [])))) (tCons (tLz 8 (Riiiiiiii.enc (0, 0, 0, 0, 0, 0, 0, 0))) (tOne (tLz 5 (Riiiii.enc (0, 0, 0, 0, 0))))))))))))))).enc x) tB.dec
noncomputable def world.Right_3.s : Fw.Summ := .mk' (tCons (tI .i64) (tCons (tI .i64) (tOne (tP (tCons (tI .i64) (tCons (tI .i64) (tCons (tI .i64) (tCons (tI .i64) (tCons (tI .i64) (tCons (tLz 11 (RiiiiiiiiiiL2.enc (0, 0, 0, 0, 0, 0, 0, 0, 0, 0, (0, fun _ => [])))) (tCons (tLz 8 (Riiiiiiii.enc (0, 0, 0, 0, 0, 0, 0, 0))) (tOne (tLz 5 (Riiiii.enc (0, 0, 0, 0, 0))))))))))))))) tB world.Right_3.f
theorem world.Right_3.ok : world.Right_3.s.Ok Try.prog 51 :=
  summ_ok (hint := lookH world.Right_3.hs) (fn := Try.f51) (fun x => 0) world.Right_3.cs_ok (by kernel_rfl) (by kernel_rfl) (by kernel_rfl) (by kernel_rfl) (tCons_ok (tI_ok _) (tCons_ok (tI_ok _) (tOne_ok (tP_ok (tCons_ok (tI_ok _) (tCons_ok (tI_ok _) (tCons_ok (tI_ok _) (tCons_ok (tI_ok _) (tCons_ok (tI_ok _) (tCons_ok (tLz_ok _ _) (tCons_ok (tLz_ok _ _) (tOne_ok (tLz_ok _ _))))))))))))) tB_ok (fun _ => rfl)
theorem world.Right_3.eq (p0 : Int) (p1 : Int) (p2_0 : Int) (p2_1 : Int) (p2_2 : Int) (p2_3 : Int) (p2_4 : Int) (p2_5_n : Nat) (p2_5_g : Nat → (Int × Int × Int × Int × Int × Int × Int × Int × Int × Int × (Nat × (Nat → List AV)))) (p2_6_n : Nat) (p2_6_g : Nat → (Int × Int × Int × Int × Int × Int × Int × Int)) (p2_7_n : Nat) (p2_7_g : Nat → (Int × Int × Int × Int × Int)) : world.Right_3.f (p0, p1, (p2_0, p2_1, p2_2, p2_3, p2_4, (p2_5_n, (fun i => RiiiiiiiiiiL2.enc (p2_5_g i))), (p2_6_n, (fun i => Riiiiiiii.enc (p2_6_g i))), (p2_7_n, (fun i => Riiiii.enc (p2_7_g i))))) =
  (world.Body.f ((p2_0, p2_1, p2_2, p2_3, p2_4, (p2_5_n, (fun i => RiiiiiiiiiiL2.enc (p2_5_g i))), (p2_6_n, (fun i => Riiiiiiii.enc (p2_6_g i))), (p2_7_n, (fun i => Riiiii.enc (p2_7_g i)))), p0)).bind fun r1 =>
  (world.Body.f ((p2_0, p2_1, p2_2, p2_3, p2_4, (p2_5_n, (fun i => RiiiiiiiiiiL2.enc (p2_5_g i))), (p2_6_n, (fun i => Riiiiiiii.enc (p2_6_g i))), (p2_7_n, (fun i => Riiiii.enc (p2_7_g i)))), p1)).bind fun r2 =>
  bif r1.2 then
    some r2.2
  else
  some false := by kernel_rfl
/-! ### bagatelle/world.Right -/
noncomputable def world.Right.cs : List (Nat × Fw.Summ) := [(46, world.within.s), (47, world.rising_Body.s), (49, world.rising_Joint.s), (24, world.RightBody.s), (26, world.RightJoint.s), (51, world.Right_3.s), (53, world.order.s)]
theorem world.Right.cs_ok : SumsOk Try.prog world.Right.cs := .cons world.within.ok (.cons world.rising_Body.ok (.cons world.rising_Joint.ok (.cons world.RightBody.ok (.cons world.RightJoint.ok (.cons world.Right_3.ok (.cons world.order.ok (.nil)))))))
def world.Right.hs : List (Nat × LHint) := [(0, { mat := [], live := [1, 3, 62, 63, 64], ren := [], frz := [0] }), (2, { mat := [], live := [1, 3, 73, 74, 75], ren := [] }), (4, { mat := [], live := [1, 3, 93, 94, 95], ren := [] })]
noncomputable def world.Right.G : Ctx := ⟨Try.prog, sumAt world.Right.cs, lookH world.Right.hs⟩
noncomputable def world.Right.g (k0 : Nat) (x : (Int × Int × Int × Int × Int × (Nat × (Nat → List AV)) × (Nat × (Nat → List AV)) × (Nat × (Nat → List AV)))) : Option Bool := evF world.Right.G k0 Try.f16 ((tOne (tG (tCons (tI .i64) (tCons (tI .i64) (tCons (tI .i64) (tCons (tI .i64) (tCons (tI .i64) (tCons (tLz 11 (RiiiiiiiiiiL2.enc (0, 0, 0, 0, 0, 0, 0, 0, 0, 0, (0, fun _ => [])))) (tCons (tLz 8 (Riiiiiiii.enc (0, 0, 0, 0, 0, 0, 0, 0))) (tOne (tLz 5 (Riiiii.enc (0, 0, 0, 0, 0))))))))))))).enc x) tB.dec
noncomputable def world.Right.f (x : (Int × Int × Int × Int × Int × (Nat × (Nat → List AV)) × (Nat × (Nat → List AV)) × (Nat × (Nat → List AV)))) : Option Bool := world.Right.g (1000000) x
noncomputable def world.Right.s : Fw.Summ := .mk' (tOne (tG (tCons (tI .i64) (tCons (tI .i64) (tCons (tI .i64) (tCons (tI .i64) (tCons (tI .i64) (tCons (tLz 11 (RiiiiiiiiiiL2.enc (0, 0, 0, 0, 0, 0, 0, 0, 0, 0, (0, fun _ => [])))) (tCons (tLz 8 (Riiiiiiii.enc (0, 0, 0, 0, 0, 0, 0, 0))) (tOne (tLz 5 (Riiiii.enc (0, 0, 0, 0, 0))))))))))))) tB world.Right.f
theorem world.Right.ok : world.Right.s.Ok Try.prog 16 :=
  summ_ok (hint := lookH world.Right.hs) (fn := Try.f16) (fun x => 1000000) world.Right.cs_ok (by kernel_rfl) (by kernel_rfl) (by kernel_rfl) (by kernel_rfl) (tOne_ok (tG_ok (tCons_ok (tI_ok _) (tCons_ok (tI_ok _) (tCons_ok (tI_ok _) (tCons_ok (tI_ok _) (tCons_ok (tI_ok _) (tCons_ok (tLz_ok _ _) (tCons_ok (tLz_ok _ _) (tOne_ok (tLz_ok _ _))))))))))) tB_ok (fun _ => rfl)
noncomputable def world.Right.l2 (k0 k1 : Nat) (v1 : Int) (v2 : Int) (v3 : Int) (v4 : Int) (v5 : Int) (v6 : Nat) (v7 : Nat → List AV) (v8 : Nat) (v9 : Nat → List AV) (v10 : Nat) (v11 : Nat → List AV) (v12 : Int) (v13 : Int) : Option Bool :=
  evLoop (lookH world.Right.hs 4) 1 (ev world.Right.G k0 (codeAt [1, 1, 1, 1, 1, 1, 0, 1, 0, 0] (bodyOf Try.f16)) 4) k1
  ⟨[.top, .rp [.val (.int .i64 v1), .val (.int .i64 v2), .val (.int .i64 v3), .val (.int .i64 v4), .val (.int .i64 v5), .lst 11 v6 none v7, .lst 8 v8 none v9, .lst 5 v10 none v11] 0, .top, .fn 51 [.rp [.val (.int .i64 v1), .val (.int .i64 v2), .val (.int .i64 v3), .val (.int .i64 v4), .val (.int .i64 v5), .lst 11 v6 none v7, .lst 8 v8 none v9, .lst 5 v10 none v11] 0], .top, .top, .top, .top, .top, .top, .top, .top, .top, .top, .top, .top, .top, .top, .top, .top, .top, .top, .top, .top, .top, .top, .top, .top, .top, .top, .top, .top, .top, .top, .top, .top, .top, .top, .top, .top, .top, .top, .top, .top, .top, .top, .top, .top, .top, .top, .top, .top, .top, .top, .top, .top, .top, .top, .top, .top, .top, .top, .top, .top, .top, .top, .top, .top, .top, .top, .top, .top, .top, .top, .top, .top, .top, .top, .top, .top, .top, .top, .top, .top, .top, .top, .top, .top, .top, .top, .top, .top, .top, .lst 5 v10 none v11, .val (.int .i64 v12), .val (.int .i64 v13), .top, .top, .top, .top, .top, .top, .top, .top, .top, .top, .top, .top, .top, .top, .top, .top, .top, .top, .top, .top, .top, .top, .top, .top, .top, .top, .top, .top, .top, .top, .top, .top, .top, .top, .top, .top, .top, .top, .top, .top, .top, .top, .top, .top], [.dead]⟩
  (kBlock 4 (kSeq world.Right.G k0 (codeAt [1, 1, 1, 1, 1, 1, 1] (bodyOf Try.f16)) 0 (kFin world.Right.G Try.f16 tB.dec)))
noncomputable def world.Right.l1 (k0 k1 : Nat) (v1 : Int) (v2 : Int) (v3 : Int) (v4 : Int) (v5 : Int) (v6 : Nat) (v7 : Nat → List AV) (v8 : Nat) (v9 : Nat → List AV) (v10 : Nat) (v11 : Nat → List AV) (v12 : Int) (v13 : Int) : Option Bool :=
  evLoop (lookH world.Right.hs 2) 1 (ev world.Right.G k0 (codeAt [1, 1, 1, 1, 1, 0, 1, 0, 0] (bodyOf Try.f16)) 2) k1
  ⟨[.top, .rp [.val (.int .i64 v1), .val (.int .i64 v2), .val (.int .i64 v3), .val (.int .i64 v4), .val (.int .i64 v5), .lst 11 v6 none v7, .lst 8 v8 none v9, .lst 5 v10 none v11] 0, .top, .fn 51 [.rp [.val (.int .i64 v1), .val (.int .i64 v2), .val (.int .i64 v3), .val (.int .i64 v4), .val (.int .i64 v5), .lst 11 v6 none v7, .lst 8 v8 none v9, .lst 5 v10 none v11] 0], .top, .top, .top, .top, .top, .top, .top, .top, .top, .top, .top, .top, .top, .top, .top, .top, .top, .top, .top, .top, .top, .top, .top, .top, .top, .top, .top, .top, .top, .top, .top, .top, .top, .top, .top, .top, .top, .top, .top, .top, .top, .top, .top, .top, .top, .top, .top, .top, .top, .top, .top, .top, .top, .top, .top, .top, .top, .top, .top, .top, .top, .top, .top, .top, .top, .top, .top, .top, .top, .lst 8 v8 none v9, .val (.int .i64 v12), .val (.int .i64 v13), .top, .top, .top, .top, .top, .top, .top, .top, .top, .top, .top, .top, .top, .top, .top, .top, .top, .top, .top, .top, .top, .top, .top, .top, .top, .top, .top, .top, .top, .top, .top, .top, .top, .top, .top, .top, .top, .top, .top, .top, .top, .top, .top, .top, .top, .top, .top, .top, .top, .top, .top, .top, .top, .top, .top, .top, .top, .top, .top, .top, .top, .top, .top, .top], [.dead]⟩
  (kBlock 2 (kSeq world.Right.G k0 (codeAt [1, 1, 1, 1, 1, 1] (bodyOf Try.f16)) 0 (kFin world.Right.G Try.f16 tB.dec)))
noncomputable def world.Right.l0 (k0 k1 : Nat) (v1 : Int) (v2 : Int) (v3 : Int) (v4 : Int) (v5 : Int) (v6 : Nat) (v7 : Nat → List AV) (v8 : Nat) (v9 : Nat → List AV) (v10 : Nat) (v11 : Nat → List AV) (v12 : Int) (v13 : Int) : Option Bool :=
  evLoop (lookH world.Right.hs 0) 1 (ev world.Right.G k0 (codeAt [1, 1, 1, 1, 0, 1, 0, 0] (bodyOf Try.f16)) 0) k1
  ⟨[.top, .rp [.val (.int .i64 v1), .val (.int .i64 v2), .val (.int .i64 v3), .val (.int .i64 v4), .val (.int .i64 v5), .lst 11 v6 none v7, .lst 8 v8 none v9, .lst 5 v10 none v11] 0, .top, .fn 51 [.rp [.val (.int .i64 v1), .val (.int .i64 v2), .val (.int .i64 v3), .val (.int .i64 v4), .val (.int .i64 v5), .lst 11 v6 none v7, .lst 8 v8 none v9, .lst 5 v10 none v11] 0], .top, .top, .top, .top, .top, .top, .top, .top, .top, .top, .top, .top, .top, .top, .top, .top, .top, .top, .top, .top, .top, .top, .top, .top, .top, .top, .top, .top, .top, .top, .top, .top, .top, .top, .top, .top, .top, .top, .top, .top, .top, .top, .top, .top, .top, .top, .top, .top, .top, .top, .top, .top, .top, .top, .top, .top, .top, .top, .lst 11 v6 none v7, .val (.int .i64 v12), .val (.int .i64 v13), .top, .top, .top, .top, .top, .top, .top, .top, .top, .top, .top, .top, .top, .top, .top, .top, .top, .top, .top, .top, .top, .top, .top, .top, .top, .top, .top, .top, .top, .top, .top, .top, .top, .top, .top, .top, .top, .top, .top, .top, .top, .top, .top, .top, .top, .top, .top, .top, .top, .top, .top, .top, .top, .top, .top, .top, .top, .top, .top, .top, .top, .top, .top, .top, .top, .top, .top, .top, .top, .top, .top, .top, .top, .top, .top], [.dead]⟩
  (kBlock 0 (kSeq world.Right.G k0 (codeAt [1, 1, 1, 1, 1] (bodyOf Try.f16)) 0 (kFin world.Right.G Try.f16 tB.dec)))
theorem world.Right.l2_eq (k0 k1 : Nat) (v1 : Int) (v2 : Int) (v3 : Int) (v4 : Int) (v5 : Int) (v6 : Nat) (v7 : Nat → (Int × Int × Int × Int × Int × Int × Int × Int × Int × Int × (Nat × (Nat → List AV)))) (v8 : Nat) (v9 : Nat → (Int × Int × Int × Int × Int × Int × Int × Int)) (v10 : Nat) (v11 : Nat → (Int × Int × Int × Int × Int)) (v12 : Int) (v13 : Int) : world.Right.l2 k0 (k1 + 1) v1 v2 v3 v4 v5 v6 (fun i => RiiiiiiiiiiL2.enc (v7 i)) v8 (fun i => Riiiiiiii.enc (v9 i)) v10 (fun i => Riiiii.enc (v11 i)) v12 v13 =
  bif (decide (v13 < v12)) then
    bif ((decide (0 ≤ v13)) && (decide (v13 < ((v10 : Nat) : Int)))) then
    bif (decide ((v11 (Int.toNat v13)).1 ≥ (v11 (Int.toNat v13)).2.1)) then
      some false
    else
    bif (decide ((v11 (Int.toNat v13)).2.2.1 < 0)) then
      some false
    else
    bif (decide ((v11 (Int.toNat v13)).2.2.2.1 < 0)) then
      some false
    else
    (world.Right_3.f ((v11 (Int.toNat v13)).1, (v11 (Int.toNat v13)).2.1, (v1, v2, v3, v4, v5, (v6, (fun i => RiiiiiiiiiiL2.enc (v7 i))), (v8, (fun i => Riiiiiiii.enc (v9 i))), (v10, (fun i => Riiiii.enc (v11 i)))))).bind fun r7 =>
    bif (!r7) then
      some false
    else
    bif (decide (v13 > 0)) then
      bif ((decide (0 ≤ (IntKind.i64.wrap (v13 - 1)))) && (decide ((IntKind.i64.wrap (v13 - 1)) < ((v10 : Nat) : Int)))) then
      (world.order.f (((v11 (Int.toNat (IntKind.i64.wrap (v13 - 1)))).1, (v11 (Int.toNat (IntKind.i64.wrap (v13 - 1)))).2.1, (v11 (Int.toNat (IntKind.i64.wrap (v13 - 1)))).2.2.1, (v11 (Int.toNat (IntKind.i64.wrap (v13 - 1)))).2.2.2.1, (v11 (Int.toNat (IntKind.i64.wrap (v13 - 1)))).2.2.2.2), ((v11 (Int.toNat v13)).1, (v11 (Int.toNat v13)).2.1, (v11 (Int.toNat v13)).2.2.1, (v11 (Int.toNat v13)).2.2.2.1, (v11 (Int.toNat v13)).2.2.2.2))).bind fun r8 =>
      bif (decide (r8 ≥ 0)) then
        some false
      else
      world.Right.l2 k0 k1 v1 v2 v3 v4 v5 v6 (fun i => RiiiiiiiiiiL2.enc (v7 i)) v8 (fun i => Riiiiiiii.enc (v9 i)) v10 (fun i => Riiiii.enc (v11 i)) v12 (IntKind.i64.wrap (v13 + 1))
      else none
    else
    world.Right.l2 k0 k1 v1 v2 v3 v4 v5 v6 (fun i => RiiiiiiiiiiL2.enc (v7 i)) v8 (fun i => Riiiiiiii.enc (v9 i)) v10 (fun i => Riiiii.enc (v11 i)) v12 (IntKind.i64.wrap (v13 + 1))
    else none
  else
  some true := by kernel_rfl
theorem world.Right.l1_eq (k0 k1 : Nat) (v1 : Int) (v2 : Int) (v3 : Int) (v4 : Int) (v5 : Int) (v6 : Nat) (v7 : Nat → (Int × Int × Int × Int × Int × Int × Int × Int × Int × Int × (Nat × (Nat → List AV)))) (v8 : Nat) (v9 : Nat → (Int × Int × Int × Int × Int × Int × Int × Int)) (v10 : Nat) (v11 : Nat → (Int × Int × Int × Int × Int)) (v12 : Int) (v13 : Int) : world.Right.l1 k0 (k1 + 1) v1 v2 v3 v4 v5 v6 (fun i => RiiiiiiiiiiL2.enc (v7 i)) v8 (fun i => Riiiiiiii.enc (v9 i)) v10 (fun i => Riiiii.enc (v11 i)) v12 v13 =
  bif (decide (v13 < v12)) then
    bif ((decide (0 ≤ v13)) && (decide (v13 < ((v8 : Nat) : Int)))) then
    (world.RightJoint.f ((v9 (Int.toNat v13)).1, (v9 (Int.toNat v13)).2.1, (v9 (Int.toNat v13)).2.2.1, (v9 (Int.toNat v13)).2.2.2.1, (v9 (Int.toNat v13)).2.2.2.2.1, (v9 (Int.toNat v13)).2.2.2.2.2.1, (v9 (Int.toNat v13)).2.2.2.2.2.2.1, (v9 (Int.toNat v13)).2.2.2.2.2.2.2)).bind fun r5 =>
    bif (!r5) then
      some false
    else
    (world.Right_3.f ((v9 (Int.toNat v13)).2.1, (v9 (Int.toNat v13)).2.2.1, (v1, v2, v3, v4, v5, (v6, (fun i => RiiiiiiiiiiL2.enc (v7 i))), (v8, (fun i => Riiiiiiii.enc (v9 i))), (v10, (fun i => Riiiii.enc (v11 i)))))).bind fun r6 =>
    bif (!r6) then
      some false
    else
    world.Right.l1 k0 k1 v1 v2 v3 v4 v5 v6 (fun i => RiiiiiiiiiiL2.enc (v7 i)) v8 (fun i => Riiiiiiii.enc (v9 i)) v10 (fun i => Riiiii.enc (v11 i)) v12 (IntKind.i64.wrap (v13 + 1))
    else none
  else
  world.Right.l2 k0 k0 v1 v2 v3 v4 v5 v6 (fun i => RiiiiiiiiiiL2.enc (v7 i)) v8 (fun i => Riiiiiiii.enc (v9 i)) v10 (fun i => Riiiii.enc (v11 i)) ((v10 : Nat) : Int) 0 := by kernel_rfl
theorem world.Right.l0_eq (k0 k1 : Nat) (v1 : Int) (v2 : Int) (v3 : Int) (v4 : Int) (v5 : Int) (v6 : Nat) (v7 : Nat → (Int × Int × Int × Int × Int × Int × Int × Int × Int × Int × (Nat × (Nat → List AV)))) (v8 : Nat) (v9 : Nat → (Int × Int × Int × Int × Int × Int × Int × Int)) (v10 : Nat) (v11 : Nat → (Int × Int × Int × Int × Int)) (v12 : Int) (v13 : Int) : world.Right.l0 k0 (k1 + 1) v1 v2 v3 v4 v5 v6 (fun i => RiiiiiiiiiiL2.enc (v7 i)) v8 (fun i => Riiiiiiii.enc (v9 i)) v10 (fun i => Riiiii.enc (v11 i)) v12 v13 =
  bif (decide (v13 < v12)) then
    bif ((decide (0 ≤ v13)) && (decide (v13 < ((v6 : Nat) : Int)))) then
    (world.RightBody.f ((v7 (Int.toNat v13)).1, (v7 (Int.toNat v13)).2.1, (v7 (Int.toNat v13)).2.2.1, (v7 (Int.toNat v13)).2.2.2.1, (v7 (Int.toNat v13)).2.2.2.2.1, (v7 (Int.toNat v13)).2.2.2.2.2.1, (v7 (Int.toNat v13)).2.2.2.2.2.2.1, (v7 (Int.toNat v13)).2.2.2.2.2.2.2.1, (v7 (Int.toNat v13)).2.2.2.2.2.2.2.2.1, (v7 (Int.toNat v13)).2.2.2.2.2.2.2.2.2.1, ((v7 (Int.toNat v13)).2.2.2.2.2.2.2.2.2.2.1, (v7 (Int.toNat v13)).2.2.2.2.2.2.2.2.2.2.2))).bind fun r4 =>
    bif (!r4) then
      some false
    else
    world.Right.l0 k0 k1 v1 v2 v3 v4 v5 v6 (fun i => RiiiiiiiiiiL2.enc (v7 i)) v8 (fun i => Riiiiiiii.enc (v9 i)) v10 (fun i => Riiiii.enc (v11 i)) v12 (IntKind.i64.wrap (v13 + 1))
    else none
  else
  world.Right.l1 k0 k0 v1 v2 v3 v4 v5 v6 (fun i => RiiiiiiiiiiL2.enc (v7 i)) v8 (fun i => Riiiiiiii.enc (v9 i)) v10 (fun i => Riiiii.enc (v11 i)) ((v8 : Nat) : Int) 0 := by kernel_rfl
theorem world.Right.eq (k0 : Nat) (p0_0 : Int) (p0_1 : Int) (p0_2 : Int) (p0_3 : Int) (p0_4 : Int) (p0_5_n : Nat) (p0_5_g : Nat → (Int × Int × Int × Int × Int × Int × Int × Int × Int × Int × (Nat × (Nat → List AV)))) (p0_6_n : Nat) (p0_6_g : Nat → (Int × Int × Int × Int × Int × Int × Int × Int)) (p0_7_n : Nat) (p0_7_g : Nat → (Int × Int × Int × Int × Int)) : world.Right.g k0 (p0_0, p0_1, p0_2, p0_3, p0_4, (p0_5_n, (fun i => RiiiiiiiiiiL2.enc (p0_5_g i))), (p0_6_n, (fun i => Riiiiiiii.enc (p0_6_g i))), (p0_7_n, (fun i => Riiiii.enc (p0_7_g i)))) =
  bif (decide (p0_0 < 0)) then
    some false
  else
  bif (decide (p0_0 > 4611686018427387904)) then
    some false
  else
  bif (decide (p0_1 > 4611686018427387904)) then
    some false
  else
  bif (decide (p0_2 > 4611686018427387904)) then
    some false
  else
  bif (decide (((p0_5_n : Nat) : Int) > 1024)) then
    some false
  else
  bif (decide (((p0_6_n : Nat) : Int) > 1024)) then
    some false
  else
  (world.within.f ((p0_3, p0_4), 17592186044416)).bind fun r1 =>
  bif (!r1) then
    some false
  else
  (world.rising_Body.f ((p0_5_n, (fun i => RiiiiiiiiiiL2.enc (p0_5_g i))), p0_1, ())).bind fun r2 =>
  bif (!r2) then
    some false
  else
  (world.rising_Joint.f ((p0_6_n, (fun i => Riiiiiiii.enc (p0_6_g i))), p0_2, ())).bind fun r3 =>
  bif (!r3) then
    some false
  else
  world.Right.l0 k0 k0 p0_0 p0_1 p0_2 p0_3 p0_4 p0_5_n (fun i => RiiiiiiiiiiL2.enc (p0_5_g i)) p0_6_n (fun i => Riiiiiiii.enc (p0_6_g i)) p0_7_n (fun i => Riiiii.enc (p0_7_g i)) ((p0_5_n : Nat) : Int) 0 := by kernel_rfl
/-! ### bagatelle/order.Check -/
noncomputable def order.Check.cs : List (Nat × Fw.Summ) := [(17, order.All.s)]
theorem order.Check.cs_ok : SumsOk Try.prog order.Check.cs := .cons order.All.ok (.nil)
def order.Check.hs : List (Nat × LHint) := []
noncomputable def order.Check.G : Ctx := ⟨Try.prog, sumAt order.Check.cs, lookH order.Check.hs⟩
noncomputable def order.Check.f (x : ((Int × Int × Int × Int × Int × (Nat × (Nat → List AV)) × (Nat × (Nat → List AV)) × (Nat × (Nat → List AV))) × (Nat × (Nat → (Int × Int × Int × Int × Int × Int × Int × Int × Int × Int × Int × Int × Int × Int × (Nat × (Nat → List AV))))))) : Option Int := evF order.Check.G 0 Try.f18 ((tCons (tG (tCons (tI .i64) (tCons (tI .i64) (tCons (tI .i64) (tCons (tI .i64) (tCons (tI .i64) (tCons (tLz 11 (RiiiiiiiiiiL2.enc (0, 0, 0, 0, 0, 0, 0, 0, 0, 0, (0, fun _ => [])))) (tCons (tLz 8 (Riiiiiiii.enc (0, 0, 0, 0, 0, 0, 0, 0))) (tOne (tLz 5 (Riiiii.enc (0, 0, 0, 0, 0)))))))))))) (tOne (tTL RiiiiiiiiiiiiiiL2 15 (0, 0, 0, 0, 0, 0, 0, 0, 0, 0, 0, 0, 0, 0, (0, fun _ => []))))).enc x) (tI .i64).dec
noncomputable def order.Check.s : Fw.Summ := .mk' (tCons (tG (tCons (tI .i64) (tCons (tI .i64) (tCons (tI .i64) (tCons (tI .i64) (tCons (tI .i64) (tCons (tLz 11 (RiiiiiiiiiiL2.enc (0, 0, 0, 0, 0, 0, 0, 0, 0, 0, (0, fun _ => [])))) (tCons (tLz 8 (Riiiiiiii.enc (0, 0, 0, 0, 0, 0, 0, 0))) (tOne (tLz 5 (Riiiii.enc (0, 0, 0, 0, 0)))))))))))) (tOne (tTL RiiiiiiiiiiiiiiL2 15 (0, 0, 0, 0, 0, 0, 0, 0, 0, 0, 0, 0, 0, 0, (0, fun _ => []))))) (tI .i64) order.Check.f
theorem order.Check.ok : order.Check.s.Ok Try.prog 18 :=
  summ_ok (hint := lookH order.Check.hs) (fn := Try.f18) (fun x => 0) order.Check.cs_ok (by kernel_rfl) (by kernel_rfl) (by kernel_rfl) (by kernel_rfl) (tCons_ok (tG_ok (tCons_ok (tI_ok _) (tCons_ok (tI_ok _) (tCons_ok (tI_ok _) (tCons_ok (tI_ok _) (tCons_ok (tI_ok _) (tCons_ok (tLz_ok _ _) (tCons_ok (tLz_ok _ _) (tOne_ok (tLz_ok _ _)))))))))) (tOne_ok (tTL_ok RiiiiiiiiiiiiiiL2_ok _ _))) (tI_ok _) (fun _ => rfl)
theorem order.Check.eq (p0_0 : Int) (p0_1 : Int) (p0_2 : Int) (p0_3 : Int) (p0_4 : Int) (p0_5_n : Nat) (p0_5_g : Nat → (Int × Int × Int × Int × Int × Int × Int × Int × Int × Int × (Nat × (Nat → List AV)))) (p0_6_n : Nat) (p0_6_g : Nat → (Int × Int × Int × Int × Int × Int × Int × Int)) (p0_7_n : Nat) (p0_7_g : Nat → (Int × Int × Int × Int × Int)) (p1_n : Nat) (p1_g : Nat → (Int × Int × Int × Int × Int × Int × Int × Int × Int × Int × Int × Int × Int × Int × (Nat × (Nat → List AV)))) : order.Check.f ((p0_0, p0_1, p0_2, p0_3, p0_4, (p0_5_n, (fun i => RiiiiiiiiiiL2.enc (p0_5_g i))), (p0_6_n, (fun i => Riiiiiiii.enc (p0_6_g i))), (p0_7_n, (fun i => Riiiii.enc (p0_7_g i)))), (p1_n, p1_g)) =
  ((tCons (tG (tCons (tI .i64) (tCons (tI .i64) (tCons (tI .i64) (tCons (tI .i64) (tCons (tI .i64) (tCons (tLz 11 (RiiiiiiiiiiL2.enc (0, 0, 0, 0, 0, 0, 0, 0, 0, 0, (0, fun _ => [])))) (tCons (tLz 8 (Riiiiiiii.enc (0, 0, 0, 0, 0, 0, 0, 0))) (tOne (tLz 5 (Riiiii.enc (0, 0, 0, 0, 0)))))))))))) (tOne (tTL RiiiiiiiiiiiiiiL2 15 (0, 0, 0, 0, 0, 0, 0, 0, 0, 0, 0, 0, 0, 0, (0, fun _ => []))))).dec [.agg [.val (.int .i64 p0_0), .val (.int .i64 p0_1), .val (.int .i64 p0_2), .val (.int .i64 p0_3), .val (.int .i64 p0_4), .lst 11 p0_5_n none (fun i => RiiiiiiiiiiL2.enc (p0_5_g i)), .lst 8 p0_6_n none (fun i => Riiiiiiii.enc (p0_6_g i)), .lst 5 p0_7_n none (fun i => Riiiii.enc (p0_7_g i))], .lst 15 p1_n none (fun i => RiiiiiiiiiiiiiiL2.enc (p1_g i))]).bind fun r2 =>
  (order.All.f r2).bind fun r1 =>
  some r1.2 := by kernel_rfl
/-! ### bagatelle/world.New -/
noncomputable def world.New_in.cs : List (Nat × Fw.Summ) := []
theorem world.New_in.cs_ok : SumsOk Try.prog world.New_in.cs := .nil
noncomputable def world.New_in.G : Ctx := ⟨Try.prog, sumAt world.New_in.cs, fun _ => { unroll := true }⟩
noncomputable def world.New_in.s : Fw.Summ := .mkI world.New_in.G Try.f15
theorem world.New_in.ok : world.New_in.s.Ok Try.prog 15 := isumm_ok world.New_in.cs_ok (by kernel_rfl) (by kernel_rfl) (by kernel_rfl) (by kernel_rfl)
/-! ### bagatelle/bagatellelaw10.OrderFulls -/
noncomputable def law10.OrderFulls.cs : List (Nat × Fw.Summ) := [(6, law10.fit.s), (15, world.New_in.s), (16, world.Right.s), (17, order.All.s), (18, order.Check.s)]
theorem law10.OrderFulls.cs_ok : SumsOk Try.prog law10.OrderFulls.cs := .cons law10.fit.ok (.cons world.New_in.ok (.cons world.Right.ok (.cons order.All.ok (.cons order.Check.ok (.nil)))))
def law10.OrderFulls.hs : List (Nat × LHint) := [(0, { mat := [(.cell 1 0 5, 35)], live := [0, 1, 5, 16], ren := [(.cell 1 0 5, 2)] }), (2, { mat := [(.tmp 9, 29)], live := [1, 5, 7, 8, 9, 42, 43], ren := [(.tmp 9, 4)] }), (4, { mat := [], live := [1, 5, 7, 8, 9, 53, 54], ren := [(.tmp 9, 4)] })]
noncomputable def law10.OrderFulls.hf : Nat → LHint := fun b => { lookH law10.OrderFulls.hs b with rt := some rtF }
noncomputable def law10.OrderFulls.G : Ctx := ⟨Try.prog, sumAt law10.OrderFulls.cs, law10.OrderFulls.hf⟩
noncomputable def law10.OrderFulls.g (k0 : Nat) (x : (Int × Bool)) : Option Bool := evF law10.OrderFulls.G k0 Try.f5 ((tCons (tI .u8) (tOne tB)).enc x) tB.dec
noncomputable def law10.OrderFulls.f (x : (Int × Bool)) : Option Bool := law10.OrderFulls.g (1000000) x
noncomputable def law10.OrderFulls.s : Fw.Summ := .mk' (tCons (tI .u8) (tOne tB)) tB law10.OrderFulls.f
theorem law10.OrderFulls.ok : law10.OrderFulls.s.Ok Try.prog 5 :=
  summ_ok (hint := law10.OrderFulls.hf) (fn := Try.f5) (fun x => 1000000) law10.OrderFulls.cs_ok (by kernel_rfl) (by kernel_rfl) (by kernel_rfl) (by kernel_rfl) (tCons_ok (tI_ok _) (tOne_ok tB_ok)) tB_ok (fun _ => rfl)
noncomputable def law10.OrderFulls.l6 (k0 k1 : Nat) (v1 : Nat) (v2 : Nat → List AV) (v3 : Nat) (v4 : Nat → List AV) (v5 : Bool) (v6 : Int) (v7 : Int) : Option Bool :=
  evLoop (law10.OrderFulls.hf 4) 5 (ev law10.OrderFulls.G k0 (codeAt [1, 1, 1, 1, 1, 1, 1, 1, 1, 1, 0, 1, 0, 0] (bodyOf Try.f5)) 4) k1
  ⟨[.top, .val (.bool v5), .top, .top, .top, .ptr 1 0 0, .top, .ptr 3 0 0, .val (.int .i64 v6), .slc 4 0 none none, .top, .top, .top, .top, .top, .top, .top, .top, .top, .top, .top, .top, .top, .top, .top, .top, .top, .top, .top, .top, .top, .top, .top, .top, .top, .top, .top, .top, .top, .top, .top, .top, .top, .top, .top, .top, .top, .top, .top, .top, .top, .top, .top, .val (.int .i64 v6), .val (.int .i64 v7), .top, .top, .top, .top, .top, .top, .top, .top, .top, .top, .top, .top, .top, .top, .top, .top, .top, .top, .top, .top, .top, .top, .top, .top, .top, .top, .top, .top, .top, .top, .top, .top, .top, .top, .top, .top, .top, .top, .top, .top, .top, .top, .top, .top, .top, .top, .top, .top, .top, .top, .top, .top, .top, .top], [.live ⟨false, 49, 8, 1, fun _ => [.val (.int .i64 0), .val (.int .i64 1), .val (.int .i64 1), .val (.int .i64 0), .val (.int .i64 0), .val (.slice none 0 0), .val (.slice none 0 0), .val (.slice none 0 0)], none⟩, .live ⟨false, 49, 8, 1, fun _ => [.val (.int .i64 0), .val (.int .i64 1025), .val (.int .i64 1), .val (.int .i64 0), .val (.int .i64 0), .slc 2 0 none none, .val (.slice none 0 0), .val (.slice none 0 0)], none⟩, .live ⟨true, 35, 11, v1, v2, none⟩, .live ⟨false, 29, 15, 1, fun _ => [.val (.int .i64 1), .val (.int .i64 0), .val (.int .i64 0), .val (.int .i64 0), .val (.int .i64 0), .val (.int .i64 0), .val (.int .i64 0), .val (.int .i64 0), .val (.int .i64 0), .val (.int .i64 0), .val (.int .i64 0), .val (.int .i64 0), .val (.int .i64 1), .val (.int .i64 4294967296), .val (.slice none 0 0)], none⟩, .live ⟨true, 29, 15, v3, v4, none⟩]⟩
  (kBlock 4 (kSeq law10.OrderFulls.G k0 (codeAt [1, 1, 1, 1, 1, 1, 1, 1, 1, 1, 1] (bodyOf Try.f5)) 0 (kFin law10.OrderFulls.G Try.f5 tB.dec)))
noncomputable def law10.OrderFulls.l5 (k0 k1 : Nat) (v1 : Nat) (v2 : Nat → List AV) (v3 : Nat) (v4 : Nat → List AV) (v5 : Bool) (v6 : Int) (v7 : Int) : Option Bool :=
  evLoop (law10.OrderFulls.hf 2) 5 (ev law10.OrderFulls.G k0 (codeAt [1, 1, 1, 1, 1, 1, 1, 1, 1, 0, 1, 0, 0] (bodyOf Try.f5)) 2) k1
  ⟨[.top, .val (.bool v5), .top, .top, .top, .ptr 1 0 0, .top, .ptr 3 0 0, .val (.int .i64 v6), .slc 4 0 none none, .top, .top, .top, .top, .top, .top, .top, .top, .top, .top, .top, .top, .top, .top, .top, .top, .top, .top, .top, .top, .top, .top, .top, .top, .top, .top, .top, .top, .top, .top, .top, .top, .val (.int .i64 v6), .val (.int .i64 v7), .top, .top, .top, .top, .top, .top, .top, .top, .top, .top, .top, .top, .top, .top, .top, .top, .top, .top, .top, .top, .top, .top, .top, .top, .top, .top, .top, .top, .top, .top, .top, .top, .top, .top, .top, .top, .top, .top, .top, .top, .top, .top, .top, .top, .top, .top, .top, .top, .top, .top, .top, .top, .top, .top, .top, .top, .top, .top, .top, .top, .top, .top, .top, .top, .top], [.live ⟨false, 49, 8, 1, fun _ => [.val (.int .i64 0), .val (.int .i64 1), .val (.int .i64 1), .val (.int .i64 0), .val (.int .i64 0), .val (.slice none 0 0), .val (.slice none 0 0), .val (.slice none 0 0)], none⟩, .live ⟨false, 49, 8, 1, fun _ => [.val (.int .i64 0), .val (.int .i64 1025), .val (.int .i64 1), .val (.int .i64 0), .val (.int .i64 0), .slc 2 0 none none, .val (.slice none 0 0), .val (.slice none 0 0)], none⟩, .live ⟨true, 35, 11, v1, v2, none⟩, .live ⟨false, 29, 15, 1, fun _ => [.val (.int .i64 1), .val (.int .i64 0), .val (.int .i64 0), .val (.int .i64 0), .val (.int .i64 0), .val (.int .i64 0), .val (.int .i64 0), .val (.int .i64 0), .val (.int .i64 0), .val (.int .i64 0), .val (.int .i64 0), .val (.int .i64 0), .val (.int .i64 1), .val (.int .i64 4294967296), .val (.slice none 0 0)], none⟩, .live ⟨true, 29, 15, v3, v4, none⟩]⟩
  (kBlock 2 (kSeq law10.OrderFulls.G k0 (codeAt [1, 1, 1, 1, 1, 1, 1, 1, 1, 1] (bodyOf Try.f5)) 0 (kFin law10.OrderFulls.G Try.f5 tB.dec)))
noncomputable def law10.OrderFulls.l2 (k0 k1 : Nat) (v1 : Nat) (v2 : Nat → List AV) (v3 : Int) (v4 : Bool) (v5 : Int) : Option Bool :=
  evLoop (law10.OrderFulls.hf 0) 3 (ev law10.OrderFulls.G k0 (codeAt [1, 1, 1, 0, 1, 0, 0] (bodyOf Try.f5)) 0) k1
  ⟨[.val (.int .u8 v3), .val (.bool v4), .top, .top, .top, .ptr 1 0 0, .top, .top, .top, .top, .top, .top, .top, .top, .top, .top, .val (.int .i64 v5), .top, .top, .top, .top, .top, .top, .top, .top, .top, .top, .top, .top, .top, .top, .top, .top, .top, .top, .top, .top, .top, .top, .top, .top, .top, .top, .top, .top, .top, .top, .top, .top, .top, .top, .top, .top, .top, .top, .top, .top, .top, .top, .top, .top, .top, .top, .top, .top, .top, .top, .top, .top, .top, .top, .top, .top, .top, .top, .top, .top, .top, .top, .top, .top, .top, .top, .top, .top, .top, .top, .top, .top, .top, .top, .top, .top, .top, .top, .top, .top, .top, .top, .top, .top, .top, .top, .top, .top, .top, .top, .top, .top], [.live ⟨false, 49, 8, 1, fun _ => [.val (.int .i64 0), .val (.int .i64 1), .val (.int .i64 1), .val (.int .i64 0), .val (.int .i64 0), .val (.slice none 0 0), .val (.slice none 0 0), .val (.slice none 0 0)], none⟩, .live ⟨false, 49, 8, 1, fun _ => [.val (.int .i64 0), .val (.int .i64 1), .val (.int .i64 1), .val (.int .i64 0), .val (.int .i64 0), .slc 2 0 none none, .val (.slice none 0 0), .val (.slice none 0 0)], none⟩, .live ⟨true, 35, 11, v1, v2, none⟩]⟩
  (kBlock 0 (kSeq law10.OrderFulls.G k0 (codeAt [1, 1, 1, 1] (bodyOf Try.f5)) 0 (kFin law10.OrderFulls.G Try.f5 tB.dec)))
theorem law10.OrderFulls.l6_eq (k0 k1 : Nat) (v1 : Nat) (v2 : Nat → (Int × Int × Int × Int × Int × Int × Int × Int × Int × Int × (Nat × (Nat → List AV)))) (v3 : Nat) (v4 : Nat → (Int × Int × Int × Int × Int × Int × Int × Int × Int × Int × Int × Int × Int × Int × (Nat × (Nat → List AV)))) (v5 : Bool) (v6 : Int) (v7 : Int) : law10.OrderFulls.l6 k0 (k1 + 1) v1 (fun i => RiiiiiiiiiiL2.enc (v2 i)) v3 (fun i => RiiiiiiiiiiiiiiL2.enc (v4 i)) v5 v6 v7 =
  bif (decide (v7 < v6)) then
    bif (decide ((v3 + 1) * 136 ≤ 140737488355328)) then
    (rowsD rtRiiiiiiiiiiL2 v1 (fun i => RiiiiiiiiiiL2.enc (v2 i))).bind fun r10 =>
    (rowsD rtRiiiiiiiiiiiiiiL2 1 (fun i => cloL (List.getD [[.val (.int .i64 1), .val (.int .i64 0), .val (.int .i64 0), .val (.int .i64 0), .val (.int .i64 0), .val (.int .i64 0), .val (.int .i64 0), .val (.int .i64 0), .val (.int .i64 0), .val (.int .i64 0), .val (.int .i64 0), .val (.int .i64 0), .val (.int .i64 1), .val (.int .i64 4294967296), .val (.slice none 0 0)]] i ([.val (.int .i64 0), .val (.int .i64 0), .val (.int .i64 0), .val (.int .i64 0), .val (.int .i64 0), .val (.int .i64 0), .val (.int .i64 0), .val (.int .i64 0), .val (.int .i64 0), .val (.int .i64 0), .val (.int .i64 0), .val (.int .i64 0), .val (.int .i64 0), .val (.int .i64 0), .val (.slice none 0 0)])))).bind fun r11 =>
    (rowsD rtRiiiiiiiiiiiiiiL2 (v3 + 1) (fun i => cloL (if i = v3 then [.val (.int .i64 1), .val (.int .i64 0), .val (.int .i64 0), .val (.int .i64 0), .val (.int .i64 0), .val (.int .i64 0), .val (.int .i64 0), .val (.int .i64 0), .val (.int .i64 0), .val (.int .i64 0), .val (.int .i64 0), .val (.int .i64 0), .val (.int .i64 1), .val (.int .i64 4294967296), .val (.slice none 0 0)] else RiiiiiiiiiiiiiiL2.enc (v4 i)))).bind fun r12 =>
    law10.OrderFulls.l6 k0 k1 v1 (fun i => RiiiiiiiiiiL2.enc (r10 i)) (v3 + 1) (fun i => RiiiiiiiiiiiiiiL2.enc (r12 i)) v5 v6 (IntKind.i64.wrap (v7 + 1))
    else none
  else
  bif v5 then
    bif (decide ((1 + v3) * 136 ≤ 140737488355328)) then
    (rowsD rtRiiiiiiiiiiL2 v1 (fun i => RiiiiiiiiiiL2.enc (v2 i))).bind fun r13 =>
    (rowsD rtRiiiiiiiiiiiiiiL2 v3 (fun i => RiiiiiiiiiiiiiiL2.enc (v4 i))).bind fun r14 =>
    (rowsD rtRiiiiiiiiiiiiiiL2 (1 + v3) (fun i => cloL (if i < 1 then (fun i => List.getD [[.val (.int .i64 1), .val (.int .i64 0), .val (.int .i64 0), .val (.int .i64 0), .val (.int .i64 0), .val (.int .i64 0), .val (.int .i64 0), .val (.int .i64 0), .val (.int .i64 0), .val (.int .i64 0), .val (.int .i64 0), .val (.int .i64 0), .val (.int .i64 1), .val (.int .i64 4294967296), .val (.slice none 0 0)]] i ([.val (.int .i64 0), .val (.int .i64 0), .val (.int .i64 0), .val (.int .i64 0), .val (.int .i64 0), .val (.int .i64 0), .val (.int .i64 0), .val (.int .i64 0), .val (.int .i64 0), .val (.int .i64 0), .val (.int .i64 0), .val (.int .i64 0), .val (.int .i64 0), .val (.int .i64 0), .val (.slice none 0 0)])) i else (fun i => RiiiiiiiiiiiiiiL2.enc (v4 i)) (i - 1)))).bind fun r15 =>
    ((tCons (tG (tCons (tI .i64) (tCons (tI .i64) (tCons (tI .i64) (tCons (tI .i64) (tCons (tI .i64) (tCons (tLz 11 (RiiiiiiiiiiL2.enc (0, 0, 0, 0, 0, 0, 0, 0, 0, 0, (0, fun _ => [])))) (tCons (tLz 8 (Riiiiiiii.enc (0, 0, 0, 0, 0, 0, 0, 0))) (tOne (tLz 5 (Riiiii.enc (0, 0, 0, 0, 0)))))))))))) (tOne (tTL RiiiiiiiiiiiiiiL2 15 (0, 0, 0, 0, 0, 0, 0, 0, 0, 0, 0, 0, 0, 0, (0, fun _ => []))))).dec [.agg [.val (.int .i64 0), .val (.int .i64 1025), .val (.int .i64 1), .val (.int .i64 0), .val (.int .i64 0), .lst 11 v1 none (fun i => RiiiiiiiiiiL2.enc (r13 i)), .val (.slice none 0 0), .val (.slice none 0 0)], .lst 15 (1 + v3) none (fun i => RiiiiiiiiiiiiiiL2.enc (r15 i))]).bind fun r17 =>
    (order.All.f r17).bind fun r16 =>
    (rowsD rtRiiiiiiiiiiiiiiL2 v3 (fun i => RiiiiiiiiiiiiiiL2.enc (r14 i))).bind fun r18 =>
    bif v5 then
      bif (r16.2 == 3) then
        ((tCons (tG (tCons (tI .i64) (tCons (tI .i64) (tCons (tI .i64) (tCons (tI .i64) (tCons (tI .i64) (tCons (tLz 11 (RiiiiiiiiiiL2.enc (0, 0, 0, 0, 0, 0, 0, 0, 0, 0, (0, fun _ => [])))) (tCons (tLz 8 (Riiiiiiii.enc (0, 0, 0, 0, 0, 0, 0, 0))) (tOne (tLz 5 (Riiiii.enc (0, 0, 0, 0, 0)))))))))))) (tOne (tTL RiiiiiiiiiiiiiiL2 15 (0, 0, 0, 0, 0, 0, 0, 0, 0, 0, 0, 0, 0, 0, (0, fun _ => []))))).dec [.agg [.val (.int .i64 0), .val (.int .i64 1025), .val (.int .i64 1), .val (.int .i64 0), .val (.int .i64 0), .lst 11 v1 none (fun i => RiiiiiiiiiiL2.enc (r13 i)), .val (.slice none 0 0), .val (.slice none 0 0)], .lst 15 (1 + v3) none (fun i => RiiiiiiiiiiiiiiL2.enc (r15 i))]).bind fun r20 =>
        (order.Check.f r20).bind fun r19 =>
        bif (r19 == r16.2) then
          some (((r16.1.2.2.2.2.2.1.1 : Nat) : Int) == 0)
        else
        some false
      else
      some false
    else
    bif (r16.2 == 0) then
      bif (((r16.1.2.2.2.2.2.1.1 : Nat) : Int) == 1024) then
        bif (r16.1.2.1 == (IntKind.i64.wrap (1025 + v6))) then
          (world.Right.f (r16.1.1, r16.1.2.1, r16.1.2.2.1, r16.1.2.2.2.1, r16.1.2.2.2.2.1, (r16.1.2.2.2.2.2.1.1, (fun i => RiiiiiiiiiiL2.enc (r16.1.2.2.2.2.2.1.2 i))), (r16.1.2.2.2.2.2.2.1.1, (fun i => Riiiiiiii.enc (r16.1.2.2.2.2.2.2.1.2 i))), (r16.1.2.2.2.2.2.2.2.1, (fun i => Riiiii.enc (r16.1.2.2.2.2.2.2.2.2 i))))).bind fun r21 =>
          some r21
        else
        some false
      else
      some false
    else
    some false
    else none
  else
  ((tCons (tG (tCons (tI .i64) (tCons (tI .i64) (tCons (tI .i64) (tCons (tI .i64) (tCons (tI .i64) (tCons (tLz 11 (RiiiiiiiiiiL2.enc (0, 0, 0, 0, 0, 0, 0, 0, 0, 0, (0, fun _ => [])))) (tCons (tLz 8 (Riiiiiiii.enc (0, 0, 0, 0, 0, 0, 0, 0))) (tOne (tLz 5 (Riiiii.enc (0, 0, 0, 0, 0)))))))))))) (tOne (tTL RiiiiiiiiiiiiiiL2 15 (0, 0, 0, 0, 0, 0, 0, 0, 0, 0, 0, 0, 0, 0, (0, fun _ => []))))).dec [.agg [.val (.int .i64 0), .val (.int .i64 1025), .val (.int .i64 1), .val (.int .i64 0), .val (.int .i64 0), .lst 11 v1 none (fun i => RiiiiiiiiiiL2.enc (v2 i)), .val (.slice none 0 0), .val (.slice none 0 0)], .lst 15 v3 none (fun i => RiiiiiiiiiiiiiiL2.enc (v4 i))]).bind fun r23 =>
  (order.All.f r23).bind fun r22 =>
  bif v5 then
    bif (r22.2 == 3) then
      ((tCons (tG (tCons (tI .i64) (tCons (tI .i64) (tCons (tI .i64) (tCons (tI .i64) (tCons (tI .i64) (tCons (tLz 11 (RiiiiiiiiiiL2.enc (0, 0, 0, 0, 0, 0, 0, 0, 0, 0, (0, fun _ => [])))) (tCons (tLz 8 (Riiiiiiii.enc (0, 0, 0, 0, 0, 0, 0, 0))) (tOne (tLz 5 (Riiiii.enc (0, 0, 0, 0, 0)))))))))))) (tOne (tTL RiiiiiiiiiiiiiiL2 15 (0, 0, 0, 0, 0, 0, 0, 0, 0, 0, 0, 0, 0, 0, (0, fun _ => []))))).dec [.agg [.val (.int .i64 0), .val (.int .i64 1025), .val (.int .i64 1), .val (.int .i64 0), .val (.int .i64 0), .lst 11 v1 none (fun i => RiiiiiiiiiiL2.enc (v2 i)), .val (.slice none 0 0), .val (.slice none 0 0)], .lst 15 v3 none (fun i => RiiiiiiiiiiiiiiL2.enc (v4 i))]).bind fun r25 =>
      (order.Check.f r25).bind fun r24 =>
      bif (r24 == r22.2) then
        some (((r22.1.2.2.2.2.2.1.1 : Nat) : Int) == 0)
      else
      some false
    else
    some false
  else
  bif (r22.2 == 0) then
    bif (((r22.1.2.2.2.2.2.1.1 : Nat) : Int) == 1024) then
      bif (r22.1.2.1 == (IntKind.i64.wrap (1025 + v6))) then
        (world.Right.f (r22.1.1, r22.1.2.1, r22.1.2.2.1, r22.1.2.2.2.1, r22.1.2.2.2.2.1, (r22.1.2.2.2.2.2.1.1, (fun i => RiiiiiiiiiiL2.enc (r22.1.2.2.2.2.2.1.2 i))), (r22.1.2.2.2.2.2.2.1.1, (fun i => Riiiiiiii.enc (r22.1.2.2.2.2.2.2.1.2 i))), (r22.1.2.2.2.2.2.2.2.1, (fun i => Riiiii.enc (r22.1.2.2.2.2.2.2.2.2 i))))).bind fun r26 =>
        some r26
      else
      some false
    else
    some false
  else
  some false := by kernel_rfl
theorem law10.OrderFulls.l5_eq (k0 k1 : Nat) (v1 : Nat) (v2 : Nat → (Int × Int × Int × Int × Int × Int × Int × Int × Int × Int × (Nat × (Nat → List AV)))) (v3 : Nat) (v4 : Nat → (Int × Int × Int × Int × Int × Int × Int × Int × Int × Int × Int × Int × Int × Int × (Nat × (Nat → List AV)))) (v5 : Bool) (v6 : Int) (v7 : Int) : law10.OrderFulls.l5 k0 (k1 + 1) v1 (fun i => RiiiiiiiiiiL2.enc (v2 i)) v3 (fun i => RiiiiiiiiiiiiiiL2.enc (v4 i)) v5 v6 v7 =
  bif (decide (v7 < v6)) then
    bif (decide ((v3 + 1) * 136 ≤ 140737488355328)) then
    (rowsD rtRiiiiiiiiiiL2 v1 (fun i => RiiiiiiiiiiL2.enc (v2 i))).bind fun r7 =>
    (rowsD rtRiiiiiiiiiiiiiiL2 1 (fun i => cloL (List.getD [[.val (.int .i64 2), .val (.int .i64 (IntKind.i64.wrap (1 + v7))), .val (.int .i64 0), .val (.int .i64 0), .val (.int .i64 0), .val (.int .i64 0), .val (.int .i64 0), .val (.int .i64 0), .val (.int .i64 0), .val (.int .i64 0), .val (.int .i64 0), .val (.int .i64 0), .val (.int .i64 0), .val (.int .i64 0), .val (.slice none 0 0)]] i ([.val (.int .i64 0), .val (.int .i64 0), .val (.int .i64 0), .val (.int .i64 0), .val (.int .i64 0), .val (.int .i64 0), .val (.int .i64 0), .val (.int .i64 0), .val (.int .i64 0), .val (.int .i64 0), .val (.int .i64 0), .val (.int .i64 0), .val (.int .i64 0), .val (.int .i64 0), .val (.slice none 0 0)])))).bind fun r8 =>
    (rowsD rtRiiiiiiiiiiiiiiL2 (v3 + 1) (fun i => cloL (if i = v3 then [.val (.int .i64 2), .val (.int .i64 (IntKind.i64.wrap (1 + v7))), .val (.int .i64 0), .val (.int .i64 0), .val (.int .i64 0), .val (.int .i64 0), .val (.int .i64 0), .val (.int .i64 0), .val (.int .i64 0), .val (.int .i64 0), .val (.int .i64 0), .val (.int .i64 0), .val (.int .i64 0), .val (.int .i64 0), .val (.slice none 0 0)] else RiiiiiiiiiiiiiiL2.enc (v4 i)))).bind fun r9 =>
    law10.OrderFulls.l5 k0 k1 v1 (fun i => RiiiiiiiiiiL2.enc (r7 i)) (v3 + 1) (fun i => RiiiiiiiiiiiiiiL2.enc (r9 i)) v5 v6 (IntKind.i64.wrap (v7 + 1))
    else none
  else
  law10.OrderFulls.l6 k0 k0 v1 (fun i => RiiiiiiiiiiL2.enc (v2 i)) v3 (fun i => RiiiiiiiiiiiiiiL2.enc (v4 i)) v5 v6 0 := by kernel_rfl
theorem law10.OrderFulls.l2_eq (k0 k1 : Nat) (v1 : Nat) (v2 : Nat → (Int × Int × Int × Int × Int × Int × Int × Int × Int × Int × (Nat × (Nat → List AV)))) (v3 : Int) (v4 : Bool) (v5 : Int) : law10.OrderFulls.l2 k0 (k1 + 1) v1 (fun i => RiiiiiiiiiiL2.enc (v2 i)) v3 v4 v5 =
  bif (decide (v5 < 1024)) then
    bif (decide ((v1 + 1) * 104 ≤ 140737488355328)) then
    (rowsD rtRiiiiiiiiiiL2 1 (fun i => cloL (List.getD [[.val (.int .i64 (IntKind.i64.wrap (v5 + 1))), .val (.int .i64 (IntKind.i64.wrap ((IntKind.i64.wrap (v5 * 4)) * 4294967296))), .val (.int .i64 0), .val (.int .i64 0), .val (.int .i64 0), .val (.int .i64 0), .val (.int .i64 0), .val (.int .i64 0), .val (.int .i64 1), .val (.int .i64 4294967296), .val (.slice none 0 0)]] i ([.val (.int .i64 0), .val (.int .i64 0), .val (.int .i64 0), .val (.int .i64 0), .val (.int .i64 0), .val (.int .i64 0), .val (.int .i64 0), .val (.int .i64 0), .val (.int .i64 0), .val (.int .i64 0), .val (.slice none 0 0)])))).bind fun r2 =>
    (rowsD rtRiiiiiiiiiiL2 (v1 + 1) (fun i => cloL (if i = v1 then [.val (.int .i64 (IntKind.i64.wrap (v5 + 1))), .val (.int .i64 (IntKind.i64.wrap ((IntKind.i64.wrap (v5 * 4)) * 4294967296))), .val (.int .i64 0), .val (.int .i64 0), .val (.int .i64 0), .val (.int .i64 0), .val (.int .i64 0), .val (.int .i64 0), .val (.int .i64 1), .val (.int .i64 4294967296), .val (.slice none 0 0)] else RiiiiiiiiiiL2.enc (v2 i)))).bind fun r3 =>
    law10.OrderFulls.l2 k0 k1 (v1 + 1) (fun i => RiiiiiiiiiiL2.enc (r3 i)) v3 v4 (IntKind.i64.wrap (v5 + 1))
    else none
  else
  (rowsD rtRiiiiiiiiiiL2 v1 (fun i => RiiiiiiiiiiL2.enc (v2 i))).bind fun r4 =>
  (world.Right.f (0, 1025, 1, 0, 0, (v1, (fun i => RiiiiiiiiiiL2.enc (r4 i))), (0, fun _ => Riiiiiiii.enc (0, 0, 0, 0, 0, 0, 0, 0)), (0, fun _ => Riiiii.enc (0, 0, 0, 0, 0)))).bind fun r5 =>
  bif (!r5) then
    some false
  else
  (rowsD rtRiiiiiiiiiiL2 v1 (fun i => RiiiiiiiiiiL2.enc (r4 i))).bind fun r6 =>
  law10.OrderFulls.l5 k0 k0 v1 (fun i => RiiiiiiiiiiL2.enc (r6 i)) 0 (fun _ => [.val (.int .i64 0), .val (.int .i64 0), .val (.int .i64 0), .val (.int .i64 0), .val (.int .i64 0), .val (.int .i64 0), .val (.int .i64 0), .val (.int .i64 0), .val (.int .i64 0), .val (.int .i64 0), .val (.int .i64 0), .val (.int .i64 0), .val (.int .i64 0), .val (.int .i64 0), .val (.slice none 0 0)]) v4 (IntKind.i64.wrap (Int.tmod v3 5)) 0 := by kernel_rfl
theorem law10.OrderFulls.eq (k0 : Nat) (p0 : Int) (p1 : Bool) : law10.OrderFulls.g k0 (p0, p1) =
  (law10.fit.f ()).bind fun r1 =>
  bif (!r1) then
    some false
  else
  law10.OrderFulls.l2 k0 k0 0 (fun _ => [.val (.int .i64 0), .val (.int .i64 0), .val (.int .i64 0), .val (.int .i64 0), .val (.int .i64 0), .val (.int .i64 0), .val (.int .i64 0), .val (.int .i64 0), .val (.int .i64 0), .val (.int .i64 0), .val (.slice none 0 0)]) p0 p1 0 := by kernel_rfl
end Go.Proofs.Ytghhecijpghfhaa.E
