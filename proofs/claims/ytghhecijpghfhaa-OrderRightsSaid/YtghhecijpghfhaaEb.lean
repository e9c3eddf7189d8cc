import Derived.Test.YtghhecijpghfhaaEa
import Derived.Test.YtghhecijpghfhaaProg
namespace Go.Proofs.Ytghhecijpghfhaa.E
open Go Go.Proofs Go.Proofs.Ytghhecijpghfhaa.Fw Go.RowKit
set_option maxRecDepth 100000
set_option linter.unusedVariables false
/-! ### bagatelle/bagatellelaw10.fit -/
noncomputable def law10.fit.cs : List (Nat × Fw.Summ) := [(15, world.New.s), (17, order.All.s), (8, order.Right.s)]
theorem law10.fit.cs_ok : SumsOk Try.prog law10.fit.cs := .cons world.New.ok (.cons order.All.ok (.cons order.Right.ok (.nil)))
def law10.fit.hs : List (Nat × LHint) := []
noncomputable def law10.fit.G : Ctx := ⟨Try.prog, sumAt law10.fit.cs, lookH law10.fit.hs⟩
noncomputable def law10.fit.f (x : Unit) : Option Bool := evF law10.fit.G 0 Try.f6 (tNil.enc x) tB.dec
noncomputable def law10.fit.s : Fw.Summ := .mk' tNil tB law10.fit.f
theorem law10.fit.ok : law10.fit.s.Ok Try.prog 6 :=
  summ_ok (hint := lookH law10.fit.hs) (fn := Try.f6) (fun x => 0) law10.fit.cs_ok (by kernel_rfl) (by kernel_rfl) (by kernel_rfl) (by kernel_rfl) tNil_ok tB_ok (fun _ => rfl)
theorem law10.fit.eq  : law10.fit.f () =
  (order.Right.f (6, 0, 0, 0, 0, 0, 0, (-4294967296), 0, 0, 0, 0, 0, 0, (0, fun _ => []))).bind fun r1 =>
  bif (!r1) then
    some false
  else
  (slices.Clone_lBody_Body.f ()).bind fun r2 =>
  (slices.Clone_lJoint_Joint.f ()).bind fun r3 =>
  (slices.Clone_lContact_Contact.f ()).bind fun r4 =>
  (order.Right.f (6, 1, 0, 0, 0, 0, 0, 0, 0, 0, 0, 0, 0, 0, (0, fun _ => []))).bind fun r5 =>
  bif (!r5) then
    (order.Right.f (0, 0, 0, 0, 0, 0, 0, 0, 0, 0, 0, 0, 0, 0, (0, fun _ => []))).bind fun r6 =>
    some (!r6)
  else
  some false := by kernel_rfl
/-! ### bagatelle/shape.Box -/
noncomputable def shape.Box.cs : List (Nat × Fw.Summ) := [(58, fix.Neg.s)]
theorem shape.Box.cs_ok : SumsOk Try.prog shape.Box.cs := .cons fix.Neg.ok (.nil)
def shape.Box.hs : List (Nat × LHint) := []
noncomputable def shape.Box.G : Ctx := ⟨Try.prog, sumAt shape.Box.cs, lookH shape.Box.hs⟩
noncomputable def shape.Box.f (x : (Int × Int)) : Option (Int × Int × (Nat × (Nat → (Int × Int)))) := evF shape.Box.G 0 Try.f96 ((tCons (tI .i64) (tOne (tI .i64))).enc x) (tG (tCons (tI .i64) (tCons (tI .i64) (tOne (tTL Rii 2 (0, 0)))))).dec
noncomputable def shape.Box.s : Fw.Summ := .mk' (tCons (tI .i64) (tOne (tI .i64))) (tG (tCons (tI .i64) (tCons (tI .i64) (tOne (tTL Rii 2 (0, 0)))))) shape.Box.f
theorem shape.Box.ok : shape.Box.s.Ok Try.prog 96 :=
  summ_ok (hint := lookH shape.Box.hs) (fn := Try.f96) (fun x => 0) shape.Box.cs_ok (by kernel_rfl) (by kernel_rfl) (by kernel_rfl) (by kernel_rfl) (tCons_ok (tI_ok _) (tOne_ok (tI_ok _))) (tG_ok (tCons_ok (tI_ok _) (tCons_ok (tI_ok _) (tOne_ok (tTL_ok Rii_ok _ _))))) (fun _ => rfl)
theorem shape.Box.eq (p0 : Int) (p1 : Int) : shape.Box.f (p0, p1) =
  (fix.Neg.f p0).bind fun r1 =>
  (fix.Neg.f p1).bind fun r2 =>
  (fix.Neg.f p1).bind fun r3 =>
  (fix.Neg.f p0).bind fun r4 =>
  (tG (tCons (tI .i64) (tCons (tI .i64) (tOne (tTL Rii 2 (0, 0)))))).dec (.agg [.val (.int .i64 2), .val (.int .i64 0), .lst 2 4 (some 4) (fun i => cloL (List.getD (List.map Rii.enc [(r1, r2), (p0, r3), (p0, p1), (r4, p1)]) i (Rii.enc (0, 0))))]) := by kernel_rfl
/-! ### bagatelle/bagatellelaw04.ring -/
noncomputable def law04.ring.cs : List (Nat × Fw.Summ) := []
theorem law04.ring.cs_ok : SumsOk Try.prog law04.ring.cs := .nil
def law04.ring.hs : List (Nat × LHint) := []
noncomputable def law04.ring.G : Ctx := ⟨Try.prog, sumAt law04.ring.cs, lookH law04.ring.hs⟩
noncomputable def law04.ring.f (x : Unit) : Option (Nat × (Nat → (Int × Int))) := evF law04.ring.G 0 Try.f97 (tNil.enc x) (tTL Rii 2 (0, 0)).dec
noncomputable def law04.ring.s : Fw.Summ := .mk' tNil (tTL Rii 2 (0, 0)) law04.ring.f
theorem law04.ring.ok : law04.ring.s.Ok Try.prog 97 :=
  summ_ok (hint := lookH law04.ring.hs) (fn := Try.f97) (fun x => 0) law04.ring.cs_ok (by kernel_rfl) (by kernel_rfl) (by kernel_rfl) (by kernel_rfl) tNil_ok (tTL_ok Rii_ok _ _) (fun _ => rfl)
theorem law04.ring.eq  : law04.ring.f () =
  (tTL Rii 2 (0, 0)).dec (.lst 2 10 (some 10) (fun i => cloL (List.getD (List.map Rii.enc [(65, 0), (52, 39), (25, 60), ((-25), 60), ((-52), 39), ((-65), 0), ((-52), (-39)), ((-25), (-60)), (25, (-60)), (52, (-39))]) i (Rii.enc (0, 0))))) := by kernel_rfl
/-! ### (bagatelle/bagatellelaw04.Seed).Shape -/
noncomputable def law04.Seed.Shape.cs : List (Nat × Fw.Summ) := [(96, shape.Box.s), (97, law04.ring.s)]
theorem law04.Seed.Shape.cs_ok : SumsOk Try.prog law04.Seed.Shape.cs := .cons shape.Box.ok (.cons law04.ring.ok (.nil))
def law04.Seed.Shape.hs : List (Nat × LHint) := [(1, { mat := [(.cell 2 0 2, 24)], live := [1, 2, 3, 4, 5, 6, 39, 40], ren := [(.cell 2 0 2, 3)] })]
noncomputable def law04.Seed.Shape.G : Ctx := ⟨Try.prog, sumAt law04.Seed.Shape.cs, lookH law04.Seed.Shape.hs⟩
noncomputable def law04.Seed.Shape.g (k0 : Nat) (x : (Int × Int × Int × Int)) : Option (Int × Int × (Nat × (Nat → (Int × Int)))) := evF law04.Seed.Shape.G k0 Try.f79 ((tOne (tG (tCons (tI .i64) (tCons (tI .i64) (tCons (tI .i64) (tOne (tI .i64))))))).enc x) (tG (tCons (tI .i64) (tCons (tI .i64) (tOne (tTL Rii 2 (0, 0)))))).dec
noncomputable def law04.Seed.Shape.f (x : (Int × Int × Int × Int)) : Option (Int × Int × (Nat × (Nat → (Int × Int)))) := law04.Seed.Shape.g (1000000) x
noncomputable def law04.Seed.Shape.s : Fw.Summ := .mk' (tOne (tG (tCons (tI .i64) (tCons (tI .i64) (tCons (tI .i64) (tOne (tI .i64))))))) (tG (tCons (tI .i64) (tCons (tI .i64) (tOne (tTL Rii 2 (0, 0)))))) law04.Seed.Shape.f
theorem law04.Seed.Shape.ok : law04.Seed.Shape.s.Ok Try.prog 79 :=
  summ_ok (hint := lookH law04.Seed.Shape.hs) (fn := Try.f79) (fun x => 1000000) law04.Seed.Shape.cs_ok (by kernel_rfl) (by kernel_rfl) (by kernel_rfl) (by kernel_rfl) (tOne_ok (tG_ok (tCons_ok (tI_ok _) (tCons_ok (tI_ok _) (tCons_ok (tI_ok _) (tOne_ok (tI_ok _))))))) (tG_ok (tCons_ok (tI_ok _) (tCons_ok (tI_ok _) (tOne_ok (tTL_ok Rii_ok _ _))))) (fun _ => rfl)
noncomputable def law04.Seed.Shape.l2 (k0 k1 : Nat) (v1 : Int) (v2 : Int) (v3 : Int) (v4 : Int) (v5 : Nat) (v6 : Nat → List AV) (v7 : Int) (v8 : Int) (v9 : Nat) (v10 : Nat → List AV) (v11 : Int) : Option (Int × Int × (Nat × (Nat → (Int × Int)))) :=
  evLoop (lookH law04.Seed.Shape.hs 1) 4 (ev law04.Seed.Shape.G k0 (codeAt [1, 1, 1, 1, 1, 1, 0, 1, 0, 0] (bodyOf Try.f79)) 1) k1
  ⟨[.top, .ptr 0 0 0, .ptr 1 0 0, .val (.int .i64 v7), .val (.int .i64 v8), .ptr 2 0 0, .lst 2 v9 none v10, .top, .top, .top, .top, .top, .top, .top, .top, .top, .top, .top, .top, .top, .top, .top, .top, .top, .top, .top, .top, .top, .top, .top, .top, .top, .top, .top, .top, .top, .top, .top, .top, .val (.int .i64 v8), .val (.int .i64 v11), .top, .top, .top, .top, .top, .top, .top, .top, .top, .top, .top, .top, .top, .top, .top, .top, .top, .top, .top, .top, .top, .top, .top, .top, .top, .top, .top, .top, .top, .top, .top, .top], [.live ⟨false, 31, 4, 1, fun _ => [.val (.int .i64 v1), .val (.int .i64 v2), .val (.int .i64 v3), .val (.int .i64 v4)], none⟩, .live ⟨false, 27, 3, 1, fun _ => [.val (.int .i64 0), .val (.int .i64 0), .val (.slice none 0 0)], none⟩, .live ⟨false, 27, 3, 1, fun _ => [.val (.int .i64 2), .val (.int .i64 0), .slc 3 0 none none], none⟩, .live ⟨true, 24, 2, v5, v6, none⟩]⟩
  (kBlock 1 (kSeq law04.Seed.Shape.G k0 (codeAt [1, 1, 1, 1, 1, 1, 1] (bodyOf Try.f79)) 0 (kFin law04.Seed.Shape.G Try.f79 (tG (tCons (tI .i64) (tCons (tI .i64) (tOne (tTL Rii 2 (0, 0)))))).dec)))
theorem law04.Seed.Shape.l2_eq (k0 k1 : Nat) (v1 : Int) (v2 : Int) (v3 : Int) (v4 : Int) (v5 : Nat) (v6 : Nat → (Int × Int)) (v7 : Int) (v8 : Int) (v9 : Nat) (v10 : Nat → (Int × Int)) (v11 : Int) : law04.Seed.Shape.l2 k0 (k1 + 1) v1 v2 v3 v4 v5 (fun i => Rii.enc (v6 i)) v7 v8 v9 (fun i => Rii.enc (v10 i)) v11 =
  bif (decide (v11 < v8)) then
    bif (decide (v8 ≠ 0)) then
    bif ((decide (0 ≤ (Int.tmod (IntKind.i64.wrap ((IntKind.i64.wrap (Int.tdiv (IntKind.i64.wrap (v11 * 10)) v8)) + (Go.bits .and .i64 v4 255))) 10))) && (decide ((Int.tmod (IntKind.i64.wrap ((IntKind.i64.wrap (Int.tdiv (IntKind.i64.wrap (v11 * 10)) v8)) + (Go.bits .and .i64 v4 255))) 10) < ((v9 : Nat) : Int)))) then
    bif (decide ((v5 + 1) * 16 ≤ 140737488355328)) then
    law04.Seed.Shape.l2 k0 k1 v1 v2 v3 v4 (v5 + 1) (fun i => renL (lookF [(19, 3)] 4) (if i = v5 then Rii.enc ((IntKind.i64.wrap (Int.tdiv (IntKind.i64.wrap ((v10 (Int.toNat (Int.tmod (IntKind.i64.wrap ((IntKind.i64.wrap (Int.tdiv (IntKind.i64.wrap (v11 * 10)) v8)) + (Go.bits .and .i64 v4 255))) 10))).1 * v7)) 64)), (IntKind.i64.wrap (Int.tdiv (IntKind.i64.wrap ((v10 (Int.toNat (Int.tmod (IntKind.i64.wrap ((IntKind.i64.wrap (Int.tdiv (IntKind.i64.wrap (v11 * 10)) v8)) + (Go.bits .and .i64 v4 255))) 10))).2 * v7)) 64))) else Rii.enc (v6 i))) v7 v8 v9 (fun i => Rii.enc (v10 i)) (IntKind.i64.wrap (v11 + 1))
    else none
    else none
    else none
  else
  (tG (tCons (tI .i64) (tCons (tI .i64) (tOne (tTL Rii 2 (0, 0)))))).dec (.agg [.val (.int .i64 2), .val (.int .i64 0), .lst 2 v5 none (fun i => Rii.enc (v6 i))]) := by kernel_rfl
theorem law04.Seed.Shape.eq (k0 : Nat) (p0_0 : Int) (p0_1 : Int) (p0_2 : Int) (p0_3 : Int) : law04.Seed.Shape.g k0 (p0_0, p0_1, p0_2, p0_3) =
  bif ((Go.bits .and .i64 p0_0 3) == 0) then
    (tG (tCons (tI .i64) (tCons (tI .i64) (tOne (tTL Rii 2 (0, 0)))))).dec (.agg [.val (.int .i64 1), .val (.int .i64 (IntKind.i64.wrap (Int.tdiv (IntKind.i64.wrap ((IntKind.i64.wrap (1 + (Go.bits .and .i64 p0_2 63))) * 4294967296)) 16))), .val (.slice none 0 0)])
  else
  bif ((Go.bits .and .i64 p0_0 3) == 1) then
    (shape.Box.f ((IntKind.i64.wrap (Int.tdiv (IntKind.i64.wrap ((IntKind.i64.wrap (1 + (Go.bits .and .i64 p0_2 63))) * 4294967296)) 16)), (IntKind.i64.wrap (Int.tdiv (IntKind.i64.wrap ((IntKind.i64.wrap (1 + (Go.bits .and .i64 p0_3 31))) * 4294967296)) 16)))).bind fun r1 =>
    (tG (tCons (tI .i64) (tCons (tI .i64) (tOne (tTL Rii 2 (0, 0)))))).dec (.agg [.val (.int .i64 r1.1), .val (.int .i64 r1.2.1), .lst 2 r1.2.2.1 none (fun i => Rii.enc (r1.2.2.2 i))])
  else
  (law04.ring.f ()).bind fun r2 =>
  law04.Seed.Shape.l2 k0 k0 p0_0 p0_1 p0_2 p0_3 0 (fun _ => Rii.enc (0, 0)) (IntKind.i64.wrap (Int.tdiv (IntKind.i64.wrap ((IntKind.i64.wrap (1 + (Go.bits .and .i64 p0_2 63))) * 4294967296)) 16)) (IntKind.i64.wrap (3 + (Int.tmod (Go.bits .and .i64 p0_1 255) 6))) r2.1 (fun i => Rii.enc (r2.2 i)) 0 := by kernel_rfl
/-! ### (bagatelle/bagatellelaw06.Place).Body -/
noncomputable def law06.Place.Body.cs : List (Nat × Fw.Summ) := [(21, vec.Bring.s), (79, law04.Seed.Shape.s)]
theorem law06.Place.Body.cs_ok : SumsOk Try.prog law06.Place.Body.cs := .cons vec.Bring.ok (.cons law04.Seed.Shape.ok (.nil))
def law06.Place.Body.hs : List (Nat × LHint) := []
noncomputable def law06.Place.Body.G : Ctx := ⟨Try.prog, sumAt law06.Place.Body.cs, lookH law06.Place.Body.hs⟩
noncomputable def law06.Place.Body.f (x : (Int × Int × Int × Int × Int × Int × Int)) : Option (Int × Int × Int × Int × Int × Int × Int × Int × Int × Int × (Nat × (Nat → (Int × Int)))) := evF law06.Place.Body.G 0 Try.f55 ((tOne (tG (tCons (tI .i64) (tCons (tI .i64) (tCons (tI .i64) (tCons (tI .i64) (tCons (tI .i64) (tCons (tI .i64) (tOne (tI .i64)))))))))).enc x) (tG (tCons (tI .i64) (tCons (tI .i64) (tCons (tI .i64) (tCons (tI .i64) (tCons (tI .i64) (tCons (tI .i64) (tCons (tI .i64) (tCons (tI .i64) (tCons (tI .i64) (tCons (tI .i64) (tOne (tTL Rii 2 (0, 0)))))))))))))).dec
noncomputable def law06.Place.Body.s : Fw.Summ := .mk' (tOne (tG (tCons (tI .i64) (tCons (tI .i64) (tCons (tI .i64) (tCons (tI .i64) (tCons (tI .i64) (tCons (tI .i64) (tOne (tI .i64)))))))))) (tG (tCons (tI .i64) (tCons (tI .i64) (tCons (tI .i64) (tCons (tI .i64) (tCons (tI .i64) (tCons (tI .i64) (tCons (tI .i64) (tCons (tI .i64) (tCons (tI .i64) (tCons (tI .i64) (tOne (tTL Rii 2 (0, 0)))))))))))))) law06.Place.Body.f
theorem law06.Place.Body.ok : law06.Place.Body.s.Ok Try.prog 55 :=
  summ_ok (hint := lookH law06.Place.Body.hs) (fn := Try.f55) (fun x => 0) law06.Place.Body.cs_ok (by kernel_rfl) (by kernel_rfl) (by kernel_rfl) (by kernel_rfl) (tOne_ok (tG_ok (tCons_ok (tI_ok _) (tCons_ok (tI_ok _) (tCons_ok (tI_ok _) (tCons_ok (tI_ok _) (tCons_ok (tI_ok _) (tCons_ok (tI_ok _) (tOne_ok (tI_ok _)))))))))) (tG_ok (tCons_ok (tI_ok _) (tCons_ok (tI_ok _) (tCons_ok (tI_ok _) (tCons_ok (tI_ok _) (tCons_ok (tI_ok _) (tCons_ok (tI_ok _) (tCons_ok (tI_ok _) (tCons_ok (tI_ok _) (tCons_ok (tI_ok _) (tCons_ok (tI_ok _) (tOne_ok (tTL_ok Rii_ok _ _))))))))))))) (fun _ => rfl)
theorem law06.Place.Body.eq (p0_0 : Int) (p0_1 : Int) (p0_2 : Int) (p0_3 : Int) (p0_4 : Int) (p0_5 : Int) (p0_6 : Int) : law06.Place.Body.f (p0_0, p0_1, p0_2, p0_3, p0_4, p0_5, p0_6) =
  (vec.Bring.f ((p0_4, p0_5), 4294967296000)).bind fun r1 =>
  (law04.Seed.Shape.f (p0_0, p0_1, p0_2, p0_3)).bind fun r2 =>
  (tG (tCons (tI .i64) (tCons (tI .i64) (tCons (tI .i64) (tCons (tI .i64) (tCons (tI .i64) (tCons (tI .i64) (tCons (tI .i64) (tCons (tI .i64) (tCons (tI .i64) (tCons (tI .i64) (tOne (tTL Rii 2 (0, 0)))))))))))))).dec (.agg [.val (.int .i64 0), .val (.int .i64 r1.1), .val (.int .i64 r1.2), .val (.int .i64 0), .val (.int .i64 0), .val (.int .i64 (Go.bits .and .i64 p0_6 4294967295)), .val (.int .i64 0), .val (.int .i64 0), .val (.int .i64 r2.1), .val (.int .i64 r2.2.1), .lst 2 r2.2.2.1 none (fun i => Rii.enc (r2.2.2.2 i))]) := by kernel_rfl
/-! ### (bagatelle/bagatellelaw09.Deed).Body -/
noncomputable def law09.Deed.Body.cs : List (Nat × Fw.Summ) := [(55, law06.Place.Body.s), (21, vec.Bring.s), (22, fix.Bring.s)]
theorem law09.Deed.Body.cs_ok : SumsOk Try.prog law09.Deed.Body.cs := .cons law06.Place.Body.ok (.cons vec.Bring.ok (.cons fix.Bring.ok (.nil)))
def law09.Deed.Body.hs : List (Nat × LHint) := []
noncomputable def law09.Deed.Body.G : Ctx := ⟨Try.prog, sumAt law09.Deed.Body.cs, lookH law09.Deed.Body.hs⟩
noncomputable def law09.Deed.Body.f (x : (Int × Int × Int × Int × Int × Int × Int × Int × Int × Int × Int × Int × Int × Int × Int × Int × Int × Int × Int × Int × Int × Int × Int × Int × Int × Int × Int × Int × Int × (Nat × (Nat → List AV)))) : Option (Int × Int × Int × Int × Int × Int × Int × Int × Int × Int × (Nat × (Nat → (Int × Int)))) := evF law09.Deed.Body.G 0 Try.f19 ((tOne (tG (tCons (tI .i64) (tCons (tI .i64) (tCons (tI .i64) (tCons (tI .i64) (tCons (tI .i64) (tCons (tI .i64) (tCons (tI .i64) (tCons (tI .i64) (tCons (tI .i64) (tCons (tI .i64) (tCons (tI .i64) (tCons (tI .i64) (tCons (tI .i64) (tCons (tI .i64) (tCons (tI .i64) (tCons (tI .i64) (tCons (tI .i64) (tCons (tI .i64) (tCons (tI .i64) (tCons (tI .i64) (tCons (tI .i64) (tCons (tI .i64) (tCons (tI .i64) (tCons (tI .i64) (tCons (tI .i64) (tCons (tI .i64) (tCons (tI .i64) (tCons (tI .i64) (tCons (tI .i64) (tOne (tL 2))))))))))))))))))))))))))))))))).enc x) (tG (tCons (tI .i64) (tCons (tI .i64) (tCons (tI .i64) (tCons (tI .i64) (tCons (tI .i64) (tCons (tI .i64) (tCons (tI .i64) (tCons (tI .i64) (tCons (tI .i64) (tCons (tI .i64) (tOne (tTL Rii 2 (0, 0)))))))))))))).dec
noncomputable def law09.Deed.Body.s : Fw.Summ := .mk' (tOne (tG (tCons (tI .i64) (tCons (tI .i64) (tCons (tI .i64) (tCons (tI .i64) (tCons (tI .i64) (tCons (tI .i64) (tCons (tI .i64) (tCons (tI .i64) (tCons (tI .i64) (tCons (tI .i64) (tCons (tI .i64) (tCons (tI .i64) (tCons (tI .i64) (tCons (tI .i64) (tCons (tI .i64) (tCons (tI .i64) (tCons (tI .i64) (tCons (tI .i64) (tCons (tI .i64) (tCons (tI .i64) (tCons (tI .i64) (tCons (tI .i64) (tCons (tI .i64) (tCons (tI .i64) (tCons (tI .i64) (tCons (tI .i64) (tCons (tI .i64) (tCons (tI .i64) (tCons (tI .i64) (tOne (tL 2))))))))))))))))))))))))))))))))) (tG (tCons (tI .i64) (tCons (tI .i64) (tCons (tI .i64) (tCons (tI .i64) (tCons (tI .i64) (tCons (tI .i64) (tCons (tI .i64) (tCons (tI .i64) (tCons (tI .i64) (tCons (tI .i64) (tOne (tTL Rii 2 (0, 0)))))))))))))) law09.Deed.Body.f
theorem law09.Deed.Body.ok : law09.Deed.Body.s.Ok Try.prog 19 :=
  summ_ok (hint := lookH law09.Deed.Body.hs) (fn := Try.f19) (fun x => 0) law09.Deed.Body.cs_ok (by kernel_rfl) (by kernel_rfl) (by kernel_rfl) (by kernel_rfl) (tOne_ok (tG_ok (tCons_ok (tI_ok _) (tCons_ok (tI_ok _) (tCons_ok (tI_ok _) (tCons_ok (tI_ok _) (tCons_ok (tI_ok _) (tCons_ok (tI_ok _) (tCons_ok (tI_ok _) (tCons_ok (tI_ok _) (tCons_ok (tI_ok _) (tCons_ok (tI_ok _) (tCons_ok (tI_ok _) (tCons_ok (tI_ok _) (tCons_ok (tI_ok _) (tCons_ok (tI_ok _) (tCons_ok (tI_ok _) (tCons_ok (tI_ok _) (tCons_ok (tI_ok _) (tCons_ok (tI_ok _) (tCons_ok (tI_ok _) (tCons_ok (tI_ok _) (tCons_ok (tI_ok _) (tCons_ok (tI_ok _) (tCons_ok (tI_ok _) (tCons_ok (tI_ok _) (tCons_ok (tI_ok _) (tCons_ok (tI_ok _) (tCons_ok (tI_ok _) (tCons_ok (tI_ok _) (tCons_ok (tI_ok _) (tOne_ok (tL_ok _))))))))))))))))))))))))))))))))) (tG_ok (tCons_ok (tI_ok _) (tCons_ok (tI_ok _) (tCons_ok (tI_ok _) (tCons_ok (tI_ok _) (tCons_ok (tI_ok _) (tCons_ok (tI_ok _) (tCons_ok (tI_ok _) (tCons_ok (tI_ok _) (tCons_ok (tI_ok _) (tCons_ok (tI_ok _) (tOne_ok (tTL_ok Rii_ok _ _))))))))))))) (fun _ => rfl)
theorem law09.Deed.Body.eq (p0_0 : Int) (p0_1 : Int) (p0_2 : Int) (p0_3 : Int) (p0_4 : Int) (p0_5 : Int) (p0_6 : Int) (p0_7 : Int) (p0_8 : Int) (p0_9 : Int) (p0_10 : Int) (p0_11 : Int) (p0_12 : Int) (p0_13 : Int) (p0_14 : Int) (p0_15 : Int) (p0_16 : Int) (p0_17 : Int) (p0_18 : Int) (p0_19 : Int) (p0_20 : Int) (p0_21 : Int) (p0_22 : Int) (p0_23 : Int) (p0_24 : Int) (p0_25 : Int) (p0_26 : Int) (p0_27 : Int) (p0_28 : Int) (p0_29_n : Nat) (p0_29_g : Nat → (Int × Int)) : law09.Deed.Body.f (p0_0, p0_1, p0_2, p0_3, p0_4, p0_5, p0_6, p0_7, p0_8, p0_9, p0_10, p0_11, p0_12, p0_13, p0_14, p0_15, p0_16, p0_17, p0_18, p0_19, p0_20, p0_21, p0_22, p0_23, p0_24, p0_25, p0_26, p0_27, p0_28, (p0_29_n, (fun i => Rii.enc (p0_29_g i)))) =
  bif ((Go.bits .and .i64 p0_0 15) == 15) then
    (tG (tCons (tI .i64) (tCons (tI .i64) (tCons (tI .i64) (tCons (tI .i64) (tCons (tI .i64) (tCons (tI .i64) (tCons (tI .i64) (tCons (tI .i64) (tCons (tI .i64) (tCons (tI .i64) (tOne (tTL Rii 2 (0, 0)))))))))))))).dec (.agg [.val (.int .i64 p0_19), .val (.int .i64 p0_20), .val (.int .i64 p0_21), .val (.int .i64 p0_22), .val (.int .i64 p0_23), .val (.int .i64 p0_24), .val (.int .i64 p0_25), .val (.int .i64 p0_26), .val (.int .i64 p0_27), .val (.int .i64 p0_28), .lst 2 p0_29_n none (fun i => Rii.enc (p0_29_g i))])
  else
  (law06.Place.Body.f (p0_1, p0_2, p0_3, p0_4, p0_5, p0_6, p0_7)).bind fun r1 =>
  bif ((Go.bits .and .i64 p0_11 3) == 0) then
    (tG (tCons (tI .i64) (tCons (tI .i64) (tCons (tI .i64) (tCons (tI .i64) (tCons (tI .i64) (tCons (tI .i64) (tCons (tI .i64) (tCons (tI .i64) (tCons (tI .i64) (tCons (tI .i64) (tOne (tTL Rii 2 (0, 0)))))))))))))).dec (.agg [.val (.int .i64 r1.1), .val (.int .i64 r1.2.1), .val (.int .i64 r1.2.2.1), .val (.int .i64 r1.2.2.2.1), .val (.int .i64 r1.2.2.2.2.1), .val (.int .i64 r1.2.2.2.2.2.1), .val (.int .i64 r1.2.2.2.2.2.2.1), .val (.int .i64 r1.2.2.2.2.2.2.2.1), .val (.int .i64 r1.2.2.2.2.2.2.2.2.1), .val (.int .i64 r1.2.2.2.2.2.2.2.2.2.1), .lst 2 r1.2.2.2.2.2.2.2.2.2.2.1 none (fun i => Rii.enc (r1.2.2.2.2.2.2.2.2.2.2.2 i))])
  else
  (vec.Bring.f ((p0_8, p0_9), 85899345920)).bind fun r2 =>
  (fix.Bring.f (p0_10, (-85899345920), 85899345920)).bind fun r3 =>
  (tG (tCons (tI .i64) (tCons (tI .i64) (tCons (tI .i64) (tCons (tI .i64) (tCons (tI .i64) (tCons (tI .i64) (tCons (tI .i64) (tCons (tI .i64) (tCons (tI .i64) (tCons (tI .i64) (tOne (tTL Rii 2 (0, 0)))))))))))))).dec (.agg [.val (.int .i64 r1.1), .val (.int .i64 r1.2.1), .val (.int .i64 r1.2.2.1), .val (.int .i64 r2.1), .val (.int .i64 r2.2), .val (.int .i64 r1.2.2.2.2.2.1), .val (.int .i64 r3), .val (.int .i64 (IntKind.i64.wrap (1 + (Go.bits .and .i64 p0_11 34359738367)))), .val (.int .i64 r1.2.2.2.2.2.2.2.2.1), .val (.int .i64 r1.2.2.2.2.2.2.2.2.2.1), .lst 2 r1.2.2.2.2.2.2.2.2.2.2.1 none (fun i => Rii.enc (r1.2.2.2.2.2.2.2.2.2.2.2 i))]) := by kernel_rfl
/-! ### (bagatelle/bagatellelaw09.Deed).Joint -/
noncomputable def law09.Deed.Joint.cs : List (Nat × Fw.Summ) := [(21, vec.Bring.s)]
theorem law09.Deed.Joint.cs_ok : SumsOk Try.prog law09.Deed.Joint.cs := .cons vec.Bring.ok (.nil)
def law09.Deed.Joint.hs : List (Nat × LHint) := []
noncomputable def law09.Deed.Joint.G : Ctx := ⟨Try.prog, sumAt law09.Deed.Joint.cs, lookH law09.Deed.Joint.hs⟩
noncomputable def law09.Deed.Joint.f (x : (Int × Int × Int × Int × Int × Int × Int × Int × Int × Int × Int × Int × Int × Int × Int × Int × Int × Int × Int × Int × Int × Int × Int × Int × Int × Int × Int × Int × Int × (Nat × (Nat → List AV)))) : Option (Int × Int × Int × Int × Int × Int × Int × Int) := evF law09.Deed.Joint.G 0 Try.f20 ((tOne (tG (tCons (tI .i64) (tCons (tI .i64) (tCons (tI .i64) (tCons (tI .i64) (tCons (tI .i64) (tCons (tI .i64) (tCons (tI .i64) (tCons (tI .i64) (tCons (tI .i64) (tCons (tI .i64) (tCons (tI .i64) (tCons (tI .i64) (tCons (tI .i64) (tCons (tI .i64) (tCons (tI .i64) (tCons (tI .i64) (tCons (tI .i64) (tCons (tI .i64) (tCons (tI .i64) (tCons (tI .i64) (tCons (tI .i64) (tCons (tI .i64) (tCons (tI .i64) (tCons (tI .i64) (tCons (tI .i64) (tCons (tI .i64) (tCons (tI .i64) (tCons (tI .i64) (tCons (tI .i64) (tOne (tL 2))))))))))))))))))))))))))))))))).enc x) (tG (tCons (tI .i64) (tCons (tI .i64) (tCons (tI .i64) (tCons (tI .i64) (tCons (tI .i64) (tCons (tI .i64) (tCons (tI .i64) (tOne (tI .i64)))))))))).dec
noncomputable def law09.Deed.Joint.s : Fw.Summ := .mk' (tOne (tG (tCons (tI .i64) (tCons (tI .i64) (tCons (tI .i64) (tCons (tI .i64) (tCons (tI .i64) (tCons (tI .i64) (tCons (tI .i64) (tCons (tI .i64) (tCons (tI .i64) (tCons (tI .i64) (tCons (tI .i64) (tCons (tI .i64) (tCons (tI .i64) (tCons (tI .i64) (tCons (tI .i64) (tCons (tI .i64) (tCons (tI .i64) (tCons (tI .i64) (tCons (tI .i64) (tCons (tI .i64) (tCons (tI .i64) (tCons (tI .i64) (tCons (tI .i64) (tCons (tI .i64) (tCons (tI .i64) (tCons (tI .i64) (tCons (tI .i64) (tCons (tI .i64) (tCons (tI .i64) (tOne (tL 2))))))))))))))))))))))))))))))))) (tG (tCons (tI .i64) (tCons (tI .i64) (tCons (tI .i64) (tCons (tI .i64) (tCons (tI .i64) (tCons (tI .i64) (tCons (tI .i64) (tOne (tI .i64)))))))))) law09.Deed.Joint.f
theorem law09.Deed.Joint.ok : law09.Deed.Joint.s.Ok Try.prog 20 :=
  summ_ok (hint := lookH law09.Deed.Joint.hs) (fn := Try.f20) (fun x => 0) law09.Deed.Joint.cs_ok (by kernel_rfl) (by kernel_rfl) (by kernel_rfl) (by kernel_rfl) (tOne_ok (tG_ok (tCons_ok (tI_ok _) (tCons_ok (tI_ok _) (tCons_ok (tI_ok _) (tCons_ok (tI_ok _) (tCons_ok (tI_ok _) (tCons_ok (tI_ok _) (tCons_ok (tI_ok _) (tCons_ok (tI_ok _) (tCons_ok (tI_ok _) (tCons_ok (tI_ok _) (tCons_ok (tI_ok _) (tCons_ok (tI_ok _) (tCons_ok (tI_ok _) (tCons_ok (tI_ok _) (tCons_ok (tI_ok _) (tCons_ok (tI_ok _) (tCons_ok (tI_ok _) (tCons_ok (tI_ok _) (tCons_ok (tI_ok _) (tCons_ok (tI_ok _) (tCons_ok (tI_ok _) (tCons_ok (tI_ok _) (tCons_ok (tI_ok _) (tCons_ok (tI_ok _) (tCons_ok (tI_ok _) (tCons_ok (tI_ok _) (tCons_ok (tI_ok _) (tCons_ok (tI_ok _) (tCons_ok (tI_ok _) (tOne_ok (tL_ok _))))))))))))))))))))))))))))))))) (tG_ok (tCons_ok (tI_ok _) (tCons_ok (tI_ok _) (tCons_ok (tI_ok _) (tCons_ok (tI_ok _) (tCons_ok (tI_ok _) (tCons_ok (tI_ok _) (tCons_ok (tI_ok _) (tOne_ok (tI_ok _)))))))))) (fun _ => rfl)
theorem law09.Deed.Joint.eq (p0_0 : Int) (p0_1 : Int) (p0_2 : Int) (p0_3 : Int) (p0_4 : Int) (p0_5 : Int) (p0_6 : Int) (p0_7 : Int) (p0_8 : Int) (p0_9 : Int) (p0_10 : Int) (p0_11 : Int) (p0_12 : Int) (p0_13 : Int) (p0_14 : Int) (p0_15 : Int) (p0_16 : Int) (p0_17 : Int) (p0_18 : Int) (p0_19 : Int) (p0_20 : Int) (p0_21 : Int) (p0_22 : Int) (p0_23 : Int) (p0_24 : Int) (p0_25 : Int) (p0_26 : Int) (p0_27 : Int) (p0_28 : Int) (p0_29_n : Nat) (p0_29_g : Nat → (Int × Int)) : law09.Deed.Joint.f (p0_0, p0_1, p0_2, p0_3, p0_4, p0_5, p0_6, p0_7, p0_8, p0_9, p0_10, p0_11, p0_12, p0_13, p0_14, p0_15, p0_16, p0_17, p0_18, p0_19, p0_20, p0_21, p0_22, p0_23, p0_24, p0_25, p0_26, p0_27, p0_28, (p0_29_n, (fun i => Rii.enc (p0_29_g i)))) =
  (vec.Bring.f ((p0_14, p0_15), 17179869184)).bind fun r1 =>
  (vec.Bring.f ((p0_16, p0_17), 17179869184)).bind fun r2 =>
  some (0, (Go.bits .and .i64 p0_12 15), (Go.bits .and .i64 p0_13 15), r1.1, r1.2, r2.1, r2.2, p0_18) := by kernel_rfl
end Go.Proofs.Ytghhecijpghfhaa.E
