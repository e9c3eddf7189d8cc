import Derived.Test.YtghhecijpghfhaaEc
import Derived.Test.YtghhecijpghfhaaProg
namespace Go.Proofs.Ytghhecijpghfhaa.E
open Go Go.Proofs Go.Proofs.Ytghhecijpghfhaa.Fw Go.RowKit
set_option maxRecDepth 100000
set_option linter.unusedVariables false
/-! ### bagatelle/bagatellelaw10.right -/
noncomputable def law10.right.cs : List (Nat × Fw.Summ) := [(24, world.RightBody.s), (30, law10.bare.s), (26, world.RightJoint.s)]
theorem law10.right.cs_ok : SumsOk Try.prog law10.right.cs := .cons world.RightBody.ok (.cons law10.bare.ok (.cons world.RightJoint.ok (.nil)))
def law10.right.hs : List (Nat × LHint) := []
noncomputable def law10.right.G : Ctx := ⟨Try.prog, sumAt law10.right.cs, lookH law10.right.hs⟩
noncomputable def law10.right.f (x : (Int × Int × Int × Int × Int × Int × Int × Int × Int × Int × Int × Int × Int × Int × (Nat × (Nat → List AV)))) : Option Bool := evF law10.right.G 0 Try.f9 ((tOne (tG (tCons (tI .i64) (tCons (tI .i64) (tCons (tI .i64) (tCons (tI .i64) (tCons (tI .i64) (tCons (tI .i64) (tCons (tI .i64) (tCons (tI .i64) (tCons (tI .i64) (tCons (tI .i64) (tCons (tI .i64) (tCons (tI .i64) (tCons (tI .i64) (tCons (tI .i64) (tOne (tL 2)))))))))))))))))).enc x) tB.dec
noncomputable def law10.right.s : Fw.Summ := .mk' (tOne (tG (tCons (tI .i64) (tCons (tI .i64) (tCons (tI .i64) (tCons (tI .i64) (tCons (tI .i64) (tCons (tI .i64) (tCons (tI .i64) (tCons (tI .i64) (tCons (tI .i64) (tCons (tI .i64) (tCons (tI .i64) (tCons (tI .i64) (tCons (tI .i64) (tCons (tI .i64) (tOne (tL 2)))))))))))))))))) tB law10.right.f
theorem law10.right.ok : law10.right.s.Ok Try.prog 9 :=
  summ_ok (hint := lookH law10.right.hs) (fn := Try.f9) (fun x => 0) law10.right.cs_ok (by kernel_rfl) (by kernel_rfl) (by kernel_rfl) (by kernel_rfl) (tOne_ok (tG_ok (tCons_ok (tI_ok _) (tCons_ok (tI_ok _) (tCons_ok (tI_ok _) (tCons_ok (tI_ok _) (tCons_ok (tI_ok _) (tCons_ok (tI_ok _) (tCons_ok (tI_ok _) (tCons_ok (tI_ok _) (tCons_ok (tI_ok _) (tCons_ok (tI_ok _) (tCons_ok (tI_ok _) (tCons_ok (tI_ok _) (tCons_ok (tI_ok _) (tCons_ok (tI_ok _) (tOne_ok (tL_ok _)))))))))))))))))) tB_ok (fun _ => rfl)
noncomputable def law10.right.b0 (k0 : Nat) (p0_0 : Int) (p0_1 : Int) (p0_2 : Int) (p0_3 : Int) (p0_4 : Int) (p0_5 : Int) (p0_6 : Int) (p0_7 : Int) (p0_8 : Int) (p0_9 : Int) (p0_10 : Int) (p0_11 : Int) (p0_12 : Int) (p0_13 : Int) (p0_14_n : Nat) (p0_14_g : Nat → (Int × Int)) : Option Bool := ev law10.right.G k0 (codeAt [1, 1, 0, 1, 0, 1, 0] (bodyOf Try.f9)) 0 ⟨[.agg [.val (.int .i64 p0_0), .val (.int .i64 p0_1), .val (.int .i64 p0_2), .val (.int .i64 p0_3), .val (.int .i64 p0_4), .val (.int .i64 p0_5), .val (.int .i64 p0_6), .val (.int .i64 p0_7), .val (.int .i64 p0_8), .val (.int .i64 p0_9), .val (.int .i64 p0_10), .val (.int .i64 p0_11), .val (.int .i64 p0_12), .val (.int .i64 p0_13), .lst 2 p0_14_n none (fun i => Rii.enc (p0_14_g i))], .ptr 0 0 0, .val (.bool false), .ptr 1 0 0, .tup [], .agg [.val (.int .i64 0), .val (.int .i64 0)], .ptr 0 0 0, .val (.int .i64 p0_0), .val (.bool (p0_0 == 1)), .val (.bool (p0_0 == 1)), .tup [], .tup [], .tup [], .tup [], .tup [], .tup [], .tup [], .tup [], .tup [], .tup [], .tup [], .tup [], .tup [], .tup [], .tup [], .tup [], .tup [], .tup [], .tup [], .tup [], .tup [], .tup [], .tup [], .tup [], .tup [], .tup [], .tup [], .tup [], .tup [], .tup [], .tup [], .tup [], .tup [], .tup [], .tup [], .tup [], .tup [], .tup [], .tup [], .tup [], .tup [], .tup [], .tup [], .tup [], .tup [], .tup [], .tup [], .tup [], .tup [], .tup [], .tup [], .tup [], .tup [], .tup [], .tup [], .tup [], .tup [], .tup [], .tup [], .tup [], .tup [], .tup [], .tup [], .tup [], .tup [], .tup [], .tup [], .tup [], .tup [], .tup [], .tup [], .tup [], .tup [], .tup [], .tup [], .tup [], .tup [], .tup [], .tup [], .tup [], .tup [], .tup [], .tup [], .tup [], .tup [], .tup [], .tup [], .tup [], .tup [], .tup [], .tup [], .tup [], .tup [], .tup [], .tup [], .tup [], .tup [], .tup [], .tup [], .tup [], .tup [], .tup [], .tup [], .tup [], .tup [], .tup [], .tup [], .tup [], .tup [], .tup [], .tup [], .tup [], .tup [], .tup [], .tup [], .tup [], .tup [], .tup [], .tup [], .tup [], .tup [], .tup [], .tup [], .tup [], .tup [], .tup [], .tup [], .tup [], .tup [], .tup [], .tup [], .tup [], .tup [], .tup [], .tup [], .tup [], .tup [], .tup [], .tup [], .tup [], .tup [], .tup [], .tup [], .tup [], .tup [], .tup [], .tup [], .tup [], .tup [], .tup [], .tup [], .tup [], .tup [], .tup [], .tup [], .tup [], .tup [], .tup [], .tup [], .tup [], .tup [], .tup [], .tup [], .tup [], .tup [], .tup [], .tup [], .tup [], .tup [], .tup [], .tup [], .tup [], .tup [], .tup [], .tup [], .tup [], .tup [], .tup [], .tup [], .tup [], .tup [], .tup [], .tup [], .tup [], .tup [], .tup [], .tup [], .tup [], .tup [], .tup [], .tup [], .tup [], .tup [], .tup [], .tup [], .tup [], .tup [], .tup [], .tup [], .tup [], .tup [], .tup [], .tup [], .tup [], .tup [], .tup [], .tup [], .tup [], .tup [], .tup [], .tup [], .tup [], .tup [], .tup []], [.live ⟨false, 29, 15, 1, fun _ => [.val (.int .i64 p0_0), .val (.int .i64 p0_1), .val (.int .i64 p0_2), .val (.int .i64 p0_3), .val (.int .i64 p0_4), .val (.int .i64 p0_5), .val (.int .i64 p0_6), .val (.int .i64 p0_7), .val (.int .i64 p0_8), .val (.int .i64 p0_9), .val (.int .i64 p0_10), .val (.int .i64 p0_11), .val (.int .i64 p0_12), .val (.int .i64 p0_13), .lst 2 p0_14_n none (fun i => Rii.enc (p0_14_g i))], none⟩, .live ⟨false, 24, 2, 1, fun _ => [.val (.int .i64 0), .val (.int .i64 0)], none⟩]⟩ (kBlock 0 (kSeq law10.right.G k0 (codeAt [1, 1, 1] (bodyOf Try.f9)) 0 (kFin law10.right.G Try.f9 tB.dec)))
theorem law10.right.b0_eq (k0 : Nat) (p0_0 : Int) (p0_1 : Int) (p0_2 : Int) (p0_3 : Int) (p0_4 : Int) (p0_5 : Int) (p0_6 : Int) (p0_7 : Int) (p0_8 : Int) (p0_9 : Int) (p0_10 : Int) (p0_11 : Int) (p0_12 : Int) (p0_13 : Int) (p0_14_n : Nat) (p0_14_g : Nat → (Int × Int)) : law10.right.b0 k0 p0_0 p0_1 p0_2 p0_3 p0_4 p0_5 p0_6 p0_7 p0_8 p0_9 p0_10 p0_11 p0_12 p0_13 p0_14_n p0_14_g =
  bif (p0_1 == 0) then
    bif (p0_2 == 0) then
      bif (p0_3 == 0) then
        bif (p0_11 == 0) then
          (world.RightBody.f (0, p0_4, p0_5, p0_6, p0_7, p0_8, p0_9, p0_10, p0_12, p0_13, (p0_14_n, (fun i => Rii.enc (p0_14_g i))))).bind fun r1 =>
          some r1
        else
        some false
      else
      some false
    else
    some false
  else
  some false := by kernel_rfl
noncomputable def law10.right.b1 (k0 : Nat) (p0_0 : Int) (p0_1 : Int) (p0_2 : Int) (p0_3 : Int) (p0_4 : Int) (p0_5 : Int) (p0_6 : Int) (p0_7 : Int) (p0_8 : Int) (p0_9 : Int) (p0_10 : Int) (p0_11 : Int) (p0_12 : Int) (p0_13 : Int) (p0_14_n : Nat) (p0_14_g : Nat → (Int × Int)) : Option Bool := ev law10.right.G k0 (codeAt [1, 1, 0, 1, 0, 1, 1, 1, 0] (bodyOf Try.f9)) 0 ⟨[.agg [.val (.int .i64 p0_0), .val (.int .i64 p0_1), .val (.int .i64 p0_2), .val (.int .i64 p0_3), .val (.int .i64 p0_4), .val (.int .i64 p0_5), .val (.int .i64 p0_6), .val (.int .i64 p0_7), .val (.int .i64 p0_8), .val (.int .i64 p0_9), .val (.int .i64 p0_10), .val (.int .i64 p0_11), .val (.int .i64 p0_12), .val (.int .i64 p0_13), .lst 2 p0_14_n none (fun i => Rii.enc (p0_14_g i))], .ptr 0 0 0, .val (.bool false), .ptr 1 0 0, .tup [], .agg [.val (.int .i64 0), .val (.int .i64 0)], .ptr 0 0 0, .val (.int .i64 p0_0), .val (.bool (p0_0 == 1)), .val (.bool (p0_0 == 1)), .tup [], .tup [], .tup [], .tup [], .tup [], .tup [], .tup [], .tup [], .tup [], .tup [], .tup [], .tup [], .tup [], .tup [], .tup [], .tup [], .tup [], .tup [], .tup [], .tup [], .tup [], .tup [], .tup [], .tup [], .tup [], .tup [], .tup [], .tup [], .tup [], .tup [], .tup [], .tup [], .tup [], .tup [], .tup [], .val (.bool (p0_0 == 2)), .val (.bool (p0_0 == 2)), .tup [], .tup [], .tup [], .tup [], .tup [], .tup [], .tup [], .tup [], .tup [], .tup [], .tup [], .tup [], .tup [], .tup [], .tup [], .tup [], .tup [], .tup [], .tup [], .tup [], .tup [], .tup [], .tup [], .tup [], .tup [], .tup [], .tup [], .tup [], .tup [], .tup [], .tup [], .tup [], .tup [], .tup [], .tup [], .tup [], .tup [], .tup [], .tup [], .tup [], .tup [], .tup [], .tup [], .tup [], .tup [], .tup [], .tup [], .tup [], .tup [], .tup [], .tup [], .tup [], .tup [], .tup [], .tup [], .tup [], .tup [], .tup [], .tup [], .tup [], .tup [], .tup [], .tup [], .tup [], .tup [], .tup [], .tup [], .tup [], .tup [], .tup [], .tup [], .tup [], .tup [], .tup [], .tup [], .tup [], .tup [], .tup [], .tup [], .tup [], .tup [], .tup [], .tup [], .tup [], .tup [], .tup [], .tup [], .tup [], .tup [], .tup [], .tup [], .tup [], .tup [], .tup [], .tup [], .tup [], .tup [], .tup [], .tup [], .tup [], .tup [], .tup [], .tup [], .tup [], .tup [], .tup [], .tup [], .tup [], .tup [], .tup [], .tup [], .tup [], .tup [], .tup [], .tup [], .tup [], .tup [], .tup [], .tup [], .tup [], .tup [], .tup [], .tup [], .tup [], .tup [], .tup [], .tup [], .tup [], .tup [], .tup [], .tup [], .tup [], .tup [], .tup [], .tup [], .tup [], .tup [], .tup [], .tup [], .tup [], .tup [], .tup [], .tup [], .tup [], .tup [], .tup [], .tup [], .tup [], .tup [], .tup [], .tup [], .tup [], .tup [], .tup [], .tup [], .tup [], .tup [], .tup [], .tup [], .tup [], .tup [], .tup [], .tup [], .tup [], .tup [], .tup [], .tup [], .tup [], .tup [], .tup [], .tup [], .tup [], .tup [], .tup [], .tup [], .tup [], .tup []], [.live ⟨false, 29, 15, 1, fun _ => [.val (.int .i64 p0_0), .val (.int .i64 p0_1), .val (.int .i64 p0_2), .val (.int .i64 p0_3), .val (.int .i64 p0_4), .val (.int .i64 p0_5), .val (.int .i64 p0_6), .val (.int .i64 p0_7), .val (.int .i64 p0_8), .val (.int .i64 p0_9), .val (.int .i64 p0_10), .val (.int .i64 p0_11), .val (.int .i64 p0_12), .val (.int .i64 p0_13), .lst 2 p0_14_n none (fun i => Rii.enc (p0_14_g i))], none⟩, .live ⟨false, 24, 2, 1, fun _ => [.val (.int .i64 0), .val (.int .i64 0)], none⟩]⟩ (kBlock 0 (kSeq law10.right.G k0 (codeAt [1, 1, 1] (bodyOf Try.f9)) 0 (kFin law10.right.G Try.f9 tB.dec)))
theorem law10.right.b1_eq (k0 : Nat) (p0_0 : Int) (p0_1 : Int) (p0_2 : Int) (p0_3 : Int) (p0_4 : Int) (p0_5 : Int) (p0_6 : Int) (p0_7 : Int) (p0_8 : Int) (p0_9 : Int) (p0_10 : Int) (p0_11 : Int) (p0_12 : Int) (p0_13 : Int) (p0_14_n : Nat) (p0_14_g : Nat → (Int × Int)) : law10.right.b1 k0 p0_0 p0_1 p0_2 p0_3 p0_4 p0_5 p0_6 p0_7 p0_8 p0_9 p0_10 p0_11 p0_12 p0_13 p0_14_n p0_14_g =
  (law10.bare.f (p0_0, p0_1, p0_2, p0_3, p0_4, p0_5, p0_6, p0_7, p0_8, p0_9, p0_10, p0_11, p0_12, p0_13, (p0_14_n, (fun i => Rii.enc (p0_14_g i))))).bind fun r2 =>
  bif r2 then
    bif (decide (p0_1 > 0)) then
      bif (p0_2 == 0) then
        bif (p0_3 == 0) then
          bif ((p0_4 == 0) && ((p0_5 == 0) && true)) then
            bif ((p0_6 == 0) && ((p0_7 == 0) && true)) then
              bif (p0_9 == 0) then
                some (p0_11 == 0)
              else
              some false
            else
            some false
          else
          some false
        else
        some false
      else
      some false
    else
    some false
  else
  some false := by kernel_rfl
noncomputable def law10.right.b2 (k0 : Nat) (p0_0 : Int) (p0_1 : Int) (p0_2 : Int) (p0_3 : Int) (p0_4 : Int) (p0_5 : Int) (p0_6 : Int) (p0_7 : Int) (p0_8 : Int) (p0_9 : Int) (p0_10 : Int) (p0_11 : Int) (p0_12 : Int) (p0_13 : Int) (p0_14_n : Nat) (p0_14_g : Nat → (Int × Int)) : Option Bool := ev law10.right.G k0 (codeAt [1, 1, 0, 1, 0, 1, 1, 1, 1, 1, 0] (bodyOf Try.f9)) 0 ⟨[.agg [.val (.int .i64 p0_0), .val (.int .i64 p0_1), .val (.int .i64 p0_2), .val (.int .i64 p0_3), .val (.int .i64 p0_4), .val (.int .i64 p0_5), .val (.int .i64 p0_6), .val (.int .i64 p0_7), .val (.int .i64 p0_8), .val (.int .i64 p0_9), .val (.int .i64 p0_10), .val (.int .i64 p0_11), .val (.int .i64 p0_12), .val (.int .i64 p0_13), .lst 2 p0_14_n none (fun i => Rii.enc (p0_14_g i))], .ptr 0 0 0, .val (.bool false), .ptr 1 0 0, .tup [], .agg [.val (.int .i64 0), .val (.int .i64 0)], .ptr 0 0 0, .val (.int .i64 p0_0), .val (.bool (p0_0 == 1)), .val (.bool (p0_0 == 1)), .tup [], .tup [], .tup [], .tup [], .tup [], .tup [], .tup [], .tup [], .tup [], .tup [], .tup [], .tup [], .tup [], .tup [], .tup [], .tup [], .tup [], .tup [], .tup [], .tup [], .tup [], .tup [], .tup [], .tup [], .tup [], .tup [], .tup [], .tup [], .tup [], .tup [], .tup [], .tup [], .tup [], .tup [], .tup [], .val (.bool (p0_0 == 2)), .val (.bool (p0_0 == 2)), .tup [], .tup [], .tup [], .tup [], .tup [], .tup [], .tup [], .tup [], .tup [], .tup [], .tup [], .tup [], .tup [], .tup [], .tup [], .tup [], .tup [], .tup [], .tup [], .tup [], .tup [], .tup [], .tup [], .tup [], .tup [], .tup [], .tup [], .tup [], .tup [], .tup [], .tup [], .tup [], .tup [], .tup [], .tup [], .tup [], .tup [], .tup [], .tup [], .tup [], .val (.bool (p0_0 == 3)), .val (.bool (p0_0 == 3)), .tup [], .tup [], .tup [], .tup [], .tup [], .tup [], .tup [], .tup [], .tup [], .tup [], .tup [], .tup [], .tup [], .tup [], .tup [], .tup [], .tup [], .tup [], .tup [], .tup [], .tup [], .tup [], .tup [], .tup [], .tup [], .tup [], .tup [], .tup [], .tup [], .tup [], .tup [], .tup [], .tup [], .tup [], .tup [], .tup [], .tup [], .tup [], .tup [], .tup [], .tup [], .tup [], .tup [], .tup [], .tup [], .tup [], .tup [], .tup [], .tup [], .tup [], .tup [], .tup [], .tup [], .tup [], .tup [], .tup [], .tup [], .tup [], .tup [], .tup [], .tup [], .tup [], .tup [], .tup [], .tup [], .tup [], .tup [], .tup [], .tup [], .tup [], .tup [], .tup [], .tup [], .tup [], .tup [], .tup [], .tup [], .tup [], .tup [], .tup [], .tup [], .tup [], .tup [], .tup [], .tup [], .tup [], .tup [], .tup [], .tup [], .tup [], .tup [], .tup [], .tup [], .tup [], .tup [], .tup [], .tup [], .tup [], .tup [], .tup [], .tup [], .tup [], .tup [], .tup [], .tup [], .tup [], .tup [], .tup [], .tup [], .tup [], .tup [], .tup [], .tup [], .tup [], .tup [], .tup [], .tup [], .tup [], .tup [], .tup [], .tup [], .tup [], .tup [], .tup [], .tup [], .tup [], .tup [], .tup [], .tup [], .tup [], .tup [], .tup [], .tup [], .tup [], .tup []], [.live ⟨false, 29, 15, 1, fun _ => [.val (.int .i64 p0_0), .val (.int .i64 p0_1), .val (.int .i64 p0_2), .val (.int .i64 p0_3), .val (.int .i64 p0_4), .val (.int .i64 p0_5), .val (.int .i64 p0_6), .val (.int .i64 p0_7), .val (.int .i64 p0_8), .val (.int .i64 p0_9), .val (.int .i64 p0_10), .val (.int .i64 p0_11), .val (.int .i64 p0_12), .val (.int .i64 p0_13), .lst 2 p0_14_n none (fun i => Rii.enc (p0_14_g i))], none⟩, .live ⟨false, 24, 2, 1, fun _ => [.val (.int .i64 0), .val (.int .i64 0)], none⟩]⟩ (kBlock 0 (kSeq law10.right.G k0 (codeAt [1, 1, 1] (bodyOf Try.f9)) 0 (kFin law10.right.G Try.f9 tB.dec)))
theorem law10.right.b2_eq (k0 : Nat) (p0_0 : Int) (p0_1 : Int) (p0_2 : Int) (p0_3 : Int) (p0_4 : Int) (p0_5 : Int) (p0_6 : Int) (p0_7 : Int) (p0_8 : Int) (p0_9 : Int) (p0_10 : Int) (p0_11 : Int) (p0_12 : Int) (p0_13 : Int) (p0_14_n : Nat) (p0_14_g : Nat → (Int × Int)) : law10.right.b2 k0 p0_0 p0_1 p0_2 p0_3 p0_4 p0_5 p0_6 p0_7 p0_8 p0_9 p0_10 p0_11 p0_12 p0_13 p0_14_n p0_14_g =
  (law10.bare.f (p0_0, p0_1, p0_2, p0_3, p0_4, p0_5, p0_6, p0_7, p0_8, p0_9, p0_10, p0_11, p0_12, p0_13, (p0_14_n, (fun i => Rii.enc (p0_14_g i))))).bind fun r3 =>
  bif r3 then
    bif (p0_1 == 0) then
      bif (p0_9 == 0) then
        (world.RightJoint.f (0, p0_2, p0_3, p0_4, p0_5, p0_6, p0_7, p0_11)).bind fun r4 =>
        some r4
      else
      some false
    else
    some false
  else
  some false := by kernel_rfl
noncomputable def law10.right.b3 (k0 : Nat) (p0_0 : Int) (p0_1 : Int) (p0_2 : Int) (p0_3 : Int) (p0_4 : Int) (p0_5 : Int) (p0_6 : Int) (p0_7 : Int) (p0_8 : Int) (p0_9 : Int) (p0_10 : Int) (p0_11 : Int) (p0_12 : Int) (p0_13 : Int) (p0_14_n : Nat) (p0_14_g : Nat → (Int × Int)) : Option Bool := ev law10.right.G k0 (codeAt [1, 1, 0, 1, 0, 1, 1, 1, 1, 1, 1, 1, 0] (bodyOf Try.f9)) 0 ⟨[.agg [.val (.int .i64 p0_0), .val (.int .i64 p0_1), .val (.int .i64 p0_2), .val (.int .i64 p0_3), .val (.int .i64 p0_4), .val (.int .i64 p0_5), .val (.int .i64 p0_6), .val (.int .i64 p0_7), .val (.int .i64 p0_8), .val (.int .i64 p0_9), .val (.int .i64 p0_10), .val (.int .i64 p0_11), .val (.int .i64 p0_12), .val (.int .i64 p0_13), .lst 2 p0_14_n none (fun i => Rii.enc (p0_14_g i))], .ptr 0 0 0, .val (.bool false), .ptr 1 0 0, .tup [], .agg [.val (.int .i64 0), .val (.int .i64 0)], .ptr 0 0 0, .val (.int .i64 p0_0), .val (.bool (p0_0 == 1)), .val (.bool (p0_0 == 1)), .tup [], .tup [], .tup [], .tup [], .tup [], .tup [], .tup [], .tup [], .tup [], .tup [], .tup [], .tup [], .tup [], .tup [], .tup [], .tup [], .tup [], .tup [], .tup [], .tup [], .tup [], .tup [], .tup [], .tup [], .tup [], .tup [], .tup [], .tup [], .tup [], .tup [], .tup [], .tup [], .tup [], .tup [], .tup [], .val (.bool (p0_0 == 2)), .val (.bool (p0_0 == 2)), .tup [], .tup [], .tup [], .tup [], .tup [], .tup [], .tup [], .tup [], .tup [], .tup [], .tup [], .tup [], .tup [], .tup [], .tup [], .tup [], .tup [], .tup [], .tup [], .tup [], .tup [], .tup [], .tup [], .tup [], .tup [], .tup [], .tup [], .tup [], .tup [], .tup [], .tup [], .tup [], .tup [], .tup [], .tup [], .tup [], .tup [], .tup [], .tup [], .tup [], .val (.bool (p0_0 == 3)), .val (.bool (p0_0 == 3)), .tup [], .tup [], .tup [], .tup [], .tup [], .tup [], .tup [], .tup [], .tup [], .tup [], .tup [], .tup [], .tup [], .tup [], .tup [], .tup [], .tup [], .tup [], .tup [], .tup [], .tup [], .tup [], .tup [], .tup [], .tup [], .tup [], .val (.bool (p0_0 == 5)), .val (.bool (p0_0 == 5)), .tup [], .tup [], .tup [], .tup [], .tup [], .tup [], .tup [], .tup [], .tup [], .tup [], .tup [], .tup [], .tup [], .tup [], .tup [], .tup [], .tup [], .tup [], .tup [], .tup [], .tup [], .tup [], .tup [], .tup [], .tup [], .tup [], .tup [], .tup [], .tup [], .tup [], .tup [], .tup [], .tup [], .tup [], .tup [], .tup [], .tup [], .tup [], .tup [], .tup [], .tup [], .tup [], .tup [], .tup [], .tup [], .tup [], .tup [], .tup [], .tup [], .tup [], .tup [], .tup [], .tup [], .tup [], .tup [], .tup [], .tup [], .tup [], .tup [], .tup [], .tup [], .tup [], .tup [], .tup [], .tup [], .tup [], .tup [], .tup [], .tup [], .tup [], .tup [], .tup [], .tup [], .tup [], .tup [], .tup [], .tup [], .tup [], .tup [], .tup [], .tup [], .tup [], .tup [], .tup [], .tup [], .tup [], .tup [], .tup [], .tup [], .tup [], .tup [], .tup [], .tup [], .tup [], .tup [], .tup [], .tup [], .tup [], .tup [], .tup [], .tup [], .tup [], .tup [], .tup [], .tup [], .tup [], .tup []], [.live ⟨false, 29, 15, 1, fun _ => [.val (.int .i64 p0_0), .val (.int .i64 p0_1), .val (.int .i64 p0_2), .val (.int .i64 p0_3), .val (.int .i64 p0_4), .val (.int .i64 p0_5), .val (.int .i64 p0_6), .val (.int .i64 p0_7), .val (.int .i64 p0_8), .val (.int .i64 p0_9), .val (.int .i64 p0_10), .val (.int .i64 p0_11), .val (.int .i64 p0_12), .val (.int .i64 p0_13), .lst 2 p0_14_n none (fun i => Rii.enc (p0_14_g i))], none⟩, .live ⟨false, 24, 2, 1, fun _ => [.val (.int .i64 0), .val (.int .i64 0)], none⟩]⟩ (kBlock 0 (kSeq law10.right.G k0 (codeAt [1, 1, 1] (bodyOf Try.f9)) 0 (kFin law10.right.G Try.f9 tB.dec)))
theorem law10.right.b3_eq (k0 : Nat) (p0_0 : Int) (p0_1 : Int) (p0_2 : Int) (p0_3 : Int) (p0_4 : Int) (p0_5 : Int) (p0_6 : Int) (p0_7 : Int) (p0_8 : Int) (p0_9 : Int) (p0_10 : Int) (p0_11 : Int) (p0_12 : Int) (p0_13 : Int) (p0_14_n : Nat) (p0_14_g : Nat → (Int × Int)) : law10.right.b3 k0 p0_0 p0_1 p0_2 p0_3 p0_4 p0_5 p0_6 p0_7 p0_8 p0_9 p0_10 p0_11 p0_12 p0_13 p0_14_n p0_14_g =
  (law10.bare.f (p0_0, p0_1, p0_2, p0_3, p0_4, p0_5, p0_6, p0_7, p0_8, p0_9, p0_10, p0_11, p0_12, p0_13, (p0_14_n, (fun i => Rii.enc (p0_14_g i))))).bind fun r5 =>
  bif r5 then
    bif (decide (p0_1 > 0)) then
      bif (p0_2 == 0) then
        bif (p0_3 == 0) then
          bif ((p0_4 == 0) && ((p0_5 == 0) && true)) then
            bif (p0_11 == 0) then
              bif (decide ((if p0_9 > (if p0_7 > p0_6 then p0_7 else p0_6) then p0_9 else (if p0_7 > p0_6 then p0_7 else p0_6)) ≤ 4611686018427387904)) then
                some (decide ((if p0_9 < (if p0_7 < p0_6 then p0_7 else p0_6) then p0_9 else (if p0_7 < p0_6 then p0_7 else p0_6)) ≥ (-4611686018427387904)))
              else
              some false
            else
            some false
          else
          some false
        else
        some false
      else
      some false
    else
    some false
  else
  some false := by kernel_rfl
noncomputable def law10.right.b4 (k0 : Nat) (p0_0 : Int) (p0_1 : Int) (p0_2 : Int) (p0_3 : Int) (p0_4 : Int) (p0_5 : Int) (p0_6 : Int) (p0_7 : Int) (p0_8 : Int) (p0_9 : Int) (p0_10 : Int) (p0_11 : Int) (p0_12 : Int) (p0_13 : Int) (p0_14_n : Nat) (p0_14_g : Nat → (Int × Int)) : Option Bool := ev law10.right.G k0 (codeAt [1, 1, 0, 1, 0, 1, 1, 1, 1, 1, 1, 1, 1, 1, 0] (bodyOf Try.f9)) 0 ⟨[.agg [.val (.int .i64 p0_0), .val (.int .i64 p0_1), .val (.int .i64 p0_2), .val (.int .i64 p0_3), .val (.int .i64 p0_4), .val (.int .i64 p0_5), .val (.int .i64 p0_6), .val (.int .i64 p0_7), .val (.int .i64 p0_8), .val (.int .i64 p0_9), .val (.int .i64 p0_10), .val (.int .i64 p0_11), .val (.int .i64 p0_12), .val (.int .i64 p0_13), .lst 2 p0_14_n none (fun i => Rii.enc (p0_14_g i))], .ptr 0 0 0, .val (.bool false), .ptr 1 0 0, .tup [], .agg [.val (.int .i64 0), .val (.int .i64 0)], .ptr 0 0 0, .val (.int .i64 p0_0), .val (.bool (p0_0 == 1)), .val (.bool (p0_0 == 1)), .tup [], .tup [], .tup [], .tup [], .tup [], .tup [], .tup [], .tup [], .tup [], .tup [], .tup [], .tup [], .tup [], .tup [], .tup [], .tup [], .tup [], .tup [], .tup [], .tup [], .tup [], .tup [], .tup [], .tup [], .tup [], .tup [], .tup [], .tup [], .tup [], .tup [], .tup [], .tup [], .tup [], .tup [], .tup [], .val (.bool (p0_0 == 2)), .val (.bool (p0_0 == 2)), .tup [], .tup [], .tup [], .tup [], .tup [], .tup [], .tup [], .tup [], .tup [], .tup [], .tup [], .tup [], .tup [], .tup [], .tup [], .tup [], .tup [], .tup [], .tup [], .tup [], .tup [], .tup [], .tup [], .tup [], .tup [], .tup [], .tup [], .tup [], .tup [], .tup [], .tup [], .tup [], .tup [], .tup [], .tup [], .tup [], .tup [], .tup [], .tup [], .tup [], .val (.bool (p0_0 == 3)), .val (.bool (p0_0 == 3)), .tup [], .tup [], .tup [], .tup [], .tup [], .tup [], .tup [], .tup [], .tup [], .tup [], .tup [], .tup [], .tup [], .tup [], .tup [], .tup [], .tup [], .tup [], .tup [], .tup [], .tup [], .tup [], .tup [], .tup [], .tup [], .tup [], .val (.bool (p0_0 == 5)), .val (.bool (p0_0 == 5)), .tup [], .tup [], .tup [], .tup [], .tup [], .tup [], .tup [], .tup [], .tup [], .tup [], .tup [], .tup [], .tup [], .tup [], .tup [], .tup [], .tup [], .tup [], .tup [], .tup [], .tup [], .tup [], .tup [], .tup [], .tup [], .tup [], .tup [], .tup [], .tup [], .tup [], .tup [], .tup [], .tup [], .tup [], .tup [], .tup [], .tup [], .tup [], .tup [], .tup [], .tup [], .tup [], .tup [], .tup [], .tup [], .tup [], .tup [], .tup [], .tup [], .tup [], .tup [], .tup [], .val (.bool (p0_0 == 6)), .val (.bool (p0_0 == 6)), .tup [], .tup [], .tup [], .tup [], .tup [], .tup [], .tup [], .tup [], .tup [], .tup [], .tup [], .tup [], .tup [], .tup [], .tup [], .tup [], .tup [], .tup [], .tup [], .tup [], .tup [], .tup [], .tup [], .tup [], .tup [], .tup [], .tup [], .tup [], .tup [], .tup [], .tup [], .tup [], .tup [], .tup [], .tup [], .tup [], .tup [], .tup [], .tup [], .tup [], .tup [], .tup [], .tup [], .tup [], .tup [], .tup [], .tup [], .tup [], .tup [], .tup [], .tup [], .tup [], .tup []], [.live ⟨false, 29, 15, 1, fun _ => [.val (.int .i64 p0_0), .val (.int .i64 p0_1), .val (.int .i64 p0_2), .val (.int .i64 p0_3), .val (.int .i64 p0_4), .val (.int .i64 p0_5), .val (.int .i64 p0_6), .val (.int .i64 p0_7), .val (.int .i64 p0_8), .val (.int .i64 p0_9), .val (.int .i64 p0_10), .val (.int .i64 p0_11), .val (.int .i64 p0_12), .val (.int .i64 p0_13), .lst 2 p0_14_n none (fun i => Rii.enc (p0_14_g i))], none⟩, .live ⟨false, 24, 2, 1, fun _ => [.val (.int .i64 0), .val (.int .i64 0)], none⟩]⟩ (kBlock 0 (kSeq law10.right.G k0 (codeAt [1, 1, 1] (bodyOf Try.f9)) 0 (kFin law10.right.G Try.f9 tB.dec)))
theorem law10.right.b4_eq (k0 : Nat) (p0_0 : Int) (p0_1 : Int) (p0_2 : Int) (p0_3 : Int) (p0_4 : Int) (p0_5 : Int) (p0_6 : Int) (p0_7 : Int) (p0_8 : Int) (p0_9 : Int) (p0_10 : Int) (p0_11 : Int) (p0_12 : Int) (p0_13 : Int) (p0_14_n : Nat) (p0_14_g : Nat → (Int × Int)) : law10.right.b4 k0 p0_0 p0_1 p0_2 p0_3 p0_4 p0_5 p0_6 p0_7 p0_8 p0_9 p0_10 p0_11 p0_12 p0_13 p0_14_n p0_14_g =
  (law10.bare.f (p0_0, p0_1, p0_2, p0_3, p0_4, p0_5, p0_6, p0_7, p0_8, p0_9, p0_10, p0_11, p0_12, p0_13, (p0_14_n, (fun i => Rii.enc (p0_14_g i))))).bind fun r6 =>
  bif r6 then
    bif (p0_1 == 0) then
      bif (p0_2 == 0) then
        bif (p0_3 == 0) then
          bif ((p0_4 == 0) && ((p0_5 == 0) && true)) then
            bif (p0_9 == 0) then
              bif (p0_11 == 0) then
                bif (decide ((if p0_7 > p0_6 then p0_7 else p0_6) ≤ 17592186044416)) then
                  some (decide ((if p0_7 < p0_6 then p0_7 else p0_6) ≥ (-17592186044416)))
                else
                some false
              else
              some false
            else
            some false
          else
          some false
        else
        some false
      else
      some false
    else
    some false
  else
  some false := by kernel_rfl
noncomputable def law10.right.b5 (k0 : Nat) (p0_0 : Int) (p0_1 : Int) (p0_2 : Int) (p0_3 : Int) (p0_4 : Int) (p0_5 : Int) (p0_6 : Int) (p0_7 : Int) (p0_8 : Int) (p0_9 : Int) (p0_10 : Int) (p0_11 : Int) (p0_12 : Int) (p0_13 : Int) (p0_14_n : Nat) (p0_14_g : Nat → (Int × Int)) : Option Bool := ev law10.right.G k0 (codeAt [1, 1, 0, 1, 0, 1, 1, 1, 0] (bodyOf Try.f9)) 0 ⟨[.agg [.val (.int .i64 p0_0), .val (.int .i64 p0_1), .val (.int .i64 p0_2), .val (.int .i64 p0_3), .val (.int .i64 p0_4), .val (.int .i64 p0_5), .val (.int .i64 p0_6), .val (.int .i64 p0_7), .val (.int .i64 p0_8), .val (.int .i64 p0_9), .val (.int .i64 p0_10), .val (.int .i64 p0_11), .val (.int .i64 p0_12), .val (.int .i64 p0_13), .lst 2 p0_14_n none (fun i => Rii.enc (p0_14_g i))], .ptr 0 0 0, .val (.bool false), .ptr 1 0 0, .tup [], .agg [.val (.int .i64 0), .val (.int .i64 0)], .ptr 0 0 0, .val (.int .i64 p0_0), .val (.bool (p0_0 == 1)), .val (.bool (p0_0 == 1)), .tup [], .tup [], .tup [], .tup [], .tup [], .tup [], .tup [], .tup [], .tup [], .tup [], .tup [], .tup [], .tup [], .tup [], .tup [], .tup [], .tup [], .tup [], .tup [], .tup [], .tup [], .tup [], .tup [], .tup [], .tup [], .tup [], .tup [], .tup [], .tup [], .tup [], .tup [], .tup [], .tup [], .tup [], .tup [], .val (.bool (p0_0 == 4)), .val (.bool (p0_0 == 2)), .val (.bool (p0_0 == 4)), .tup [], .tup [], .tup [], .tup [], .tup [], .tup [], .tup [], .tup [], .tup [], .tup [], .tup [], .tup [], .tup [], .tup [], .tup [], .tup [], .tup [], .tup [], .tup [], .tup [], .tup [], .tup [], .tup [], .tup [], .tup [], .tup [], .tup [], .tup [], .tup [], .tup [], .tup [], .tup [], .tup [], .tup [], .tup [], .tup [], .tup [], .tup [], .tup [], .tup [], .tup [], .tup [], .tup [], .tup [], .tup [], .tup [], .tup [], .tup [], .tup [], .tup [], .tup [], .tup [], .tup [], .tup [], .tup [], .tup [], .tup [], .tup [], .tup [], .tup [], .tup [], .tup [], .tup [], .tup [], .tup [], .tup [], .tup [], .tup [], .tup [], .tup [], .tup [], .tup [], .tup [], .tup [], .tup [], .tup [], .tup [], .tup [], .tup [], .tup [], .tup [], .tup [], .tup [], .tup [], .tup [], .tup [], .tup [], .tup [], .tup [], .tup [], .tup [], .tup [], .tup [], .tup [], .tup [], .tup [], .tup [], .tup [], .tup [], .tup [], .tup [], .tup [], .tup [], .tup [], .tup [], .tup [], .tup [], .tup [], .tup [], .tup [], .tup [], .tup [], .tup [], .tup [], .tup [], .tup [], .tup [], .tup [], .tup [], .tup [], .tup [], .tup [], .tup [], .tup [], .tup [], .tup [], .tup [], .tup [], .tup [], .tup [], .tup [], .tup [], .tup [], .tup [], .tup [], .tup [], .tup [], .tup [], .tup [], .tup [], .tup [], .tup [], .tup [], .tup [], .tup [], .tup [], .tup [], .tup [], .tup [], .tup [], .tup [], .tup [], .tup [], .tup [], .tup [], .tup [], .tup [], .tup [], .tup [], .tup [], .tup [], .tup [], .tup [], .tup [], .tup [], .tup [], .tup [], .tup [], .tup [], .tup [], .tup [], .tup [], .tup [], .tup [], .tup [], .tup []], [.live ⟨false, 29, 15, 1, fun _ => [.val (.int .i64 p0_0), .val (.int .i64 p0_1), .val (.int .i64 p0_2), .val (.int .i64 p0_3), .val (.int .i64 p0_4), .val (.int .i64 p0_5), .val (.int .i64 p0_6), .val (.int .i64 p0_7), .val (.int .i64 p0_8), .val (.int .i64 p0_9), .val (.int .i64 p0_10), .val (.int .i64 p0_11), .val (.int .i64 p0_12), .val (.int .i64 p0_13), .lst 2 p0_14_n none (fun i => Rii.enc (p0_14_g i))], none⟩, .live ⟨false, 24, 2, 1, fun _ => [.val (.int .i64 0), .val (.int .i64 0)], none⟩]⟩ (kBlock 0 (kSeq law10.right.G k0 (codeAt [1, 1, 1] (bodyOf Try.f9)) 0 (kFin law10.right.G Try.f9 tB.dec)))
theorem law10.right.b5_eq (k0 : Nat) (p0_0 : Int) (p0_1 : Int) (p0_2 : Int) (p0_3 : Int) (p0_4 : Int) (p0_5 : Int) (p0_6 : Int) (p0_7 : Int) (p0_8 : Int) (p0_9 : Int) (p0_10 : Int) (p0_11 : Int) (p0_12 : Int) (p0_13 : Int) (p0_14_n : Nat) (p0_14_g : Nat → (Int × Int)) : law10.right.b5 k0 p0_0 p0_1 p0_2 p0_3 p0_4 p0_5 p0_6 p0_7 p0_8 p0_9 p0_10 p0_11 p0_12 p0_13 p0_14_n p0_14_g =
  (law10.bare.f (p0_0, p0_1, p0_2, p0_3, p0_4, p0_5, p0_6, p0_7, p0_8, p0_9, p0_10, p0_11, p0_12, p0_13, (p0_14_n, (fun i => Rii.enc (p0_14_g i))))).bind fun r7 =>
  bif r7 then
    bif (decide (p0_1 > 0)) then
      bif (p0_2 == 0) then
        bif (p0_3 == 0) then
          bif ((p0_4 == 0) && ((p0_5 == 0) && true)) then
            bif ((p0_6 == 0) && ((p0_7 == 0) && true)) then
              bif (p0_9 == 0) then
                some (p0_11 == 0)
              else
              some false
            else
            some false
          else
          some false
        else
        some false
      else
      some false
    else
    some false
  else
  some false := by kernel_rfl
noncomputable def law10.right.b6 (k0 : Nat) (p0_0 : Int) (p0_1 : Int) (p0_2 : Int) (p0_3 : Int) (p0_4 : Int) (p0_5 : Int) (p0_6 : Int) (p0_7 : Int) (p0_8 : Int) (p0_9 : Int) (p0_10 : Int) (p0_11 : Int) (p0_12 : Int) (p0_13 : Int) (p0_14_n : Nat) (p0_14_g : Nat → (Int × Int)) : Option Bool := ev law10.right.G k0 (codeAt [1, 1, 0, 1, 0, 1, 1, 1, 1, 1, 0] (bodyOf Try.f9)) 0 ⟨[.agg [.val (.int .i64 p0_0), .val (.int .i64 p0_1), .val (.int .i64 p0_2), .val (.int .i64 p0_3), .val (.int .i64 p0_4), .val (.int .i64 p0_5), .val (.int .i64 p0_6), .val (.int .i64 p0_7), .val (.int .i64 p0_8), .val (.int .i64 p0_9), .val (.int .i64 p0_10), .val (.int .i64 p0_11), .val (.int .i64 p0_12), .val (.int .i64 p0_13), .lst 2 p0_14_n none (fun i => Rii.enc (p0_14_g i))], .ptr 0 0 0, .val (.bool false), .ptr 1 0 0, .tup [], .agg [.val (.int .i64 0), .val (.int .i64 0)], .ptr 0 0 0, .val (.int .i64 p0_0), .val (.bool (p0_0 == 1)), .val (.bool (p0_0 == 1)), .tup [], .tup [], .tup [], .tup [], .tup [], .tup [], .tup [], .tup [], .tup [], .tup [], .tup [], .tup [], .tup [], .tup [], .tup [], .tup [], .tup [], .tup [], .tup [], .tup [], .tup [], .tup [], .tup [], .tup [], .tup [], .tup [], .tup [], .tup [], .tup [], .tup [], .tup [], .tup [], .tup [], .tup [], .tup [], .val (.bool (p0_0 == 4)), .val (.bool (p0_0 == 2)), .val (.bool (p0_0 == 4)), .tup [], .tup [], .tup [], .tup [], .tup [], .tup [], .tup [], .tup [], .tup [], .tup [], .tup [], .tup [], .tup [], .tup [], .tup [], .tup [], .tup [], .tup [], .tup [], .tup [], .tup [], .tup [], .tup [], .tup [], .tup [], .tup [], .tup [], .tup [], .tup [], .tup [], .tup [], .tup [], .tup [], .tup [], .tup [], .tup [], .tup [], .tup [], .tup [], .val (.bool (p0_0 == 3)), .val (.bool (p0_0 == 3)), .tup [], .tup [], .tup [], .tup [], .tup [], .tup [], .tup [], .tup [], .tup [], .tup [], .tup [], .tup [], .tup [], .tup [], .tup [], .tup [], .tup [], .tup [], .tup [], .tup [], .tup [], .tup [], .tup [], .tup [], .tup [], .tup [], .tup [], .tup [], .tup [], .tup [], .tup [], .tup [], .tup [], .tup [], .tup [], .tup [], .tup [], .tup [], .tup [], .tup [], .tup [], .tup [], .tup [], .tup [], .tup [], .tup [], .tup [], .tup [], .tup [], .tup [], .tup [], .tup [], .tup [], .tup [], .tup [], .tup [], .tup [], .tup [], .tup [], .tup [], .tup [], .tup [], .tup [], .tup [], .tup [], .tup [], .tup [], .tup [], .tup [], .tup [], .tup [], .tup [], .tup [], .tup [], .tup [], .tup [], .tup [], .tup [], .tup [], .tup [], .tup [], .tup [], .tup [], .tup [], .tup [], .tup [], .tup [], .tup [], .tup [], .tup [], .tup [], .tup [], .tup [], .tup [], .tup [], .tup [], .tup [], .tup [], .tup [], .tup [], .tup [], .tup [], .tup [], .tup [], .tup [], .tup [], .tup [], .tup [], .tup [], .tup [], .tup [], .tup [], .tup [], .tup [], .tup [], .tup [], .tup [], .tup [], .tup [], .tup [], .tup [], .tup [], .tup [], .tup [], .tup [], .tup [], .tup [], .tup [], .tup [], .tup [], .tup [], .tup [], .tup [], .tup [], .tup []], [.live ⟨false, 29, 15, 1, fun _ => [.val (.int .i64 p0_0), .val (.int .i64 p0_1), .val (.int .i64 p0_2), .val (.int .i64 p0_3), .val (.int .i64 p0_4), .val (.int .i64 p0_5), .val (.int .i64 p0_6), .val (.int .i64 p0_7), .val (.int .i64 p0_8), .val (.int .i64 p0_9), .val (.int .i64 p0_10), .val (.int .i64 p0_11), .val (.int .i64 p0_12), .val (.int .i64 p0_13), .lst 2 p0_14_n none (fun i => Rii.enc (p0_14_g i))], none⟩, .live ⟨false, 24, 2, 1, fun _ => [.val (.int .i64 0), .val (.int .i64 0)], none⟩]⟩ (kBlock 0 (kSeq law10.right.G k0 (codeAt [1, 1, 1] (bodyOf Try.f9)) 0 (kFin law10.right.G Try.f9 tB.dec)))
theorem law10.right.b6_eq (k0 : Nat) (p0_0 : Int) (p0_1 : Int) (p0_2 : Int) (p0_3 : Int) (p0_4 : Int) (p0_5 : Int) (p0_6 : Int) (p0_7 : Int) (p0_8 : Int) (p0_9 : Int) (p0_10 : Int) (p0_11 : Int) (p0_12 : Int) (p0_13 : Int) (p0_14_n : Nat) (p0_14_g : Nat → (Int × Int)) : law10.right.b6 k0 p0_0 p0_1 p0_2 p0_3 p0_4 p0_5 p0_6 p0_7 p0_8 p0_9 p0_10 p0_11 p0_12 p0_13 p0_14_n p0_14_g =
  (law10.bare.f (p0_0, p0_1, p0_2, p0_3, p0_4, p0_5, p0_6, p0_7, p0_8, p0_9, p0_10, p0_11, p0_12, p0_13, (p0_14_n, (fun i => Rii.enc (p0_14_g i))))).bind fun r8 =>
  bif r8 then
    bif (p0_1 == 0) then
      bif (p0_9 == 0) then
        (world.RightJoint.f (0, p0_2, p0_3, p0_4, p0_5, p0_6, p0_7, p0_11)).bind fun r9 =>
        some r9
      else
      some false
    else
    some false
  else
  some false := by kernel_rfl
noncomputable def law10.right.b7 (k0 : Nat) (p0_0 : Int) (p0_1 : Int) (p0_2 : Int) (p0_3 : Int) (p0_4 : Int) (p0_5 : Int) (p0_6 : Int) (p0_7 : Int) (p0_8 : Int) (p0_9 : Int) (p0_10 : Int) (p0_11 : Int) (p0_12 : Int) (p0_13 : Int) (p0_14_n : Nat) (p0_14_g : Nat → (Int × Int)) : Option Bool := ev law10.right.G k0 (codeAt [1, 1, 0, 1, 0, 1, 1, 1, 1, 1, 1, 1, 0] (bodyOf Try.f9)) 0 ⟨[.agg [.val (.int .i64 p0_0), .val (.int .i64 p0_1), .val (.int .i64 p0_2), .val (.int .i64 p0_3), .val (.int .i64 p0_4), .val (.int .i64 p0_5), .val (.int .i64 p0_6), .val (.int .i64 p0_7), .val (.int .i64 p0_8), .val (.int .i64 p0_9), .val (.int .i64 p0_10), .val (.int .i64 p0_11), .val (.int .i64 p0_12), .val (.int .i64 p0_13), .lst 2 p0_14_n none (fun i => Rii.enc (p0_14_g i))], .ptr 0 0 0, .val (.bool false), .ptr 1 0 0, .tup [], .agg [.val (.int .i64 0), .val (.int .i64 0)], .ptr 0 0 0, .val (.int .i64 p0_0), .val (.bool (p0_0 == 1)), .val (.bool (p0_0 == 1)), .tup [], .tup [], .tup [], .tup [], .tup [], .tup [], .tup [], .tup [], .tup [], .tup [], .tup [], .tup [], .tup [], .tup [], .tup [], .tup [], .tup [], .tup [], .tup [], .tup [], .tup [], .tup [], .tup [], .tup [], .tup [], .tup [], .tup [], .tup [], .tup [], .tup [], .tup [], .tup [], .tup [], .tup [], .tup [], .val (.bool (p0_0 == 4)), .val (.bool (p0_0 == 2)), .val (.bool (p0_0 == 4)), .tup [], .tup [], .tup [], .tup [], .tup [], .tup [], .tup [], .tup [], .tup [], .tup [], .tup [], .tup [], .tup [], .tup [], .tup [], .tup [], .tup [], .tup [], .tup [], .tup [], .tup [], .tup [], .tup [], .tup [], .tup [], .tup [], .tup [], .tup [], .tup [], .tup [], .tup [], .tup [], .tup [], .tup [], .tup [], .tup [], .tup [], .tup [], .tup [], .val (.bool (p0_0 == 3)), .val (.bool (p0_0 == 3)), .tup [], .tup [], .tup [], .tup [], .tup [], .tup [], .tup [], .tup [], .tup [], .tup [], .tup [], .tup [], .tup [], .tup [], .tup [], .tup [], .tup [], .tup [], .tup [], .tup [], .tup [], .tup [], .tup [], .tup [], .tup [], .tup [], .val (.bool (p0_0 == 5)), .val (.bool (p0_0 == 5)), .tup [], .tup [], .tup [], .tup [], .tup [], .tup [], .tup [], .tup [], .tup [], .tup [], .tup [], .tup [], .tup [], .tup [], .tup [], .tup [], .tup [], .tup [], .tup [], .tup [], .tup [], .tup [], .tup [], .tup [], .tup [], .tup [], .tup [], .tup [], .tup [], .tup [], .tup [], .tup [], .tup [], .tup [], .tup [], .tup [], .tup [], .tup [], .tup [], .tup [], .tup [], .tup [], .tup [], .tup [], .tup [], .tup [], .tup [], .tup [], .tup [], .tup [], .tup [], .tup [], .tup [], .tup [], .tup [], .tup [], .tup [], .tup [], .tup [], .tup [], .tup [], .tup [], .tup [], .tup [], .tup [], .tup [], .tup [], .tup [], .tup [], .tup [], .tup [], .tup [], .tup [], .tup [], .tup [], .tup [], .tup [], .tup [], .tup [], .tup [], .tup [], .tup [], .tup [], .tup [], .tup [], .tup [], .tup [], .tup [], .tup [], .tup [], .tup [], .tup [], .tup [], .tup [], .tup [], .tup [], .tup [], .tup [], .tup [], .tup [], .tup [], .tup [], .tup [], .tup [], .tup [], .tup [], .tup []], [.live ⟨false, 29, 15, 1, fun _ => [.val (.int .i64 p0_0), .val (.int .i64 p0_1), .val (.int .i64 p0_2), .val (.int .i64 p0_3), .val (.int .i64 p0_4), .val (.int .i64 p0_5), .val (.int .i64 p0_6), .val (.int .i64 p0_7), .val (.int .i64 p0_8), .val (.int .i64 p0_9), .val (.int .i64 p0_10), .val (.int .i64 p0_11), .val (.int .i64 p0_12), .val (.int .i64 p0_13), .lst 2 p0_14_n none (fun i => Rii.enc (p0_14_g i))], none⟩, .live ⟨false, 24, 2, 1, fun _ => [.val (.int .i64 0), .val (.int .i64 0)], none⟩]⟩ (kBlock 0 (kSeq law10.right.G k0 (codeAt [1, 1, 1] (bodyOf Try.f9)) 0 (kFin law10.right.G Try.f9 tB.dec)))
theorem law10.right.b7_eq (k0 : Nat) (p0_0 : Int) (p0_1 : Int) (p0_2 : Int) (p0_3 : Int) (p0_4 : Int) (p0_5 : Int) (p0_6 : Int) (p0_7 : Int) (p0_8 : Int) (p0_9 : Int) (p0_10 : Int) (p0_11 : Int) (p0_12 : Int) (p0_13 : Int) (p0_14_n : Nat) (p0_14_g : Nat → (Int × Int)) : law10.right.b7 k0 p0_0 p0_1 p0_2 p0_3 p0_4 p0_5 p0_6 p0_7 p0_8 p0_9 p0_10 p0_11 p0_12 p0_13 p0_14_n p0_14_g =
  (law10.bare.f (p0_0, p0_1, p0_2, p0_3, p0_4, p0_5, p0_6, p0_7, p0_8, p0_9, p0_10, p0_11, p0_12, p0_13, (p0_14_n, (fun i => Rii.enc (p0_14_g i))))).bind fun r10 =>
  bif r10 then
    bif (decide (p0_1 > 0)) then
      bif (p0_2 == 0) then
        bif (p0_3 == 0) then
          bif ((p0_4 == 0) && ((p0_5 == 0) && true)) then
            bif (p0_11 == 0) then
              bif (decide ((if p0_9 > (if p0_7 > p0_6 then p0_7 else p0_6) then p0_9 else (if p0_7 > p0_6 then p0_7 else p0_6)) ≤ 4611686018427387904)) then
                some (decide ((if p0_9 < (if p0_7 < p0_6 then p0_7 else p0_6) then p0_9 else (if p0_7 < p0_6 then p0_7 else p0_6)) ≥ (-4611686018427387904)))
              else
              some false
            else
            some false
          else
          some false
        else
        some false
      else
      some false
    else
    some false
  else
  some false := by kernel_rfl
noncomputable def law10.right.b8 (k0 : Nat) (p0_0 : Int) (p0_1 : Int) (p0_2 : Int) (p0_3 : Int) (p0_4 : Int) (p0_5 : Int) (p0_6 : Int) (p0_7 : Int) (p0_8 : Int) (p0_9 : Int) (p0_10 : Int) (p0_11 : Int) (p0_12 : Int) (p0_13 : Int) (p0_14_n : Nat) (p0_14_g : Nat → (Int × Int)) : Option Bool := ev law10.right.G k0 (codeAt [1, 1, 0, 1, 0, 1, 1, 1, 1, 1, 1, 1, 1, 1, 0] (bodyOf Try.f9)) 0 ⟨[.agg [.val (.int .i64 p0_0), .val (.int .i64 p0_1), .val (.int .i64 p0_2), .val (.int .i64 p0_3), .val (.int .i64 p0_4), .val (.int .i64 p0_5), .val (.int .i64 p0_6), .val (.int .i64 p0_7), .val (.int .i64 p0_8), .val (.int .i64 p0_9), .val (.int .i64 p0_10), .val (.int .i64 p0_11), .val (.int .i64 p0_12), .val (.int .i64 p0_13), .lst 2 p0_14_n none (fun i => Rii.enc (p0_14_g i))], .ptr 0 0 0, .val (.bool false), .ptr 1 0 0, .tup [], .agg [.val (.int .i64 0), .val (.int .i64 0)], .ptr 0 0 0, .val (.int .i64 p0_0), .val (.bool (p0_0 == 1)), .val (.bool (p0_0 == 1)), .tup [], .tup [], .tup [], .tup [], .tup [], .tup [], .tup [], .tup [], .tup [], .tup [], .tup [], .tup [], .tup [], .tup [], .tup [], .tup [], .tup [], .tup [], .tup [], .tup [], .tup [], .tup [], .tup [], .tup [], .tup [], .tup [], .tup [], .tup [], .tup [], .tup [], .tup [], .tup [], .tup [], .tup [], .tup [], .val (.bool (p0_0 == 4)), .val (.bool (p0_0 == 2)), .val (.bool (p0_0 == 4)), .tup [], .tup [], .tup [], .tup [], .tup [], .tup [], .tup [], .tup [], .tup [], .tup [], .tup [], .tup [], .tup [], .tup [], .tup [], .tup [], .tup [], .tup [], .tup [], .tup [], .tup [], .tup [], .tup [], .tup [], .tup [], .tup [], .tup [], .tup [], .tup [], .tup [], .tup [], .tup [], .tup [], .tup [], .tup [], .tup [], .tup [], .tup [], .tup [], .val (.bool (p0_0 == 3)), .val (.bool (p0_0 == 3)), .tup [], .tup [], .tup [], .tup [], .tup [], .tup [], .tup [], .tup [], .tup [], .tup [], .tup [], .tup [], .tup [], .tup [], .tup [], .tup [], .tup [], .tup [], .tup [], .tup [], .tup [], .tup [], .tup [], .tup [], .tup [], .tup [], .val (.bool (p0_0 == 5)), .val (.bool (p0_0 == 5)), .tup [], .tup [], .tup [], .tup [], .tup [], .tup [], .tup [], .tup [], .tup [], .tup [], .tup [], .tup [], .tup [], .tup [], .tup [], .tup [], .tup [], .tup [], .tup [], .tup [], .tup [], .tup [], .tup [], .tup [], .tup [], .tup [], .tup [], .tup [], .tup [], .tup [], .tup [], .tup [], .tup [], .tup [], .tup [], .tup [], .tup [], .tup [], .tup [], .tup [], .tup [], .tup [], .tup [], .tup [], .tup [], .tup [], .tup [], .tup [], .tup [], .tup [], .tup [], .tup [], .val (.bool (p0_0 == 6)), .val (.bool (p0_0 == 6)), .tup [], .tup [], .tup [], .tup [], .tup [], .tup [], .tup [], .tup [], .tup [], .tup [], .tup [], .tup [], .tup [], .tup [], .tup [], .tup [], .tup [], .tup [], .tup [], .tup [], .tup [], .tup [], .tup [], .tup [], .tup [], .tup [], .tup [], .tup [], .tup [], .tup [], .tup [], .tup [], .tup [], .tup [], .tup [], .tup [], .tup [], .tup [], .tup [], .tup [], .tup [], .tup [], .tup [], .tup [], .tup [], .tup [], .tup [], .tup [], .tup [], .tup [], .tup [], .tup [], .tup []], [.live ⟨false, 29, 15, 1, fun _ => [.val (.int .i64 p0_0), .val (.int .i64 p0_1), .val (.int .i64 p0_2), .val (.int .i64 p0_3), .val (.int .i64 p0_4), .val (.int .i64 p0_5), .val (.int .i64 p0_6), .val (.int .i64 p0_7), .val (.int .i64 p0_8), .val (.int .i64 p0_9), .val (.int .i64 p0_10), .val (.int .i64 p0_11), .val (.int .i64 p0_12), .val (.int .i64 p0_13), .lst 2 p0_14_n none (fun i => Rii.enc (p0_14_g i))], none⟩, .live ⟨false, 24, 2, 1, fun _ => [.val (.int .i64 0), .val (.int .i64 0)], none⟩]⟩ (kBlock 0 (kSeq law10.right.G k0 (codeAt [1, 1, 1] (bodyOf Try.f9)) 0 (kFin law10.right.G Try.f9 tB.dec)))
theorem law10.right.b8_eq (k0 : Nat) (p0_0 : Int) (p0_1 : Int) (p0_2 : Int) (p0_3 : Int) (p0_4 : Int) (p0_5 : Int) (p0_6 : Int) (p0_7 : Int) (p0_8 : Int) (p0_9 : Int) (p0_10 : Int) (p0_11 : Int) (p0_12 : Int) (p0_13 : Int) (p0_14_n : Nat) (p0_14_g : Nat → (Int × Int)) : law10.right.b8 k0 p0_0 p0_1 p0_2 p0_3 p0_4 p0_5 p0_6 p0_7 p0_8 p0_9 p0_10 p0_11 p0_12 p0_13 p0_14_n p0_14_g =
  (law10.bare.f (p0_0, p0_1, p0_2, p0_3, p0_4, p0_5, p0_6, p0_7, p0_8, p0_9, p0_10, p0_11, p0_12, p0_13, (p0_14_n, (fun i => Rii.enc (p0_14_g i))))).bind fun r11 =>
  bif r11 then
    bif (p0_1 == 0) then
      bif (p0_2 == 0) then
        bif (p0_3 == 0) then
          bif ((p0_4 == 0) && ((p0_5 == 0) && true)) then
            bif (p0_9 == 0) then
              bif (p0_11 == 0) then
                bif (decide ((if p0_7 > p0_6 then p0_7 else p0_6) ≤ 17592186044416)) then
                  some (decide ((if p0_7 < p0_6 then p0_7 else p0_6) ≥ (-17592186044416)))
                else
                some false
              else
              some false
            else
            some false
          else
          some false
        else
        some false
      else
      some false
    else
    some false
  else
  some false := by kernel_rfl
theorem law10.right.eq (p0_0 : Int) (p0_1 : Int) (p0_2 : Int) (p0_3 : Int) (p0_4 : Int) (p0_5 : Int) (p0_6 : Int) (p0_7 : Int) (p0_8 : Int) (p0_9 : Int) (p0_10 : Int) (p0_11 : Int) (p0_12 : Int) (p0_13 : Int) (p0_14_n : Nat) (p0_14_g : Nat → (Int × Int)) : law10.right.f (p0_0, p0_1, p0_2, p0_3, p0_4, p0_5, p0_6, p0_7, p0_8, p0_9, p0_10, p0_11, p0_12, p0_13, (p0_14_n, (fun i => Rii.enc (p0_14_g i)))) =
  bif (p0_0 == 1) then
    law10.right.b0 0 p0_0 p0_1 p0_2 p0_3 p0_4 p0_5 p0_6 p0_7 p0_8 p0_9 p0_10 p0_11 p0_12 p0_13 p0_14_n p0_14_g
  else
  bif (p0_0 == 2) then
    bif (p0_0 == 2) then
      law10.right.b1 0 p0_0 p0_1 p0_2 p0_3 p0_4 p0_5 p0_6 p0_7 p0_8 p0_9 p0_10 p0_11 p0_12 p0_13 p0_14_n p0_14_g
    else
    bif (p0_0 == 3) then
      law10.right.b2 0 p0_0 p0_1 p0_2 p0_3 p0_4 p0_5 p0_6 p0_7 p0_8 p0_9 p0_10 p0_11 p0_12 p0_13 p0_14_n p0_14_g
    else
    bif (p0_0 == 5) then
      law10.right.b3 0 p0_0 p0_1 p0_2 p0_3 p0_4 p0_5 p0_6 p0_7 p0_8 p0_9 p0_10 p0_11 p0_12 p0_13 p0_14_n p0_14_g
    else
    bif (p0_0 == 6) then
      law10.right.b4 0 p0_0 p0_1 p0_2 p0_3 p0_4 p0_5 p0_6 p0_7 p0_8 p0_9 p0_10 p0_11 p0_12 p0_13 p0_14_n p0_14_g
    else
    some false
  else
  bif (p0_0 == 4) then
    law10.right.b5 0 p0_0 p0_1 p0_2 p0_3 p0_4 p0_5 p0_6 p0_7 p0_8 p0_9 p0_10 p0_11 p0_12 p0_13 p0_14_n p0_14_g
  else
  bif (p0_0 == 3) then
    law10.right.b6 0 p0_0 p0_1 p0_2 p0_3 p0_4 p0_5 p0_6 p0_7 p0_8 p0_9 p0_10 p0_11 p0_12 p0_13 p0_14_n p0_14_g
  else
  bif (p0_0 == 5) then
    law10.right.b7 0 p0_0 p0_1 p0_2 p0_3 p0_4 p0_5 p0_6 p0_7 p0_8 p0_9 p0_10 p0_11 p0_12 p0_13 p0_14_n p0_14_g
  else
  bif (p0_0 == 6) then
    law10.right.b8 0 p0_0 p0_1 p0_2 p0_3 p0_4 p0_5 p0_6 p0_7 p0_8 p0_9 p0_10 p0_11 p0_12 p0_13 p0_14_n p0_14_g
  else
  some false := by kernel_rfl
end Go.Proofs.Ytghhecijpghfhaa.E
