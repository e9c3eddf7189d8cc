import Derived.Test.YtbcnifnmccaleaaEb
import Derived.Test.YtbcnifnmccaleaaProg
namespace Go.Proofs.Ytbcnifnmccaleaa.E
open Go Go.Proofs Go.Proofs.Ytbcnifnmccaleaa Go.Proofs.Ytbcnifnmccaleaa.Fw Go.RowKit
set_option maxRecDepth 100000
set_option linter.unusedVariables false
/-! ### bagatelle/bagatellelaw09.WorldCopies -/
noncomputable def law09.WorldCopies.cs : List (Nat × Fw.Summ) := [(8, law09.fit.s), (18, law09.Made.s), (24, world.Copy.s), (25, world.Same.s), (10, law09.Deed.Do.s), (15, world.Right.s)]
theorem law09.WorldCopies.cs_ok : SumsOk Try.prog law09.WorldCopies.cs := .cons law09.fit.ok (.cons law09.Made.ok (.cons world.Copy.ok (.cons world.Same.ok (.cons law09.Deed.Do.ok (.cons world.Right.ok (.nil))))))
def law09.WorldCopies.hs : List (Nat × LHint) := [(1000000, { xt := true, told := [(83, none)], pre := [], deep := [], stop := [] })]
noncomputable def law09.WorldCopies.G : Ctx := ⟨Try.prog, sumAt law09.WorldCopies.cs, lookH law09.WorldCopies.hs, true⟩
noncomputable def law09.WorldCopies.f (x : ((Nat × (Nat → List AV)) × (Int × Int × Int × Int × Int × Int × Int × Int × Int × Int × Int × Int × Int × Int × Int × Int × Int × Int × Int × Int × Int × Int × Int × Int × Int × Int × Int × Int × Int × (Nat × (Nat → List AV))) × Int)) : Option Bool := evF law09.WorldCopies.G 0 Try.f7 ((tCons (tLz 30 (RiiiiiiiiiiiiiiiiiiiiiiiiiiiiiL2.enc (0, 0, 0, 0, 0, 0, 0, 0, 0, 0, 0, 0, 0, 0, 0, 0, 0, 0, 0, 0, 0, 0, 0, 0, 0, 0, 0, 0, 0, (0, fun _ => [])))) (tCons (tG (tCons (tI .i64) (tCons (tI .i64) (tCons (tI .i64) (tCons (tI .i64) (tCons (tI .i64) (tCons (tI .i64) (tCons (tI .i64) (tCons (tI .i64) (tCons (tI .i64) (tCons (tI .i64) (tCons (tI .i64) (tCons (tI .i64) (tCons (tI .i64) (tCons (tI .i64) (tCons (tI .i64) (tCons (tI .i64) (tCons (tI .i64) (tCons (tI .i64) (tCons (tI .i64) (tCons (tI .i64) (tCons (tI .i64) (tCons (tI .i64) (tCons (tI .i64) (tCons (tI .i64) (tCons (tI .i64) (tCons (tI .i64) (tCons (tI .i64) (tCons (tI .i64) (tCons (tI .i64) (tOne (tLz 2 (Rii.enc (0, 0)))))))))))))))))))))))))))))))))) (tOne (tI .i64)))).enc x) tB.dec
noncomputable def law09.WorldCopies.s : Fw.Summ := .mk' (tCons (tLz 30 (RiiiiiiiiiiiiiiiiiiiiiiiiiiiiiL2.enc (0, 0, 0, 0, 0, 0, 0, 0, 0, 0, 0, 0, 0, 0, 0, 0, 0, 0, 0, 0, 0, 0, 0, 0, 0, 0, 0, 0, 0, (0, fun _ => [])))) (tCons (tG (tCons (tI .i64) (tCons (tI .i64) (tCons (tI .i64) (tCons (tI .i64) (tCons (tI .i64) (tCons (tI .i64) (tCons (tI .i64) (tCons (tI .i64) (tCons (tI .i64) (tCons (tI .i64) (tCons (tI .i64) (tCons (tI .i64) (tCons (tI .i64) (tCons (tI .i64) (tCons (tI .i64) (tCons (tI .i64) (tCons (tI .i64) (tCons (tI .i64) (tCons (tI .i64) (tCons (tI .i64) (tCons (tI .i64) (tCons (tI .i64) (tCons (tI .i64) (tCons (tI .i64) (tCons (tI .i64) (tCons (tI .i64) (tCons (tI .i64) (tCons (tI .i64) (tCons (tI .i64) (tOne (tLz 2 (Rii.enc (0, 0)))))))))))))))))))))))))))))))))) (tOne (tI .i64)))) tB law09.WorldCopies.f
theorem law09.WorldCopies.ok : law09.WorldCopies.s.Ok Try.prog 7 :=
  summ_ok (hint := lookH law09.WorldCopies.hs) (fn := Try.f7) (fun x => 0) law09.WorldCopies.cs_ok (by kernel_rfl) (by kernel_rfl) (by kernel_rfl) (by kernel_rfl) (tCons_ok (tLz_ok _ _) (tCons_ok (tG_ok (tCons_ok (tI_ok _) (tCons_ok (tI_ok _) (tCons_ok (tI_ok _) (tCons_ok (tI_ok _) (tCons_ok (tI_ok _) (tCons_ok (tI_ok _) (tCons_ok (tI_ok _) (tCons_ok (tI_ok _) (tCons_ok (tI_ok _) (tCons_ok (tI_ok _) (tCons_ok (tI_ok _) (tCons_ok (tI_ok _) (tCons_ok (tI_ok _) (tCons_ok (tI_ok _) (tCons_ok (tI_ok _) (tCons_ok (tI_ok _) (tCons_ok (tI_ok _) (tCons_ok (tI_ok _) (tCons_ok (tI_ok _) (tCons_ok (tI_ok _) (tCons_ok (tI_ok _) (tCons_ok (tI_ok _) (tCons_ok (tI_ok _) (tCons_ok (tI_ok _) (tCons_ok (tI_ok _) (tCons_ok (tI_ok _) (tCons_ok (tI_ok _) (tCons_ok (tI_ok _) (tCons_ok (tI_ok _) (tOne_ok (tLz_ok _ _)))))))))))))))))))))))))))))))) (tOne_ok (tI_ok _)))) tB_ok (fun _ => rfl)
theorem law09.WorldCopies.eq (p0_n : Nat) (p0_g : Nat → (Int × Int × Int × Int × Int × Int × Int × Int × Int × Int × Int × Int × Int × Int × Int × Int × Int × Int × Int × Int × Int × Int × Int × Int × Int × Int × Int × Int × Int × (Nat × (Nat → List AV)))) (p1_0 : Int) (p1_1 : Int) (p1_2 : Int) (p1_3 : Int) (p1_4 : Int) (p1_5 : Int) (p1_6 : Int) (p1_7 : Int) (p1_8 : Int) (p1_9 : Int) (p1_10 : Int) (p1_11 : Int) (p1_12 : Int) (p1_13 : Int) (p1_14 : Int) (p1_15 : Int) (p1_16 : Int) (p1_17 : Int) (p1_18 : Int) (p1_19 : Int) (p1_20 : Int) (p1_21 : Int) (p1_22 : Int) (p1_23 : Int) (p1_24 : Int) (p1_25 : Int) (p1_26 : Int) (p1_27 : Int) (p1_28 : Int) (p1_29_n : Nat) (p1_29_g : Nat → (Int × Int)) (p2 : Int) : law09.WorldCopies.f ((p0_n, (fun i => RiiiiiiiiiiiiiiiiiiiiiiiiiiiiiL2.enc (p0_g i))), (p1_0, p1_1, p1_2, p1_3, p1_4, p1_5, p1_6, p1_7, p1_8, p1_9, p1_10, p1_11, p1_12, p1_13, p1_14, p1_15, p1_16, p1_17, p1_18, p1_19, p1_20, p1_21, p1_22, p1_23, p1_24, p1_25, p1_26, p1_27, p1_28, (p1_29_n, (fun i => Rii.enc (p1_29_g i)))), p2) =
  (law09.fit.f ()).bind fun r1 =>
  bif (!r1) then
    some false
  else
  bif (decide (((p1_29_n : Nat) : Int) > 12)) then
    some true
  else
  (law09.Made.f ((p0_n, (fun i => RiiiiiiiiiiiiiiiiiiiiiiiiiiiiiL2.enc (p0_g i))), 12)).bind fun r2 =>
  (world.Copy.f (r2.1, r2.2.1, r2.2.2.1, r2.2.2.2.1, r2.2.2.2.2.1, (r2.2.2.2.2.2.1.1, (fun i => RiiiiiiiiiiL2.enc (r2.2.2.2.2.2.1.2 i))), (r2.2.2.2.2.2.2.1.1, (fun i => Riiiiiiii.enc (r2.2.2.2.2.2.2.1.2 i))), (r2.2.2.2.2.2.2.2.1, (fun i => Riiiii.enc (r2.2.2.2.2.2.2.2.2 i))))).bind fun r3 =>
  (world.Copy.f (r2.1, r2.2.1, r2.2.2.1, r2.2.2.2.1, r2.2.2.2.2.1, (r2.2.2.2.2.2.1.1, (fun i => RiiiiiiiiiiL2.enc (r2.2.2.2.2.2.1.2 i))), (r2.2.2.2.2.2.2.1.1, (fun i => Riiiiiiii.enc (r2.2.2.2.2.2.2.1.2 i))), (r2.2.2.2.2.2.2.2.1, (fun i => Riiiii.enc (r2.2.2.2.2.2.2.2.2 i))))).bind fun r4 =>
  (world.Same.f ((r2.1, r2.2.1, r2.2.2.1, r2.2.2.2.1, r2.2.2.2.2.1, (r2.2.2.2.2.2.1.1, (fun i => RiiiiiiiiiiL2.enc (r2.2.2.2.2.2.1.2 i))), (r2.2.2.2.2.2.2.1.1, (fun i => Riiiiiiii.enc (r2.2.2.2.2.2.2.1.2 i))), (r2.2.2.2.2.2.2.2.1, (fun i => Riiiii.enc (r2.2.2.2.2.2.2.2.2 i)))), (r3.1.1, r3.1.2.1, r3.1.2.2.1, r3.1.2.2.2.1, r3.1.2.2.2.2, (r3.2.1.1, (fun i => RiiiiiiiiiiL2.enc (r3.2.1.2 i))), (r3.2.2.1.1, (fun i => Riiiiiiii.enc (r3.2.2.1.2 i))), (r3.2.2.2.1, (fun i => Riiiii.enc (r3.2.2.2.2 i)))))).bind fun r5 =>
  bif (!r5) then
    some false
  else
  (world.Same.f ((r3.1.1, r3.1.2.1, r3.1.2.2.1, r3.1.2.2.2.1, r3.1.2.2.2.2, (r3.2.1.1, (fun i => RiiiiiiiiiiL2.enc (r3.2.1.2 i))), (r3.2.2.1.1, (fun i => Riiiiiiii.enc (r3.2.2.1.2 i))), (r3.2.2.2.1, (fun i => Riiiii.enc (r3.2.2.2.2 i)))), (r4.1.1, r4.1.2.1, r4.1.2.2.1, r4.1.2.2.2.1, r4.1.2.2.2.2, (r4.2.1.1, (fun i => RiiiiiiiiiiL2.enc (r4.2.1.2 i))), (r4.2.2.1.1, (fun i => Riiiiiiii.enc (r4.2.2.1.2 i))), (r4.2.2.2.1, (fun i => Riiiii.enc (r4.2.2.2.2 i)))))).bind fun r6 =>
  bif (!r6) then
    some false
  else
  bif ((Go.bits .and .i64 p1_0 7) == 4) then
    bif ((Go.bits .and .i64 p1_0 7) == 4) then
      (law09.Deed.Joint.f (p1_0, p1_1, p1_2, p1_3, p1_4, p1_5, p1_6, p1_7, p1_8, p1_9, p1_10, p1_11, p1_12, p1_13, p1_14, p1_15, p1_16, p1_17, p1_18, p1_19, p1_20, p1_21, p1_22, p1_23, p1_24, p1_25, p1_26, p1_27, p1_28, (p1_29_n, (fun i => Rii.enc (p1_29_g i))))).bind fun r7 =>
      (world.AddJoint.f ((r3.1.1, r3.1.2.1, r3.1.2.2.1, r3.1.2.2.2.1, r3.1.2.2.2.2, (r3.2.1.1, (fun i => RiiiiiiiiiiL2.enc (r3.2.1.2 i))), (r3.2.2.1.1, (fun i => Riiiiiiii.enc (r3.2.2.1.2 i))), (r3.2.2.2.1, (fun i => Riiiii.enc (r3.2.2.2.2 i)))), (r7.1, r7.2.1, r7.2.2.1, r7.2.2.2.1, r7.2.2.2.2.1, r7.2.2.2.2.2.1, r7.2.2.2.2.2.2.1, r7.2.2.2.2.2.2.2))).bind fun r8 =>
      (world.Same.f ((r2.1, r2.2.1, r2.2.2.1, r2.2.2.2.1, r2.2.2.2.2.1, (r2.2.2.2.2.2.1.1, (fun i => RiiiiiiiiiiL2.enc (r2.2.2.2.2.2.1.2 i))), (r2.2.2.2.2.2.2.1.1, (fun i => Riiiiiiii.enc (r2.2.2.2.2.2.2.1.2 i))), (r2.2.2.2.2.2.2.2.1, (fun i => Riiiii.enc (r2.2.2.2.2.2.2.2.2 i)))), (r4.1.1, r4.1.2.1, r4.1.2.2.1, r4.1.2.2.2.1, r4.1.2.2.2.2, (r4.2.1.1, (fun i => RiiiiiiiiiiL2.enc (r4.2.1.2 i))), (r4.2.2.1.1, (fun i => Riiiiiiii.enc (r4.2.2.1.2 i))), (r4.2.2.2.1, (fun i => Riiiii.enc (r4.2.2.2.2 i)))))).bind fun r9 =>
      bif (!r9) then
        some false
      else
      bif ((IntKind.i64.wrap (((r2.2.2.2.2.2.1.1 : Nat) : Int) + ((r2.2.2.2.2.2.2.1.1 : Nat) : Int))) != (IntKind.i64.wrap (((r2.2.2.2.2.2.1.1 : Nat) : Int) + ((r2.2.2.2.2.2.2.1.1 : Nat) : Int)))) then
        some false
      else
      bif ((Go.bits .and .i64 p2 3) == 0) then
        (world.Same.f ((r2.1, r2.2.1, r2.2.2.1, r2.2.2.2.1, r2.2.2.2.2.1, (r2.2.2.2.2.2.1.1, (fun i => RiiiiiiiiiiL2.enc (r2.2.2.2.2.2.1.2 i))), (r2.2.2.2.2.2.2.1.1, (fun i => Riiiiiiii.enc (r2.2.2.2.2.2.2.1.2 i))), (r2.2.2.2.2.2.2.2.1, (fun i => Riiiii.enc (r2.2.2.2.2.2.2.2.2 i)))), ((IntKind.i64.wrap (r4.1.1 + 1)), r4.1.2.1, r4.1.2.2.1, r4.1.2.2.2.1, r4.1.2.2.2.2, (r4.2.1.1, (fun i => RiiiiiiiiiiL2.enc (r4.2.1.2 i))), (r4.2.2.1.1, (fun i => Riiiiiiii.enc (r4.2.2.1.2 i))), (r4.2.2.2.1, (fun i => Riiiii.enc (r4.2.2.2.2 i)))))).bind fun r10 =>
        bif (!r10) then
          (world.Right.f (r2.1, r2.2.1, r2.2.2.1, r2.2.2.2.1, r2.2.2.2.2.1, (r2.2.2.2.2.2.1.1, (fun i => RiiiiiiiiiiL2.enc (r2.2.2.2.2.2.1.2 i))), (r2.2.2.2.2.2.2.1.1, (fun i => Riiiiiiii.enc (r2.2.2.2.2.2.2.1.2 i))), (r2.2.2.2.2.2.2.2.1, (fun i => Riiiii.enc (r2.2.2.2.2.2.2.2.2 i))))).bind fun r11 =>
          some r11
        else
        some false
      else
      bif ((Go.bits .and .i64 p2 3) == 1) then
        bif (decide ((r4.2.2.2.1 + 1) * 40 ≤ 140737488355328)) then
        (world.Same.f ((r2.1, r2.2.1, r2.2.2.1, r2.2.2.2.1, r2.2.2.2.2.1, (r2.2.2.2.2.2.1.1, (fun i => RiiiiiiiiiiL2.enc (r2.2.2.2.2.2.1.2 i))), (r2.2.2.2.2.2.2.1.1, (fun i => Riiiiiiii.enc (r2.2.2.2.2.2.2.1.2 i))), (r2.2.2.2.2.2.2.2.1, (fun i => Riiiii.enc (r2.2.2.2.2.2.2.2.2 i)))), (r4.1.1, r4.1.2.1, r4.1.2.2.1, r4.1.2.2.2.1, r4.1.2.2.2.2, (r4.2.1.1, (fun i => RiiiiiiiiiiL2.enc (r4.2.1.2 i))), (r4.2.2.1.1, (fun i => Riiiiiiii.enc (r4.2.2.1.2 i))), ((r4.2.2.2.1 + 1), (fun i => cloL (frzC 15 ⟨true, 51, 8, r4.2.2.1.1, (fun i => Riiiiiiii.enc (r4.2.2.1.2 i)), none⟩ (frzC 14 ⟨true, 43, 11, r4.2.1.1, (fun i => RiiiiiiiiiiL2.enc (r4.2.1.2 i)), none⟩ (if i = r4.2.2.2.1 then Riiiii.enc (0, 0, 0, 0, 0) else Riiiii.enc (r4.2.2.2.2 i))))))))).bind fun r12 =>
        bif (!r12) then
          (world.Right.f (r2.1, r2.2.1, r2.2.2.1, r2.2.2.2.1, r2.2.2.2.2.1, (r2.2.2.2.2.2.1.1, (fun i => RiiiiiiiiiiL2.enc (r2.2.2.2.2.2.1.2 i))), (r2.2.2.2.2.2.2.1.1, (fun i => Riiiiiiii.enc (r2.2.2.2.2.2.2.1.2 i))), (r2.2.2.2.2.2.2.2.1, (fun i => Riiiii.enc (r2.2.2.2.2.2.2.2.2 i))))).bind fun r13 =>
          some r13
        else
        some false
        else none
      else
      bif (((r4.2.1.1 : Nat) : Int) == 0) then
        (world.Same.f ((r2.1, r2.2.1, r2.2.2.1, r2.2.2.2.1, r2.2.2.2.2.1, (r2.2.2.2.2.2.1.1, (fun i => RiiiiiiiiiiL2.enc (r2.2.2.2.2.2.1.2 i))), (r2.2.2.2.2.2.2.1.1, (fun i => Riiiiiiii.enc (r2.2.2.2.2.2.2.1.2 i))), (r2.2.2.2.2.2.2.2.1, (fun i => Riiiii.enc (r2.2.2.2.2.2.2.2.2 i)))), (r4.1.1, r4.1.2.1, r4.1.2.2.1, (IntKind.i64.wrap (r4.1.2.2.2.1 - 1)), r4.1.2.2.2.2, (r4.2.1.1, (fun i => RiiiiiiiiiiL2.enc (r4.2.1.2 i))), (r4.2.2.1.1, (fun i => Riiiiiiii.enc (r4.2.2.1.2 i))), (r4.2.2.2.1, (fun i => Riiiii.enc (r4.2.2.2.2 i)))))).bind fun r14 =>
        bif (!r14) then
          (world.Right.f (r2.1, r2.2.1, r2.2.2.1, r2.2.2.2.1, r2.2.2.2.2.1, (r2.2.2.2.2.2.1.1, (fun i => RiiiiiiiiiiL2.enc (r2.2.2.2.2.2.1.2 i))), (r2.2.2.2.2.2.2.1.1, (fun i => Riiiiiiii.enc (r2.2.2.2.2.2.2.1.2 i))), (r2.2.2.2.2.2.2.2.1, (fun i => Riiiii.enc (r2.2.2.2.2.2.2.2.2 i))))).bind fun r15 =>
          some r15
        else
        some false
      else
      bif ((Go.bits .and .i64 p2 4) == 0) then
        bif ((decide (0 ≤ (IntKind.i64.wrap (((r4.2.1.1 : Nat) : Int) - 1)))) && (decide ((IntKind.i64.wrap (((r4.2.1.1 : Nat) : Int) - 1)) < ((r4.2.1.1 : Nat) : Int)))) then
        bif ((decide (0 ≤ (IntKind.i64.wrap (((r4.2.1.1 : Nat) : Int) - 1)))) && (decide ((IntKind.i64.wrap (((r4.2.1.1 : Nat) : Int) - 1)) < ((r4.2.1.1 : Nat) : Int)))) then
        (world.Same.f ((r2.1, r2.2.1, r2.2.2.1, r2.2.2.2.1, r2.2.2.2.2.1, (r2.2.2.2.2.2.1.1, (fun i => RiiiiiiiiiiL2.enc (r2.2.2.2.2.2.1.2 i))), (r2.2.2.2.2.2.2.1.1, (fun i => Riiiiiiii.enc (r2.2.2.2.2.2.2.1.2 i))), (r2.2.2.2.2.2.2.2.1, (fun i => Riiiii.enc (r2.2.2.2.2.2.2.2.2 i)))), (r4.1.1, r4.1.2.1, r4.1.2.2.1, r4.1.2.2.2.1, r4.1.2.2.2.2, (r4.2.1.1, (fun i => cloL (if i = (Int.toNat (IntKind.i64.wrap (((r4.2.1.1 : Nat) : Int) - 1))) then RiiiiiiiiiiL2.enc ((r4.2.1.2 (Int.toNat (IntKind.i64.wrap (((r4.2.1.1 : Nat) : Int) - 1)))).1, (r4.2.1.2 (Int.toNat (IntKind.i64.wrap (((r4.2.1.1 : Nat) : Int) - 1)))).2.1, (r4.2.1.2 (Int.toNat (IntKind.i64.wrap (((r4.2.1.1 : Nat) : Int) - 1)))).2.2.1, (r4.2.1.2 (Int.toNat (IntKind.i64.wrap (((r4.2.1.1 : Nat) : Int) - 1)))).2.2.2.1, (IntKind.i64.wrap ((r4.2.1.2 (Int.toNat (IntKind.i64.wrap (((r4.2.1.1 : Nat) : Int) - 1)))).2.2.2.2.1 + 1)), (r4.2.1.2 (Int.toNat (IntKind.i64.wrap (((r4.2.1.1 : Nat) : Int) - 1)))).2.2.2.2.2.1, (r4.2.1.2 (Int.toNat (IntKind.i64.wrap (((r4.2.1.1 : Nat) : Int) - 1)))).2.2.2.2.2.2.1, (r4.2.1.2 (Int.toNat (IntKind.i64.wrap (((r4.2.1.1 : Nat) : Int) - 1)))).2.2.2.2.2.2.2.1, (r4.2.1.2 (Int.toNat (IntKind.i64.wrap (((r4.2.1.1 : Nat) : Int) - 1)))).2.2.2.2.2.2.2.2.1, (r4.2.1.2 (Int.toNat (IntKind.i64.wrap (((r4.2.1.1 : Nat) : Int) - 1)))).2.2.2.2.2.2.2.2.2.1, ((r4.2.1.2 (Int.toNat (IntKind.i64.wrap (((r4.2.1.1 : Nat) : Int) - 1)))).2.2.2.2.2.2.2.2.2.2.1, (r4.2.1.2 (Int.toNat (IntKind.i64.wrap (((r4.2.1.1 : Nat) : Int) - 1)))).2.2.2.2.2.2.2.2.2.2.2)) else RiiiiiiiiiiL2.enc (r4.2.1.2 i)))), (r4.2.2.1.1, (fun i => Riiiiiiii.enc (r4.2.2.1.2 i))), (r4.2.2.2.1, (fun i => Riiiii.enc (r4.2.2.2.2 i)))))).bind fun r16 =>
        bif (!r16) then
          (world.Right.f (r2.1, r2.2.1, r2.2.2.1, r2.2.2.2.1, r2.2.2.2.2.1, (r2.2.2.2.2.2.1.1, (fun i => RiiiiiiiiiiL2.enc (r2.2.2.2.2.2.1.2 i))), (r2.2.2.2.2.2.2.1.1, (fun i => Riiiiiiii.enc (r2.2.2.2.2.2.2.1.2 i))), (r2.2.2.2.2.2.2.2.1, (fun i => Riiiii.enc (r2.2.2.2.2.2.2.2.2 i))))).bind fun r17 =>
          some r17
        else
        some false
        else none
        else none
      else
      bif ((decide (0 ≤ (IntKind.i64.wrap (((r4.2.1.1 : Nat) : Int) - 1)))) && (decide ((IntKind.i64.wrap (((r4.2.1.1 : Nat) : Int) - 1)) < ((r4.2.1.1 : Nat) : Int)))) then
      bif ((((r4.2.1.2 (Int.toNat (IntKind.i64.wrap (((r4.2.1.1 : Nat) : Int) - 1)))).2.2.2.2.2.2.2.2.2.2.1 : Nat) : Int) == 0) then
      (world.Same.f ((r2.1, r2.2.1, r2.2.2.1, r2.2.2.2.1, r2.2.2.2.2.1, (r2.2.2.2.2.2.1.1, (fun i => RiiiiiiiiiiL2.enc (r2.2.2.2.2.2.1.2 i))), (r2.2.2.2.2.2.2.1.1, (fun i => Riiiiiiii.enc (r2.2.2.2.2.2.2.1.2 i))), (r2.2.2.2.2.2.2.2.1, (fun i => Riiiii.enc (r2.2.2.2.2.2.2.2.2 i)))), (r4.1.1, r4.1.2.1, r4.1.2.2.1, r4.1.2.2.2.1, r4.1.2.2.2.2, (r4.2.1.1, (fun i => cloL (if i = (Int.toNat (IntKind.i64.wrap (((r4.2.1.1 : Nat) : Int) - 1))) then RiiiiiiiiiiL2.enc ((r4.2.1.2 (Int.toNat (IntKind.i64.wrap (((r4.2.1.1 : Nat) : Int) - 1)))).1, (r4.2.1.2 (Int.toNat (IntKind.i64.wrap (((r4.2.1.1 : Nat) : Int) - 1)))).2.1, (r4.2.1.2 (Int.toNat (IntKind.i64.wrap (((r4.2.1.1 : Nat) : Int) - 1)))).2.2.1, (r4.2.1.2 (Int.toNat (IntKind.i64.wrap (((r4.2.1.1 : Nat) : Int) - 1)))).2.2.2.1, (r4.2.1.2 (Int.toNat (IntKind.i64.wrap (((r4.2.1.1 : Nat) : Int) - 1)))).2.2.2.2.1, (r4.2.1.2 (Int.toNat (IntKind.i64.wrap (((r4.2.1.1 : Nat) : Int) - 1)))).2.2.2.2.2.1, (r4.2.1.2 (Int.toNat (IntKind.i64.wrap (((r4.2.1.1 : Nat) : Int) - 1)))).2.2.2.2.2.2.1, (r4.2.1.2 (Int.toNat (IntKind.i64.wrap (((r4.2.1.1 : Nat) : Int) - 1)))).2.2.2.2.2.2.2.1, (r4.2.1.2 (Int.toNat (IntKind.i64.wrap (((r4.2.1.1 : Nat) : Int) - 1)))).2.2.2.2.2.2.2.2.1, (IntKind.i64.wrap ((r4.2.1.2 (Int.toNat (IntKind.i64.wrap (((r4.2.1.1 : Nat) : Int) - 1)))).2.2.2.2.2.2.2.2.2.1 + 1)), ((r4.2.1.2 (Int.toNat (IntKind.i64.wrap (((r4.2.1.1 : Nat) : Int) - 1)))).2.2.2.2.2.2.2.2.2.2.1, (r4.2.1.2 (Int.toNat (IntKind.i64.wrap (((r4.2.1.1 : Nat) : Int) - 1)))).2.2.2.2.2.2.2.2.2.2.2)) else RiiiiiiiiiiL2.enc (r4.2.1.2 i)))), (r4.2.2.1.1, (fun i => Riiiiiiii.enc (r4.2.2.1.2 i))), (r4.2.2.2.1, (fun i => Riiiii.enc (r4.2.2.2.2 i)))))).bind fun r18 =>
      bif (!r18) then
        (world.Right.f (r2.1, r2.2.1, r2.2.2.1, r2.2.2.2.1, r2.2.2.2.2.1, (r2.2.2.2.2.2.1.1, (fun i => RiiiiiiiiiiL2.enc (r2.2.2.2.2.2.1.2 i))), (r2.2.2.2.2.2.2.1.1, (fun i => Riiiiiiii.enc (r2.2.2.2.2.2.2.1.2 i))), (r2.2.2.2.2.2.2.2.1, (fun i => Riiiii.enc (r2.2.2.2.2.2.2.2.2 i))))).bind fun r19 =>
        some r19
      else
      some false
      else none
      else none
    else
    bif ((Go.bits .and .i64 p1_0 7) == 6) then
      (world.RemoveBody.f ((r3.1.1, r3.1.2.1, r3.1.2.2.1, r3.1.2.2.2.1, r3.1.2.2.2.2, (r3.2.1.1, (fun i => RiiiiiiiiiiL2.enc (r3.2.1.2 i))), (r3.2.2.1.1, (fun i => Riiiiiiii.enc (r3.2.2.1.2 i))), (r3.2.2.2.1, (fun i => Riiiii.enc (r3.2.2.2.2 i)))), (Go.bits .and .i64 p1_12 15))).bind fun r20 =>
      (world.Same.f ((r2.1, r2.2.1, r2.2.2.1, r2.2.2.2.1, r2.2.2.2.2.1, (r2.2.2.2.2.2.1.1, (fun i => RiiiiiiiiiiL2.enc (r2.2.2.2.2.2.1.2 i))), (r2.2.2.2.2.2.2.1.1, (fun i => Riiiiiiii.enc (r2.2.2.2.2.2.2.1.2 i))), (r2.2.2.2.2.2.2.2.1, (fun i => Riiiii.enc (r2.2.2.2.2.2.2.2.2 i)))), (r4.1.1, r4.1.2.1, r4.1.2.2.1, r4.1.2.2.2.1, r4.1.2.2.2.2, (r4.2.1.1, (fun i => RiiiiiiiiiiL2.enc (r4.2.1.2 i))), (r4.2.2.1.1, (fun i => Riiiiiiii.enc (r4.2.2.1.2 i))), (r4.2.2.2.1, (fun i => Riiiii.enc (r4.2.2.2.2 i)))))).bind fun r21 =>
      bif (!r21) then
        some false
      else
      bif ((IntKind.i64.wrap (((r2.2.2.2.2.2.1.1 : Nat) : Int) + ((r2.2.2.2.2.2.2.1.1 : Nat) : Int))) != (IntKind.i64.wrap (((r2.2.2.2.2.2.1.1 : Nat) : Int) + ((r2.2.2.2.2.2.2.1.1 : Nat) : Int)))) then
        some false
      else
      bif ((Go.bits .and .i64 p2 3) == 0) then
        (world.Same.f ((r2.1, r2.2.1, r2.2.2.1, r2.2.2.2.1, r2.2.2.2.2.1, (r2.2.2.2.2.2.1.1, (fun i => RiiiiiiiiiiL2.enc (r2.2.2.2.2.2.1.2 i))), (r2.2.2.2.2.2.2.1.1, (fun i => Riiiiiiii.enc (r2.2.2.2.2.2.2.1.2 i))), (r2.2.2.2.2.2.2.2.1, (fun i => Riiiii.enc (r2.2.2.2.2.2.2.2.2 i)))), ((IntKind.i64.wrap (r4.1.1 + 1)), r4.1.2.1, r4.1.2.2.1, r4.1.2.2.2.1, r4.1.2.2.2.2, (r4.2.1.1, (fun i => RiiiiiiiiiiL2.enc (r4.2.1.2 i))), (r4.2.2.1.1, (fun i => Riiiiiiii.enc (r4.2.2.1.2 i))), (r4.2.2.2.1, (fun i => Riiiii.enc (r4.2.2.2.2 i)))))).bind fun r22 =>
        bif (!r22) then
          (world.Right.f (r2.1, r2.2.1, r2.2.2.1, r2.2.2.2.1, r2.2.2.2.2.1, (r2.2.2.2.2.2.1.1, (fun i => RiiiiiiiiiiL2.enc (r2.2.2.2.2.2.1.2 i))), (r2.2.2.2.2.2.2.1.1, (fun i => Riiiiiiii.enc (r2.2.2.2.2.2.2.1.2 i))), (r2.2.2.2.2.2.2.2.1, (fun i => Riiiii.enc (r2.2.2.2.2.2.2.2.2 i))))).bind fun r23 =>
          some r23
        else
        some false
      else
      bif ((Go.bits .and .i64 p2 3) == 1) then
        bif (decide ((r4.2.2.2.1 + 1) * 40 ≤ 140737488355328)) then
        (world.Same.f ((r2.1, r2.2.1, r2.2.2.1, r2.2.2.2.1, r2.2.2.2.2.1, (r2.2.2.2.2.2.1.1, (fun i => RiiiiiiiiiiL2.enc (r2.2.2.2.2.2.1.2 i))), (r2.2.2.2.2.2.2.1.1, (fun i => Riiiiiiii.enc (r2.2.2.2.2.2.2.1.2 i))), (r2.2.2.2.2.2.2.2.1, (fun i => Riiiii.enc (r2.2.2.2.2.2.2.2.2 i)))), (r4.1.1, r4.1.2.1, r4.1.2.2.1, r4.1.2.2.2.1, r4.1.2.2.2.2, (r4.2.1.1, (fun i => RiiiiiiiiiiL2.enc (r4.2.1.2 i))), (r4.2.2.1.1, (fun i => Riiiiiiii.enc (r4.2.2.1.2 i))), ((r4.2.2.2.1 + 1), (fun i => cloL (frzC 15 ⟨true, 51, 8, r4.2.2.1.1, (fun i => Riiiiiiii.enc (r4.2.2.1.2 i)), none⟩ (frzC 14 ⟨true, 43, 11, r4.2.1.1, (fun i => RiiiiiiiiiiL2.enc (r4.2.1.2 i)), none⟩ (if i = r4.2.2.2.1 then Riiiii.enc (0, 0, 0, 0, 0) else Riiiii.enc (r4.2.2.2.2 i))))))))).bind fun r24 =>
        bif (!r24) then
          (world.Right.f (r2.1, r2.2.1, r2.2.2.1, r2.2.2.2.1, r2.2.2.2.2.1, (r2.2.2.2.2.2.1.1, (fun i => RiiiiiiiiiiL2.enc (r2.2.2.2.2.2.1.2 i))), (r2.2.2.2.2.2.2.1.1, (fun i => Riiiiiiii.enc (r2.2.2.2.2.2.2.1.2 i))), (r2.2.2.2.2.2.2.2.1, (fun i => Riiiii.enc (r2.2.2.2.2.2.2.2.2 i))))).bind fun r25 =>
          some r25
        else
        some false
        else none
      else
      bif (((r4.2.1.1 : Nat) : Int) == 0) then
        (world.Same.f ((r2.1, r2.2.1, r2.2.2.1, r2.2.2.2.1, r2.2.2.2.2.1, (r2.2.2.2.2.2.1.1, (fun i => RiiiiiiiiiiL2.enc (r2.2.2.2.2.2.1.2 i))), (r2.2.2.2.2.2.2.1.1, (fun i => Riiiiiiii.enc (r2.2.2.2.2.2.2.1.2 i))), (r2.2.2.2.2.2.2.2.1, (fun i => Riiiii.enc (r2.2.2.2.2.2.2.2.2 i)))), (r4.1.1, r4.1.2.1, r4.1.2.2.1, (IntKind.i64.wrap (r4.1.2.2.2.1 - 1)), r4.1.2.2.2.2, (r4.2.1.1, (fun i => RiiiiiiiiiiL2.enc (r4.2.1.2 i))), (r4.2.2.1.1, (fun i => Riiiiiiii.enc (r4.2.2.1.2 i))), (r4.2.2.2.1, (fun i => Riiiii.enc (r4.2.2.2.2 i)))))).bind fun r26 =>
        bif (!r26) then
          (world.Right.f (r2.1, r2.2.1, r2.2.2.1, r2.2.2.2.1, r2.2.2.2.2.1, (r2.2.2.2.2.2.1.1, (fun i => RiiiiiiiiiiL2.enc (r2.2.2.2.2.2.1.2 i))), (r2.2.2.2.2.2.2.1.1, (fun i => Riiiiiiii.enc (r2.2.2.2.2.2.2.1.2 i))), (r2.2.2.2.2.2.2.2.1, (fun i => Riiiii.enc (r2.2.2.2.2.2.2.2.2 i))))).bind fun r27 =>
          some r27
        else
        some false
      else
      bif ((Go.bits .and .i64 p2 4) == 0) then
        bif ((decide (0 ≤ (IntKind.i64.wrap (((r4.2.1.1 : Nat) : Int) - 1)))) && (decide ((IntKind.i64.wrap (((r4.2.1.1 : Nat) : Int) - 1)) < ((r4.2.1.1 : Nat) : Int)))) then
        bif ((decide (0 ≤ (IntKind.i64.wrap (((r4.2.1.1 : Nat) : Int) - 1)))) && (decide ((IntKind.i64.wrap (((r4.2.1.1 : Nat) : Int) - 1)) < ((r4.2.1.1 : Nat) : Int)))) then
        (world.Same.f ((r2.1, r2.2.1, r2.2.2.1, r2.2.2.2.1, r2.2.2.2.2.1, (r2.2.2.2.2.2.1.1, (fun i => RiiiiiiiiiiL2.enc (r2.2.2.2.2.2.1.2 i))), (r2.2.2.2.2.2.2.1.1, (fun i => Riiiiiiii.enc (r2.2.2.2.2.2.2.1.2 i))), (r2.2.2.2.2.2.2.2.1, (fun i => Riiiii.enc (r2.2.2.2.2.2.2.2.2 i)))), (r4.1.1, r4.1.2.1, r4.1.2.2.1, r4.1.2.2.2.1, r4.1.2.2.2.2, (r4.2.1.1, (fun i => cloL (if i = (Int.toNat (IntKind.i64.wrap (((r4.2.1.1 : Nat) : Int) - 1))) then RiiiiiiiiiiL2.enc ((r4.2.1.2 (Int.toNat (IntKind.i64.wrap (((r4.2.1.1 : Nat) : Int) - 1)))).1, (r4.2.1.2 (Int.toNat (IntKind.i64.wrap (((r4.2.1.1 : Nat) : Int) - 1)))).2.1, (r4.2.1.2 (Int.toNat (IntKind.i64.wrap (((r4.2.1.1 : Nat) : Int) - 1)))).2.2.1, (r4.2.1.2 (Int.toNat (IntKind.i64.wrap (((r4.2.1.1 : Nat) : Int) - 1)))).2.2.2.1, (IntKind.i64.wrap ((r4.2.1.2 (Int.toNat (IntKind.i64.wrap (((r4.2.1.1 : Nat) : Int) - 1)))).2.2.2.2.1 + 1)), (r4.2.1.2 (Int.toNat (IntKind.i64.wrap (((r4.2.1.1 : Nat) : Int) - 1)))).2.2.2.2.2.1, (r4.2.1.2 (Int.toNat (IntKind.i64.wrap (((r4.2.1.1 : Nat) : Int) - 1)))).2.2.2.2.2.2.1, (r4.2.1.2 (Int.toNat (IntKind.i64.wrap (((r4.2.1.1 : Nat) : Int) - 1)))).2.2.2.2.2.2.2.1, (r4.2.1.2 (Int.toNat (IntKind.i64.wrap (((r4.2.1.1 : Nat) : Int) - 1)))).2.2.2.2.2.2.2.2.1, (r4.2.1.2 (Int.toNat (IntKind.i64.wrap (((r4.2.1.1 : Nat) : Int) - 1)))).2.2.2.2.2.2.2.2.2.1, ((r4.2.1.2 (Int.toNat (IntKind.i64.wrap (((r4.2.1.1 : Nat) : Int) - 1)))).2.2.2.2.2.2.2.2.2.2.1, (r4.2.1.2 (Int.toNat (IntKind.i64.wrap (((r4.2.1.1 : Nat) : Int) - 1)))).2.2.2.2.2.2.2.2.2.2.2)) else RiiiiiiiiiiL2.enc (r4.2.1.2 i)))), (r4.2.2.1.1, (fun i => Riiiiiiii.enc (r4.2.2.1.2 i))), (r4.2.2.2.1, (fun i => Riiiii.enc (r4.2.2.2.2 i)))))).bind fun r28 =>
        bif (!r28) then
          (world.Right.f (r2.1, r2.2.1, r2.2.2.1, r2.2.2.2.1, r2.2.2.2.2.1, (r2.2.2.2.2.2.1.1, (fun i => RiiiiiiiiiiL2.enc (r2.2.2.2.2.2.1.2 i))), (r2.2.2.2.2.2.2.1.1, (fun i => Riiiiiiii.enc (r2.2.2.2.2.2.2.1.2 i))), (r2.2.2.2.2.2.2.2.1, (fun i => Riiiii.enc (r2.2.2.2.2.2.2.2.2 i))))).bind fun r29 =>
          some r29
        else
        some false
        else none
        else none
      else
      bif ((decide (0 ≤ (IntKind.i64.wrap (((r4.2.1.1 : Nat) : Int) - 1)))) && (decide ((IntKind.i64.wrap (((r4.2.1.1 : Nat) : Int) - 1)) < ((r4.2.1.1 : Nat) : Int)))) then
      bif ((((r4.2.1.2 (Int.toNat (IntKind.i64.wrap (((r4.2.1.1 : Nat) : Int) - 1)))).2.2.2.2.2.2.2.2.2.2.1 : Nat) : Int) == 0) then
      (world.Same.f ((r2.1, r2.2.1, r2.2.2.1, r2.2.2.2.1, r2.2.2.2.2.1, (r2.2.2.2.2.2.1.1, (fun i => RiiiiiiiiiiL2.enc (r2.2.2.2.2.2.1.2 i))), (r2.2.2.2.2.2.2.1.1, (fun i => Riiiiiiii.enc (r2.2.2.2.2.2.2.1.2 i))), (r2.2.2.2.2.2.2.2.1, (fun i => Riiiii.enc (r2.2.2.2.2.2.2.2.2 i)))), (r4.1.1, r4.1.2.1, r4.1.2.2.1, r4.1.2.2.2.1, r4.1.2.2.2.2, (r4.2.1.1, (fun i => cloL (if i = (Int.toNat (IntKind.i64.wrap (((r4.2.1.1 : Nat) : Int) - 1))) then RiiiiiiiiiiL2.enc ((r4.2.1.2 (Int.toNat (IntKind.i64.wrap (((r4.2.1.1 : Nat) : Int) - 1)))).1, (r4.2.1.2 (Int.toNat (IntKind.i64.wrap (((r4.2.1.1 : Nat) : Int) - 1)))).2.1, (r4.2.1.2 (Int.toNat (IntKind.i64.wrap (((r4.2.1.1 : Nat) : Int) - 1)))).2.2.1, (r4.2.1.2 (Int.toNat (IntKind.i64.wrap (((r4.2.1.1 : Nat) : Int) - 1)))).2.2.2.1, (r4.2.1.2 (Int.toNat (IntKind.i64.wrap (((r4.2.1.1 : Nat) : Int) - 1)))).2.2.2.2.1, (r4.2.1.2 (Int.toNat (IntKind.i64.wrap (((r4.2.1.1 : Nat) : Int) - 1)))).2.2.2.2.2.1, (r4.2.1.2 (Int.toNat (IntKind.i64.wrap (((r4.2.1.1 : Nat) : Int) - 1)))).2.2.2.2.2.2.1, (r4.2.1.2 (Int.toNat (IntKind.i64.wrap (((r4.2.1.1 : Nat) : Int) - 1)))).2.2.2.2.2.2.2.1, (r4.2.1.2 (Int.toNat (IntKind.i64.wrap (((r4.2.1.1 : Nat) : Int) - 1)))).2.2.2.2.2.2.2.2.1, (IntKind.i64.wrap ((r4.2.1.2 (Int.toNat (IntKind.i64.wrap (((r4.2.1.1 : Nat) : Int) - 1)))).2.2.2.2.2.2.2.2.2.1 + 1)), ((r4.2.1.2 (Int.toNat (IntKind.i64.wrap (((r4.2.1.1 : Nat) : Int) - 1)))).2.2.2.2.2.2.2.2.2.2.1, (r4.2.1.2 (Int.toNat (IntKind.i64.wrap (((r4.2.1.1 : Nat) : Int) - 1)))).2.2.2.2.2.2.2.2.2.2.2)) else RiiiiiiiiiiL2.enc (r4.2.1.2 i)))), (r4.2.2.1.1, (fun i => Riiiiiiii.enc (r4.2.2.1.2 i))), (r4.2.2.2.1, (fun i => Riiiii.enc (r4.2.2.2.2 i)))))).bind fun r30 =>
      bif (!r30) then
        (world.Right.f (r2.1, r2.2.1, r2.2.2.1, r2.2.2.2.1, r2.2.2.2.2.1, (r2.2.2.2.2.2.1.1, (fun i => RiiiiiiiiiiL2.enc (r2.2.2.2.2.2.1.2 i))), (r2.2.2.2.2.2.2.1.1, (fun i => Riiiiiiii.enc (r2.2.2.2.2.2.2.1.2 i))), (r2.2.2.2.2.2.2.2.1, (fun i => Riiiii.enc (r2.2.2.2.2.2.2.2.2 i))))).bind fun r31 =>
        some r31
      else
      some false
      else none
      else none
    else
    bif ((Go.bits .and .i64 p1_0 7) == 3) then
      (world.RemoveJoint.f ((r3.1.1, r3.1.2.1, r3.1.2.2.1, r3.1.2.2.2.1, r3.1.2.2.2.2, (r3.2.1.1, (fun i => RiiiiiiiiiiL2.enc (r3.2.1.2 i))), (r3.2.2.1.1, (fun i => Riiiiiiii.enc (r3.2.2.1.2 i))), (r3.2.2.2.1, (fun i => Riiiii.enc (r3.2.2.2.2 i)))), (Go.bits .and .i64 p1_12 15))).bind fun r32 =>
      (world.Same.f ((r2.1, r2.2.1, r2.2.2.1, r2.2.2.2.1, r2.2.2.2.2.1, (r2.2.2.2.2.2.1.1, (fun i => RiiiiiiiiiiL2.enc (r2.2.2.2.2.2.1.2 i))), (r2.2.2.2.2.2.2.1.1, (fun i => Riiiiiiii.enc (r2.2.2.2.2.2.2.1.2 i))), (r2.2.2.2.2.2.2.2.1, (fun i => Riiiii.enc (r2.2.2.2.2.2.2.2.2 i)))), (r4.1.1, r4.1.2.1, r4.1.2.2.1, r4.1.2.2.2.1, r4.1.2.2.2.2, (r4.2.1.1, (fun i => RiiiiiiiiiiL2.enc (r4.2.1.2 i))), (r4.2.2.1.1, (fun i => Riiiiiiii.enc (r4.2.2.1.2 i))), (r4.2.2.2.1, (fun i => Riiiii.enc (r4.2.2.2.2 i)))))).bind fun r33 =>
      bif (!r33) then
        some false
      else
      bif ((IntKind.i64.wrap (((r2.2.2.2.2.2.1.1 : Nat) : Int) + ((r2.2.2.2.2.2.2.1.1 : Nat) : Int))) != (IntKind.i64.wrap (((r2.2.2.2.2.2.1.1 : Nat) : Int) + ((r2.2.2.2.2.2.2.1.1 : Nat) : Int)))) then
        some false
      else
      bif ((Go.bits .and .i64 p2 3) == 0) then
        (world.Same.f ((r2.1, r2.2.1, r2.2.2.1, r2.2.2.2.1, r2.2.2.2.2.1, (r2.2.2.2.2.2.1.1, (fun i => RiiiiiiiiiiL2.enc (r2.2.2.2.2.2.1.2 i))), (r2.2.2.2.2.2.2.1.1, (fun i => Riiiiiiii.enc (r2.2.2.2.2.2.2.1.2 i))), (r2.2.2.2.2.2.2.2.1, (fun i => Riiiii.enc (r2.2.2.2.2.2.2.2.2 i)))), ((IntKind.i64.wrap (r4.1.1 + 1)), r4.1.2.1, r4.1.2.2.1, r4.1.2.2.2.1, r4.1.2.2.2.2, (r4.2.1.1, (fun i => RiiiiiiiiiiL2.enc (r4.2.1.2 i))), (r4.2.2.1.1, (fun i => Riiiiiiii.enc (r4.2.2.1.2 i))), (r4.2.2.2.1, (fun i => Riiiii.enc (r4.2.2.2.2 i)))))).bind fun r34 =>
        bif (!r34) then
          (world.Right.f (r2.1, r2.2.1, r2.2.2.1, r2.2.2.2.1, r2.2.2.2.2.1, (r2.2.2.2.2.2.1.1, (fun i => RiiiiiiiiiiL2.enc (r2.2.2.2.2.2.1.2 i))), (r2.2.2.2.2.2.2.1.1, (fun i => Riiiiiiii.enc (r2.2.2.2.2.2.2.1.2 i))), (r2.2.2.2.2.2.2.2.1, (fun i => Riiiii.enc (r2.2.2.2.2.2.2.2.2 i))))).bind fun r35 =>
          some r35
        else
        some false
      else
      bif ((Go.bits .and .i64 p2 3) == 1) then
        bif (decide ((r4.2.2.2.1 + 1) * 40 ≤ 140737488355328)) then
        (world.Same.f ((r2.1, r2.2.1, r2.2.2.1, r2.2.2.2.1, r2.2.2.2.2.1, (r2.2.2.2.2.2.1.1, (fun i => RiiiiiiiiiiL2.enc (r2.2.2.2.2.2.1.2 i))), (r2.2.2.2.2.2.2.1.1, (fun i => Riiiiiiii.enc (r2.2.2.2.2.2.2.1.2 i))), (r2.2.2.2.2.2.2.2.1, (fun i => Riiiii.enc (r2.2.2.2.2.2.2.2.2 i)))), (r4.1.1, r4.1.2.1, r4.1.2.2.1, r4.1.2.2.2.1, r4.1.2.2.2.2, (r4.2.1.1, (fun i => RiiiiiiiiiiL2.enc (r4.2.1.2 i))), (r4.2.2.1.1, (fun i => Riiiiiiii.enc (r4.2.2.1.2 i))), ((r4.2.2.2.1 + 1), (fun i => cloL (frzC 15 ⟨true, 51, 8, r4.2.2.1.1, (fun i => Riiiiiiii.enc (r4.2.2.1.2 i)), none⟩ (frzC 14 ⟨true, 43, 11, r4.2.1.1, (fun i => RiiiiiiiiiiL2.enc (r4.2.1.2 i)), none⟩ (if i = r4.2.2.2.1 then Riiiii.enc (0, 0, 0, 0, 0) else Riiiii.enc (r4.2.2.2.2 i))))))))).bind fun r36 =>
        bif (!r36) then
          (world.Right.f (r2.1, r2.2.1, r2.2.2.1, r2.2.2.2.1, r2.2.2.2.2.1, (r2.2.2.2.2.2.1.1, (fun i => RiiiiiiiiiiL2.enc (r2.2.2.2.2.2.1.2 i))), (r2.2.2.2.2.2.2.1.1, (fun i => Riiiiiiii.enc (r2.2.2.2.2.2.2.1.2 i))), (r2.2.2.2.2.2.2.2.1, (fun i => Riiiii.enc (r2.2.2.2.2.2.2.2.2 i))))).bind fun r37 =>
          some r37
        else
        some false
        else none
      else
      bif (((r4.2.1.1 : Nat) : Int) == 0) then
        (world.Same.f ((r2.1, r2.2.1, r2.2.2.1, r2.2.2.2.1, r2.2.2.2.2.1, (r2.2.2.2.2.2.1.1, (fun i => RiiiiiiiiiiL2.enc (r2.2.2.2.2.2.1.2 i))), (r2.2.2.2.2.2.2.1.1, (fun i => Riiiiiiii.enc (r2.2.2.2.2.2.2.1.2 i))), (r2.2.2.2.2.2.2.2.1, (fun i => Riiiii.enc (r2.2.2.2.2.2.2.2.2 i)))), (r4.1.1, r4.1.2.1, r4.1.2.2.1, (IntKind.i64.wrap (r4.1.2.2.2.1 - 1)), r4.1.2.2.2.2, (r4.2.1.1, (fun i => RiiiiiiiiiiL2.enc (r4.2.1.2 i))), (r4.2.2.1.1, (fun i => Riiiiiiii.enc (r4.2.2.1.2 i))), (r4.2.2.2.1, (fun i => Riiiii.enc (r4.2.2.2.2 i)))))).bind fun r38 =>
        bif (!r38) then
          (world.Right.f (r2.1, r2.2.1, r2.2.2.1, r2.2.2.2.1, r2.2.2.2.2.1, (r2.2.2.2.2.2.1.1, (fun i => RiiiiiiiiiiL2.enc (r2.2.2.2.2.2.1.2 i))), (r2.2.2.2.2.2.2.1.1, (fun i => Riiiiiiii.enc (r2.2.2.2.2.2.2.1.2 i))), (r2.2.2.2.2.2.2.2.1, (fun i => Riiiii.enc (r2.2.2.2.2.2.2.2.2 i))))).bind fun r39 =>
          some r39
        else
        some false
      else
      bif ((Go.bits .and .i64 p2 4) == 0) then
        bif ((decide (0 ≤ (IntKind.i64.wrap (((r4.2.1.1 : Nat) : Int) - 1)))) && (decide ((IntKind.i64.wrap (((r4.2.1.1 : Nat) : Int) - 1)) < ((r4.2.1.1 : Nat) : Int)))) then
        bif ((decide (0 ≤ (IntKind.i64.wrap (((r4.2.1.1 : Nat) : Int) - 1)))) && (decide ((IntKind.i64.wrap (((r4.2.1.1 : Nat) : Int) - 1)) < ((r4.2.1.1 : Nat) : Int)))) then
        (world.Same.f ((r2.1, r2.2.1, r2.2.2.1, r2.2.2.2.1, r2.2.2.2.2.1, (r2.2.2.2.2.2.1.1, (fun i => RiiiiiiiiiiL2.enc (r2.2.2.2.2.2.1.2 i))), (r2.2.2.2.2.2.2.1.1, (fun i => Riiiiiiii.enc (r2.2.2.2.2.2.2.1.2 i))), (r2.2.2.2.2.2.2.2.1, (fun i => Riiiii.enc (r2.2.2.2.2.2.2.2.2 i)))), (r4.1.1, r4.1.2.1, r4.1.2.2.1, r4.1.2.2.2.1, r4.1.2.2.2.2, (r4.2.1.1, (fun i => cloL (if i = (Int.toNat (IntKind.i64.wrap (((r4.2.1.1 : Nat) : Int) - 1))) then RiiiiiiiiiiL2.enc ((r4.2.1.2 (Int.toNat (IntKind.i64.wrap (((r4.2.1.1 : Nat) : Int) - 1)))).1, (r4.2.1.2 (Int.toNat (IntKind.i64.wrap (((r4.2.1.1 : Nat) : Int) - 1)))).2.1, (r4.2.1.2 (Int.toNat (IntKind.i64.wrap (((r4.2.1.1 : Nat) : Int) - 1)))).2.2.1, (r4.2.1.2 (Int.toNat (IntKind.i64.wrap (((r4.2.1.1 : Nat) : Int) - 1)))).2.2.2.1, (IntKind.i64.wrap ((r4.2.1.2 (Int.toNat (IntKind.i64.wrap (((r4.2.1.1 : Nat) : Int) - 1)))).2.2.2.2.1 + 1)), (r4.2.1.2 (Int.toNat (IntKind.i64.wrap (((r4.2.1.1 : Nat) : Int) - 1)))).2.2.2.2.2.1, (r4.2.1.2 (Int.toNat (IntKind.i64.wrap (((r4.2.1.1 : Nat) : Int) - 1)))).2.2.2.2.2.2.1, (r4.2.1.2 (Int.toNat (IntKind.i64.wrap (((r4.2.1.1 : Nat) : Int) - 1)))).2.2.2.2.2.2.2.1, (r4.2.1.2 (Int.toNat (IntKind.i64.wrap (((r4.2.1.1 : Nat) : Int) - 1)))).2.2.2.2.2.2.2.2.1, (r4.2.1.2 (Int.toNat (IntKind.i64.wrap (((r4.2.1.1 : Nat) : Int) - 1)))).2.2.2.2.2.2.2.2.2.1, ((r4.2.1.2 (Int.toNat (IntKind.i64.wrap (((r4.2.1.1 : Nat) : Int) - 1)))).2.2.2.2.2.2.2.2.2.2.1, (r4.2.1.2 (Int.toNat (IntKind.i64.wrap (((r4.2.1.1 : Nat) : Int) - 1)))).2.2.2.2.2.2.2.2.2.2.2)) else RiiiiiiiiiiL2.enc (r4.2.1.2 i)))), (r4.2.2.1.1, (fun i => Riiiiiiii.enc (r4.2.2.1.2 i))), (r4.2.2.2.1, (fun i => Riiiii.enc (r4.2.2.2.2 i)))))).bind fun r40 =>
        bif (!r40) then
          (world.Right.f (r2.1, r2.2.1, r2.2.2.1, r2.2.2.2.1, r2.2.2.2.2.1, (r2.2.2.2.2.2.1.1, (fun i => RiiiiiiiiiiL2.enc (r2.2.2.2.2.2.1.2 i))), (r2.2.2.2.2.2.2.1.1, (fun i => Riiiiiiii.enc (r2.2.2.2.2.2.2.1.2 i))), (r2.2.2.2.2.2.2.2.1, (fun i => Riiiii.enc (r2.2.2.2.2.2.2.2.2 i))))).bind fun r41 =>
          some r41
        else
        some false
        else none
        else none
      else
      bif ((decide (0 ≤ (IntKind.i64.wrap (((r4.2.1.1 : Nat) : Int) - 1)))) && (decide ((IntKind.i64.wrap (((r4.2.1.1 : Nat) : Int) - 1)) < ((r4.2.1.1 : Nat) : Int)))) then
      bif ((((r4.2.1.2 (Int.toNat (IntKind.i64.wrap (((r4.2.1.1 : Nat) : Int) - 1)))).2.2.2.2.2.2.2.2.2.2.1 : Nat) : Int) == 0) then
      (world.Same.f ((r2.1, r2.2.1, r2.2.2.1, r2.2.2.2.1, r2.2.2.2.2.1, (r2.2.2.2.2.2.1.1, (fun i => RiiiiiiiiiiL2.enc (r2.2.2.2.2.2.1.2 i))), (r2.2.2.2.2.2.2.1.1, (fun i => Riiiiiiii.enc (r2.2.2.2.2.2.2.1.2 i))), (r2.2.2.2.2.2.2.2.1, (fun i => Riiiii.enc (r2.2.2.2.2.2.2.2.2 i)))), (r4.1.1, r4.1.2.1, r4.1.2.2.1, r4.1.2.2.2.1, r4.1.2.2.2.2, (r4.2.1.1, (fun i => cloL (if i = (Int.toNat (IntKind.i64.wrap (((r4.2.1.1 : Nat) : Int) - 1))) then RiiiiiiiiiiL2.enc ((r4.2.1.2 (Int.toNat (IntKind.i64.wrap (((r4.2.1.1 : Nat) : Int) - 1)))).1, (r4.2.1.2 (Int.toNat (IntKind.i64.wrap (((r4.2.1.1 : Nat) : Int) - 1)))).2.1, (r4.2.1.2 (Int.toNat (IntKind.i64.wrap (((r4.2.1.1 : Nat) : Int) - 1)))).2.2.1, (r4.2.1.2 (Int.toNat (IntKind.i64.wrap (((r4.2.1.1 : Nat) : Int) - 1)))).2.2.2.1, (r4.2.1.2 (Int.toNat (IntKind.i64.wrap (((r4.2.1.1 : Nat) : Int) - 1)))).2.2.2.2.1, (r4.2.1.2 (Int.toNat (IntKind.i64.wrap (((r4.2.1.1 : Nat) : Int) - 1)))).2.2.2.2.2.1, (r4.2.1.2 (Int.toNat (IntKind.i64.wrap (((r4.2.1.1 : Nat) : Int) - 1)))).2.2.2.2.2.2.1, (r4.2.1.2 (Int.toNat (IntKind.i64.wrap (((r4.2.1.1 : Nat) : Int) - 1)))).2.2.2.2.2.2.2.1, (r4.2.1.2 (Int.toNat (IntKind.i64.wrap (((r4.2.1.1 : Nat) : Int) - 1)))).2.2.2.2.2.2.2.2.1, (IntKind.i64.wrap ((r4.2.1.2 (Int.toNat (IntKind.i64.wrap (((r4.2.1.1 : Nat) : Int) - 1)))).2.2.2.2.2.2.2.2.2.1 + 1)), ((r4.2.1.2 (Int.toNat (IntKind.i64.wrap (((r4.2.1.1 : Nat) : Int) - 1)))).2.2.2.2.2.2.2.2.2.2.1, (r4.2.1.2 (Int.toNat (IntKind.i64.wrap (((r4.2.1.1 : Nat) : Int) - 1)))).2.2.2.2.2.2.2.2.2.2.2)) else RiiiiiiiiiiL2.enc (r4.2.1.2 i)))), (r4.2.2.1.1, (fun i => Riiiiiiii.enc (r4.2.2.1.2 i))), (r4.2.2.2.1, (fun i => Riiiii.enc (r4.2.2.2.2 i)))))).bind fun r42 =>
      bif (!r42) then
        (world.Right.f (r2.1, r2.2.1, r2.2.2.1, r2.2.2.2.1, r2.2.2.2.2.1, (r2.2.2.2.2.2.1.1, (fun i => RiiiiiiiiiiL2.enc (r2.2.2.2.2.2.1.2 i))), (r2.2.2.2.2.2.2.1.1, (fun i => Riiiiiiii.enc (r2.2.2.2.2.2.2.1.2 i))), (r2.2.2.2.2.2.2.2.1, (fun i => Riiiii.enc (r2.2.2.2.2.2.2.2.2 i))))).bind fun r43 =>
        some r43
      else
      some false
      else none
      else none
    else
    (law09.Deed.Body.f (p1_0, p1_1, p1_2, p1_3, p1_4, p1_5, p1_6, p1_7, p1_8, p1_9, p1_10, p1_11, p1_12, p1_13, p1_14, p1_15, p1_16, p1_17, p1_18, p1_19, p1_20, p1_21, p1_22, p1_23, p1_24, p1_25, p1_26, p1_27, p1_28, (p1_29_n, (fun i => Rii.enc (p1_29_g i))))).bind fun r44 =>
    (world.AddBody.f ((r3.1.1, r3.1.2.1, r3.1.2.2.1, r3.1.2.2.2.1, r3.1.2.2.2.2, (r3.2.1.1, (fun i => RiiiiiiiiiiL2.enc (r3.2.1.2 i))), (r3.2.2.1.1, (fun i => Riiiiiiii.enc (r3.2.2.1.2 i))), (r3.2.2.2.1, (fun i => Riiiii.enc (r3.2.2.2.2 i)))), (r44.1, r44.2.1, r44.2.2.1, r44.2.2.2.1, r44.2.2.2.2.1, r44.2.2.2.2.2.1, r44.2.2.2.2.2.2.1, r44.2.2.2.2.2.2.2.1, r44.2.2.2.2.2.2.2.2.1, r44.2.2.2.2.2.2.2.2.2.1, (r44.2.2.2.2.2.2.2.2.2.2.1, (fun i => Rii.enc (r44.2.2.2.2.2.2.2.2.2.2.2 i)))))).bind fun r45 =>
    (world.Same.f ((r2.1, r2.2.1, r2.2.2.1, r2.2.2.2.1, r2.2.2.2.2.1, (r2.2.2.2.2.2.1.1, (fun i => RiiiiiiiiiiL2.enc (r2.2.2.2.2.2.1.2 i))), (r2.2.2.2.2.2.2.1.1, (fun i => Riiiiiiii.enc (r2.2.2.2.2.2.2.1.2 i))), (r2.2.2.2.2.2.2.2.1, (fun i => Riiiii.enc (r2.2.2.2.2.2.2.2.2 i)))), (r4.1.1, r4.1.2.1, r4.1.2.2.1, r4.1.2.2.2.1, r4.1.2.2.2.2, (r4.2.1.1, (fun i => RiiiiiiiiiiL2.enc (r4.2.1.2 i))), (r4.2.2.1.1, (fun i => Riiiiiiii.enc (r4.2.2.1.2 i))), (r4.2.2.2.1, (fun i => Riiiii.enc (r4.2.2.2.2 i)))))).bind fun r46 =>
    bif (!r46) then
      some false
    else
    bif ((IntKind.i64.wrap (((r2.2.2.2.2.2.1.1 : Nat) : Int) + ((r2.2.2.2.2.2.2.1.1 : Nat) : Int))) != (IntKind.i64.wrap (((r2.2.2.2.2.2.1.1 : Nat) : Int) + ((r2.2.2.2.2.2.2.1.1 : Nat) : Int)))) then
      some false
    else
    bif ((Go.bits .and .i64 p2 3) == 0) then
      (world.Same.f ((r2.1, r2.2.1, r2.2.2.1, r2.2.2.2.1, r2.2.2.2.2.1, (r2.2.2.2.2.2.1.1, (fun i => RiiiiiiiiiiL2.enc (r2.2.2.2.2.2.1.2 i))), (r2.2.2.2.2.2.2.1.1, (fun i => Riiiiiiii.enc (r2.2.2.2.2.2.2.1.2 i))), (r2.2.2.2.2.2.2.2.1, (fun i => Riiiii.enc (r2.2.2.2.2.2.2.2.2 i)))), ((IntKind.i64.wrap (r4.1.1 + 1)), r4.1.2.1, r4.1.2.2.1, r4.1.2.2.2.1, r4.1.2.2.2.2, (r4.2.1.1, (fun i => RiiiiiiiiiiL2.enc (r4.2.1.2 i))), (r4.2.2.1.1, (fun i => Riiiiiiii.enc (r4.2.2.1.2 i))), (r4.2.2.2.1, (fun i => Riiiii.enc (r4.2.2.2.2 i)))))).bind fun r47 =>
      bif (!r47) then
        (world.Right.f (r2.1, r2.2.1, r2.2.2.1, r2.2.2.2.1, r2.2.2.2.2.1, (r2.2.2.2.2.2.1.1, (fun i => RiiiiiiiiiiL2.enc (r2.2.2.2.2.2.1.2 i))), (r2.2.2.2.2.2.2.1.1, (fun i => Riiiiiiii.enc (r2.2.2.2.2.2.2.1.2 i))), (r2.2.2.2.2.2.2.2.1, (fun i => Riiiii.enc (r2.2.2.2.2.2.2.2.2 i))))).bind fun r48 =>
        some r48
      else
      some false
    else
    bif ((Go.bits .and .i64 p2 3) == 1) then
      bif (decide ((r4.2.2.2.1 + 1) * 40 ≤ 140737488355328)) then
      (world.Same.f ((r2.1, r2.2.1, r2.2.2.1, r2.2.2.2.1, r2.2.2.2.2.1, (r2.2.2.2.2.2.1.1, (fun i => RiiiiiiiiiiL2.enc (r2.2.2.2.2.2.1.2 i))), (r2.2.2.2.2.2.2.1.1, (fun i => Riiiiiiii.enc (r2.2.2.2.2.2.2.1.2 i))), (r2.2.2.2.2.2.2.2.1, (fun i => Riiiii.enc (r2.2.2.2.2.2.2.2.2 i)))), (r4.1.1, r4.1.2.1, r4.1.2.2.1, r4.1.2.2.2.1, r4.1.2.2.2.2, (r4.2.1.1, (fun i => RiiiiiiiiiiL2.enc (r4.2.1.2 i))), (r4.2.2.1.1, (fun i => Riiiiiiii.enc (r4.2.2.1.2 i))), ((r4.2.2.2.1 + 1), (fun i => cloL (frzC 15 ⟨true, 51, 8, r4.2.2.1.1, (fun i => Riiiiiiii.enc (r4.2.2.1.2 i)), none⟩ (frzC 14 ⟨true, 43, 11, r4.2.1.1, (fun i => RiiiiiiiiiiL2.enc (r4.2.1.2 i)), none⟩ (if i = r4.2.2.2.1 then Riiiii.enc (0, 0, 0, 0, 0) else Riiiii.enc (r4.2.2.2.2 i))))))))).bind fun r49 =>
      bif (!r49) then
        (world.Right.f (r2.1, r2.2.1, r2.2.2.1, r2.2.2.2.1, r2.2.2.2.2.1, (r2.2.2.2.2.2.1.1, (fun i => RiiiiiiiiiiL2.enc (r2.2.2.2.2.2.1.2 i))), (r2.2.2.2.2.2.2.1.1, (fun i => Riiiiiiii.enc (r2.2.2.2.2.2.2.1.2 i))), (r2.2.2.2.2.2.2.2.1, (fun i => Riiiii.enc (r2.2.2.2.2.2.2.2.2 i))))).bind fun r50 =>
        some r50
      else
      some false
      else none
    else
    bif (((r4.2.1.1 : Nat) : Int) == 0) then
      (world.Same.f ((r2.1, r2.2.1, r2.2.2.1, r2.2.2.2.1, r2.2.2.2.2.1, (r2.2.2.2.2.2.1.1, (fun i => RiiiiiiiiiiL2.enc (r2.2.2.2.2.2.1.2 i))), (r2.2.2.2.2.2.2.1.1, (fun i => Riiiiiiii.enc (r2.2.2.2.2.2.2.1.2 i))), (r2.2.2.2.2.2.2.2.1, (fun i => Riiiii.enc (r2.2.2.2.2.2.2.2.2 i)))), (r4.1.1, r4.1.2.1, r4.1.2.2.1, (IntKind.i64.wrap (r4.1.2.2.2.1 - 1)), r4.1.2.2.2.2, (r4.2.1.1, (fun i => RiiiiiiiiiiL2.enc (r4.2.1.2 i))), (r4.2.2.1.1, (fun i => Riiiiiiii.enc (r4.2.2.1.2 i))), (r4.2.2.2.1, (fun i => Riiiii.enc (r4.2.2.2.2 i)))))).bind fun r51 =>
      bif (!r51) then
        (world.Right.f (r2.1, r2.2.1, r2.2.2.1, r2.2.2.2.1, r2.2.2.2.2.1, (r2.2.2.2.2.2.1.1, (fun i => RiiiiiiiiiiL2.enc (r2.2.2.2.2.2.1.2 i))), (r2.2.2.2.2.2.2.1.1, (fun i => Riiiiiiii.enc (r2.2.2.2.2.2.2.1.2 i))), (r2.2.2.2.2.2.2.2.1, (fun i => Riiiii.enc (r2.2.2.2.2.2.2.2.2 i))))).bind fun r52 =>
        some r52
      else
      some false
    else
    bif ((Go.bits .and .i64 p2 4) == 0) then
      bif ((decide (0 ≤ (IntKind.i64.wrap (((r4.2.1.1 : Nat) : Int) - 1)))) && (decide ((IntKind.i64.wrap (((r4.2.1.1 : Nat) : Int) - 1)) < ((r4.2.1.1 : Nat) : Int)))) then
      bif ((decide (0 ≤ (IntKind.i64.wrap (((r4.2.1.1 : Nat) : Int) - 1)))) && (decide ((IntKind.i64.wrap (((r4.2.1.1 : Nat) : Int) - 1)) < ((r4.2.1.1 : Nat) : Int)))) then
      (world.Same.f ((r2.1, r2.2.1, r2.2.2.1, r2.2.2.2.1, r2.2.2.2.2.1, (r2.2.2.2.2.2.1.1, (fun i => RiiiiiiiiiiL2.enc (r2.2.2.2.2.2.1.2 i))), (r2.2.2.2.2.2.2.1.1, (fun i => Riiiiiiii.enc (r2.2.2.2.2.2.2.1.2 i))), (r2.2.2.2.2.2.2.2.1, (fun i => Riiiii.enc (r2.2.2.2.2.2.2.2.2 i)))), (r4.1.1, r4.1.2.1, r4.1.2.2.1, r4.1.2.2.2.1, r4.1.2.2.2.2, (r4.2.1.1, (fun i => cloL (if i = (Int.toNat (IntKind.i64.wrap (((r4.2.1.1 : Nat) : Int) - 1))) then RiiiiiiiiiiL2.enc ((r4.2.1.2 (Int.toNat (IntKind.i64.wrap (((r4.2.1.1 : Nat) : Int) - 1)))).1, (r4.2.1.2 (Int.toNat (IntKind.i64.wrap (((r4.2.1.1 : Nat) : Int) - 1)))).2.1, (r4.2.1.2 (Int.toNat (IntKind.i64.wrap (((r4.2.1.1 : Nat) : Int) - 1)))).2.2.1, (r4.2.1.2 (Int.toNat (IntKind.i64.wrap (((r4.2.1.1 : Nat) : Int) - 1)))).2.2.2.1, (IntKind.i64.wrap ((r4.2.1.2 (Int.toNat (IntKind.i64.wrap (((r4.2.1.1 : Nat) : Int) - 1)))).2.2.2.2.1 + 1)), (r4.2.1.2 (Int.toNat (IntKind.i64.wrap (((r4.2.1.1 : Nat) : Int) - 1)))).2.2.2.2.2.1, (r4.2.1.2 (Int.toNat (IntKind.i64.wrap (((r4.2.1.1 : Nat) : Int) - 1)))).2.2.2.2.2.2.1, (r4.2.1.2 (Int.toNat (IntKind.i64.wrap (((r4.2.1.1 : Nat) : Int) - 1)))).2.2.2.2.2.2.2.1, (r4.2.1.2 (Int.toNat (IntKind.i64.wrap (((r4.2.1.1 : Nat) : Int) - 1)))).2.2.2.2.2.2.2.2.1, (r4.2.1.2 (Int.toNat (IntKind.i64.wrap (((r4.2.1.1 : Nat) : Int) - 1)))).2.2.2.2.2.2.2.2.2.1, ((r4.2.1.2 (Int.toNat (IntKind.i64.wrap (((r4.2.1.1 : Nat) : Int) - 1)))).2.2.2.2.2.2.2.2.2.2.1, (r4.2.1.2 (Int.toNat (IntKind.i64.wrap (((r4.2.1.1 : Nat) : Int) - 1)))).2.2.2.2.2.2.2.2.2.2.2)) else RiiiiiiiiiiL2.enc (r4.2.1.2 i)))), (r4.2.2.1.1, (fun i => Riiiiiiii.enc (r4.2.2.1.2 i))), (r4.2.2.2.1, (fun i => Riiiii.enc (r4.2.2.2.2 i)))))).bind fun r53 =>
      bif (!r53) then
        (world.Right.f (r2.1, r2.2.1, r2.2.2.1, r2.2.2.2.1, r2.2.2.2.2.1, (r2.2.2.2.2.2.1.1, (fun i => RiiiiiiiiiiL2.enc (r2.2.2.2.2.2.1.2 i))), (r2.2.2.2.2.2.2.1.1, (fun i => Riiiiiiii.enc (r2.2.2.2.2.2.2.1.2 i))), (r2.2.2.2.2.2.2.2.1, (fun i => Riiiii.enc (r2.2.2.2.2.2.2.2.2 i))))).bind fun r54 =>
        some r54
      else
      some false
      else none
      else none
    else
    bif ((decide (0 ≤ (IntKind.i64.wrap (((r4.2.1.1 : Nat) : Int) - 1)))) && (decide ((IntKind.i64.wrap (((r4.2.1.1 : Nat) : Int) - 1)) < ((r4.2.1.1 : Nat) : Int)))) then
    bif ((((r4.2.1.2 (Int.toNat (IntKind.i64.wrap (((r4.2.1.1 : Nat) : Int) - 1)))).2.2.2.2.2.2.2.2.2.2.1 : Nat) : Int) == 0) then
    (world.Same.f ((r2.1, r2.2.1, r2.2.2.1, r2.2.2.2.1, r2.2.2.2.2.1, (r2.2.2.2.2.2.1.1, (fun i => RiiiiiiiiiiL2.enc (r2.2.2.2.2.2.1.2 i))), (r2.2.2.2.2.2.2.1.1, (fun i => Riiiiiiii.enc (r2.2.2.2.2.2.2.1.2 i))), (r2.2.2.2.2.2.2.2.1, (fun i => Riiiii.enc (r2.2.2.2.2.2.2.2.2 i)))), (r4.1.1, r4.1.2.1, r4.1.2.2.1, r4.1.2.2.2.1, r4.1.2.2.2.2, (r4.2.1.1, (fun i => cloL (if i = (Int.toNat (IntKind.i64.wrap (((r4.2.1.1 : Nat) : Int) - 1))) then RiiiiiiiiiiL2.enc ((r4.2.1.2 (Int.toNat (IntKind.i64.wrap (((r4.2.1.1 : Nat) : Int) - 1)))).1, (r4.2.1.2 (Int.toNat (IntKind.i64.wrap (((r4.2.1.1 : Nat) : Int) - 1)))).2.1, (r4.2.1.2 (Int.toNat (IntKind.i64.wrap (((r4.2.1.1 : Nat) : Int) - 1)))).2.2.1, (r4.2.1.2 (Int.toNat (IntKind.i64.wrap (((r4.2.1.1 : Nat) : Int) - 1)))).2.2.2.1, (r4.2.1.2 (Int.toNat (IntKind.i64.wrap (((r4.2.1.1 : Nat) : Int) - 1)))).2.2.2.2.1, (r4.2.1.2 (Int.toNat (IntKind.i64.wrap (((r4.2.1.1 : Nat) : Int) - 1)))).2.2.2.2.2.1, (r4.2.1.2 (Int.toNat (IntKind.i64.wrap (((r4.2.1.1 : Nat) : Int) - 1)))).2.2.2.2.2.2.1, (r4.2.1.2 (Int.toNat (IntKind.i64.wrap (((r4.2.1.1 : Nat) : Int) - 1)))).2.2.2.2.2.2.2.1, (r4.2.1.2 (Int.toNat (IntKind.i64.wrap (((r4.2.1.1 : Nat) : Int) - 1)))).2.2.2.2.2.2.2.2.1, (IntKind.i64.wrap ((r4.2.1.2 (Int.toNat (IntKind.i64.wrap (((r4.2.1.1 : Nat) : Int) - 1)))).2.2.2.2.2.2.2.2.2.1 + 1)), ((r4.2.1.2 (Int.toNat (IntKind.i64.wrap (((r4.2.1.1 : Nat) : Int) - 1)))).2.2.2.2.2.2.2.2.2.2.1, (r4.2.1.2 (Int.toNat (IntKind.i64.wrap (((r4.2.1.1 : Nat) : Int) - 1)))).2.2.2.2.2.2.2.2.2.2.2)) else RiiiiiiiiiiL2.enc (r4.2.1.2 i)))), (r4.2.2.1.1, (fun i => Riiiiiiii.enc (r4.2.2.1.2 i))), (r4.2.2.2.1, (fun i => Riiiii.enc (r4.2.2.2.2 i)))))).bind fun r55 =>
    bif (!r55) then
      (world.Right.f (r2.1, r2.2.1, r2.2.2.1, r2.2.2.2.1, r2.2.2.2.2.1, (r2.2.2.2.2.2.1.1, (fun i => RiiiiiiiiiiL2.enc (r2.2.2.2.2.2.1.2 i))), (r2.2.2.2.2.2.2.1.1, (fun i => Riiiiiiii.enc (r2.2.2.2.2.2.2.1.2 i))), (r2.2.2.2.2.2.2.2.1, (fun i => Riiiii.enc (r2.2.2.2.2.2.2.2.2 i))))).bind fun r56 =>
      some r56
    else
    some false
    else none
    else none
  else
  bif ((Go.bits .and .i64 p1_0 7) == 5) then
    (law09.Deed.Joint.f (p1_0, p1_1, p1_2, p1_3, p1_4, p1_5, p1_6, p1_7, p1_8, p1_9, p1_10, p1_11, p1_12, p1_13, p1_14, p1_15, p1_16, p1_17, p1_18, p1_19, p1_20, p1_21, p1_22, p1_23, p1_24, p1_25, p1_26, p1_27, p1_28, (p1_29_n, (fun i => Rii.enc (p1_29_g i))))).bind fun r57 =>
    (world.AddJoint.f ((r3.1.1, r3.1.2.1, r3.1.2.2.1, r3.1.2.2.2.1, r3.1.2.2.2.2, (r3.2.1.1, (fun i => RiiiiiiiiiiL2.enc (r3.2.1.2 i))), (r3.2.2.1.1, (fun i => Riiiiiiii.enc (r3.2.2.1.2 i))), (r3.2.2.2.1, (fun i => Riiiii.enc (r3.2.2.2.2 i)))), (r57.1, r57.2.1, r57.2.2.1, r57.2.2.2.1, r57.2.2.2.2.1, r57.2.2.2.2.2.1, r57.2.2.2.2.2.2.1, r57.2.2.2.2.2.2.2))).bind fun r58 =>
    (world.Same.f ((r2.1, r2.2.1, r2.2.2.1, r2.2.2.2.1, r2.2.2.2.2.1, (r2.2.2.2.2.2.1.1, (fun i => RiiiiiiiiiiL2.enc (r2.2.2.2.2.2.1.2 i))), (r2.2.2.2.2.2.2.1.1, (fun i => Riiiiiiii.enc (r2.2.2.2.2.2.2.1.2 i))), (r2.2.2.2.2.2.2.2.1, (fun i => Riiiii.enc (r2.2.2.2.2.2.2.2.2 i)))), (r4.1.1, r4.1.2.1, r4.1.2.2.1, r4.1.2.2.2.1, r4.1.2.2.2.2, (r4.2.1.1, (fun i => RiiiiiiiiiiL2.enc (r4.2.1.2 i))), (r4.2.2.1.1, (fun i => Riiiiiiii.enc (r4.2.2.1.2 i))), (r4.2.2.2.1, (fun i => Riiiii.enc (r4.2.2.2.2 i)))))).bind fun r59 =>
    bif (!r59) then
      some false
    else
    bif ((IntKind.i64.wrap (((r2.2.2.2.2.2.1.1 : Nat) : Int) + ((r2.2.2.2.2.2.2.1.1 : Nat) : Int))) != (IntKind.i64.wrap (((r2.2.2.2.2.2.1.1 : Nat) : Int) + ((r2.2.2.2.2.2.2.1.1 : Nat) : Int)))) then
      some false
    else
    bif ((Go.bits .and .i64 p2 3) == 0) then
      (world.Same.f ((r2.1, r2.2.1, r2.2.2.1, r2.2.2.2.1, r2.2.2.2.2.1, (r2.2.2.2.2.2.1.1, (fun i => RiiiiiiiiiiL2.enc (r2.2.2.2.2.2.1.2 i))), (r2.2.2.2.2.2.2.1.1, (fun i => Riiiiiiii.enc (r2.2.2.2.2.2.2.1.2 i))), (r2.2.2.2.2.2.2.2.1, (fun i => Riiiii.enc (r2.2.2.2.2.2.2.2.2 i)))), ((IntKind.i64.wrap (r4.1.1 + 1)), r4.1.2.1, r4.1.2.2.1, r4.1.2.2.2.1, r4.1.2.2.2.2, (r4.2.1.1, (fun i => RiiiiiiiiiiL2.enc (r4.2.1.2 i))), (r4.2.2.1.1, (fun i => Riiiiiiii.enc (r4.2.2.1.2 i))), (r4.2.2.2.1, (fun i => Riiiii.enc (r4.2.2.2.2 i)))))).bind fun r60 =>
      bif (!r60) then
        (world.Right.f (r2.1, r2.2.1, r2.2.2.1, r2.2.2.2.1, r2.2.2.2.2.1, (r2.2.2.2.2.2.1.1, (fun i => RiiiiiiiiiiL2.enc (r2.2.2.2.2.2.1.2 i))), (r2.2.2.2.2.2.2.1.1, (fun i => Riiiiiiii.enc (r2.2.2.2.2.2.2.1.2 i))), (r2.2.2.2.2.2.2.2.1, (fun i => Riiiii.enc (r2.2.2.2.2.2.2.2.2 i))))).bind fun r61 =>
        some r61
      else
      some false
    else
    bif ((Go.bits .and .i64 p2 3) == 1) then
      bif (decide ((r4.2.2.2.1 + 1) * 40 ≤ 140737488355328)) then
      (world.Same.f ((r2.1, r2.2.1, r2.2.2.1, r2.2.2.2.1, r2.2.2.2.2.1, (r2.2.2.2.2.2.1.1, (fun i => RiiiiiiiiiiL2.enc (r2.2.2.2.2.2.1.2 i))), (r2.2.2.2.2.2.2.1.1, (fun i => Riiiiiiii.enc (r2.2.2.2.2.2.2.1.2 i))), (r2.2.2.2.2.2.2.2.1, (fun i => Riiiii.enc (r2.2.2.2.2.2.2.2.2 i)))), (r4.1.1, r4.1.2.1, r4.1.2.2.1, r4.1.2.2.2.1, r4.1.2.2.2.2, (r4.2.1.1, (fun i => RiiiiiiiiiiL2.enc (r4.2.1.2 i))), (r4.2.2.1.1, (fun i => Riiiiiiii.enc (r4.2.2.1.2 i))), ((r4.2.2.2.1 + 1), (fun i => cloL (frzC 15 ⟨true, 51, 8, r4.2.2.1.1, (fun i => Riiiiiiii.enc (r4.2.2.1.2 i)), none⟩ (frzC 14 ⟨true, 43, 11, r4.2.1.1, (fun i => RiiiiiiiiiiL2.enc (r4.2.1.2 i)), none⟩ (if i = r4.2.2.2.1 then Riiiii.enc (0, 0, 0, 0, 0) else Riiiii.enc (r4.2.2.2.2 i))))))))).bind fun r62 =>
      bif (!r62) then
        (world.Right.f (r2.1, r2.2.1, r2.2.2.1, r2.2.2.2.1, r2.2.2.2.2.1, (r2.2.2.2.2.2.1.1, (fun i => RiiiiiiiiiiL2.enc (r2.2.2.2.2.2.1.2 i))), (r2.2.2.2.2.2.2.1.1, (fun i => Riiiiiiii.enc (r2.2.2.2.2.2.2.1.2 i))), (r2.2.2.2.2.2.2.2.1, (fun i => Riiiii.enc (r2.2.2.2.2.2.2.2.2 i))))).bind fun r63 =>
        some r63
      else
      some false
      else none
    else
    bif (((r4.2.1.1 : Nat) : Int) == 0) then
      (world.Same.f ((r2.1, r2.2.1, r2.2.2.1, r2.2.2.2.1, r2.2.2.2.2.1, (r2.2.2.2.2.2.1.1, (fun i => RiiiiiiiiiiL2.enc (r2.2.2.2.2.2.1.2 i))), (r2.2.2.2.2.2.2.1.1, (fun i => Riiiiiiii.enc (r2.2.2.2.2.2.2.1.2 i))), (r2.2.2.2.2.2.2.2.1, (fun i => Riiiii.enc (r2.2.2.2.2.2.2.2.2 i)))), (r4.1.1, r4.1.2.1, r4.1.2.2.1, (IntKind.i64.wrap (r4.1.2.2.2.1 - 1)), r4.1.2.2.2.2, (r4.2.1.1, (fun i => RiiiiiiiiiiL2.enc (r4.2.1.2 i))), (r4.2.2.1.1, (fun i => Riiiiiiii.enc (r4.2.2.1.2 i))), (r4.2.2.2.1, (fun i => Riiiii.enc (r4.2.2.2.2 i)))))).bind fun r64 =>
      bif (!r64) then
        (world.Right.f (r2.1, r2.2.1, r2.2.2.1, r2.2.2.2.1, r2.2.2.2.2.1, (r2.2.2.2.2.2.1.1, (fun i => RiiiiiiiiiiL2.enc (r2.2.2.2.2.2.1.2 i))), (r2.2.2.2.2.2.2.1.1, (fun i => Riiiiiiii.enc (r2.2.2.2.2.2.2.1.2 i))), (r2.2.2.2.2.2.2.2.1, (fun i => Riiiii.enc (r2.2.2.2.2.2.2.2.2 i))))).bind fun r65 =>
        some r65
      else
      some false
    else
    bif ((Go.bits .and .i64 p2 4) == 0) then
      bif ((decide (0 ≤ (IntKind.i64.wrap (((r4.2.1.1 : Nat) : Int) - 1)))) && (decide ((IntKind.i64.wrap (((r4.2.1.1 : Nat) : Int) - 1)) < ((r4.2.1.1 : Nat) : Int)))) then
      bif ((decide (0 ≤ (IntKind.i64.wrap (((r4.2.1.1 : Nat) : Int) - 1)))) && (decide ((IntKind.i64.wrap (((r4.2.1.1 : Nat) : Int) - 1)) < ((r4.2.1.1 : Nat) : Int)))) then
      (world.Same.f ((r2.1, r2.2.1, r2.2.2.1, r2.2.2.2.1, r2.2.2.2.2.1, (r2.2.2.2.2.2.1.1, (fun i => RiiiiiiiiiiL2.enc (r2.2.2.2.2.2.1.2 i))), (r2.2.2.2.2.2.2.1.1, (fun i => Riiiiiiii.enc (r2.2.2.2.2.2.2.1.2 i))), (r2.2.2.2.2.2.2.2.1, (fun i => Riiiii.enc (r2.2.2.2.2.2.2.2.2 i)))), (r4.1.1, r4.1.2.1, r4.1.2.2.1, r4.1.2.2.2.1, r4.1.2.2.2.2, (r4.2.1.1, (fun i => cloL (if i = (Int.toNat (IntKind.i64.wrap (((r4.2.1.1 : Nat) : Int) - 1))) then RiiiiiiiiiiL2.enc ((r4.2.1.2 (Int.toNat (IntKind.i64.wrap (((r4.2.1.1 : Nat) : Int) - 1)))).1, (r4.2.1.2 (Int.toNat (IntKind.i64.wrap (((r4.2.1.1 : Nat) : Int) - 1)))).2.1, (r4.2.1.2 (Int.toNat (IntKind.i64.wrap (((r4.2.1.1 : Nat) : Int) - 1)))).2.2.1, (r4.2.1.2 (Int.toNat (IntKind.i64.wrap (((r4.2.1.1 : Nat) : Int) - 1)))).2.2.2.1, (IntKind.i64.wrap ((r4.2.1.2 (Int.toNat (IntKind.i64.wrap (((r4.2.1.1 : Nat) : Int) - 1)))).2.2.2.2.1 + 1)), (r4.2.1.2 (Int.toNat (IntKind.i64.wrap (((r4.2.1.1 : Nat) : Int) - 1)))).2.2.2.2.2.1, (r4.2.1.2 (Int.toNat (IntKind.i64.wrap (((r4.2.1.1 : Nat) : Int) - 1)))).2.2.2.2.2.2.1, (r4.2.1.2 (Int.toNat (IntKind.i64.wrap (((r4.2.1.1 : Nat) : Int) - 1)))).2.2.2.2.2.2.2.1, (r4.2.1.2 (Int.toNat (IntKind.i64.wrap (((r4.2.1.1 : Nat) : Int) - 1)))).2.2.2.2.2.2.2.2.1, (r4.2.1.2 (Int.toNat (IntKind.i64.wrap (((r4.2.1.1 : Nat) : Int) - 1)))).2.2.2.2.2.2.2.2.2.1, ((r4.2.1.2 (Int.toNat (IntKind.i64.wrap (((r4.2.1.1 : Nat) : Int) - 1)))).2.2.2.2.2.2.2.2.2.2.1, (r4.2.1.2 (Int.toNat (IntKind.i64.wrap (((r4.2.1.1 : Nat) : Int) - 1)))).2.2.2.2.2.2.2.2.2.2.2)) else RiiiiiiiiiiL2.enc (r4.2.1.2 i)))), (r4.2.2.1.1, (fun i => Riiiiiiii.enc (r4.2.2.1.2 i))), (r4.2.2.2.1, (fun i => Riiiii.enc (r4.2.2.2.2 i)))))).bind fun r66 =>
      bif (!r66) then
        (world.Right.f (r2.1, r2.2.1, r2.2.2.1, r2.2.2.2.1, r2.2.2.2.2.1, (r2.2.2.2.2.2.1.1, (fun i => RiiiiiiiiiiL2.enc (r2.2.2.2.2.2.1.2 i))), (r2.2.2.2.2.2.2.1.1, (fun i => Riiiiiiii.enc (r2.2.2.2.2.2.2.1.2 i))), (r2.2.2.2.2.2.2.2.1, (fun i => Riiiii.enc (r2.2.2.2.2.2.2.2.2 i))))).bind fun r67 =>
        some r67
      else
      some false
      else none
      else none
    else
    bif ((decide (0 ≤ (IntKind.i64.wrap (((r4.2.1.1 : Nat) : Int) - 1)))) && (decide ((IntKind.i64.wrap (((r4.2.1.1 : Nat) : Int) - 1)) < ((r4.2.1.1 : Nat) : Int)))) then
    bif ((((r4.2.1.2 (Int.toNat (IntKind.i64.wrap (((r4.2.1.1 : Nat) : Int) - 1)))).2.2.2.2.2.2.2.2.2.2.1 : Nat) : Int) == 0) then
    (world.Same.f ((r2.1, r2.2.1, r2.2.2.1, r2.2.2.2.1, r2.2.2.2.2.1, (r2.2.2.2.2.2.1.1, (fun i => RiiiiiiiiiiL2.enc (r2.2.2.2.2.2.1.2 i))), (r2.2.2.2.2.2.2.1.1, (fun i => Riiiiiiii.enc (r2.2.2.2.2.2.2.1.2 i))), (r2.2.2.2.2.2.2.2.1, (fun i => Riiiii.enc (r2.2.2.2.2.2.2.2.2 i)))), (r4.1.1, r4.1.2.1, r4.1.2.2.1, r4.1.2.2.2.1, r4.1.2.2.2.2, (r4.2.1.1, (fun i => cloL (if i = (Int.toNat (IntKind.i64.wrap (((r4.2.1.1 : Nat) : Int) - 1))) then RiiiiiiiiiiL2.enc ((r4.2.1.2 (Int.toNat (IntKind.i64.wrap (((r4.2.1.1 : Nat) : Int) - 1)))).1, (r4.2.1.2 (Int.toNat (IntKind.i64.wrap (((r4.2.1.1 : Nat) : Int) - 1)))).2.1, (r4.2.1.2 (Int.toNat (IntKind.i64.wrap (((r4.2.1.1 : Nat) : Int) - 1)))).2.2.1, (r4.2.1.2 (Int.toNat (IntKind.i64.wrap (((r4.2.1.1 : Nat) : Int) - 1)))).2.2.2.1, (r4.2.1.2 (Int.toNat (IntKind.i64.wrap (((r4.2.1.1 : Nat) : Int) - 1)))).2.2.2.2.1, (r4.2.1.2 (Int.toNat (IntKind.i64.wrap (((r4.2.1.1 : Nat) : Int) - 1)))).2.2.2.2.2.1, (r4.2.1.2 (Int.toNat (IntKind.i64.wrap (((r4.2.1.1 : Nat) : Int) - 1)))).2.2.2.2.2.2.1, (r4.2.1.2 (Int.toNat (IntKind.i64.wrap (((r4.2.1.1 : Nat) : Int) - 1)))).2.2.2.2.2.2.2.1, (r4.2.1.2 (Int.toNat (IntKind.i64.wrap (((r4.2.1.1 : Nat) : Int) - 1)))).2.2.2.2.2.2.2.2.1, (IntKind.i64.wrap ((r4.2.1.2 (Int.toNat (IntKind.i64.wrap (((r4.2.1.1 : Nat) : Int) - 1)))).2.2.2.2.2.2.2.2.2.1 + 1)), ((r4.2.1.2 (Int.toNat (IntKind.i64.wrap (((r4.2.1.1 : Nat) : Int) - 1)))).2.2.2.2.2.2.2.2.2.2.1, (r4.2.1.2 (Int.toNat (IntKind.i64.wrap (((r4.2.1.1 : Nat) : Int) - 1)))).2.2.2.2.2.2.2.2.2.2.2)) else RiiiiiiiiiiL2.enc (r4.2.1.2 i)))), (r4.2.2.1.1, (fun i => Riiiiiiii.enc (r4.2.2.1.2 i))), (r4.2.2.2.1, (fun i => Riiiii.enc (r4.2.2.2.2 i)))))).bind fun r68 =>
    bif (!r68) then
      (world.Right.f (r2.1, r2.2.1, r2.2.2.1, r2.2.2.2.1, r2.2.2.2.2.1, (r2.2.2.2.2.2.1.1, (fun i => RiiiiiiiiiiL2.enc (r2.2.2.2.2.2.1.2 i))), (r2.2.2.2.2.2.2.1.1, (fun i => Riiiiiiii.enc (r2.2.2.2.2.2.2.1.2 i))), (r2.2.2.2.2.2.2.2.1, (fun i => Riiiii.enc (r2.2.2.2.2.2.2.2.2 i))))).bind fun r69 =>
      some r69
    else
    some false
    else none
    else none
  else
  bif ((Go.bits .and .i64 p1_0 7) == 6) then
    (world.RemoveBody.f ((r3.1.1, r3.1.2.1, r3.1.2.2.1, r3.1.2.2.2.1, r3.1.2.2.2.2, (r3.2.1.1, (fun i => RiiiiiiiiiiL2.enc (r3.2.1.2 i))), (r3.2.2.1.1, (fun i => Riiiiiiii.enc (r3.2.2.1.2 i))), (r3.2.2.2.1, (fun i => Riiiii.enc (r3.2.2.2.2 i)))), (Go.bits .and .i64 p1_12 15))).bind fun r70 =>
    (world.Same.f ((r2.1, r2.2.1, r2.2.2.1, r2.2.2.2.1, r2.2.2.2.2.1, (r2.2.2.2.2.2.1.1, (fun i => RiiiiiiiiiiL2.enc (r2.2.2.2.2.2.1.2 i))), (r2.2.2.2.2.2.2.1.1, (fun i => Riiiiiiii.enc (r2.2.2.2.2.2.2.1.2 i))), (r2.2.2.2.2.2.2.2.1, (fun i => Riiiii.enc (r2.2.2.2.2.2.2.2.2 i)))), (r4.1.1, r4.1.2.1, r4.1.2.2.1, r4.1.2.2.2.1, r4.1.2.2.2.2, (r4.2.1.1, (fun i => RiiiiiiiiiiL2.enc (r4.2.1.2 i))), (r4.2.2.1.1, (fun i => Riiiiiiii.enc (r4.2.2.1.2 i))), (r4.2.2.2.1, (fun i => Riiiii.enc (r4.2.2.2.2 i)))))).bind fun r71 =>
    bif (!r71) then
      some false
    else
    bif ((IntKind.i64.wrap (((r2.2.2.2.2.2.1.1 : Nat) : Int) + ((r2.2.2.2.2.2.2.1.1 : Nat) : Int))) != (IntKind.i64.wrap (((r2.2.2.2.2.2.1.1 : Nat) : Int) + ((r2.2.2.2.2.2.2.1.1 : Nat) : Int)))) then
      some false
    else
    bif ((Go.bits .and .i64 p2 3) == 0) then
      (world.Same.f ((r2.1, r2.2.1, r2.2.2.1, r2.2.2.2.1, r2.2.2.2.2.1, (r2.2.2.2.2.2.1.1, (fun i => RiiiiiiiiiiL2.enc (r2.2.2.2.2.2.1.2 i))), (r2.2.2.2.2.2.2.1.1, (fun i => Riiiiiiii.enc (r2.2.2.2.2.2.2.1.2 i))), (r2.2.2.2.2.2.2.2.1, (fun i => Riiiii.enc (r2.2.2.2.2.2.2.2.2 i)))), ((IntKind.i64.wrap (r4.1.1 + 1)), r4.1.2.1, r4.1.2.2.1, r4.1.2.2.2.1, r4.1.2.2.2.2, (r4.2.1.1, (fun i => RiiiiiiiiiiL2.enc (r4.2.1.2 i))), (r4.2.2.1.1, (fun i => Riiiiiiii.enc (r4.2.2.1.2 i))), (r4.2.2.2.1, (fun i => Riiiii.enc (r4.2.2.2.2 i)))))).bind fun r72 =>
      bif (!r72) then
        (world.Right.f (r2.1, r2.2.1, r2.2.2.1, r2.2.2.2.1, r2.2.2.2.2.1, (r2.2.2.2.2.2.1.1, (fun i => RiiiiiiiiiiL2.enc (r2.2.2.2.2.2.1.2 i))), (r2.2.2.2.2.2.2.1.1, (fun i => Riiiiiiii.enc (r2.2.2.2.2.2.2.1.2 i))), (r2.2.2.2.2.2.2.2.1, (fun i => Riiiii.enc (r2.2.2.2.2.2.2.2.2 i))))).bind fun r73 =>
        some r73
      else
      some false
    else
    bif ((Go.bits .and .i64 p2 3) == 1) then
      bif (decide ((r4.2.2.2.1 + 1) * 40 ≤ 140737488355328)) then
      (world.Same.f ((r2.1, r2.2.1, r2.2.2.1, r2.2.2.2.1, r2.2.2.2.2.1, (r2.2.2.2.2.2.1.1, (fun i => RiiiiiiiiiiL2.enc (r2.2.2.2.2.2.1.2 i))), (r2.2.2.2.2.2.2.1.1, (fun i => Riiiiiiii.enc (r2.2.2.2.2.2.2.1.2 i))), (r2.2.2.2.2.2.2.2.1, (fun i => Riiiii.enc (r2.2.2.2.2.2.2.2.2 i)))), (r4.1.1, r4.1.2.1, r4.1.2.2.1, r4.1.2.2.2.1, r4.1.2.2.2.2, (r4.2.1.1, (fun i => RiiiiiiiiiiL2.enc (r4.2.1.2 i))), (r4.2.2.1.1, (fun i => Riiiiiiii.enc (r4.2.2.1.2 i))), ((r4.2.2.2.1 + 1), (fun i => cloL (frzC 15 ⟨true, 51, 8, r4.2.2.1.1, (fun i => Riiiiiiii.enc (r4.2.2.1.2 i)), none⟩ (frzC 14 ⟨true, 43, 11, r4.2.1.1, (fun i => RiiiiiiiiiiL2.enc (r4.2.1.2 i)), none⟩ (if i = r4.2.2.2.1 then Riiiii.enc (0, 0, 0, 0, 0) else Riiiii.enc (r4.2.2.2.2 i))))))))).bind fun r74 =>
      bif (!r74) then
        (world.Right.f (r2.1, r2.2.1, r2.2.2.1, r2.2.2.2.1, r2.2.2.2.2.1, (r2.2.2.2.2.2.1.1, (fun i => RiiiiiiiiiiL2.enc (r2.2.2.2.2.2.1.2 i))), (r2.2.2.2.2.2.2.1.1, (fun i => Riiiiiiii.enc (r2.2.2.2.2.2.2.1.2 i))), (r2.2.2.2.2.2.2.2.1, (fun i => Riiiii.enc (r2.2.2.2.2.2.2.2.2 i))))).bind fun r75 =>
        some r75
      else
      some false
      else none
    else
    bif (((r4.2.1.1 : Nat) : Int) == 0) then
      (world.Same.f ((r2.1, r2.2.1, r2.2.2.1, r2.2.2.2.1, r2.2.2.2.2.1, (r2.2.2.2.2.2.1.1, (fun i => RiiiiiiiiiiL2.enc (r2.2.2.2.2.2.1.2 i))), (r2.2.2.2.2.2.2.1.1, (fun i => Riiiiiiii.enc (r2.2.2.2.2.2.2.1.2 i))), (r2.2.2.2.2.2.2.2.1, (fun i => Riiiii.enc (r2.2.2.2.2.2.2.2.2 i)))), (r4.1.1, r4.1.2.1, r4.1.2.2.1, (IntKind.i64.wrap (r4.1.2.2.2.1 - 1)), r4.1.2.2.2.2, (r4.2.1.1, (fun i => RiiiiiiiiiiL2.enc (r4.2.1.2 i))), (r4.2.2.1.1, (fun i => Riiiiiiii.enc (r4.2.2.1.2 i))), (r4.2.2.2.1, (fun i => Riiiii.enc (r4.2.2.2.2 i)))))).bind fun r76 =>
      bif (!r76) then
        (world.Right.f (r2.1, r2.2.1, r2.2.2.1, r2.2.2.2.1, r2.2.2.2.2.1, (r2.2.2.2.2.2.1.1, (fun i => RiiiiiiiiiiL2.enc (r2.2.2.2.2.2.1.2 i))), (r2.2.2.2.2.2.2.1.1, (fun i => Riiiiiiii.enc (r2.2.2.2.2.2.2.1.2 i))), (r2.2.2.2.2.2.2.2.1, (fun i => Riiiii.enc (r2.2.2.2.2.2.2.2.2 i))))).bind fun r77 =>
        some r77
      else
      some false
    else
    bif ((Go.bits .and .i64 p2 4) == 0) then
      bif ((decide (0 ≤ (IntKind.i64.wrap (((r4.2.1.1 : Nat) : Int) - 1)))) && (decide ((IntKind.i64.wrap (((r4.2.1.1 : Nat) : Int) - 1)) < ((r4.2.1.1 : Nat) : Int)))) then
      bif ((decide (0 ≤ (IntKind.i64.wrap (((r4.2.1.1 : Nat) : Int) - 1)))) && (decide ((IntKind.i64.wrap (((r4.2.1.1 : Nat) : Int) - 1)) < ((r4.2.1.1 : Nat) : Int)))) then
      (world.Same.f ((r2.1, r2.2.1, r2.2.2.1, r2.2.2.2.1, r2.2.2.2.2.1, (r2.2.2.2.2.2.1.1, (fun i => RiiiiiiiiiiL2.enc (r2.2.2.2.2.2.1.2 i))), (r2.2.2.2.2.2.2.1.1, (fun i => Riiiiiiii.enc (r2.2.2.2.2.2.2.1.2 i))), (r2.2.2.2.2.2.2.2.1, (fun i => Riiiii.enc (r2.2.2.2.2.2.2.2.2 i)))), (r4.1.1, r4.1.2.1, r4.1.2.2.1, r4.1.2.2.2.1, r4.1.2.2.2.2, (r4.2.1.1, (fun i => cloL (if i = (Int.toNat (IntKind.i64.wrap (((r4.2.1.1 : Nat) : Int) - 1))) then RiiiiiiiiiiL2.enc ((r4.2.1.2 (Int.toNat (IntKind.i64.wrap (((r4.2.1.1 : Nat) : Int) - 1)))).1, (r4.2.1.2 (Int.toNat (IntKind.i64.wrap (((r4.2.1.1 : Nat) : Int) - 1)))).2.1, (r4.2.1.2 (Int.toNat (IntKind.i64.wrap (((r4.2.1.1 : Nat) : Int) - 1)))).2.2.1, (r4.2.1.2 (Int.toNat (IntKind.i64.wrap (((r4.2.1.1 : Nat) : Int) - 1)))).2.2.2.1, (IntKind.i64.wrap ((r4.2.1.2 (Int.toNat (IntKind.i64.wrap (((r4.2.1.1 : Nat) : Int) - 1)))).2.2.2.2.1 + 1)), (r4.2.1.2 (Int.toNat (IntKind.i64.wrap (((r4.2.1.1 : Nat) : Int) - 1)))).2.2.2.2.2.1, (r4.2.1.2 (Int.toNat (IntKind.i64.wrap (((r4.2.1.1 : Nat) : Int) - 1)))).2.2.2.2.2.2.1, (r4.2.1.2 (Int.toNat (IntKind.i64.wrap (((r4.2.1.1 : Nat) : Int) - 1)))).2.2.2.2.2.2.2.1, (r4.2.1.2 (Int.toNat (IntKind.i64.wrap (((r4.2.1.1 : Nat) : Int) - 1)))).2.2.2.2.2.2.2.2.1, (r4.2.1.2 (Int.toNat (IntKind.i64.wrap (((r4.2.1.1 : Nat) : Int) - 1)))).2.2.2.2.2.2.2.2.2.1, ((r4.2.1.2 (Int.toNat (IntKind.i64.wrap (((r4.2.1.1 : Nat) : Int) - 1)))).2.2.2.2.2.2.2.2.2.2.1, (r4.2.1.2 (Int.toNat (IntKind.i64.wrap (((r4.2.1.1 : Nat) : Int) - 1)))).2.2.2.2.2.2.2.2.2.2.2)) else RiiiiiiiiiiL2.enc (r4.2.1.2 i)))), (r4.2.2.1.1, (fun i => Riiiiiiii.enc (r4.2.2.1.2 i))), (r4.2.2.2.1, (fun i => Riiiii.enc (r4.2.2.2.2 i)))))).bind fun r78 =>
      bif (!r78) then
        (world.Right.f (r2.1, r2.2.1, r2.2.2.1, r2.2.2.2.1, r2.2.2.2.2.1, (r2.2.2.2.2.2.1.1, (fun i => RiiiiiiiiiiL2.enc (r2.2.2.2.2.2.1.2 i))), (r2.2.2.2.2.2.2.1.1, (fun i => Riiiiiiii.enc (r2.2.2.2.2.2.2.1.2 i))), (r2.2.2.2.2.2.2.2.1, (fun i => Riiiii.enc (r2.2.2.2.2.2.2.2.2 i))))).bind fun r79 =>
        some r79
      else
      some false
      else none
      else none
    else
    bif ((decide (0 ≤ (IntKind.i64.wrap (((r4.2.1.1 : Nat) : Int) - 1)))) && (decide ((IntKind.i64.wrap (((r4.2.1.1 : Nat) : Int) - 1)) < ((r4.2.1.1 : Nat) : Int)))) then
    bif ((((r4.2.1.2 (Int.toNat (IntKind.i64.wrap (((r4.2.1.1 : Nat) : Int) - 1)))).2.2.2.2.2.2.2.2.2.2.1 : Nat) : Int) == 0) then
    (world.Same.f ((r2.1, r2.2.1, r2.2.2.1, r2.2.2.2.1, r2.2.2.2.2.1, (r2.2.2.2.2.2.1.1, (fun i => RiiiiiiiiiiL2.enc (r2.2.2.2.2.2.1.2 i))), (r2.2.2.2.2.2.2.1.1, (fun i => Riiiiiiii.enc (r2.2.2.2.2.2.2.1.2 i))), (r2.2.2.2.2.2.2.2.1, (fun i => Riiiii.enc (r2.2.2.2.2.2.2.2.2 i)))), (r4.1.1, r4.1.2.1, r4.1.2.2.1, r4.1.2.2.2.1, r4.1.2.2.2.2, (r4.2.1.1, (fun i => cloL (if i = (Int.toNat (IntKind.i64.wrap (((r4.2.1.1 : Nat) : Int) - 1))) then RiiiiiiiiiiL2.enc ((r4.2.1.2 (Int.toNat (IntKind.i64.wrap (((r4.2.1.1 : Nat) : Int) - 1)))).1, (r4.2.1.2 (Int.toNat (IntKind.i64.wrap (((r4.2.1.1 : Nat) : Int) - 1)))).2.1, (r4.2.1.2 (Int.toNat (IntKind.i64.wrap (((r4.2.1.1 : Nat) : Int) - 1)))).2.2.1, (r4.2.1.2 (Int.toNat (IntKind.i64.wrap (((r4.2.1.1 : Nat) : Int) - 1)))).2.2.2.1, (r4.2.1.2 (Int.toNat (IntKind.i64.wrap (((r4.2.1.1 : Nat) : Int) - 1)))).2.2.2.2.1, (r4.2.1.2 (Int.toNat (IntKind.i64.wrap (((r4.2.1.1 : Nat) : Int) - 1)))).2.2.2.2.2.1, (r4.2.1.2 (Int.toNat (IntKind.i64.wrap (((r4.2.1.1 : Nat) : Int) - 1)))).2.2.2.2.2.2.1, (r4.2.1.2 (Int.toNat (IntKind.i64.wrap (((r4.2.1.1 : Nat) : Int) - 1)))).2.2.2.2.2.2.2.1, (r4.2.1.2 (Int.toNat (IntKind.i64.wrap (((r4.2.1.1 : Nat) : Int) - 1)))).2.2.2.2.2.2.2.2.1, (IntKind.i64.wrap ((r4.2.1.2 (Int.toNat (IntKind.i64.wrap (((r4.2.1.1 : Nat) : Int) - 1)))).2.2.2.2.2.2.2.2.2.1 + 1)), ((r4.2.1.2 (Int.toNat (IntKind.i64.wrap (((r4.2.1.1 : Nat) : Int) - 1)))).2.2.2.2.2.2.2.2.2.2.1, (r4.2.1.2 (Int.toNat (IntKind.i64.wrap (((r4.2.1.1 : Nat) : Int) - 1)))).2.2.2.2.2.2.2.2.2.2.2)) else RiiiiiiiiiiL2.enc (r4.2.1.2 i)))), (r4.2.2.1.1, (fun i => Riiiiiiii.enc (r4.2.2.1.2 i))), (r4.2.2.2.1, (fun i => Riiiii.enc (r4.2.2.2.2 i)))))).bind fun r80 =>
    bif (!r80) then
      (world.Right.f (r2.1, r2.2.1, r2.2.2.1, r2.2.2.2.1, r2.2.2.2.2.1, (r2.2.2.2.2.2.1.1, (fun i => RiiiiiiiiiiL2.enc (r2.2.2.2.2.2.1.2 i))), (r2.2.2.2.2.2.2.1.1, (fun i => Riiiiiiii.enc (r2.2.2.2.2.2.2.1.2 i))), (r2.2.2.2.2.2.2.2.1, (fun i => Riiiii.enc (r2.2.2.2.2.2.2.2.2 i))))).bind fun r81 =>
      some r81
    else
    some false
    else none
    else none
  else
  bif ((Go.bits .and .i64 p1_0 7) == 3) then
    (world.RemoveJoint.f ((r3.1.1, r3.1.2.1, r3.1.2.2.1, r3.1.2.2.2.1, r3.1.2.2.2.2, (r3.2.1.1, (fun i => RiiiiiiiiiiL2.enc (r3.2.1.2 i))), (r3.2.2.1.1, (fun i => Riiiiiiii.enc (r3.2.2.1.2 i))), (r3.2.2.2.1, (fun i => Riiiii.enc (r3.2.2.2.2 i)))), (Go.bits .and .i64 p1_12 15))).bind fun r82 =>
    (world.Same.f ((r2.1, r2.2.1, r2.2.2.1, r2.2.2.2.1, r2.2.2.2.2.1, (r2.2.2.2.2.2.1.1, (fun i => RiiiiiiiiiiL2.enc (r2.2.2.2.2.2.1.2 i))), (r2.2.2.2.2.2.2.1.1, (fun i => Riiiiiiii.enc (r2.2.2.2.2.2.2.1.2 i))), (r2.2.2.2.2.2.2.2.1, (fun i => Riiiii.enc (r2.2.2.2.2.2.2.2.2 i)))), (r4.1.1, r4.1.2.1, r4.1.2.2.1, r4.1.2.2.2.1, r4.1.2.2.2.2, (r4.2.1.1, (fun i => RiiiiiiiiiiL2.enc (r4.2.1.2 i))), (r4.2.2.1.1, (fun i => Riiiiiiii.enc (r4.2.2.1.2 i))), (r4.2.2.2.1, (fun i => Riiiii.enc (r4.2.2.2.2 i)))))).bind fun r83 =>
    bif (!r83) then
      some false
    else
    bif ((IntKind.i64.wrap (((r2.2.2.2.2.2.1.1 : Nat) : Int) + ((r2.2.2.2.2.2.2.1.1 : Nat) : Int))) != (IntKind.i64.wrap (((r2.2.2.2.2.2.1.1 : Nat) : Int) + ((r2.2.2.2.2.2.2.1.1 : Nat) : Int)))) then
      some false
    else
    bif ((Go.bits .and .i64 p2 3) == 0) then
      (world.Same.f ((r2.1, r2.2.1, r2.2.2.1, r2.2.2.2.1, r2.2.2.2.2.1, (r2.2.2.2.2.2.1.1, (fun i => RiiiiiiiiiiL2.enc (r2.2.2.2.2.2.1.2 i))), (r2.2.2.2.2.2.2.1.1, (fun i => Riiiiiiii.enc (r2.2.2.2.2.2.2.1.2 i))), (r2.2.2.2.2.2.2.2.1, (fun i => Riiiii.enc (r2.2.2.2.2.2.2.2.2 i)))), ((IntKind.i64.wrap (r4.1.1 + 1)), r4.1.2.1, r4.1.2.2.1, r4.1.2.2.2.1, r4.1.2.2.2.2, (r4.2.1.1, (fun i => RiiiiiiiiiiL2.enc (r4.2.1.2 i))), (r4.2.2.1.1, (fun i => Riiiiiiii.enc (r4.2.2.1.2 i))), (r4.2.2.2.1, (fun i => Riiiii.enc (r4.2.2.2.2 i)))))).bind fun r84 =>
      bif (!r84) then
        (world.Right.f (r2.1, r2.2.1, r2.2.2.1, r2.2.2.2.1, r2.2.2.2.2.1, (r2.2.2.2.2.2.1.1, (fun i => RiiiiiiiiiiL2.enc (r2.2.2.2.2.2.1.2 i))), (r2.2.2.2.2.2.2.1.1, (fun i => Riiiiiiii.enc (r2.2.2.2.2.2.2.1.2 i))), (r2.2.2.2.2.2.2.2.1, (fun i => Riiiii.enc (r2.2.2.2.2.2.2.2.2 i))))).bind fun r85 =>
        some r85
      else
      some false
    else
    bif ((Go.bits .and .i64 p2 3) == 1) then
      bif (decide ((r4.2.2.2.1 + 1) * 40 ≤ 140737488355328)) then
      (world.Same.f ((r2.1, r2.2.1, r2.2.2.1, r2.2.2.2.1, r2.2.2.2.2.1, (r2.2.2.2.2.2.1.1, (fun i => RiiiiiiiiiiL2.enc (r2.2.2.2.2.2.1.2 i))), (r2.2.2.2.2.2.2.1.1, (fun i => Riiiiiiii.enc (r2.2.2.2.2.2.2.1.2 i))), (r2.2.2.2.2.2.2.2.1, (fun i => Riiiii.enc (r2.2.2.2.2.2.2.2.2 i)))), (r4.1.1, r4.1.2.1, r4.1.2.2.1, r4.1.2.2.2.1, r4.1.2.2.2.2, (r4.2.1.1, (fun i => RiiiiiiiiiiL2.enc (r4.2.1.2 i))), (r4.2.2.1.1, (fun i => Riiiiiiii.enc (r4.2.2.1.2 i))), ((r4.2.2.2.1 + 1), (fun i => cloL (frzC 15 ⟨true, 51, 8, r4.2.2.1.1, (fun i => Riiiiiiii.enc (r4.2.2.1.2 i)), none⟩ (frzC 14 ⟨true, 43, 11, r4.2.1.1, (fun i => RiiiiiiiiiiL2.enc (r4.2.1.2 i)), none⟩ (if i = r4.2.2.2.1 then Riiiii.enc (0, 0, 0, 0, 0) else Riiiii.enc (r4.2.2.2.2 i))))))))).bind fun r86 =>
      bif (!r86) then
        (world.Right.f (r2.1, r2.2.1, r2.2.2.1, r2.2.2.2.1, r2.2.2.2.2.1, (r2.2.2.2.2.2.1.1, (fun i => RiiiiiiiiiiL2.enc (r2.2.2.2.2.2.1.2 i))), (r2.2.2.2.2.2.2.1.1, (fun i => Riiiiiiii.enc (r2.2.2.2.2.2.2.1.2 i))), (r2.2.2.2.2.2.2.2.1, (fun i => Riiiii.enc (r2.2.2.2.2.2.2.2.2 i))))).bind fun r87 =>
        some r87
      else
      some false
      else none
    else
    bif (((r4.2.1.1 : Nat) : Int) == 0) then
      (world.Same.f ((r2.1, r2.2.1, r2.2.2.1, r2.2.2.2.1, r2.2.2.2.2.1, (r2.2.2.2.2.2.1.1, (fun i => RiiiiiiiiiiL2.enc (r2.2.2.2.2.2.1.2 i))), (r2.2.2.2.2.2.2.1.1, (fun i => Riiiiiiii.enc (r2.2.2.2.2.2.2.1.2 i))), (r2.2.2.2.2.2.2.2.1, (fun i => Riiiii.enc (r2.2.2.2.2.2.2.2.2 i)))), (r4.1.1, r4.1.2.1, r4.1.2.2.1, (IntKind.i64.wrap (r4.1.2.2.2.1 - 1)), r4.1.2.2.2.2, (r4.2.1.1, (fun i => RiiiiiiiiiiL2.enc (r4.2.1.2 i))), (r4.2.2.1.1, (fun i => Riiiiiiii.enc (r4.2.2.1.2 i))), (r4.2.2.2.1, (fun i => Riiiii.enc (r4.2.2.2.2 i)))))).bind fun r88 =>
      bif (!r88) then
        (world.Right.f (r2.1, r2.2.1, r2.2.2.1, r2.2.2.2.1, r2.2.2.2.2.1, (r2.2.2.2.2.2.1.1, (fun i => RiiiiiiiiiiL2.enc (r2.2.2.2.2.2.1.2 i))), (r2.2.2.2.2.2.2.1.1, (fun i => Riiiiiiii.enc (r2.2.2.2.2.2.2.1.2 i))), (r2.2.2.2.2.2.2.2.1, (fun i => Riiiii.enc (r2.2.2.2.2.2.2.2.2 i))))).bind fun r89 =>
        some r89
      else
      some false
    else
    bif ((Go.bits .and .i64 p2 4) == 0) then
      bif ((decide (0 ≤ (IntKind.i64.wrap (((r4.2.1.1 : Nat) : Int) - 1)))) && (decide ((IntKind.i64.wrap (((r4.2.1.1 : Nat) : Int) - 1)) < ((r4.2.1.1 : Nat) : Int)))) then
      bif ((decide (0 ≤ (IntKind.i64.wrap (((r4.2.1.1 : Nat) : Int) - 1)))) && (decide ((IntKind.i64.wrap (((r4.2.1.1 : Nat) : Int) - 1)) < ((r4.2.1.1 : Nat) : Int)))) then
      (world.Same.f ((r2.1, r2.2.1, r2.2.2.1, r2.2.2.2.1, r2.2.2.2.2.1, (r2.2.2.2.2.2.1.1, (fun i => RiiiiiiiiiiL2.enc (r2.2.2.2.2.2.1.2 i))), (r2.2.2.2.2.2.2.1.1, (fun i => Riiiiiiii.enc (r2.2.2.2.2.2.2.1.2 i))), (r2.2.2.2.2.2.2.2.1, (fun i => Riiiii.enc (r2.2.2.2.2.2.2.2.2 i)))), (r4.1.1, r4.1.2.1, r4.1.2.2.1, r4.1.2.2.2.1, r4.1.2.2.2.2, (r4.2.1.1, (fun i => cloL (if i = (Int.toNat (IntKind.i64.wrap (((r4.2.1.1 : Nat) : Int) - 1))) then RiiiiiiiiiiL2.enc ((r4.2.1.2 (Int.toNat (IntKind.i64.wrap (((r4.2.1.1 : Nat) : Int) - 1)))).1, (r4.2.1.2 (Int.toNat (IntKind.i64.wrap (((r4.2.1.1 : Nat) : Int) - 1)))).2.1, (r4.2.1.2 (Int.toNat (IntKind.i64.wrap (((r4.2.1.1 : Nat) : Int) - 1)))).2.2.1, (r4.2.1.2 (Int.toNat (IntKind.i64.wrap (((r4.2.1.1 : Nat) : Int) - 1)))).2.2.2.1, (IntKind.i64.wrap ((r4.2.1.2 (Int.toNat (IntKind.i64.wrap (((r4.2.1.1 : Nat) : Int) - 1)))).2.2.2.2.1 + 1)), (r4.2.1.2 (Int.toNat (IntKind.i64.wrap (((r4.2.1.1 : Nat) : Int) - 1)))).2.2.2.2.2.1, (r4.2.1.2 (Int.toNat (IntKind.i64.wrap (((r4.2.1.1 : Nat) : Int) - 1)))).2.2.2.2.2.2.1, (r4.2.1.2 (Int.toNat (IntKind.i64.wrap (((r4.2.1.1 : Nat) : Int) - 1)))).2.2.2.2.2.2.2.1, (r4.2.1.2 (Int.toNat (IntKind.i64.wrap (((r4.2.1.1 : Nat) : Int) - 1)))).2.2.2.2.2.2.2.2.1, (r4.2.1.2 (Int.toNat (IntKind.i64.wrap (((r4.2.1.1 : Nat) : Int) - 1)))).2.2.2.2.2.2.2.2.2.1, ((r4.2.1.2 (Int.toNat (IntKind.i64.wrap (((r4.2.1.1 : Nat) : Int) - 1)))).2.2.2.2.2.2.2.2.2.2.1, (r4.2.1.2 (Int.toNat (IntKind.i64.wrap (((r4.2.1.1 : Nat) : Int) - 1)))).2.2.2.2.2.2.2.2.2.2.2)) else RiiiiiiiiiiL2.enc (r4.2.1.2 i)))), (r4.2.2.1.1, (fun i => Riiiiiiii.enc (r4.2.2.1.2 i))), (r4.2.2.2.1, (fun i => Riiiii.enc (r4.2.2.2.2 i)))))).bind fun r90 =>
      bif (!r90) then
        (world.Right.f (r2.1, r2.2.1, r2.2.2.1, r2.2.2.2.1, r2.2.2.2.2.1, (r2.2.2.2.2.2.1.1, (fun i => RiiiiiiiiiiL2.enc (r2.2.2.2.2.2.1.2 i))), (r2.2.2.2.2.2.2.1.1, (fun i => Riiiiiiii.enc (r2.2.2.2.2.2.2.1.2 i))), (r2.2.2.2.2.2.2.2.1, (fun i => Riiiii.enc (r2.2.2.2.2.2.2.2.2 i))))).bind fun r91 =>
        some r91
      else
      some false
      else none
      else none
    else
    bif ((decide (0 ≤ (IntKind.i64.wrap (((r4.2.1.1 : Nat) : Int) - 1)))) && (decide ((IntKind.i64.wrap (((r4.2.1.1 : Nat) : Int) - 1)) < ((r4.2.1.1 : Nat) : Int)))) then
    bif ((((r4.2.1.2 (Int.toNat (IntKind.i64.wrap (((r4.2.1.1 : Nat) : Int) - 1)))).2.2.2.2.2.2.2.2.2.2.1 : Nat) : Int) == 0) then
    (world.Same.f ((r2.1, r2.2.1, r2.2.2.1, r2.2.2.2.1, r2.2.2.2.2.1, (r2.2.2.2.2.2.1.1, (fun i => RiiiiiiiiiiL2.enc (r2.2.2.2.2.2.1.2 i))), (r2.2.2.2.2.2.2.1.1, (fun i => Riiiiiiii.enc (r2.2.2.2.2.2.2.1.2 i))), (r2.2.2.2.2.2.2.2.1, (fun i => Riiiii.enc (r2.2.2.2.2.2.2.2.2 i)))), (r4.1.1, r4.1.2.1, r4.1.2.2.1, r4.1.2.2.2.1, r4.1.2.2.2.2, (r4.2.1.1, (fun i => cloL (if i = (Int.toNat (IntKind.i64.wrap (((r4.2.1.1 : Nat) : Int) - 1))) then RiiiiiiiiiiL2.enc ((r4.2.1.2 (Int.toNat (IntKind.i64.wrap (((r4.2.1.1 : Nat) : Int) - 1)))).1, (r4.2.1.2 (Int.toNat (IntKind.i64.wrap (((r4.2.1.1 : Nat) : Int) - 1)))).2.1, (r4.2.1.2 (Int.toNat (IntKind.i64.wrap (((r4.2.1.1 : Nat) : Int) - 1)))).2.2.1, (r4.2.1.2 (Int.toNat (IntKind.i64.wrap (((r4.2.1.1 : Nat) : Int) - 1)))).2.2.2.1, (r4.2.1.2 (Int.toNat (IntKind.i64.wrap (((r4.2.1.1 : Nat) : Int) - 1)))).2.2.2.2.1, (r4.2.1.2 (Int.toNat (IntKind.i64.wrap (((r4.2.1.1 : Nat) : Int) - 1)))).2.2.2.2.2.1, (r4.2.1.2 (Int.toNat (IntKind.i64.wrap (((r4.2.1.1 : Nat) : Int) - 1)))).2.2.2.2.2.2.1, (r4.2.1.2 (Int.toNat (IntKind.i64.wrap (((r4.2.1.1 : Nat) : Int) - 1)))).2.2.2.2.2.2.2.1, (r4.2.1.2 (Int.toNat (IntKind.i64.wrap (((r4.2.1.1 : Nat) : Int) - 1)))).2.2.2.2.2.2.2.2.1, (IntKind.i64.wrap ((r4.2.1.2 (Int.toNat (IntKind.i64.wrap (((r4.2.1.1 : Nat) : Int) - 1)))).2.2.2.2.2.2.2.2.2.1 + 1)), ((r4.2.1.2 (Int.toNat (IntKind.i64.wrap (((r4.2.1.1 : Nat) : Int) - 1)))).2.2.2.2.2.2.2.2.2.2.1, (r4.2.1.2 (Int.toNat (IntKind.i64.wrap (((r4.2.1.1 : Nat) : Int) - 1)))).2.2.2.2.2.2.2.2.2.2.2)) else RiiiiiiiiiiL2.enc (r4.2.1.2 i)))), (r4.2.2.1.1, (fun i => Riiiiiiii.enc (r4.2.2.1.2 i))), (r4.2.2.2.1, (fun i => Riiiii.enc (r4.2.2.2.2 i)))))).bind fun r92 =>
    bif (!r92) then
      (world.Right.f (r2.1, r2.2.1, r2.2.2.1, r2.2.2.2.1, r2.2.2.2.2.1, (r2.2.2.2.2.2.1.1, (fun i => RiiiiiiiiiiL2.enc (r2.2.2.2.2.2.1.2 i))), (r2.2.2.2.2.2.2.1.1, (fun i => Riiiiiiii.enc (r2.2.2.2.2.2.2.1.2 i))), (r2.2.2.2.2.2.2.2.1, (fun i => Riiiii.enc (r2.2.2.2.2.2.2.2.2 i))))).bind fun r93 =>
      some r93
    else
    some false
    else none
    else none
  else
  (law09.Deed.Body.f (p1_0, p1_1, p1_2, p1_3, p1_4, p1_5, p1_6, p1_7, p1_8, p1_9, p1_10, p1_11, p1_12, p1_13, p1_14, p1_15, p1_16, p1_17, p1_18, p1_19, p1_20, p1_21, p1_22, p1_23, p1_24, p1_25, p1_26, p1_27, p1_28, (p1_29_n, (fun i => Rii.enc (p1_29_g i))))).bind fun r94 =>
  (world.AddBody.f ((r3.1.1, r3.1.2.1, r3.1.2.2.1, r3.1.2.2.2.1, r3.1.2.2.2.2, (r3.2.1.1, (fun i => RiiiiiiiiiiL2.enc (r3.2.1.2 i))), (r3.2.2.1.1, (fun i => Riiiiiiii.enc (r3.2.2.1.2 i))), (r3.2.2.2.1, (fun i => Riiiii.enc (r3.2.2.2.2 i)))), (r94.1, r94.2.1, r94.2.2.1, r94.2.2.2.1, r94.2.2.2.2.1, r94.2.2.2.2.2.1, r94.2.2.2.2.2.2.1, r94.2.2.2.2.2.2.2.1, r94.2.2.2.2.2.2.2.2.1, r94.2.2.2.2.2.2.2.2.2.1, (r94.2.2.2.2.2.2.2.2.2.2.1, (fun i => Rii.enc (r94.2.2.2.2.2.2.2.2.2.2.2 i)))))).bind fun r95 =>
  (world.Same.f ((r2.1, r2.2.1, r2.2.2.1, r2.2.2.2.1, r2.2.2.2.2.1, (r2.2.2.2.2.2.1.1, (fun i => RiiiiiiiiiiL2.enc (r2.2.2.2.2.2.1.2 i))), (r2.2.2.2.2.2.2.1.1, (fun i => Riiiiiiii.enc (r2.2.2.2.2.2.2.1.2 i))), (r2.2.2.2.2.2.2.2.1, (fun i => Riiiii.enc (r2.2.2.2.2.2.2.2.2 i)))), (r4.1.1, r4.1.2.1, r4.1.2.2.1, r4.1.2.2.2.1, r4.1.2.2.2.2, (r4.2.1.1, (fun i => RiiiiiiiiiiL2.enc (r4.2.1.2 i))), (r4.2.2.1.1, (fun i => Riiiiiiii.enc (r4.2.2.1.2 i))), (r4.2.2.2.1, (fun i => Riiiii.enc (r4.2.2.2.2 i)))))).bind fun r96 =>
  bif (!r96) then
    some false
  else
  bif ((IntKind.i64.wrap (((r2.2.2.2.2.2.1.1 : Nat) : Int) + ((r2.2.2.2.2.2.2.1.1 : Nat) : Int))) != (IntKind.i64.wrap (((r2.2.2.2.2.2.1.1 : Nat) : Int) + ((r2.2.2.2.2.2.2.1.1 : Nat) : Int)))) then
    some false
  else
  bif ((Go.bits .and .i64 p2 3) == 0) then
    (world.Same.f ((r2.1, r2.2.1, r2.2.2.1, r2.2.2.2.1, r2.2.2.2.2.1, (r2.2.2.2.2.2.1.1, (fun i => RiiiiiiiiiiL2.enc (r2.2.2.2.2.2.1.2 i))), (r2.2.2.2.2.2.2.1.1, (fun i => Riiiiiiii.enc (r2.2.2.2.2.2.2.1.2 i))), (r2.2.2.2.2.2.2.2.1, (fun i => Riiiii.enc (r2.2.2.2.2.2.2.2.2 i)))), ((IntKind.i64.wrap (r4.1.1 + 1)), r4.1.2.1, r4.1.2.2.1, r4.1.2.2.2.1, r4.1.2.2.2.2, (r4.2.1.1, (fun i => RiiiiiiiiiiL2.enc (r4.2.1.2 i))), (r4.2.2.1.1, (fun i => Riiiiiiii.enc (r4.2.2.1.2 i))), (r4.2.2.2.1, (fun i => Riiiii.enc (r4.2.2.2.2 i)))))).bind fun r97 =>
    bif (!r97) then
      (world.Right.f (r2.1, r2.2.1, r2.2.2.1, r2.2.2.2.1, r2.2.2.2.2.1, (r2.2.2.2.2.2.1.1, (fun i => RiiiiiiiiiiL2.enc (r2.2.2.2.2.2.1.2 i))), (r2.2.2.2.2.2.2.1.1, (fun i => Riiiiiiii.enc (r2.2.2.2.2.2.2.1.2 i))), (r2.2.2.2.2.2.2.2.1, (fun i => Riiiii.enc (r2.2.2.2.2.2.2.2.2 i))))).bind fun r98 =>
      some r98
    else
    some false
  else
  bif ((Go.bits .and .i64 p2 3) == 1) then
    bif (decide ((r4.2.2.2.1 + 1) * 40 ≤ 140737488355328)) then
    (world.Same.f ((r2.1, r2.2.1, r2.2.2.1, r2.2.2.2.1, r2.2.2.2.2.1, (r2.2.2.2.2.2.1.1, (fun i => RiiiiiiiiiiL2.enc (r2.2.2.2.2.2.1.2 i))), (r2.2.2.2.2.2.2.1.1, (fun i => Riiiiiiii.enc (r2.2.2.2.2.2.2.1.2 i))), (r2.2.2.2.2.2.2.2.1, (fun i => Riiiii.enc (r2.2.2.2.2.2.2.2.2 i)))), (r4.1.1, r4.1.2.1, r4.1.2.2.1, r4.1.2.2.2.1, r4.1.2.2.2.2, (r4.2.1.1, (fun i => RiiiiiiiiiiL2.enc (r4.2.1.2 i))), (r4.2.2.1.1, (fun i => Riiiiiiii.enc (r4.2.2.1.2 i))), ((r4.2.2.2.1 + 1), (fun i => cloL (frzC 15 ⟨true, 51, 8, r4.2.2.1.1, (fun i => Riiiiiiii.enc (r4.2.2.1.2 i)), none⟩ (frzC 14 ⟨true, 43, 11, r4.2.1.1, (fun i => RiiiiiiiiiiL2.enc (r4.2.1.2 i)), none⟩ (if i = r4.2.2.2.1 then Riiiii.enc (0, 0, 0, 0, 0) else Riiiii.enc (r4.2.2.2.2 i))))))))).bind fun r99 =>
    bif (!r99) then
      (world.Right.f (r2.1, r2.2.1, r2.2.2.1, r2.2.2.2.1, r2.2.2.2.2.1, (r2.2.2.2.2.2.1.1, (fun i => RiiiiiiiiiiL2.enc (r2.2.2.2.2.2.1.2 i))), (r2.2.2.2.2.2.2.1.1, (fun i => Riiiiiiii.enc (r2.2.2.2.2.2.2.1.2 i))), (r2.2.2.2.2.2.2.2.1, (fun i => Riiiii.enc (r2.2.2.2.2.2.2.2.2 i))))).bind fun r100 =>
      some r100
    else
    some false
    else none
  else
  bif (((r4.2.1.1 : Nat) : Int) == 0) then
    (world.Same.f ((r2.1, r2.2.1, r2.2.2.1, r2.2.2.2.1, r2.2.2.2.2.1, (r2.2.2.2.2.2.1.1, (fun i => RiiiiiiiiiiL2.enc (r2.2.2.2.2.2.1.2 i))), (r2.2.2.2.2.2.2.1.1, (fun i => Riiiiiiii.enc (r2.2.2.2.2.2.2.1.2 i))), (r2.2.2.2.2.2.2.2.1, (fun i => Riiiii.enc (r2.2.2.2.2.2.2.2.2 i)))), (r4.1.1, r4.1.2.1, r4.1.2.2.1, (IntKind.i64.wrap (r4.1.2.2.2.1 - 1)), r4.1.2.2.2.2, (r4.2.1.1, (fun i => RiiiiiiiiiiL2.enc (r4.2.1.2 i))), (r4.2.2.1.1, (fun i => Riiiiiiii.enc (r4.2.2.1.2 i))), (r4.2.2.2.1, (fun i => Riiiii.enc (r4.2.2.2.2 i)))))).bind fun r101 =>
    bif (!r101) then
      (world.Right.f (r2.1, r2.2.1, r2.2.2.1, r2.2.2.2.1, r2.2.2.2.2.1, (r2.2.2.2.2.2.1.1, (fun i => RiiiiiiiiiiL2.enc (r2.2.2.2.2.2.1.2 i))), (r2.2.2.2.2.2.2.1.1, (fun i => Riiiiiiii.enc (r2.2.2.2.2.2.2.1.2 i))), (r2.2.2.2.2.2.2.2.1, (fun i => Riiiii.enc (r2.2.2.2.2.2.2.2.2 i))))).bind fun r102 =>
      some r102
    else
    some false
  else
  bif ((Go.bits .and .i64 p2 4) == 0) then
    bif ((decide (0 ≤ (IntKind.i64.wrap (((r4.2.1.1 : Nat) : Int) - 1)))) && (decide ((IntKind.i64.wrap (((r4.2.1.1 : Nat) : Int) - 1)) < ((r4.2.1.1 : Nat) : Int)))) then
    bif ((decide (0 ≤ (IntKind.i64.wrap (((r4.2.1.1 : Nat) : Int) - 1)))) && (decide ((IntKind.i64.wrap (((r4.2.1.1 : Nat) : Int) - 1)) < ((r4.2.1.1 : Nat) : Int)))) then
    (world.Same.f ((r2.1, r2.2.1, r2.2.2.1, r2.2.2.2.1, r2.2.2.2.2.1, (r2.2.2.2.2.2.1.1, (fun i => RiiiiiiiiiiL2.enc (r2.2.2.2.2.2.1.2 i))), (r2.2.2.2.2.2.2.1.1, (fun i => Riiiiiiii.enc (r2.2.2.2.2.2.2.1.2 i))), (r2.2.2.2.2.2.2.2.1, (fun i => Riiiii.enc (r2.2.2.2.2.2.2.2.2 i)))), (r4.1.1, r4.1.2.1, r4.1.2.2.1, r4.1.2.2.2.1, r4.1.2.2.2.2, (r4.2.1.1, (fun i => cloL (if i = (Int.toNat (IntKind.i64.wrap (((r4.2.1.1 : Nat) : Int) - 1))) then RiiiiiiiiiiL2.enc ((r4.2.1.2 (Int.toNat (IntKind.i64.wrap (((r4.2.1.1 : Nat) : Int) - 1)))).1, (r4.2.1.2 (Int.toNat (IntKind.i64.wrap (((r4.2.1.1 : Nat) : Int) - 1)))).2.1, (r4.2.1.2 (Int.toNat (IntKind.i64.wrap (((r4.2.1.1 : Nat) : Int) - 1)))).2.2.1, (r4.2.1.2 (Int.toNat (IntKind.i64.wrap (((r4.2.1.1 : Nat) : Int) - 1)))).2.2.2.1, (IntKind.i64.wrap ((r4.2.1.2 (Int.toNat (IntKind.i64.wrap (((r4.2.1.1 : Nat) : Int) - 1)))).2.2.2.2.1 + 1)), (r4.2.1.2 (Int.toNat (IntKind.i64.wrap (((r4.2.1.1 : Nat) : Int) - 1)))).2.2.2.2.2.1, (r4.2.1.2 (Int.toNat (IntKind.i64.wrap (((r4.2.1.1 : Nat) : Int) - 1)))).2.2.2.2.2.2.1, (r4.2.1.2 (Int.toNat (IntKind.i64.wrap (((r4.2.1.1 : Nat) : Int) - 1)))).2.2.2.2.2.2.2.1, (r4.2.1.2 (Int.toNat (IntKind.i64.wrap (((r4.2.1.1 : Nat) : Int) - 1)))).2.2.2.2.2.2.2.2.1, (r4.2.1.2 (Int.toNat (IntKind.i64.wrap (((r4.2.1.1 : Nat) : Int) - 1)))).2.2.2.2.2.2.2.2.2.1, ((r4.2.1.2 (Int.toNat (IntKind.i64.wrap (((r4.2.1.1 : Nat) : Int) - 1)))).2.2.2.2.2.2.2.2.2.2.1, (r4.2.1.2 (Int.toNat (IntKind.i64.wrap (((r4.2.1.1 : Nat) : Int) - 1)))).2.2.2.2.2.2.2.2.2.2.2)) else RiiiiiiiiiiL2.enc (r4.2.1.2 i)))), (r4.2.2.1.1, (fun i => Riiiiiiii.enc (r4.2.2.1.2 i))), (r4.2.2.2.1, (fun i => Riiiii.enc (r4.2.2.2.2 i)))))).bind fun r103 =>
    bif (!r103) then
      (world.Right.f (r2.1, r2.2.1, r2.2.2.1, r2.2.2.2.1, r2.2.2.2.2.1, (r2.2.2.2.2.2.1.1, (fun i => RiiiiiiiiiiL2.enc (r2.2.2.2.2.2.1.2 i))), (r2.2.2.2.2.2.2.1.1, (fun i => Riiiiiiii.enc (r2.2.2.2.2.2.2.1.2 i))), (r2.2.2.2.2.2.2.2.1, (fun i => Riiiii.enc (r2.2.2.2.2.2.2.2.2 i))))).bind fun r104 =>
      some r104
    else
    some false
    else none
    else none
  else
  bif ((decide (0 ≤ (IntKind.i64.wrap (((r4.2.1.1 : Nat) : Int) - 1)))) && (decide ((IntKind.i64.wrap (((r4.2.1.1 : Nat) : Int) - 1)) < ((r4.2.1.1 : Nat) : Int)))) then
  bif ((((r4.2.1.2 (Int.toNat (IntKind.i64.wrap (((r4.2.1.1 : Nat) : Int) - 1)))).2.2.2.2.2.2.2.2.2.2.1 : Nat) : Int) == 0) then
  (world.Same.f ((r2.1, r2.2.1, r2.2.2.1, r2.2.2.2.1, r2.2.2.2.2.1, (r2.2.2.2.2.2.1.1, (fun i => RiiiiiiiiiiL2.enc (r2.2.2.2.2.2.1.2 i))), (r2.2.2.2.2.2.2.1.1, (fun i => Riiiiiiii.enc (r2.2.2.2.2.2.2.1.2 i))), (r2.2.2.2.2.2.2.2.1, (fun i => Riiiii.enc (r2.2.2.2.2.2.2.2.2 i)))), (r4.1.1, r4.1.2.1, r4.1.2.2.1, r4.1.2.2.2.1, r4.1.2.2.2.2, (r4.2.1.1, (fun i => cloL (if i = (Int.toNat (IntKind.i64.wrap (((r4.2.1.1 : Nat) : Int) - 1))) then RiiiiiiiiiiL2.enc ((r4.2.1.2 (Int.toNat (IntKind.i64.wrap (((r4.2.1.1 : Nat) : Int) - 1)))).1, (r4.2.1.2 (Int.toNat (IntKind.i64.wrap (((r4.2.1.1 : Nat) : Int) - 1)))).2.1, (r4.2.1.2 (Int.toNat (IntKind.i64.wrap (((r4.2.1.1 : Nat) : Int) - 1)))).2.2.1, (r4.2.1.2 (Int.toNat (IntKind.i64.wrap (((r4.2.1.1 : Nat) : Int) - 1)))).2.2.2.1, (r4.2.1.2 (Int.toNat (IntKind.i64.wrap (((r4.2.1.1 : Nat) : Int) - 1)))).2.2.2.2.1, (r4.2.1.2 (Int.toNat (IntKind.i64.wrap (((r4.2.1.1 : Nat) : Int) - 1)))).2.2.2.2.2.1, (r4.2.1.2 (Int.toNat (IntKind.i64.wrap (((r4.2.1.1 : Nat) : Int) - 1)))).2.2.2.2.2.2.1, (r4.2.1.2 (Int.toNat (IntKind.i64.wrap (((r4.2.1.1 : Nat) : Int) - 1)))).2.2.2.2.2.2.2.1, (r4.2.1.2 (Int.toNat (IntKind.i64.wrap (((r4.2.1.1 : Nat) : Int) - 1)))).2.2.2.2.2.2.2.2.1, (IntKind.i64.wrap ((r4.2.1.2 (Int.toNat (IntKind.i64.wrap (((r4.2.1.1 : Nat) : Int) - 1)))).2.2.2.2.2.2.2.2.2.1 + 1)), ((r4.2.1.2 (Int.toNat (IntKind.i64.wrap (((r4.2.1.1 : Nat) : Int) - 1)))).2.2.2.2.2.2.2.2.2.2.1, (r4.2.1.2 (Int.toNat (IntKind.i64.wrap (((r4.2.1.1 : Nat) : Int) - 1)))).2.2.2.2.2.2.2.2.2.2.2)) else RiiiiiiiiiiL2.enc (r4.2.1.2 i)))), (r4.2.2.1.1, (fun i => Riiiiiiii.enc (r4.2.2.1.2 i))), (r4.2.2.2.1, (fun i => Riiiii.enc (r4.2.2.2.2 i)))))).bind fun r105 =>
  bif (!r105) then
    (world.Right.f (r2.1, r2.2.1, r2.2.2.1, r2.2.2.2.1, r2.2.2.2.2.1, (r2.2.2.2.2.2.1.1, (fun i => RiiiiiiiiiiL2.enc (r2.2.2.2.2.2.1.2 i))), (r2.2.2.2.2.2.2.1.1, (fun i => Riiiiiiii.enc (r2.2.2.2.2.2.2.1.2 i))), (r2.2.2.2.2.2.2.2.1, (fun i => Riiiii.enc (r2.2.2.2.2.2.2.2.2 i))))).bind fun r106 =>
    some r106
  else
  some false
  else none
  else none := by kernel_rfl
end Go.Proofs.Ytbcnifnmccaleaa.E
