/- Orders without corners: their list is nil (printed by wip/tools/mkxc.py). -/
import Derived.Test.YtghhecijpghfhaaYXb
namespace Go.Proofs.Ytghhecijpghfhaa.Y
open Go Go.RowKit Go.Proofs.Ytghhecijpghfhaa.E Go.Proofs.Ytghhecijpghfhaa.Ma Go.Proofs.Ytghhecijpghfhaa.Fw
set_option linter.unusedVariables false
set_option linter.unusedSimpArgs false
set_option maxRecDepth 100000

theorem Do_raw (o_0 : Int) (o_1 : Int) (o_2 : Int) (o_3 : Int) (o_4 : Int) (o_5_n : Nat) (o_5_g : Nat → (Int × Int × Int × Int × Int × Int × Int × Int × Int × Int × (Nat × (Nat → List AV)))) (o_6_n : Nat) (o_6_g : Nat → (Int × Int × Int × Int × Int × Int × Int × Int)) (o_7_n : Nat) (o_7_g : Nat → (Int × Int × Int × Int × Int)) (p0_0 : Int) (p0_1 : Int) (p0_2 : Int) (p0_3 : Int) (p0_4 : Int) (p0_5 : Int) (p0_6 : Int) (p0_7 : Int) (p0_8 : Int) (p0_9 : Int) (p0_10 : Int) (p0_11 : Int) (p0_12 : Int) (p0_13 : Int) (p0_14_n : Nat) (p0_14_g : Nat → List AV) : order.Do.f ((o_0, o_1, o_2, o_3, o_4, (o_5_n, (fun i => RiiiiiiiiiiL2.enc (o_5_g i))), (o_6_n, (fun i => Riiiiiiii.enc (o_6_g i))), (o_7_n, (fun i => Riiiii.enc (o_7_g i)))), (p0_0, p0_1, p0_2, p0_3, p0_4, p0_5, p0_6, p0_7, p0_8, p0_9, p0_10, p0_11, p0_12, p0_13, (p0_14_n, p0_14_g))) =
  bif (p0_0 == 1) then
    (order.body.f (p0_0, p0_1, p0_2, p0_3, p0_4, p0_5, p0_6, p0_7, p0_8, p0_9, p0_10, p0_11, p0_12, p0_13, (p0_14_n, p0_14_g))).bind fun r1 =>
    (world.AddBody.f ((o_0, o_1, o_2, o_3, o_4, (o_5_n, (fun i => RiiiiiiiiiiL2.enc (o_5_g i))), (o_6_n, (fun i => Riiiiiiii.enc (o_6_g i))), (o_7_n, (fun i => Riiiii.enc (o_7_g i)))), (r1.1, r1.2.1, r1.2.2.1, r1.2.2.2.1, r1.2.2.2.2.1, r1.2.2.2.2.2.1, r1.2.2.2.2.2.2.1, r1.2.2.2.2.2.2.2.1, r1.2.2.2.2.2.2.2.2.1, r1.2.2.2.2.2.2.2.2.2.1, (r1.2.2.2.2.2.2.2.2.2.2.1, (fun i => Rii.enc (r1.2.2.2.2.2.2.2.2.2.2.2 i)))))).bind fun r2 =>
    outD tU (tCons (tI .i64) (tCons (tI .i64) (tCons (tI .i64) (tCons (tI .i64) (tCons (tI .i64) (tCons (tTL RiiiiiiiiiiL2 11 (0, 0, 0, 0, 0, 0, 0, 0, 0, 0, (0, fun _ => []))) (tCons (tTL Riiiiiiii 8 (0, 0, 0, 0, 0, 0, 0, 0)) (tOne (tTL Riiiii 5 (0, 0, 0, 0, 0)))))))))) (.tup []) [.val (.int .i64 r2.2.1), .val (.int .i64 r2.2.2.1), .val (.int .i64 r2.2.2.2.1), .val (.int .i64 r2.2.2.2.2.1), .val (.int .i64 r2.2.2.2.2.2.1), .lst 11 r2.2.2.2.2.2.2.1.1 none (fun i => RiiiiiiiiiiL2.enc (r2.2.2.2.2.2.2.1.2 i)), .lst 8 r2.2.2.2.2.2.2.2.1.1 none (fun i => Riiiiiiii.enc (r2.2.2.2.2.2.2.2.1.2 i)), .lst 5 r2.2.2.2.2.2.2.2.2.1 none (fun i => Riiiii.enc (r2.2.2.2.2.2.2.2.2.2 i))]
  else
  bif (p0_0 == 2) then
    (world.RemoveBody.f ((o_0, o_1, o_2, o_3, o_4, (o_5_n, (fun i => RiiiiiiiiiiL2.enc (o_5_g i))), (o_6_n, (fun i => Riiiiiiii.enc (o_6_g i))), (o_7_n, (fun i => Riiiii.enc (o_7_g i)))), p0_1)).bind fun r3 =>
    outD tU (tCons (tI .i64) (tCons (tI .i64) (tCons (tI .i64) (tCons (tI .i64) (tCons (tI .i64) (tCons (tTL RiiiiiiiiiiL2 11 (0, 0, 0, 0, 0, 0, 0, 0, 0, 0, (0, fun _ => []))) (tCons (tTL Riiiiiiii 8 (0, 0, 0, 0, 0, 0, 0, 0)) (tOne (tTL Riiiii 5 (0, 0, 0, 0, 0)))))))))) (.tup []) [.val (.int .i64 r3.2.1), .val (.int .i64 r3.2.2.1), .val (.int .i64 r3.2.2.2.1), .val (.int .i64 r3.2.2.2.2.1), .val (.int .i64 r3.2.2.2.2.2.1), .lst 11 r3.2.2.2.2.2.2.1.1 none (fun i => RiiiiiiiiiiL2.enc (r3.2.2.2.2.2.2.1.2 i)), .lst 8 r3.2.2.2.2.2.2.2.1.1 none (fun i => Riiiiiiii.enc (r3.2.2.2.2.2.2.2.1.2 i)), .lst 5 r3.2.2.2.2.2.2.2.2.1 none (fun i => Riiiii.enc (r3.2.2.2.2.2.2.2.2.2 i))]
  else
  bif (p0_0 == 3) then
    (order.joint.f (p0_0, p0_1, p0_2, p0_3, p0_4, p0_5, p0_6, p0_7, p0_8, p0_9, p0_10, p0_11, p0_12, p0_13, (p0_14_n, p0_14_g))).bind fun r4 =>
    (world.AddJoint.f ((o_0, o_1, o_2, o_3, o_4, (o_5_n, (fun i => RiiiiiiiiiiL2.enc (o_5_g i))), (o_6_n, (fun i => Riiiiiiii.enc (o_6_g i))), (o_7_n, (fun i => Riiiii.enc (o_7_g i)))), (r4.1, r4.2.1, r4.2.2.1, r4.2.2.2.1, r4.2.2.2.2.1, r4.2.2.2.2.2.1, r4.2.2.2.2.2.2.1, r4.2.2.2.2.2.2.2))).bind fun r5 =>
    outD tU (tCons (tI .i64) (tCons (tI .i64) (tCons (tI .i64) (tCons (tI .i64) (tCons (tI .i64) (tCons (tTL RiiiiiiiiiiL2 11 (0, 0, 0, 0, 0, 0, 0, 0, 0, 0, (0, fun _ => []))) (tCons (tTL Riiiiiiii 8 (0, 0, 0, 0, 0, 0, 0, 0)) (tOne (tTL Riiiii 5 (0, 0, 0, 0, 0)))))))))) (.tup []) [.val (.int .i64 r5.2.1), .val (.int .i64 r5.2.2.1), .val (.int .i64 r5.2.2.2.1), .val (.int .i64 r5.2.2.2.2.1), .val (.int .i64 r5.2.2.2.2.2.1), .lst 11 r5.2.2.2.2.2.2.1.1 none (fun i => RiiiiiiiiiiL2.enc (r5.2.2.2.2.2.2.1.2 i)), .lst 8 r5.2.2.2.2.2.2.2.1.1 none (fun i => Riiiiiiii.enc (r5.2.2.2.2.2.2.2.1.2 i)), .lst 5 r5.2.2.2.2.2.2.2.2.1 none (fun i => Riiiii.enc (r5.2.2.2.2.2.2.2.2.2 i))]
  else
  bif (p0_0 == 4) then
    (world.RemoveJoint.f ((o_0, o_1, o_2, o_3, o_4, (o_5_n, (fun i => RiiiiiiiiiiL2.enc (o_5_g i))), (o_6_n, (fun i => Riiiiiiii.enc (o_6_g i))), (o_7_n, (fun i => Riiiii.enc (o_7_g i)))), p0_1)).bind fun r6 =>
    outD tU (tCons (tI .i64) (tCons (tI .i64) (tCons (tI .i64) (tCons (tI .i64) (tCons (tI .i64) (tCons (tTL RiiiiiiiiiiL2 11 (0, 0, 0, 0, 0, 0, 0, 0, 0, 0, (0, fun _ => []))) (tCons (tTL Riiiiiiii 8 (0, 0, 0, 0, 0, 0, 0, 0)) (tOne (tTL Riiiii 5 (0, 0, 0, 0, 0)))))))))) (.tup []) [.val (.int .i64 r6.2.1), .val (.int .i64 r6.2.2.1), .val (.int .i64 r6.2.2.2.1), .val (.int .i64 r6.2.2.2.2.1), .val (.int .i64 r6.2.2.2.2.2.1), .lst 11 r6.2.2.2.2.2.2.1.1 none (fun i => RiiiiiiiiiiL2.enc (r6.2.2.2.2.2.2.1.2 i)), .lst 8 r6.2.2.2.2.2.2.2.1.1 none (fun i => Riiiiiiii.enc (r6.2.2.2.2.2.2.2.1.2 i)), .lst 5 r6.2.2.2.2.2.2.2.2.1 none (fun i => Riiiii.enc (r6.2.2.2.2.2.2.2.2.2 i))]
  else
  bif (p0_0 == 5) then
    (order.push.f ((o_0, o_1, o_2, o_3, o_4, (o_5_n, (fun i => RiiiiiiiiiiL2.enc (o_5_g i))), (o_6_n, (fun i => Riiiiiiii.enc (o_6_g i))), (o_7_n, (fun i => Riiiii.enc (o_7_g i)))), (p0_0, p0_1, p0_2, p0_3, p0_4, p0_5, p0_6, p0_7, p0_8, p0_9, p0_10, p0_11, p0_12, p0_13, (p0_14_n, p0_14_g)))).bind fun r7 =>
    outD tU (tCons (tI .i64) (tCons (tI .i64) (tCons (tI .i64) (tCons (tI .i64) (tCons (tI .i64) (tCons (tTL RiiiiiiiiiiL2 11 (0, 0, 0, 0, 0, 0, 0, 0, 0, 0, (0, fun _ => []))) (tCons (tTL Riiiiiiii 8 (0, 0, 0, 0, 0, 0, 0, 0)) (tOne (tTL Riiiii 5 (0, 0, 0, 0, 0)))))))))) (.tup []) [.val (.int .i64 r7.2.1), .val (.int .i64 r7.2.2.1), .val (.int .i64 r7.2.2.2.1), .val (.int .i64 r7.2.2.2.2.1), .val (.int .i64 r7.2.2.2.2.2.1), .lst 11 r7.2.2.2.2.2.2.1.1 none (fun i => RiiiiiiiiiiL2.enc (r7.2.2.2.2.2.2.1.2 i)), .lst 8 r7.2.2.2.2.2.2.2.1.1 none (fun i => Riiiiiiii.enc (r7.2.2.2.2.2.2.2.1.2 i)), .lst 5 r7.2.2.2.2.2.2.2.2.1 none (fun i => Riiiii.enc (r7.2.2.2.2.2.2.2.2.2 i))]
  else
  bif (p0_0 == 6) then
    outD tU (tCons (tI .i64) (tCons (tI .i64) (tCons (tI .i64) (tCons (tI .i64) (tCons (tI .i64) (tCons (tTL RiiiiiiiiiiL2 11 (0, 0, 0, 0, 0, 0, 0, 0, 0, 0, (0, fun _ => []))) (tCons (tTL Riiiiiiii 8 (0, 0, 0, 0, 0, 0, 0, 0)) (tOne (tTL Riiiii 5 (0, 0, 0, 0, 0)))))))))) (.tup []) [.val (.int .i64 o_0), .val (.int .i64 o_1), .val (.int .i64 o_2), .val (.int .i64 p0_6), .val (.int .i64 p0_7), .lst 11 o_5_n none (fun i => RiiiiiiiiiiL2.enc (o_5_g i)), .lst 8 o_6_n none (fun i => Riiiiiiii.enc (o_6_g i)), .lst 5 o_7_n none (fun i => Riiiii.enc (o_7_g i))]
  else
  outD tU (tCons (tI .i64) (tCons (tI .i64) (tCons (tI .i64) (tCons (tI .i64) (tCons (tI .i64) (tCons (tTL RiiiiiiiiiiL2 11 (0, 0, 0, 0, 0, 0, 0, 0, 0, 0, (0, fun _ => []))) (tCons (tTL Riiiiiiii 8 (0, 0, 0, 0, 0, 0, 0, 0)) (tOne (tTL Riiiii 5 (0, 0, 0, 0, 0)))))))))) (.tup []) [.val (.int .i64 o_0), .val (.int .i64 o_1), .val (.int .i64 o_2), .val (.int .i64 o_3), .val (.int .i64 o_4), .lst 11 o_5_n none (fun i => RiiiiiiiiiiL2.enc (o_5_g i)), .lst 8 o_6_n none (fun i => Riiiiiiii.enc (o_6_g i)), .lst 5 o_7_n none (fun i => Riiiii.enc (o_7_g i))] := by kernel_rfl
theorem push_raw (o_0 : Int) (o_1 : Int) (o_2 : Int) (o_3 : Int) (o_4 : Int) (o_5_n : Nat) (o_5_g : Nat → (Int × Int × Int × Int × Int × Int × Int × Int × Int × Int × (Nat × (Nat → List AV)))) (o_6_n : Nat) (o_6_g : Nat → (Int × Int × Int × Int × Int × Int × Int × Int)) (o_7_n : Nat) (o_7_g : Nat → (Int × Int × Int × Int × Int)) (p0_0 : Int) (p0_1 : Int) (p0_2 : Int) (p0_3 : Int) (p0_4 : Int) (p0_5 : Int) (p0_6 : Int) (p0_7 : Int) (p0_8 : Int) (p0_9 : Int) (p0_10 : Int) (p0_11 : Int) (p0_12 : Int) (p0_13 : Int) (p0_14_n : Nat) (p0_14_g : Nat → List AV) : order.push.f ((o_0, o_1, o_2, o_3, o_4, (o_5_n, (fun i => RiiiiiiiiiiL2.enc (o_5_g i))), (o_6_n, (fun i => Riiiiiiii.enc (o_6_g i))), (o_7_n, (fun i => Riiiii.enc (o_7_g i)))), (p0_0, p0_1, p0_2, p0_3, p0_4, p0_5, p0_6, p0_7, p0_8, p0_9, p0_10, p0_11, p0_12, p0_13, (p0_14_n, p0_14_g))) =
  (world.Body.f ((o_0, o_1, o_2, o_3, o_4, (o_5_n, (fun i => RiiiiiiiiiiL2.enc (o_5_g i))), (o_6_n, (fun i => Riiiiiiii.enc (o_6_g i))), (o_7_n, (fun i => Riiiii.enc (o_7_g i)))), p0_1)).bind fun r1 =>
  bif (!r1.2) then
    outD tU (tCons (tI .i64) (tCons (tI .i64) (tCons (tI .i64) (tCons (tI .i64) (tCons (tI .i64) (tCons (tTL RiiiiiiiiiiL2 11 (0, 0, 0, 0, 0, 0, 0, 0, 0, 0, (0, fun _ => []))) (tCons (tTL Riiiiiiii 8 (0, 0, 0, 0, 0, 0, 0, 0)) (tOne (tTL Riiiii 5 (0, 0, 0, 0, 0)))))))))) (.tup []) [.val (.int .i64 o_0), .val (.int .i64 o_1), .val (.int .i64 o_2), .val (.int .i64 o_3), .val (.int .i64 o_4), .lst 11 o_5_n none (fun i => RiiiiiiiiiiL2.enc (o_5_g i)), .lst 8 o_6_n none (fun i => Riiiiiiii.enc (o_6_g i)), .lst 5 o_7_n none (fun i => Riiiii.enc (o_7_g i))]
  else
  bif ((decide (0 ≤ r1.1)) && (decide (r1.1 < ((o_5_n : Nat) : Int)))) then
  bif (decide ((o_5_g (Int.toNat r1.1)).2.2.2.2.2.2.2.1 ≤ 0)) then
    outD tU (tCons (tI .i64) (tCons (tI .i64) (tCons (tI .i64) (tCons (tI .i64) (tCons (tI .i64) (tCons (tTL RiiiiiiiiiiL2 11 (0, 0, 0, 0, 0, 0, 0, 0, 0, 0, (0, fun _ => []))) (tCons (tTL Riiiiiiii 8 (0, 0, 0, 0, 0, 0, 0, 0)) (tOne (tTL Riiiii 5 (0, 0, 0, 0, 0)))))))))) (.tup []) [.val (.int .i64 o_0), .val (.int .i64 o_1), .val (.int .i64 o_2), .val (.int .i64 o_3), .val (.int .i64 o_4), .lst 11 o_5_n none (fun i => RiiiiiiiiiiL2.enc (o_5_g i)), .lst 8 o_6_n none (fun i => Riiiiiiii.enc (o_6_g i)), .lst 5 o_7_n none (fun i => Riiiii.enc (o_7_g i))]
  else
  bif (decide (o_5_n * 104 ≤ 140737488355328)) then
  (rowsD rtRiiiiiiiiiiL2 o_5_n (fun i => cloL (if i < 0 then (fun _ => [.val (.int .i64 0), .val (.int .i64 0), .val (.int .i64 0), .val (.int .i64 0), .val (.int .i64 0), .val (.int .i64 0), .val (.int .i64 0), .val (.int .i64 0), .val (.int .i64 0), .val (.int .i64 0), .val (.slice none 0 0)]) i else (fun i => RiiiiiiiiiiL2.enc (o_5_g i)) (i - 0)))).bind fun r2 =>
  bif ((decide (0 ≤ r1.1)) && (decide (r1.1 < ((o_5_n : Nat) : Int)))) then
  (mass.Of.f ((r2 (Int.toNat r1.1)).1, (r2 (Int.toNat r1.1)).2.1, (r2 (Int.toNat r1.1)).2.2.1, (r2 (Int.toNat r1.1)).2.2.2.1, (r2 (Int.toNat r1.1)).2.2.2.2.1, (r2 (Int.toNat r1.1)).2.2.2.2.2.1, (r2 (Int.toNat r1.1)).2.2.2.2.2.2.1, (r2 (Int.toNat r1.1)).2.2.2.2.2.2.2.1, (r2 (Int.toNat r1.1)).2.2.2.2.2.2.2.2.1, (r2 (Int.toNat r1.1)).2.2.2.2.2.2.2.2.2.1, ((r2 (Int.toNat r1.1)).2.2.2.2.2.2.2.2.2.2.1, (r2 (Int.toNat r1.1)).2.2.2.2.2.2.2.2.2.2.2))).bind fun r3 =>
  (rowsD rtRiiiiiiiiiiL2 o_5_n (fun i => RiiiiiiiiiiL2.enc (r2 i))).bind fun r4 =>
  (vec.Scale.f ((p0_6, p0_7), r3.2.2.1)).bind fun r5 =>
  (vec.Add.f (((r4 (Int.toNat r1.1)).2.2.2.1, (r4 (Int.toNat r1.1)).2.2.2.2.1), (r5.1, r5.2))).bind fun r6 =>
  (vec.Bring.f ((r6.1, r6.2), 17592186044416)).bind fun r7 =>
  (rowsD rtRiiiiiiiiiiL2 o_5_n (fun i => cloL (if i = (Int.toNat r1.1) then RiiiiiiiiiiL2.enc ((r4 (Int.toNat r1.1)).1, (r4 (Int.toNat r1.1)).2.1, (r4 (Int.toNat r1.1)).2.2.1, r7.1, r7.2, (r4 (Int.toNat r1.1)).2.2.2.2.2.1, (r4 (Int.toNat r1.1)).2.2.2.2.2.2.1, (r4 (Int.toNat r1.1)).2.2.2.2.2.2.2.1, (r4 (Int.toNat r1.1)).2.2.2.2.2.2.2.2.1, (r4 (Int.toNat r1.1)).2.2.2.2.2.2.2.2.2.1, ((r4 (Int.toNat r1.1)).2.2.2.2.2.2.2.2.2.2.1, (r4 (Int.toNat r1.1)).2.2.2.2.2.2.2.2.2.2.2)) else RiiiiiiiiiiL2.enc (r4 i)))).bind fun r8 =>
  (fix.Mul.f (p0_9, r3.2.2.2)).bind fun r9 =>
  (fix.Add.f ((r8 (Int.toNat r1.1)).2.2.2.2.2.2.1, r9)).bind fun r10 =>
  (fix.Bring.f (r10, (-1099511627776), 1099511627776)).bind fun r11 =>
  (rowsD rtRiiiiiiiiiiL2 o_5_n (fun i => cloL (if i = (Int.toNat r1.1) then RiiiiiiiiiiL2.enc ((r8 (Int.toNat r1.1)).1, (r8 (Int.toNat r1.1)).2.1, (r8 (Int.toNat r1.1)).2.2.1, (r8 (Int.toNat r1.1)).2.2.2.1, (r8 (Int.toNat r1.1)).2.2.2.2.1, (r8 (Int.toNat r1.1)).2.2.2.2.2.1, r11, (r8 (Int.toNat r1.1)).2.2.2.2.2.2.2.1, (r8 (Int.toNat r1.1)).2.2.2.2.2.2.2.2.1, (r8 (Int.toNat r1.1)).2.2.2.2.2.2.2.2.2.1, ((r8 (Int.toNat r1.1)).2.2.2.2.2.2.2.2.2.2.1, (r8 (Int.toNat r1.1)).2.2.2.2.2.2.2.2.2.2.2)) else RiiiiiiiiiiL2.enc (r8 i)))).bind fun r12 =>
  outD tU (tCons (tI .i64) (tCons (tI .i64) (tCons (tI .i64) (tCons (tI .i64) (tCons (tI .i64) (tCons (tTL RiiiiiiiiiiL2 11 (0, 0, 0, 0, 0, 0, 0, 0, 0, 0, (0, fun _ => []))) (tCons (tTL Riiiiiiii 8 (0, 0, 0, 0, 0, 0, 0, 0)) (tOne (tTL Riiiii 5 (0, 0, 0, 0, 0)))))))))) (.tup []) [.val (.int .i64 o_0), .val (.int .i64 o_1), .val (.int .i64 o_2), .val (.int .i64 o_3), .val (.int .i64 o_4), .lst 11 o_5_n none (fun i => RiiiiiiiiiiL2.enc (r12 i)), .lst 8 o_6_n none (fun i => Riiiiiiii.enc (o_6_g i)), .lst 5 o_7_n none (fun i => Riiiii.enc (o_7_g i))]
  else none
  else none
  else none := by kernel_rfl
theorem used_raw (p0_0 : Int) (p0_1 : Int) (p0_2 : Int) (p0_3 : Int) (p0_4 : Int) (p0_5 : Int) (p0_6 : Int) (p0_7 : Int) (p0_8 : Int) (p0_9 : Int) (p0_10 : Int) (p0_11 : Int) (p0_12 : Int) (p0_13 : Int) (p0_14_n : Nat) (p0_14_g : Nat → List AV) : order.used.f (p0_0, p0_1, p0_2, p0_3, p0_4, p0_5, p0_6, p0_7, p0_8, p0_9, p0_10, p0_11, p0_12, p0_13, (p0_14_n, p0_14_g)) =
  bif (p0_0 == 1) then
    (tG (tCons (tI .i64) (tCons (tI .i64) (tCons (tI .i64) (tCons (tI .i64) (tCons (tI .i64) (tCons (tI .i64) (tCons (tI .i64) (tCons (tI .i64) (tCons (tI .i64) (tCons (tI .i64) (tCons (tI .i64) (tCons (tI .i64) (tCons (tI .i64) (tCons (tI .i64) (tOne (tTL Rii 2 (0, 0)))))))))))))))))).dec (.agg [.val (.int .i64 p0_0), .val (.int .i64 0), .val (.int .i64 0), .val (.int .i64 0), .val (.int .i64 p0_4), .val (.int .i64 p0_5), .val (.int .i64 p0_6), .val (.int .i64 p0_7), .val (.int .i64 p0_8), .val (.int .i64 p0_9), .val (.int .i64 p0_10), .val (.int .i64 0), .val (.int .i64 p0_12), .val (.int .i64 p0_13), .lst 2 p0_14_n none p0_14_g])
  else
  bif (p0_0 == 2) then
    bif (p0_0 == 2) then
      (tG (tCons (tI .i64) (tCons (tI .i64) (tCons (tI .i64) (tCons (tI .i64) (tCons (tI .i64) (tCons (tI .i64) (tCons (tI .i64) (tCons (tI .i64) (tCons (tI .i64) (tCons (tI .i64) (tCons (tI .i64) (tCons (tI .i64) (tCons (tI .i64) (tCons (tI .i64) (tOne (tTL Rii 2 (0, 0)))))))))))))))))).dec (.agg [.val (.int .i64 p0_0), .val (.int .i64 p0_1), .val (.int .i64 0), .val (.int .i64 0), .val (.int .i64 0), .val (.int .i64 0), .val (.int .i64 0), .val (.int .i64 0), .val (.int .i64 0), .val (.int .i64 0), .val (.int .i64 0), .val (.int .i64 0), .val (.int .i64 0), .val (.int .i64 0), .val (.slice none 0 0)])
    else
    bif (p0_0 == 3) then
      (tG (tCons (tI .i64) (tCons (tI .i64) (tCons (tI .i64) (tCons (tI .i64) (tCons (tI .i64) (tCons (tI .i64) (tCons (tI .i64) (tCons (tI .i64) (tCons (tI .i64) (tCons (tI .i64) (tCons (tI .i64) (tCons (tI .i64) (tCons (tI .i64) (tCons (tI .i64) (tOne (tTL Rii 2 (0, 0)))))))))))))))))).dec (.agg [.val (.int .i64 p0_0), .val (.int .i64 0), .val (.int .i64 p0_2), .val (.int .i64 p0_3), .val (.int .i64 p0_4), .val (.int .i64 p0_5), .val (.int .i64 p0_6), .val (.int .i64 p0_7), .val (.int .i64 0), .val (.int .i64 0), .val (.int .i64 0), .val (.int .i64 p0_11), .val (.int .i64 0), .val (.int .i64 0), .val (.slice none 0 0)])
    else
    bif (p0_0 == 5) then
      (tG (tCons (tI .i64) (tCons (tI .i64) (tCons (tI .i64) (tCons (tI .i64) (tCons (tI .i64) (tCons (tI .i64) (tCons (tI .i64) (tCons (tI .i64) (tCons (tI .i64) (tCons (tI .i64) (tCons (tI .i64) (tCons (tI .i64) (tCons (tI .i64) (tCons (tI .i64) (tOne (tTL Rii 2 (0, 0)))))))))))))))))).dec (.agg [.val (.int .i64 p0_0), .val (.int .i64 p0_1), .val (.int .i64 0), .val (.int .i64 0), .val (.int .i64 0), .val (.int .i64 0), .val (.int .i64 p0_6), .val (.int .i64 p0_7), .val (.int .i64 0), .val (.int .i64 p0_9), .val (.int .i64 0), .val (.int .i64 0), .val (.int .i64 0), .val (.int .i64 0), .val (.slice none 0 0)])
    else
    bif (p0_0 == 6) then
      (tG (tCons (tI .i64) (tCons (tI .i64) (tCons (tI .i64) (tCons (tI .i64) (tCons (tI .i64) (tCons (tI .i64) (tCons (tI .i64) (tCons (tI .i64) (tCons (tI .i64) (tCons (tI .i64) (tCons (tI .i64) (tCons (tI .i64) (tCons (tI .i64) (tCons (tI .i64) (tOne (tTL Rii 2 (0, 0)))))))))))))))))).dec (.agg [.val (.int .i64 p0_0), .val (.int .i64 0), .val (.int .i64 0), .val (.int .i64 0), .val (.int .i64 0), .val (.int .i64 0), .val (.int .i64 p0_6), .val (.int .i64 p0_7), .val (.int .i64 0), .val (.int .i64 0), .val (.int .i64 0), .val (.int .i64 0), .val (.int .i64 0), .val (.int .i64 0), .val (.slice none 0 0)])
    else
    (tG (tCons (tI .i64) (tCons (tI .i64) (tCons (tI .i64) (tCons (tI .i64) (tCons (tI .i64) (tCons (tI .i64) (tCons (tI .i64) (tCons (tI .i64) (tCons (tI .i64) (tCons (tI .i64) (tCons (tI .i64) (tCons (tI .i64) (tCons (tI .i64) (tCons (tI .i64) (tOne (tTL Rii 2 (0, 0)))))))))))))))))).dec (.agg [.val (.int .i64 p0_0), .val (.int .i64 0), .val (.int .i64 0), .val (.int .i64 0), .val (.int .i64 0), .val (.int .i64 0), .val (.int .i64 0), .val (.int .i64 0), .val (.int .i64 0), .val (.int .i64 0), .val (.int .i64 0), .val (.int .i64 0), .val (.int .i64 0), .val (.int .i64 0), .val (.slice none 0 0)])
  else
  bif (p0_0 == 4) then
    (tG (tCons (tI .i64) (tCons (tI .i64) (tCons (tI .i64) (tCons (tI .i64) (tCons (tI .i64) (tCons (tI .i64) (tCons (tI .i64) (tCons (tI .i64) (tCons (tI .i64) (tCons (tI .i64) (tCons (tI .i64) (tCons (tI .i64) (tCons (tI .i64) (tCons (tI .i64) (tOne (tTL Rii 2 (0, 0)))))))))))))))))).dec (.agg [.val (.int .i64 p0_0), .val (.int .i64 p0_1), .val (.int .i64 0), .val (.int .i64 0), .val (.int .i64 0), .val (.int .i64 0), .val (.int .i64 0), .val (.int .i64 0), .val (.int .i64 0), .val (.int .i64 0), .val (.int .i64 0), .val (.int .i64 0), .val (.int .i64 0), .val (.int .i64 0), .val (.slice none 0 0)])
  else
  bif (p0_0 == 3) then
    (tG (tCons (tI .i64) (tCons (tI .i64) (tCons (tI .i64) (tCons (tI .i64) (tCons (tI .i64) (tCons (tI .i64) (tCons (tI .i64) (tCons (tI .i64) (tCons (tI .i64) (tCons (tI .i64) (tCons (tI .i64) (tCons (tI .i64) (tCons (tI .i64) (tCons (tI .i64) (tOne (tTL Rii 2 (0, 0)))))))))))))))))).dec (.agg [.val (.int .i64 p0_0), .val (.int .i64 0), .val (.int .i64 p0_2), .val (.int .i64 p0_3), .val (.int .i64 p0_4), .val (.int .i64 p0_5), .val (.int .i64 p0_6), .val (.int .i64 p0_7), .val (.int .i64 0), .val (.int .i64 0), .val (.int .i64 0), .val (.int .i64 p0_11), .val (.int .i64 0), .val (.int .i64 0), .val (.slice none 0 0)])
  else
  bif (p0_0 == 5) then
    (tG (tCons (tI .i64) (tCons (tI .i64) (tCons (tI .i64) (tCons (tI .i64) (tCons (tI .i64) (tCons (tI .i64) (tCons (tI .i64) (tCons (tI .i64) (tCons (tI .i64) (tCons (tI .i64) (tCons (tI .i64) (tCons (tI .i64) (tCons (tI .i64) (tCons (tI .i64) (tOne (tTL Rii 2 (0, 0)))))))))))))))))).dec (.agg [.val (.int .i64 p0_0), .val (.int .i64 p0_1), .val (.int .i64 0), .val (.int .i64 0), .val (.int .i64 0), .val (.int .i64 0), .val (.int .i64 p0_6), .val (.int .i64 p0_7), .val (.int .i64 0), .val (.int .i64 p0_9), .val (.int .i64 0), .val (.int .i64 0), .val (.int .i64 0), .val (.int .i64 0), .val (.slice none 0 0)])
  else
  bif (p0_0 == 6) then
    (tG (tCons (tI .i64) (tCons (tI .i64) (tCons (tI .i64) (tCons (tI .i64) (tCons (tI .i64) (tCons (tI .i64) (tCons (tI .i64) (tCons (tI .i64) (tCons (tI .i64) (tCons (tI .i64) (tCons (tI .i64) (tCons (tI .i64) (tCons (tI .i64) (tCons (tI .i64) (tOne (tTL Rii 2 (0, 0)))))))))))))))))).dec (.agg [.val (.int .i64 p0_0), .val (.int .i64 0), .val (.int .i64 0), .val (.int .i64 0), .val (.int .i64 0), .val (.int .i64 0), .val (.int .i64 p0_6), .val (.int .i64 p0_7), .val (.int .i64 0), .val (.int .i64 0), .val (.int .i64 0), .val (.int .i64 0), .val (.int .i64 0), .val (.int .i64 0), .val (.slice none 0 0)])
  else
  (tG (tCons (tI .i64) (tCons (tI .i64) (tCons (tI .i64) (tCons (tI .i64) (tCons (tI .i64) (tCons (tI .i64) (tCons (tI .i64) (tCons (tI .i64) (tCons (tI .i64) (tCons (tI .i64) (tCons (tI .i64) (tCons (tI .i64) (tCons (tI .i64) (tCons (tI .i64) (tOne (tTL Rii 2 (0, 0)))))))))))))))))).dec (.agg [.val (.int .i64 p0_0), .val (.int .i64 0), .val (.int .i64 0), .val (.int .i64 0), .val (.int .i64 0), .val (.int .i64 0), .val (.int .i64 0), .val (.int .i64 0), .val (.int .i64 0), .val (.int .i64 0), .val (.int .i64 0), .val (.int .i64 0), .val (.int .i64 0), .val (.int .i64 0), .val (.slice none 0 0)]) := by kernel_rfl
theorem body_raw (p0_0 : Int) (p0_1 : Int) (p0_2 : Int) (p0_3 : Int) (p0_4 : Int) (p0_5 : Int) (p0_6 : Int) (p0_7 : Int) (p0_8 : Int) (p0_9 : Int) (p0_10 : Int) (p0_11 : Int) (p0_12 : Int) (p0_13 : Int) (p0_14_n : Nat) (p0_14_g : Nat → List AV) : order.body.f (p0_0, p0_1, p0_2, p0_3, p0_4, p0_5, p0_6, p0_7, p0_8, p0_9, p0_10, p0_11, p0_12, p0_13, (p0_14_n, p0_14_g)) =
  (tG (tCons (tI .i64) (tCons (tI .i64) (tCons (tI .i64) (tCons (tI .i64) (tCons (tI .i64) (tCons (tI .i64) (tCons (tI .i64) (tCons (tI .i64) (tCons (tI .i64) (tCons (tI .i64) (tOne (tTL Rii 2 (0, 0)))))))))))))).dec (.agg [.val (.int .i64 0), .val (.int .i64 p0_4), .val (.int .i64 p0_5), .val (.int .i64 p0_6), .val (.int .i64 p0_7), .val (.int .i64 p0_8), .val (.int .i64 p0_9), .val (.int .i64 p0_10), .val (.int .i64 p0_12), .val (.int .i64 p0_13), .lst 2 p0_14_n none p0_14_g]) := by kernel_rfl
theorem joint_raw (p0_0 : Int) (p0_1 : Int) (p0_2 : Int) (p0_3 : Int) (p0_4 : Int) (p0_5 : Int) (p0_6 : Int) (p0_7 : Int) (p0_8 : Int) (p0_9 : Int) (p0_10 : Int) (p0_11 : Int) (p0_12 : Int) (p0_13 : Int) (p0_14_n : Nat) (p0_14_g : Nat → List AV) : order.joint.f (p0_0, p0_1, p0_2, p0_3, p0_4, p0_5, p0_6, p0_7, p0_8, p0_9, p0_10, p0_11, p0_12, p0_13, (p0_14_n, p0_14_g)) =
  some (0, p0_2, p0_3, p0_4, p0_5, p0_6, p0_7, p0_11) := by kernel_rfl
theorem over_raw (p0_0 : Int) (p0_1 : Int) (p0_2 : Int) (p0_3 : Int) (p0_4 : Int) (p0_5_n : Nat) (p0_5_g : Nat → (Int × Int × Int × Int × Int × Int × Int × Int × Int × Int × (Nat × (Nat → List AV)))) (p0_6_n : Nat) (p0_6_g : Nat → (Int × Int × Int × Int × Int × Int × Int × Int)) (p0_7_n : Nat) (p0_7_g : Nat → (Int × Int × Int × Int × Int)) (p1_0 : Int) (p1_1 : Int) (p1_2 : Int) (p1_3 : Int) (p1_4 : Int) (p1_5 : Int) (p1_6 : Int) (p1_7 : Int) (p1_8 : Int) (p1_9 : Int) (p1_10 : Int) (p1_11 : Int) (p1_12 : Int) (p1_13 : Int) (p1_14_n : Nat) (p1_14_g : Nat → List AV) : order.over.f ((p0_0, p0_1, p0_2, p0_3, p0_4, (p0_5_n, (fun i => RiiiiiiiiiiL2.enc (p0_5_g i))), (p0_6_n, (fun i => Riiiiiiii.enc (p0_6_g i))), (p0_7_n, (fun i => Riiiii.enc (p0_7_g i)))), (p1_0, p1_1, p1_2, p1_3, p1_4, p1_5, p1_6, p1_7, p1_8, p1_9, p1_10, p1_11, p1_12, p1_13, (p1_14_n, p1_14_g))) =
  bif (p1_0 == 1) then
    bif (decide (((p0_5_n : Nat) : Int) ≥ 1024)) then
      some true
    else
    some (decide (p0_1 ≥ 4611686018427387904))
  else
  bif (p1_0 == 3) then
    (world.Body.f ((p0_0, p0_1, p0_2, p0_3, p0_4, (p0_5_n, (fun i => RiiiiiiiiiiL2.enc (p0_5_g i))), (p0_6_n, (fun i => Riiiiiiii.enc (p0_6_g i))), (p0_7_n, (fun i => Riiiii.enc (p0_7_g i)))), p1_2)).bind fun r1 =>
    (world.Body.f ((p0_0, p0_1, p0_2, p0_3, p0_4, (p0_5_n, (fun i => RiiiiiiiiiiL2.enc (p0_5_g i))), (p0_6_n, (fun i => Riiiiiiii.enc (p0_6_g i))), (p0_7_n, (fun i => Riiiii.enc (p0_7_g i)))), p1_3)).bind fun r2 =>
    bif r1.2 then
      bif r2.2 then
        bif (decide (((p0_6_n : Nat) : Int) ≥ 1024)) then
          some true
        else
        some (decide (p0_2 ≥ 4611686018427387904))
      else
      some false
    else
    some false
  else
  some false := by kernel_rfl
theorem Right_raw (p0_0 : Int) (p0_1 : Int) (p0_2 : Int) (p0_3 : Int) (p0_4 : Int) (p0_5 : Int) (p0_6 : Int) (p0_7 : Int) (p0_8 : Int) (p0_9 : Int) (p0_10 : Int) (p0_11 : Int) (p0_12 : Int) (p0_13 : Int) (p0_14_n : Nat) (p0_14_g : Nat → List AV) : order.Right.f (p0_0, p0_1, p0_2, p0_3, p0_4, p0_5, p0_6, p0_7, p0_8, p0_9, p0_10, p0_11, p0_12, p0_13, (p0_14_n, p0_14_g)) =
  (order.used.f (p0_0, p0_1, p0_2, p0_3, p0_4, p0_5, p0_6, p0_7, p0_8, p0_9, p0_10, p0_11, p0_12, p0_13, (p0_14_n, p0_14_g))).bind fun r1 =>
  (order.Same.f ((p0_0, p0_1, p0_2, p0_3, p0_4, p0_5, p0_6, p0_7, p0_8, p0_9, p0_10, p0_11, p0_12, p0_13, (p0_14_n, p0_14_g)), (r1.1, r1.2.1, r1.2.2.1, r1.2.2.2.1, r1.2.2.2.2.1, r1.2.2.2.2.2.1, r1.2.2.2.2.2.2.1, r1.2.2.2.2.2.2.2.1, r1.2.2.2.2.2.2.2.2.1, r1.2.2.2.2.2.2.2.2.2.1, r1.2.2.2.2.2.2.2.2.2.2.1, r1.2.2.2.2.2.2.2.2.2.2.2.1, r1.2.2.2.2.2.2.2.2.2.2.2.2.1, r1.2.2.2.2.2.2.2.2.2.2.2.2.2.1, (r1.2.2.2.2.2.2.2.2.2.2.2.2.2.2.1, (fun i => Rii.enc (r1.2.2.2.2.2.2.2.2.2.2.2.2.2.2.2 i)))))).bind fun r2 =>
  bif (!r2) then
    some false
  else
  bif (p0_0 == 1) then
    (order.body.f (p0_0, p0_1, p0_2, p0_3, p0_4, p0_5, p0_6, p0_7, p0_8, p0_9, p0_10, p0_11, p0_12, p0_13, (p0_14_n, p0_14_g))).bind fun r3 =>
    (world.RightBody.f (r3.1, r3.2.1, r3.2.2.1, r3.2.2.2.1, r3.2.2.2.2.1, r3.2.2.2.2.2.1, r3.2.2.2.2.2.2.1, r3.2.2.2.2.2.2.2.1, r3.2.2.2.2.2.2.2.2.1, r3.2.2.2.2.2.2.2.2.2.1, (r3.2.2.2.2.2.2.2.2.2.2.1, (fun i => Rii.enc (r3.2.2.2.2.2.2.2.2.2.2.2 i))))).bind fun r4 =>
    some r4
  else
  bif (p0_0 == 2) then
    bif (p0_0 == 2) then
      some (decide (p0_1 ≥ 1))
    else
    bif (p0_0 == 3) then
      (order.joint.f (p0_0, p0_1, p0_2, p0_3, p0_4, p0_5, p0_6, p0_7, p0_8, p0_9, p0_10, p0_11, p0_12, p0_13, (p0_14_n, p0_14_g))).bind fun r5 =>
      (world.RightJoint.f (r5.1, r5.2.1, r5.2.2.1, r5.2.2.2.1, r5.2.2.2.2.1, r5.2.2.2.2.2.1, r5.2.2.2.2.2.2.1, r5.2.2.2.2.2.2.2)).bind fun r6 =>
      some r6
    else
    bif (p0_0 == 5) then
      bif (decide (p0_1 ≥ 1)) then
        (order.within.f ((p0_6, p0_7), 4611686018427387904)).bind fun r7 =>
        bif r7 then
          (fix.Abs.f p0_9).bind fun r8 =>
          some (decide (r8 ≤ 4611686018427387904))
        else
        some false
      else
      some false
    else
    bif (p0_0 == 6) then
      (order.within.f ((p0_6, p0_7), 17592186044416)).bind fun r9 =>
      some r9
    else
    some false
  else
  bif (p0_0 == 4) then
    some (decide (p0_1 ≥ 1))
  else
  bif (p0_0 == 3) then
    (order.joint.f (p0_0, p0_1, p0_2, p0_3, p0_4, p0_5, p0_6, p0_7, p0_8, p0_9, p0_10, p0_11, p0_12, p0_13, (p0_14_n, p0_14_g))).bind fun r10 =>
    (world.RightJoint.f (r10.1, r10.2.1, r10.2.2.1, r10.2.2.2.1, r10.2.2.2.2.1, r10.2.2.2.2.2.1, r10.2.2.2.2.2.2.1, r10.2.2.2.2.2.2.2)).bind fun r11 =>
    some r11
  else
  bif (p0_0 == 5) then
    bif (decide (p0_1 ≥ 1)) then
      (order.within.f ((p0_6, p0_7), 4611686018427387904)).bind fun r12 =>
      bif r12 then
        (fix.Abs.f p0_9).bind fun r13 =>
        some (decide (r13 ≤ 4611686018427387904))
      else
      some false
    else
    some false
  else
  bif (p0_0 == 6) then
    (order.within.f ((p0_6, p0_7), 17592186044416)).bind fun r14 =>
    some r14
  else
  some false := by kernel_rfl
/-- The same order, its list without elements told by rows. -/
def tyd (o : OT) : OT := (o.1, o.2.1, o.2.2.1, o.2.2.2.1, o.2.2.2.2.1, o.2.2.2.2.2.1, o.2.2.2.2.2.2.1, o.2.2.2.2.2.2.2.1, o.2.2.2.2.2.2.2.2.1, o.2.2.2.2.2.2.2.2.2.1, o.2.2.2.2.2.2.2.2.2.2.1, o.2.2.2.2.2.2.2.2.2.2.2.1, o.2.2.2.2.2.2.2.2.2.2.2.2.1, o.2.2.2.2.2.2.2.2.2.2.2.2.2.1, (0, fun i => Rii.enc ((fun _ => (0, 0)) i)))
section
variable {kd id a b px py vx vy an sp de le sk sr : Int}
theorem body_nil : order.body.f (kd, id, a, b, px, py, vx, vy, an, sp, de, le, sk, sr, (0, fun _ => [])) = some (0, px, py, vx, vy, an, sp, de, sk, sr, (0, fun _ => (0, 0))) := by
  rw [body_raw]
  simp only [dec_tG, dec_tCons, dec_tOne, dec_tI, dec_tTL, Option.bind_some]
  rw [decRows_of _ _ _ (fun i hi => absurd hi (by omega))]
  rfl
theorem joint_nil : order.joint.f (kd, id, a, b, px, py, vx, vy, an, sp, de, le, sk, sr, (0, fun _ => [])) = some (0, a, b, px, py, vx, vy, le) := by
  rw [joint_raw]
theorem used_nil1 : order.used.f (1, id, a, b, px, py, vx, vy, an, sp, de, le, sk, sr, (0, fun _ => [])) = some (1, 0, 0, 0, px, py, vx, vy, an, sp, de, 0, sk, sr, (0, fun _ => (0, 0))) := by
  rw [used_raw]
  refine cond_t rfl ?_
  simp only [dec_tG, dec_tCons, dec_tOne, dec_tI, dec_tTL, Option.bind_some]
  rw [decRows_of _ _ _ (fun i hi => absurd hi (by omega))]
  rfl
variable {w : Wd}
theorem Do_nil : order.Do.f (w.raw, (kd, id, a, b, px, py, vx, vy, an, sp, de, le, sk, sr, (0, fun _ => []))) = order.Do.f (w.raw, tyd (kd, id, a, b, px, py, vx, vy, an, sp, de, le, sk, sr, (0, fun _ => []))) := by
  have hp : ∀ G : Nat → List AV, order.push.f (w.raw, (kd, id, a, b, px, py, vx, vy, an, sp, de, le, sk, sr, (0, G))) = order.push.f (w.raw, (kd, id, a, b, px, py, vx, vy, an, sp, de, le, sk, sr, (0, fun _ => []))) := fun G => by
    unfold Wd.raw
    rw [push_raw, push_raw]
  have hp' := hp (fun i => Rii.enc ((fun _ => (0, 0)) i))
  unfold tyd
  unfold Wd.raw at hp' ⊢
  rw [Do_raw, Do_raw, body_nil, body_eq, joint_nil, joint_raw, hp']
theorem over_nil : order.over.f (w.raw, (kd, id, a, b, px, py, vx, vy, an, sp, de, le, sk, sr, (0, fun _ => []))) = order.over.f (w.raw, tyd (kd, id, a, b, px, py, vx, vy, an, sp, de, le, sk, sr, (0, fun _ => []))) := by
  unfold tyd Wd.raw
  rw [over_raw, over_raw]
end
end Go.Proofs.Ytghhecijpghfhaa.Y
