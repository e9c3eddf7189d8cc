/- OrderFulls: a batch that would be a body too many is refused; one that takes one away ahead of it may come (printed by wip/tools/mkxg.py). -/
import Derived.Test.YtghhecijpghfhaaYXh
namespace Go.Proofs.Ytghhecijpghfhaa.Y
open Go Go.RowKit Go.Proofs.Ytghhecijpghfhaa.E Go.Proofs.Ytghhecijpghfhaa.Ma Go.Proofs.Ytghhecijpghfhaa.Fw
set_option linter.unusedVariables false
set_option linter.unusedSimpArgs false
set_option maxRecDepth 10000

def rawZB : List AV := [.val (.int .i64 0), .val (.int .i64 0), .val (.int .i64 0), .val (.int .i64 0), .val (.int .i64 0), .val (.int .i64 0), .val (.int .i64 0), .val (.int .i64 0), .val (.int .i64 0), .val (.int .i64 0), .val (.slice none 0 0)]
def rawZO : List AV := [.val (.int .i64 0), .val (.int .i64 0), .val (.int .i64 0), .val (.int .i64 0), .val (.int .i64 0), .val (.int .i64 0), .val (.int .i64 0), .val (.int .i64 0), .val (.int .i64 0), .val (.int .i64 0), .val (.int .i64 0), .val (.int .i64 0), .val (.int .i64 0), .val (.int .i64 0), .val (.slice none 0 0)]
theorem l2_raw (k0 k1 : Nat) (v1 : Nat) (v2 : Nat → List AV) (v3 : Int) (v4 : Bool) (v5 : Int) : law10.OrderFulls.l2 k0 (k1 + 1) v1 v2 v3 v4 v5 =
  bif (decide (v5 < 1024)) then
    bif (decide ((v1 + 1) * 104 ≤ 140737488355328)) then
    (rowsD rtRiiiiiiiiiiL2 1 (fun i => cloL (List.getD [[.val (.int .i64 (IntKind.i64.wrap (v5 + 1))), .val (.int .i64 (IntKind.i64.wrap ((IntKind.i64.wrap (v5 * 4)) * 4294967296))), .val (.int .i64 0), .val (.int .i64 0), .val (.int .i64 0), .val (.int .i64 0), .val (.int .i64 0), .val (.int .i64 0), .val (.int .i64 1), .val (.int .i64 4294967296), .val (.slice none 0 0)]] i ([.val (.int .i64 0), .val (.int .i64 0), .val (.int .i64 0), .val (.int .i64 0), .val (.int .i64 0), .val (.int .i64 0), .val (.int .i64 0), .val (.int .i64 0), .val (.int .i64 0), .val (.int .i64 0), .val (.slice none 0 0)])))).bind fun r2 =>
    (rowsD rtRiiiiiiiiiiL2 (v1 + 1) (fun i => cloL (if i = v1 then [.val (.int .i64 (IntKind.i64.wrap (v5 + 1))), .val (.int .i64 (IntKind.i64.wrap ((IntKind.i64.wrap (v5 * 4)) * 4294967296))), .val (.int .i64 0), .val (.int .i64 0), .val (.int .i64 0), .val (.int .i64 0), .val (.int .i64 0), .val (.int .i64 0), .val (.int .i64 1), .val (.int .i64 4294967296), .val (.slice none 0 0)] else v2 i))).bind fun r3 =>
    law10.OrderFulls.l2 k0 k1 (v1 + 1) (fun i => RiiiiiiiiiiL2.enc (r3 i)) v3 v4 (IntKind.i64.wrap (v5 + 1))
    else none
  else
  (rowsD rtRiiiiiiiiiiL2 v1 (fun i => cloL (v2 i))).bind fun r4 =>
  (world.Right.f (0, 1025, 1, 0, 0, (v1, (fun i => RiiiiiiiiiiL2.enc (r4 i))), (0, fun _ => Riiiiiiii.enc (0, 0, 0, 0, 0, 0, 0, 0)), (0, fun _ => Riiiii.enc (0, 0, 0, 0, 0)))).bind fun r5 =>
  bif (!r5) then
    some false
  else
  (rowsD rtRiiiiiiiiiiL2 v1 (fun i => RiiiiiiiiiiL2.enc (r4 i))).bind fun r6 =>
  law10.OrderFulls.l5 k0 k0 v1 (fun i => RiiiiiiiiiiL2.enc (r6 i)) 0 (fun _ => [.val (.int .i64 0), .val (.int .i64 0), .val (.int .i64 0), .val (.int .i64 0), .val (.int .i64 0), .val (.int .i64 0), .val (.int .i64 0), .val (.int .i64 0), .val (.int .i64 0), .val (.int .i64 0), .val (.int .i64 0), .val (.int .i64 0), .val (.int .i64 0), .val (.int .i64 0), .val (.slice none 0 0)]) v4 (IntKind.i64.wrap (Int.tmod v3 5)) 0 := by kernel_rfl
theorem l5_raw0 (k0 k1 : Nat) (v1 : Nat) (v2 : Nat → (Int × Int × Int × Int × Int × Int × Int × Int × Int × Int × (Nat × (Nat → List AV)))) (v5 : Bool) (v6 : Int) (v7 : Int) : law10.OrderFulls.l5 k0 (k1 + 1) v1 (fun i => RiiiiiiiiiiL2.enc (v2 i)) 0 (fun _ => rawZO) v5 v6 v7 =
  bif (decide (v7 < v6)) then
    bif (decide ((0 + 1) * 136 ≤ 140737488355328)) then
    (rowsD rtRiiiiiiiiiiL2 v1 (fun i => RiiiiiiiiiiL2.enc (v2 i))).bind fun r7 =>
    (rowsD rtRiiiiiiiiiiiiiiL2 1 (fun i => cloL (List.getD [[.val (.int .i64 2), .val (.int .i64 (IntKind.i64.wrap (1 + v7))), .val (.int .i64 0), .val (.int .i64 0), .val (.int .i64 0), .val (.int .i64 0), .val (.int .i64 0), .val (.int .i64 0), .val (.int .i64 0), .val (.int .i64 0), .val (.int .i64 0), .val (.int .i64 0), .val (.int .i64 0), .val (.int .i64 0), .val (.slice none 0 0)]] i ([.val (.int .i64 0), .val (.int .i64 0), .val (.int .i64 0), .val (.int .i64 0), .val (.int .i64 0), .val (.int .i64 0), .val (.int .i64 0), .val (.int .i64 0), .val (.int .i64 0), .val (.int .i64 0), .val (.int .i64 0), .val (.int .i64 0), .val (.int .i64 0), .val (.int .i64 0), .val (.slice none 0 0)])))).bind fun r8 =>
    (rowsD rtRiiiiiiiiiiiiiiL2 (0 + 1) (fun i => cloL (if i = 0 then [.val (.int .i64 2), .val (.int .i64 (IntKind.i64.wrap (1 + v7))), .val (.int .i64 0), .val (.int .i64 0), .val (.int .i64 0), .val (.int .i64 0), .val (.int .i64 0), .val (.int .i64 0), .val (.int .i64 0), .val (.int .i64 0), .val (.int .i64 0), .val (.int .i64 0), .val (.int .i64 0), .val (.int .i64 0), .val (.slice none 0 0)] else rawZO))).bind fun r9 =>
    law10.OrderFulls.l5 k0 k1 v1 (fun i => RiiiiiiiiiiL2.enc (r7 i)) (0 + 1) (fun i => RiiiiiiiiiiiiiiL2.enc (r9 i)) v5 v6 (IntKind.i64.wrap (v7 + 1))
    else none
  else
  law10.OrderFulls.l6 k0 k0 v1 (fun i => RiiiiiiiiiiL2.enc (v2 i)) 0 (fun _ => rawZO) v5 v6 0 := by kernel_rfl
theorem l6_raw0 (k0 k1 : Nat) (v1 : Nat) (v2 : Nat → (Int × Int × Int × Int × Int × Int × Int × Int × Int × Int × (Nat × (Nat → List AV)))) (v5 : Bool) (v6 : Int) (v7 : Int) : law10.OrderFulls.l6 k0 (k1 + 1) v1 (fun i => RiiiiiiiiiiL2.enc (v2 i)) 0 (fun _ => rawZO) v5 v6 v7 =
  bif (decide (v7 < v6)) then
    bif (decide ((0 + 1) * 136 ≤ 140737488355328)) then
    (rowsD rtRiiiiiiiiiiL2 v1 (fun i => RiiiiiiiiiiL2.enc (v2 i))).bind fun r10 =>
    (rowsD rtRiiiiiiiiiiiiiiL2 1 (fun i => cloL (List.getD [[.val (.int .i64 1), .val (.int .i64 0), .val (.int .i64 0), .val (.int .i64 0), .val (.int .i64 0), .val (.int .i64 0), .val (.int .i64 0), .val (.int .i64 0), .val (.int .i64 0), .val (.int .i64 0), .val (.int .i64 0), .val (.int .i64 0), .val (.int .i64 1), .val (.int .i64 4294967296), .val (.slice none 0 0)]] i ([.val (.int .i64 0), .val (.int .i64 0), .val (.int .i64 0), .val (.int .i64 0), .val (.int .i64 0), .val (.int .i64 0), .val (.int .i64 0), .val (.int .i64 0), .val (.int .i64 0), .val (.int .i64 0), .val (.int .i64 0), .val (.int .i64 0), .val (.int .i64 0), .val (.int .i64 0), .val (.slice none 0 0)])))).bind fun r11 =>
    (rowsD rtRiiiiiiiiiiiiiiL2 (0 + 1) (fun i => cloL (if i = 0 then [.val (.int .i64 1), .val (.int .i64 0), .val (.int .i64 0), .val (.int .i64 0), .val (.int .i64 0), .val (.int .i64 0), .val (.int .i64 0), .val (.int .i64 0), .val (.int .i64 0), .val (.int .i64 0), .val (.int .i64 0), .val (.int .i64 0), .val (.int .i64 1), .val (.int .i64 4294967296), .val (.slice none 0 0)] else rawZO))).bind fun r12 =>
    law10.OrderFulls.l6 k0 k1 v1 (fun i => RiiiiiiiiiiL2.enc (r10 i)) (0 + 1) (fun i => RiiiiiiiiiiiiiiL2.enc (r12 i)) v5 v6 (IntKind.i64.wrap (v7 + 1))
    else none
  else
  bif v5 then
    bif (decide ((1 + 0) * 136 ≤ 140737488355328)) then
    (rowsD rtRiiiiiiiiiiL2 v1 (fun i => RiiiiiiiiiiL2.enc (v2 i))).bind fun r13 =>
    (rowsD rtRiiiiiiiiiiiiiiL2 0 (fun i => cloL (rawZO))).bind fun r14 =>
    (rowsD rtRiiiiiiiiiiiiiiL2 (1 + 0) (fun i => cloL (if i < 1 then (fun i => List.getD [[.val (.int .i64 1), .val (.int .i64 0), .val (.int .i64 0), .val (.int .i64 0), .val (.int .i64 0), .val (.int .i64 0), .val (.int .i64 0), .val (.int .i64 0), .val (.int .i64 0), .val (.int .i64 0), .val (.int .i64 0), .val (.int .i64 0), .val (.int .i64 1), .val (.int .i64 4294967296), .val (.slice none 0 0)]] i ([.val (.int .i64 0), .val (.int .i64 0), .val (.int .i64 0), .val (.int .i64 0), .val (.int .i64 0), .val (.int .i64 0), .val (.int .i64 0), .val (.int .i64 0), .val (.int .i64 0), .val (.int .i64 0), .val (.int .i64 0), .val (.int .i64 0), .val (.int .i64 0), .val (.int .i64 0), .val (.slice none 0 0)])) i else rawZO))).bind fun r15 =>
    ((tCons (tG (tCons (tI .i64) (tCons (tI .i64) (tCons (tI .i64) (tCons (tI .i64) (tCons (tI .i64) (tCons (tLz 11 (RiiiiiiiiiiL2.enc (0, 0, 0, 0, 0, 0, 0, 0, 0, 0, (0, fun _ => [])))) (tCons (tLz 8 (Riiiiiiii.enc (0, 0, 0, 0, 0, 0, 0, 0))) (tOne (tLz 5 (Riiiii.enc (0, 0, 0, 0, 0)))))))))))) (tOne (tTL RiiiiiiiiiiiiiiL2 15 (0, 0, 0, 0, 0, 0, 0, 0, 0, 0, 0, 0, 0, 0, (0, fun _ => []))))).dec [.agg [.val (.int .i64 0), .val (.int .i64 1025), .val (.int .i64 1), .val (.int .i64 0), .val (.int .i64 0), .lst 11 v1 none (fun i => RiiiiiiiiiiL2.enc (r13 i)), .val (.slice none 0 0), .val (.slice none 0 0)], .lst 15 (1 + 0) none (fun i => RiiiiiiiiiiiiiiL2.enc (r15 i))]).bind fun r17 =>
    (order.All.f r17).bind fun r16 =>
    (rowsD rtRiiiiiiiiiiiiiiL2 0 (fun i => RiiiiiiiiiiiiiiL2.enc (r14 i))).bind fun r18 =>
    bif v5 then
      bif (r16.2 == 3) then
        ((tCons (tG (tCons (tI .i64) (tCons (tI .i64) (tCons (tI .i64) (tCons (tI .i64) (tCons (tI .i64) (tCons (tLz 11 (RiiiiiiiiiiL2.enc (0, 0, 0, 0, 0, 0, 0, 0, 0, 0, (0, fun _ => [])))) (tCons (tLz 8 (Riiiiiiii.enc (0, 0, 0, 0, 0, 0, 0, 0))) (tOne (tLz 5 (Riiiii.enc (0, 0, 0, 0, 0)))))))))))) (tOne (tTL RiiiiiiiiiiiiiiL2 15 (0, 0, 0, 0, 0, 0, 0, 0, 0, 0, 0, 0, 0, 0, (0, fun _ => []))))).dec [.agg [.val (.int .i64 0), .val (.int .i64 1025), .val (.int .i64 1), .val (.int .i64 0), .val (.int .i64 0), .lst 11 v1 none (fun i => RiiiiiiiiiiL2.enc (r13 i)), .val (.slice none 0 0), .val (.slice none 0 0)], .lst 15 (1 + 0) none (fun i => RiiiiiiiiiiiiiiL2.enc (r15 i))]).bind fun r20 =>
        (order.Check.f r20).bind fun r19 =>
        bif (r19 == r16.2) then
          some (((r16.1.2.2.2.2.2.1.1 : Nat) : Int) == 0)
        else
        some false
      else
      some false
    else
    bif (r16.2 == 0) then
      bif (((r16.1.2.2.2.2.2.1.1 : Nat) : Int) == 1024) then
        bif (r16.1.2.1 == (IntKind.i64.wrap (1025 + v6))) then
          (world.Right.f (r16.1.1, r16.1.2.1, r16.1.2.2.1, r16.1.2.2.2.1, r16.1.2.2.2.2.1, (r16.1.2.2.2.2.2.1.1, (fun i => RiiiiiiiiiiL2.enc (r16.1.2.2.2.2.2.1.2 i))), (r16.1.2.2.2.2.2.2.1.1, (fun i => Riiiiiiii.enc (r16.1.2.2.2.2.2.2.1.2 i))), (r16.1.2.2.2.2.2.2.2.1, (fun i => Riiiii.enc (r16.1.2.2.2.2.2.2.2.2 i))))).bind fun r21 =>
          some r21
        else
        some false
      else
      some false
    else
    some false
    else none
  else
  ((tCons (tG (tCons (tI .i64) (tCons (tI .i64) (tCons (tI .i64) (tCons (tI .i64) (tCons (tI .i64) (tCons (tLz 11 (RiiiiiiiiiiL2.enc (0, 0, 0, 0, 0, 0, 0, 0, 0, 0, (0, fun _ => [])))) (tCons (tLz 8 (Riiiiiiii.enc (0, 0, 0, 0, 0, 0, 0, 0))) (tOne (tLz 5 (Riiiii.enc (0, 0, 0, 0, 0)))))))))))) (tOne (tTL RiiiiiiiiiiiiiiL2 15 (0, 0, 0, 0, 0, 0, 0, 0, 0, 0, 0, 0, 0, 0, (0, fun _ => []))))).dec [.agg [.val (.int .i64 0), .val (.int .i64 1025), .val (.int .i64 1), .val (.int .i64 0), .val (.int .i64 0), .lst 11 v1 none (fun i => RiiiiiiiiiiL2.enc (v2 i)), .val (.slice none 0 0), .val (.slice none 0 0)], .lst 15 0 none (fun i => cloL (rawZO))]).bind fun r23 =>
  (order.All.f r23).bind fun r22 =>
  bif v5 then
    bif (r22.2 == 3) then
      ((tCons (tG (tCons (tI .i64) (tCons (tI .i64) (tCons (tI .i64) (tCons (tI .i64) (tCons (tI .i64) (tCons (tLz 11 (RiiiiiiiiiiL2.enc (0, 0, 0, 0, 0, 0, 0, 0, 0, 0, (0, fun _ => [])))) (tCons (tLz 8 (Riiiiiiii.enc (0, 0, 0, 0, 0, 0, 0, 0))) (tOne (tLz 5 (Riiiii.enc (0, 0, 0, 0, 0)))))))))))) (tOne (tTL RiiiiiiiiiiiiiiL2 15 (0, 0, 0, 0, 0, 0, 0, 0, 0, 0, 0, 0, 0, 0, (0, fun _ => []))))).dec [.agg [.val (.int .i64 0), .val (.int .i64 1025), .val (.int .i64 1), .val (.int .i64 0), .val (.int .i64 0), .lst 11 v1 none (fun i => RiiiiiiiiiiL2.enc (v2 i)), .val (.slice none 0 0), .val (.slice none 0 0)], .lst 15 0 none (fun i => cloL (rawZO))]).bind fun r25 =>
      (order.Check.f r25).bind fun r24 =>
      bif (r24 == r22.2) then
        some (((r22.1.2.2.2.2.2.1.1 : Nat) : Int) == 0)
      else
      some false
    else
    some false
  else
  bif (r22.2 == 0) then
    bif (((r22.1.2.2.2.2.2.1.1 : Nat) : Int) == 1024) then
      bif (r22.1.2.1 == (IntKind.i64.wrap (1025 + v6))) then
        (world.Right.f (r22.1.1, r22.1.2.1, r22.1.2.2.1, r22.1.2.2.2.1, r22.1.2.2.2.2.1, (r22.1.2.2.2.2.2.1.1, (fun i => RiiiiiiiiiiL2.enc (r22.1.2.2.2.2.2.1.2 i))), (r22.1.2.2.2.2.2.2.1.1, (fun i => Riiiiiiii.enc (r22.1.2.2.2.2.2.2.1.2 i))), (r22.1.2.2.2.2.2.2.2.1, (fun i => Riiiii.enc (r22.1.2.2.2.2.2.2.2.2 i))))).bind fun r26 =>
        some r26
      else
      some false
    else
    some false
  else
  some false := by kernel_rfl
theorem rowsD_of (T : RTy) (n : Nat) (G : Nat → List AV) (y : Nat → T.β) (h : ∀ i, T.dec (G i) = some (y i)) : rowsD T n G = some y := by
  unfold rowsD
  rw [if_pos fun i _ => ⟨y i, h i⟩]
  refine congrArg some (funext fun i => ?_)
  exact congrArg (fun o => Option.getD o T.z) (h i)
/-- Rows that can be told. -/
def DecB (G : Nat → List AV) (y : Nat → BT) : Prop := ∀ i, RiiiiiiiiiiL2.dec (cloL (G i)) = some (y i)
def DecO (G : Nat → List AV) (y : Nat → OT) : Prop := ∀ i, RiiiiiiiiiiiiiiL2.dec (cloL (G i)) = some (y i)
theorem decB_typed (y : Nat → BT) : DecB (fun i => RiiiiiiiiiiL2.enc (y i)) y := fun i => by rw [RiiiiiiiiiiL2_clo, RiiiiiiiiiiL2_dec]
theorem decO_typed (y : Nat → OT) : DecO (fun i => RiiiiiiiiiiiiiiL2.enc (y i)) y := fun i => by rw [RiiiiiiiiiiiiiiL2_clo, RiiiiiiiiiiiiiiL2_dec]
theorem rowsD_DB {G : Nat → List AV} {y : Nat → BT} (h : DecB G y) (n : Nat) : rowsD rtRiiiiiiiiiiL2 n (fun i => cloL (G i)) = some y := rowsD_of rtRiiiiiiiiiiL2 n _ y h
theorem rowsD_DO {G : Nat → List AV} {y : Nat → OT} (h : DecO G y) (n : Nat) : rowsD rtRiiiiiiiiiiiiiiL2 n (fun i => cloL (G i)) = some y := rowsD_of rtRiiiiiiiiiiiiiiL2 n _ y h
theorem rowsD_DB' {G : Nat → List AV} {y : Nat → BT} (h : ∀ i, RiiiiiiiiiiL2.dec (G i) = some (y i)) (n : Nat) : rowsD rtRiiiiiiiiiiL2 n G = some y := rowsD_of rtRiiiiiiiiiiL2 n _ y h
theorem rowsD_DO' {G : Nat → List AV} {y : Nat → OT} (h : ∀ i, RiiiiiiiiiiiiiiL2.dec (G i) = some (y i)) (n : Nat) : rowsD rtRiiiiiiiiiiiiiiL2 n G = some y := rowsD_of rtRiiiiiiiiiiiiiiL2 n _ y h
theorem dec_app {α : Type} {T : TyL α} {G : Nat → List AV} {y : Nat → α} (h : ∀ i, T.dec (cloL (G i)) = some (y i)) {r : List AV} {v : α} (hr : T.dec (cloL r) = some v) (q : Nat) : ∀ i, T.dec (cloL (if i = q then r else G i)) = some (upd1 y q v i) := fun i => by
  unfold upd1
  split
  · exact hr
  · exact h i
theorem dec_one {α : Type} {T : TyL α} {r z : List AV} {v u : α} (hr : T.dec (cloL r) = some v) (hz : T.dec (cloL z) = some u) : ∀ i, T.dec (cloL (List.getD [r] i z)) = some (if i = 0 then v else u) := fun i => by
  cases i with
  | zero => exact hr
  | succ i => rw [if_neg (by omega)]; exact hz
def bodyF (j : Nat) : BT := ((j : Int) + 1, 17179869184 * (j : Int), 0, 0, 0, 0, 0, 0, 1, 4294967296, nilP)
def remO (j : Nat) : OT := (2, (j : Int) + 1, 0, 0, 0, 0, 0, 0, 0, 0, 0, 0, 0, 0, nilP)
def addO : OT := (1, 0, 0, 0, 0, 0, 0, 0, 0, 0, 0, 0, 1, 4294967296, nilP)
theorem decZB : RiiiiiiiiiiL2.dec (cloL rawZB) = some (0, 0, 0, 0, 0, 0, 0, 0, 0, 0, nilP) := by kernel_rfl
theorem decZO : RiiiiiiiiiiiiiiL2.dec (cloL rawZO) = some (0, 0, 0, 0, 0, 0, 0, 0, 0, 0, 0, 0, 0, 0, nilP) := by kernel_rfl
theorem decBody (x y : Int) : RiiiiiiiiiiL2.dec (cloL [.val (.int .i64 x), .val (.int .i64 y), .val (.int .i64 0), .val (.int .i64 0), .val (.int .i64 0), .val (.int .i64 0), .val (.int .i64 0), .val (.int .i64 0), .val (.int .i64 1), .val (.int .i64 4294967296), .val (.slice none 0 0)]) = some (x, y, 0, 0, 0, 0, 0, 0, 1, 4294967296, nilP) := by kernel_rfl
theorem decRem (x : Int) : RiiiiiiiiiiiiiiL2.dec (cloL [.val (.int .i64 2), .val (.int .i64 x), .val (.int .i64 0), .val (.int .i64 0), .val (.int .i64 0), .val (.int .i64 0), .val (.int .i64 0), .val (.int .i64 0), .val (.int .i64 0), .val (.int .i64 0), .val (.int .i64 0), .val (.int .i64 0), .val (.int .i64 0), .val (.int .i64 0), .val (.slice none 0 0)]) = some (2, x, 0, 0, 0, 0, 0, 0, 0, 0, 0, 0, 0, 0, nilP) := by kernel_rfl
theorem decAdd : RiiiiiiiiiiiiiiL2.dec (cloL [.val (.int .i64 1), .val (.int .i64 0), .val (.int .i64 0), .val (.int .i64 0), .val (.int .i64 0), .val (.int .i64 0), .val (.int .i64 0), .val (.int .i64 0), .val (.int .i64 0), .val (.int .i64 0), .val (.int .i64 0), .val (.int .i64 0), .val (.int .i64 1), .val (.int .i64 4294967296), .val (.slice none 0 0)]) = some addO := by kernel_rfl

/-! ### The world of 1024 bodies -/
theorem circP (g : Nat → P2) : RightP 1 4294967296 0 g := by
  unfold RightP
  rw [if_pos rfl]
  exact ⟨rfl, by omega, by omega⟩
theorem circB_right {id x : Int} (h : 0 ≤ x) (h2 : x ≤ 4503599627370496) : RightB (id, x, 0, 0, 0, 0, 0, 0, 1, 4294967296, nilP) := by
  have e : ((0, fun _ => Rii.enc (0, 0)) : Nat × (Nat → List AV)) = (0, fun i => Rii.enc ((fun _ => ((0 : Int), (0 : Int))) i)) := rfl
  unfold RightB nilP
  rw [e, world.RightBody.eq, Right_eq 1 4294967296 0 _ (fun i hi => absurd hi (by omega)), Option.bind_some, wwithin (by unfold I64; omega) i0, Option.bind_some, wwithin i0 i0, Option.bind_some, abs_eq i0, Option.bind_some, decide_eq_true (circP _)]
  have e1 : decide (Ma.abs x ≤ 4503599627370496) = true := by
    rw [decide_eq_true_eq]; unfold Ma.abs; rw [if_neg (by omega)]; exact h2
  have e2 : decide (Ma.abs 0 ≤ 4503599627370496) = true := by decide
  have e3 : decide (Ma.abs 0 ≤ 17592186044416) = true := by decide
  have e4 : decide (Ma.abs 0 > 1099511627776) = false := by decide
  rw [e1, e2, e3, e4]
  rfl
theorem bodyF_right {j : Nat} (h : j < 1024) : RightB (bodyF j) := circB_right (by omega) (by omega)
theorem bodyF_fine {j : Nat} (h : j < 1024) : FineB (bodyF j) := ⟨by show I64 (17179869184 * (j : Int)); unfold I64; omega, i0, i0, i0, i0, inner_nil⟩
def manyW (y : Nat → BT) : Wd := ⟨0, 1025, 1, 0, 0, (1024, y), (0, fun _ => zJ), (0, fun _ => zC)⟩
theorem good_many {y : Nat → BT} (h : ∀ j, j < 1024 → y j = bodyF j) : Good (manyW y) := by
  have hb : ∀ b ∈ lst (manyW y).bs, ∃ j, j < 1024 ∧ b = bodyF j := fun b hb => by
    obtain ⟨j, hj, rfl⟩ := mem_lst.1 hb
    exact ⟨j, hj, h j hj⟩
  have ej : lst (manyW y).js = [] := rfl
  have ec : lst (manyW y).cs = [] := rfl
  refine ⟨⟨i0, i0, fun a ha => ?_, fun a ha => (by rw [ej] at ha; cases ha), (by show (0 : Nat) ≤ _; omega)⟩, ?_⟩
  · obtain ⟨j, hj, rfl⟩ := hb a ha
    exact bodyF_fine hj
  unfold RightW
  rw [ej, ec]
  refine ⟨by show (0 : Int) ≤ 0; omega, by show (0 : Int) ≤ 4611686018427387904; omega, by show (1025 : Int) ≤ 4611686018427387904; omega, by show (1 : Int) ≤ 4611686018427387904; omega, by rw [lst_len]; exact Nat.le_refl _, by simp, by kernel_rfl, by show (1 : Int) ≤ 1025; omega, by show (1 : Int) ≤ 1; omega, fun a ha => ?_, fun a ha => (by cases ha), pair_lst.2 fun a b hab hb' => ?_, .nil, fun a ha => ?_, fun a ha => (by cases ha), fun a ha => (by cases ha), .nil⟩
  · obtain ⟨j, hj, rfl⟩ := hb a ha
    show 0 < (j : Int) + 1 ∧ (j : Int) + 1 < 1025
    omega
  · show (y a).1 < (y b).1
    have hb'' : b < 1024 := hb'
    rw [h a (by omega), h b hb'']
    show (a : Int) + 1 < (b : Int) + 1
    omega
  · obtain ⟨j, hj, rfl⟩ := hb a ha
    exact bodyF_right hj

/-! ### The orders -/
theorem rem_fine (j : Nat) : FineO (remO j) := ⟨i0, i0, i0, i0, i0, inner_nil, Nat.zero_le _⟩
theorem add_fine : FineO addO := ⟨i0, i0, i0, i0, i0, inner_nil, Nat.zero_le _⟩
theorem usedRem (x : Int) : order.used.f (2, x, 0, 0, 0, 0, 0, 0, 0, 0, 0, 0, 0, 0, (0, fun i => Rii.enc ((fun _ => ((0 : Int), (0 : Int))) i))) = some (2, x, 0, 0, 0, 0, 0, 0, 0, 0, 0, 0, 0, 0, (0, fun _ => (0, 0))) := by
  rw [order.used.eq]
  refine cond_f rfl ?_
  refine cond_t rfl ?_
  first
    | (simp only [show ((2 : Int) == 2) = true from rfl, cond_true, dec_tG, dec_tCons, dec_tOne, dec_tI, dec_tTL, dec_tTL0, Option.bind_some])
    | (refine cond_t rfl ?_; simp only [dec_tG, dec_tCons, dec_tOne, dec_tI, dec_tTL, dec_tTL0, Option.bind_some])
theorem usedAdd : order.used.f (1, 0, 0, 0, 0, 0, 0, 0, 0, 0, 0, 0, 1, 4294967296, (0, fun i => Rii.enc ((fun _ => ((0 : Int), (0 : Int))) i))) = some (1, 0, 0, 0, 0, 0, 0, 0, 0, 0, 0, 0, 1, 4294967296, (0, fun _ => (0, 0))) := by
  rw [order.used.eq]
  refine cond_t rfl ?_
  simp only [dec_tG, dec_tCons, dec_tOne, dec_tI, dec_tTL, decRows_enc Rii_dec, Option.bind_some]
theorem rem_right (j : Nat) : order.Right.f (remO j) = some true := by
  have e : remO j = (2, (j : Int) + 1, 0, 0, 0, 0, 0, 0, 0, 0, 0, 0, 0, 0, (0, fun i => Rii.enc ((fun _ => ((0 : Int), (0 : Int))) i))) := rfl
  rw [e, order.Right.eq, usedRem, Option.bind_some]
  refine bind_to ((sorder (x := remO j) (y := remO j) inner_nil inner_nil (Nat.zero_le _)).t ⟨rfl, rfl, rfl, rfl, rfl, rfl, rfl, rfl, rfl, rfl, rfl, rfl, rfl, rfl, rfl, fun _ _ => rfl⟩) ?_
  refine cond_f rfl ?_
  refine cond_f rfl ?_
  refine cond_t rfl ?_
  refine cond_t rfl ?_
  rw [decide_eq_true (by omega)]
theorem add_right : order.Right.f addO = some true := by
  have e : addO = (1, 0, 0, 0, 0, 0, 0, 0, 0, 0, 0, 0, 1, 4294967296, (0, fun i => Rii.enc ((fun _ => ((0 : Int), (0 : Int))) i))) := rfl
  rw [e, order.Right.eq, usedAdd, Option.bind_some]
  refine bind_to ((sorder (x := addO) (y := addO) inner_nil inner_nil (Nat.zero_le _)).t ⟨rfl, rfl, rfl, rfl, rfl, rfl, rfl, rfl, rfl, rfl, rfl, rfl, rfl, rfl, rfl, fun _ _ => rfl⟩) ?_
  refine cond_f rfl ?_
  refine cond_t rfl ?_
  rw [body_eq, Option.bind_some]
  exact bind_to (circB_right (id := 0) (x := 0) (by omega) (by omega)) rfl
attribute [local irreducible] order.Right.f order.over.f order.Do.f order.All.f order.Check.f world.Right.f
theorem count_gone : ∀ (l : List BT) (x : Int), l.Pairwise (fun a b => a.1 < b.1) → (∃ b ∈ l, b.1 = x) → (l.filter fun b => !goneB x b).length + 1 = l.length
  | [], x, _, ⟨b, hb, _⟩ => by cases hb
  | a :: l, x, hp, ⟨b, hb, e⟩ => by
    rw [List.pairwise_cons] at hp
    by_cases h : a.1 = x
    · have h1 : (!goneB x a) = false := by unfold goneB; simp [h]
      rw [List.filter_cons, if_neg (by rw [h1]; simp)]
      have h2 : l.filter (fun b => !goneB x b) = l := by
        rw [List.filter_eq_self]
        intro c hc
        have := hp.1 c hc
        unfold goneB
        have hne : (c.1 == x) = false := by
          rw [beq_eq_false_iff_ne]; omega
        rw [hne]; rfl
      rw [h2]; rfl
    · have h1 : (!goneB x a) = true := by unfold goneB; simp [h]
      rw [List.filter_cons, if_pos h1]
      have hb' : b ∈ l := by
        rcases List.mem_cons.1 hb with rfl | hb
        · exact absurd e h
        · exact hb
      have := count_gone l x hp.2 ⟨b, hb', e⟩
      simp only [List.length_cons]
      omega
/-- What is so ahead of order j. -/
structure FInv (k j : Nat) (w : Wd) : Prop where
  good : Good w
  t : w.t = 0
  nj : w.nj = 1
  js : w.js.1 = 0
  nb : w.nb = 1025 + ((j - k : Nat) : Int)
  bs : w.bs.1 = if j ≤ k then 1024 - j else 1024 - k + (j - k)
  there : ∀ x : Int, (j : Int) < x → x ≤ 1024 → j ≤ k → ThereL w x
def osF (k j : Nat) : OT := if j < k then remO j else addO
theorem FInv.step {k j : Nat} {w : Wd} (h : FInv k j w) (hk : k ≤ 4) (hj : j < 2 * k) : ∃ w', order.over.f (w.raw, osF k j) = some false ∧ order.Do.f (w.raw, osF k j) = some ((), w'.tup) ∧ FInv k (j + 1) w' := by
  obtain ⟨hg, ht, hnj, hjs, hnb, hbs, hth⟩ := h
  unfold osF
  by_cases hjk : j < k
  · rw [if_pos hjk]
    rw [if_pos (by omega)] at hbs
    obtain ⟨v, v1, _, v3⟩ := over_eq hg (rem_fine j)
    have hv : v = false := by
      cases v with
      | false => rfl
      | true =>
        rcases v3 rfl with h1 | h1
        · have h2 : (2 : Int) = 1 := h1
          omega
        · omega
    subst hv
    rcases RemoveBody_eq (w := w) (by omega) (by omega) hg.fine.nc hg.right.ab ((j : Int) + 1) with ⟨hT, y1, y2, y3, e1, e2, e3, e⟩ | ⟨hn, _⟩
    · refine ⟨_, v1, Do2 (rem_fine j) rfl e, good_removeB hg _ e1 e2 e3, ht, hnj, ?_, ?_, ?_, fun x hx hx2 hx3 => ?_⟩
      · have := filter_le e2
        show y2.1 = 0
        omega
      · show w.nb = _
        rw [hnb]; omega
      · show y1.1 = _
        have hc := count_gone (lst w.bs) _ hg.right.ab hT
        rw [← e1, lst_len, lst_len] at hc
        rw [if_pos (by omega)]
        omega
      · obtain ⟨b, hb, hbx⟩ := hth x (by omega) hx2 (by omega)
        refine ⟨b, ?_, hbx⟩
        show b ∈ lst y1
        rw [e1, List.mem_filter]
        refine ⟨hb, ?_⟩
        unfold goneB
        have hne : (b.1 == (j : Int) + 1) = false := by rw [beq_eq_false_iff_ne]; omega
        rw [hne]; rfl
    · exact absurd (hth ((j : Int) + 1) (by omega) (by omega) (by omega)) hn
  · rw [if_neg hjk]
    have hb2 : w.bs.1 = 1024 - k + (j - k) := by
      rw [hbs]; split <;> omega
    obtain ⟨v, v1, v2, _⟩ := over_eq hg add_fine
    have hv : v = false := by
      cases v with
      | false => rfl
      | true =>
        rcases (v2 rfl).1 rfl with h1 | h1
        · omega
        · omega
    subst hv
    have hr : RightB (bodyO addO) := circB_right (id := 0) (x := 0) (by omega) (by omega)
    have e := AddBody_ok (w := w) (bodyO addO) hr add_fine.body (by omega) (by omega) hg.right.nb0
    refine ⟨_, v1, Do1 add_fine rfl e, good_addB hg hr add_fine.body (by omega) (by omega), ht, hnj, hjs, ?_, ?_, fun x hx hx2 hx3 => by omega⟩
    · show w.nb + 1 = _
      rw [hnb]; omega
    · show w.bs.1 + 1 = _
      rw [if_neg (by omega)]
      omega
theorem FInv.run {k : Nat} (hk : k ≤ 4) {os : Nat → OT} (ho : ∀ j, j < 2 * k → os j = osF k j) : ∀ (d j K : Nat) (w : Wd), j + d = 2 * k → d < K → FInv k j w → ∃ w', FInv k (2 * k) w' ∧ AF1 (2 * k) os K w (j : Int) = some (w'.tup, 0)
  | 0, j, K + 1, w, e, _, h => by
    have : j = 2 * k := by omega
    subst this
    exact ⟨w, h, AF1_end K w⟩
  | d + 1, j, K + 1, w, e, hK, h => by
    obtain ⟨w', h1, h2, h3⟩ := h.step hk (by omega)
    obtain ⟨w'', g1, g2⟩ := FInv.run hk ho d (j + 1) K w' (by omega) (by omega) h3
    exact ⟨w'', g1, by rw [AF1_step K j (by omega) (by omega) (by rw [ho j (by omega)]; exact h1) (by rw [ho j (by omega)]; exact h2)]; exact g2⟩
theorem osF_right (k j : Nat) : order.Right.f (osF k j) = some true := by
  unfold osF
  split
  · exact rem_right j
  · exact add_right
theorem many_inv {y : Nat → BT} (hy : ∀ j, j < 1024 → y j = bodyF j) (k : Nat) : FInv k 0 (manyW y) := by
  refine ⟨good_many hy, rfl, rfl, rfl, ?_, ?_, fun x h1 h2 _ => ?_⟩
  · show (1025 : Int) = 1025 + ((0 - k : Nat) : Int)
    rw [Nat.zero_sub]; rfl
  · rw [if_pos (Nat.zero_le _)]; rfl
  · refine ⟨bodyF (x - 1).toNat, ?_, ?_⟩
    · have h3 : (x - 1).toNat < 1024 := by omega
      rw [← hy _ h3]
      exact mem_lst.2 ⟨(x - 1).toNat, h3, rfl⟩
    · show ((x - 1).toNat : Int) + 1 = x
      omega
/-- The batch may come. -/
theorem All_F {y : Nat → BT} (hy : ∀ j, j < 1024 → y j = bodyF j) {k : Nat} (hk : k ≤ 4) {os : Nat → OT} (ho : ∀ j, j < 2 * k → os j = osF k j) : ∃ w, FInv k (2 * k) w ∧ order.All.f ((manyW y).raw, (2 * k, os)) = some (w.tup, 0) := by
  obtain ⟨w, h1, h2⟩ := FInv.run hk ho (2 * k) 0 1000000 (manyW y) (by omega) (by omega) (many_inv hy k)
  refine ⟨w, h1, ?_⟩
  rw [All_right (by omega) (good_many hy) (by show (0 : Int) < _; omega) (fun i hi => by rw [ho i hi]; exact osF_right k i)]
  exact h2
/-- A body too many. -/
theorem All_too {y : Nat → BT} (hy : ∀ j, j < 1024 → y j = bodyF j) {m : Nat} (hm : m ≤ 9) {os : Nat → OT} (h0 : os 0 = addO) (hr : ∀ j, j < m + 1 → order.Right.f (os j) = some true) : order.All.f ((manyW y).raw, (m + 1, os)) = some (zeroW.tup, 3) := by
  rw [All_right (by omega) (good_many hy) (by show (0 : Int) < _; omega) hr]
  obtain ⟨v, v1, v2, _⟩ := over_eq (good_many hy) add_fine
  have hv : v = true := (v2 rfl).2 (.inl (Nat.le_refl _))
  subst hv
  exact AF1_over 999999 0 (by omega) (by rw [h0]; exact v1)

/-! ### The loops -/
section
variable {n : Int} {f : Bool}
theorem wrapn (i : Nat) (h : i < 9223372036854775807) : IntKind.i64.wrap (1 + (i : Int)) = (i : Int) + 1 := by rw [IntKind.wrap_i64]; omega
/-- The loop that adds bodies. -/
theorem F2_step (K i : Nat) (hi : i < 1024) {G : Nat → List AV} {y : Nat → BT} (h : DecB G y) : law10.OrderFulls.l2 1000000 (K + 1) i G n f (i : Int) = law10.OrderFulls.l2 1000000 K (i + 1) (fun t => RiiiiiiiiiiL2.enc (upd1 y i (bodyF i) t)) n f ((i + 1 : Nat) : Int) := by
  have e1 : IntKind.i64.wrap ((i : Int) + 1) = (i : Int) + 1 := by rw [IntKind.wrap_i64]; omega
  have e2 : IntKind.i64.wrap ((IntKind.i64.wrap ((i : Int) * 4)) * 4294967296) = 17179869184 * (i : Int) := by
    have e3 : IntKind.i64.wrap ((i : Int) * 4) = (i : Int) * 4 := by rw [IntKind.wrap_i64]; omega
    rw [e3, IntKind.wrap_i64]; omega
  rw [l2_raw, decide_eq_true (by omega), cond_true]
  refine cond_t (by simp; omega) ?_
  rw [e1, e2]
  refine bind_to (rowsD_DB' (dec_one (T := RiiiiiiiiiiL2) (decBody _ _) decZB) 1) ?_
  refine bind_to (rowsD_DB' (dec_app (T := RiiiiiiiiiiL2) h (decBody _ _) i) (i + 1)) ?_
  rfl
theorem F2_run : ∀ (d i K : Nat) {G : Nat → List AV} {y : Nat → BT}, i + d = 1024 → d < K → DecB G y → (∀ j, j < i → y j = bodyF j) →
    ∃ (K' : Nat) (G' : Nat → List AV) (y' : Nat → BT), DecB G' y' ∧ (∀ j, j < 1024 → y' j = bodyF j) ∧ law10.OrderFulls.l2 1000000 K i G n f (i : Int) = law10.OrderFulls.l2 1000000 (K' + 1) 1024 G' n f 1024
  | 0, i, K + 1, G, y, e, _, h, hy => by
    have : i = 1024 := by omega
    subst this
    exact ⟨K, G, y, h, hy, rfl⟩
  | d + 1, i, K + 1, G, y, e, hK, h, hy => by
    rw [F2_step K i (by omega) h]
    refine F2_run d (i + 1) K (by omega) (by omega) (decB_typed _) fun j hj => ?_
    unfold upd1
    split
    · rename_i e; rw [e]
    · exact hy j (by omega)
variable {y : Nat → BT}
abbrev EB (y : Nat → BT) : Nat → List AV := fun t => RiiiiiiiiiiL2.enc (y t)
abbrev zO : OT := (0, 0, 0, 0, 0, 0, 0, 0, 0, 0, 0, 0, 0, 0, nilP)
/-- Rows told, or none yet. -/
def RowsO (n : Nat) (P : Nat → List AV) (z : Nat → OT) : Prop := P = (fun i => RiiiiiiiiiiiiiiL2.enc (z i)) ∨ (n = 0 ∧ P = (fun _ => rawZO) ∧ z = fun _ => zO)
theorem RowsO.dec {n : Nat} {P : Nat → List AV} {z : Nat → OT} (h : RowsO n P z) : DecO P z := by
  rcases h with rfl | ⟨_, rfl, rfl⟩
  · exact decO_typed z
  · exact fun _ => decZO
theorem F5_step (K i k : Nat) (hi : i < k) (hk : k ≤ 4) {P : Nat → List AV} {z : Nat → OT} (hP : RowsO i P z) : law10.OrderFulls.l5 1000000 (K + 1) 1024 (EB y) i P f (k : Int) (i : Int) = law10.OrderFulls.l5 1000000 K 1024 (EB y) (i + 1) (fun t => RiiiiiiiiiiiiiiL2.enc (upd1 z i (remO i) t)) f (k : Int) ((i + 1 : Nat) : Int) := by
  have e1 : IntKind.i64.wrap ((i : Int) + 1) = ((i + 1 : Nat) : Int) := wrap_nat i (by omega)
  have hz := hP.dec
  rcases hP with rfl | ⟨hi0, rfl, rfl⟩
  · rw [law10.OrderFulls.l5_eq, decide_eq_true (by omega), cond_true]
    refine cond_t (by simp; omega) ?_
    rw [wrapn i (by omega), e1]
    refine bind_to (rowsD_B 1024 y) ?_
    refine bind_to (rowsD_DO' (dec_one (T := RiiiiiiiiiiiiiiL2) (decRem _) decZO) 1) ?_
    refine bind_to (rowsD_DO' (dec_app (T := RiiiiiiiiiiiiiiL2) hz (decRem _) i) (i + 1)) ?_
    rfl
  · subst hi0
    rw [l5_raw0, decide_eq_true (by omega), cond_true]
    refine cond_t (by simp) ?_
    rw [wrapn 0 (by omega), e1]
    refine bind_to (rowsD_B 1024 y) ?_
    refine bind_to (rowsD_DO' (dec_one (T := RiiiiiiiiiiiiiiL2) (decRem _) decZO) 1) ?_
    refine bind_to (rowsD_DO' (dec_app (T := RiiiiiiiiiiiiiiL2) hz (decRem _) 0) (0 + 1)) ?_
    rfl
theorem F5_run (k : Nat) (hk : k ≤ 4) : ∀ (d i K : Nat) {P : Nat → List AV} {z : Nat → OT}, i + d = k → d < K → RowsO i P z → (∀ j, j < i → z j = remO j) →
    ∃ (K' : Nat) (P' : Nat → List AV) (z' : Nat → OT), RowsO k P' z' ∧ (∀ j, j < k → z' j = remO j) ∧ law10.OrderFulls.l5 1000000 K 1024 (EB y) i P f (k : Int) (i : Int) = law10.OrderFulls.l5 1000000 (K' + 1) 1024 (EB y) k P' f (k : Int) (k : Int)
  | 0, i, K + 1, P, z, e, _, hz, hj => by
    have : i = k := by omega
    subst this
    exact ⟨K, P, z, hz, hj, rfl⟩
  | d + 1, i, K + 1, P, z, e, hK, hz, hj => by
    rw [F5_step K i k (by omega) hk hz]
    refine F5_run k hk d (i + 1) K (by omega) (by omega) (.inl rfl) fun j hj' => ?_
    unfold upd1
    split
    · rename_i e; rw [e]
    · exact hj j (by omega)
theorem F5_out (K k : Nat) {P : Nat → List AV} {z : Nat → OT} (hP : RowsO k P z) : law10.OrderFulls.l5 1000000 (K + 1) 1024 (EB y) k P f (k : Int) (k : Int) = law10.OrderFulls.l6 1000000 1000000 1024 (EB y) k P f (k : Int) 0 := by
  rcases hP with rfl | ⟨hi0, rfl, rfl⟩
  · rw [law10.OrderFulls.l5_eq, decide_eq_false (by omega), cond_false]
  · subst hi0
    rw [l5_raw0, decide_eq_false (by omega), cond_false]
theorem F6_step (K i k c : Nat) (hi : i < k) (hk : k ≤ 4) (hc : c ≤ 8) {P : Nat → List AV} {z : Nat → OT} (hP : RowsO c P z) : law10.OrderFulls.l6 1000000 (K + 1) 1024 (EB y) c P f (k : Int) (i : Int) = law10.OrderFulls.l6 1000000 K 1024 (EB y) (c + 1) (fun t => RiiiiiiiiiiiiiiL2.enc (upd1 z c addO t)) f (k : Int) ((i + 1 : Nat) : Int) := by
  have e1 : IntKind.i64.wrap ((i : Int) + 1) = ((i + 1 : Nat) : Int) := wrap_nat i (by omega)
  have hz := hP.dec
  rcases hP with rfl | ⟨hi0, rfl, rfl⟩
  · rw [law10.OrderFulls.l6_eq, decide_eq_true (by omega), cond_true]
    refine cond_t (by simp; omega) ?_
    rw [e1]
    refine bind_to (rowsD_B 1024 y) ?_
    refine bind_to (rowsD_DO' (dec_one (T := RiiiiiiiiiiiiiiL2) decAdd decZO) 1) ?_
    refine bind_to (rowsD_DO' (dec_app (T := RiiiiiiiiiiiiiiL2) hz decAdd c) (c + 1)) ?_
    rfl
  · subst hi0
    rw [l6_raw0, decide_eq_true (by omega), cond_true]
    refine cond_t (by simp) ?_
    rw [e1]
    refine bind_to (rowsD_B 1024 y) ?_
    refine bind_to (rowsD_DO' (dec_one (T := RiiiiiiiiiiiiiiL2) decAdd decZO) 1) ?_
    refine bind_to (rowsD_DO' (dec_app (T := RiiiiiiiiiiiiiiL2) hz decAdd 0) (0 + 1)) ?_
    rfl
theorem F6_run (k : Nat) (hk : k ≤ 4) : ∀ (d i K : Nat) {P : Nat → List AV} {z : Nat → OT}, i + d = k → d < K → RowsO (k + i) P z → (∀ j, j < k + i → z j = osF k j) →
    ∃ (K' : Nat) (P' : Nat → List AV) (z' : Nat → OT), RowsO (2 * k) P' z' ∧ (∀ j, j < 2 * k → z' j = osF k j) ∧ law10.OrderFulls.l6 1000000 K 1024 (EB y) (k + i) P f (k : Int) (i : Int) = law10.OrderFulls.l6 1000000 (K' + 1) 1024 (EB y) (2 * k) P' f (k : Int) (k : Int)
  | 0, i, K + 1, P, z, e, _, hz, hj => by
    have : i = k := by omega
    subst this
    have e2 : i + i = 2 * i := by omega
    rw [e2] at hj hz ⊢
    exact ⟨K, P, z, hz, hj, rfl⟩
  | d + 1, i, K + 1, P, z, e, hK, hz, hj => by
    rw [F6_step K i k (k + i) (by omega) hk (by omega) hz]
    refine F6_run k hk d (i + 1) K (by omega) (by omega) (.inl rfl) fun j hj' => ?_
    unfold upd1
    split
    · rename_i e; rw [e]; unfold osF; rw [if_neg (by omega)]
    · exact hj j (by omega)
theorem decMany (y : Nat → BT) (n : Nat) (c : Option Nat) (G : Nat → List AV) (os : Nat → OT) (h : ∀ i, RiiiiiiiiiiiiiiL2.dec (G i) = some (os i)) :
    AllT.dec [.agg [.val (.int .i64 0), .val (.int .i64 1025), .val (.int .i64 1), .val (.int .i64 0), .val (.int .i64 0), .lst 11 1024 none (fun i => RiiiiiiiiiiL2.enc (y i)), .val (.slice none 0 0), .val (.slice none 0 0)], .lst 15 n c G] = some ((manyW y).raw, (n, os)) := by
  simp only [dec_tG, dec_tCons, dec_tOne, dec_tI, dec_tTL, dec_tLz, dec_tLz0, Option.bind_some]
  rw [decRows_of _ _ _ (fun i hi => ⟨os i, h i⟩)]
  have : (fun i => (RiiiiiiiiiiiiiiL2.dec (G i)).getD (0, 0, 0, 0, 0, 0, 0, 0, 0, 0, 0, 0, 0, 0, (0, fun _ => []))) = os := by
    funext i; rw [h i]; rfl
  rw [this]; rfl
theorem decO_pre {P : Nat → List AV} {z : Nat → OT} (hz : DecO P z) : ∀ i, RiiiiiiiiiiiiiiL2.dec (cloL (if i < 1 then (fun i => List.getD [[.val (.int .i64 1), .val (.int .i64 0), .val (.int .i64 0), .val (.int .i64 0), .val (.int .i64 0), .val (.int .i64 0), .val (.int .i64 0), .val (.int .i64 0), .val (.int .i64 0), .val (.int .i64 0), .val (.int .i64 0), .val (.int .i64 0), .val (.int .i64 1), .val (.int .i64 4294967296), .val (.slice none 0 0)]] i rawZO) i else P (i - 1))) = some (if i = 0 then addO else z (i - 1)) := fun i => by
  cases i with
  | zero => exact decAdd
  | succ i => exact hz i
theorem Check_eq {w : Wd} {n : Nat} {os : Nat → OT} {r : TWT × Int} (h : order.All.f (w.raw, (n, os)) = some r) : order.Check.f (w.raw, (n, os)) = some r.2 := by
  unfold Wd.raw
  rw [order.Check.eq]
  refine bind_to (allT_dec w n none _ os (fun i => RiiiiiiiiiiiiiiL2_dec (os i))) ?_
  exact bind_to h rfl
theorem rowsD_OO (n : Nat) (g : Nat → OT) : rowsD rtRiiiiiiiiiiiiiiL2 n (fun i => RiiiiiiiiiiiiiiL2.enc (g i)) = some g := rowsD_DO' (fun i => RiiiiiiiiiiiiiiL2_dec (g i)) n
theorem F6_no (K k : Nat) (hk : k ≤ 4) (hy : ∀ j, j < 1024 → y j = bodyF j) {P : Nat → List AV} {z : Nat → OT} (hP : RowsO (2 * k) P z) (hos : ∀ j, j < 2 * k → z j = osF k j) : law10.OrderFulls.l6 1000000 (K + 1) 1024 (EB y) (2 * k) P false (k : Int) (k : Int) = some true := by
  obtain ⟨w, i1, i2⟩ := All_F hy hk hos
  obtain ⟨hg, ht, hnj, hjs, hnb, hbs, _⟩ := i1
  have hb : w.bs.1 = 1024 := by
    rw [hbs]; split <;> omega
  have hz := hP.dec
  rcases hP with rfl | ⟨hi0, rfl, rfl⟩
  · rw [law10.OrderFulls.l6_eq]
    refine cond_f (decide_eq_false (by omega)) ?_
    refine cond_f rfl ?_
    refine bind_to (decMany y (2 * k) none _ z hz) ?_
    refine bind_to i2 ?_
    refine cond_f rfl ?_
    refine cond_t rfl ?_
    refine cond_t (by show (((w.bs.1 : Nat) : Int) == 1024) = true; rw [hb]; rfl) ?_
    refine cond_t (by show (w.nb == IntKind.i64.wrap (1025 + (k : Int))) = true; rw [hnb, beq_iff_eq, IntKind.wrap_i64]; omega) ?_
    exact bind_to ((Right_tells hg.fine).t hg.right) rfl
  · rw [hi0]
    rw [hi0] at i2
    rw [l6_raw0]
    refine cond_f (decide_eq_false (by omega)) ?_
    refine cond_f rfl ?_
    refine bind_to (decMany y 0 none _ _ hz) ?_
    refine bind_to i2 ?_
    refine cond_f rfl ?_
    refine cond_t rfl ?_
    refine cond_t (by show (((w.bs.1 : Nat) : Int) == 1024) = true; rw [hb]; rfl) ?_
    refine cond_t (by show (w.nb == IntKind.i64.wrap (1025 + (k : Int))) = true; rw [hnb, beq_iff_eq, IntKind.wrap_i64]; omega) ?_
    exact bind_to ((Right_tells hg.fine).t hg.right) rfl
theorem F6_yes (K k : Nat) (hk : k ≤ 4) (hy : ∀ j, j < 1024 → y j = bodyF j) {P : Nat → List AV} {z : Nat → OT} (hP : RowsO (2 * k) P z) (hos : ∀ j, j < 2 * k → z j = osF k j) : law10.OrderFulls.l6 1000000 (K + 1) 1024 (EB y) (2 * k) P true (k : Int) (k : Int) = some true := by
  have hA : order.All.f ((manyW y).raw, (1 + 2 * k, fun i => if i = 0 then addO else z (i - 1))) = some (zeroW.tup, 3) := by
    rw [Nat.add_comm 1]
    refine All_too hy (by omega) rfl fun j hj => ?_
    show order.Right.f (if j = 0 then addO else z (j - 1)) = _
    split
    · exact add_right
    · rw [hos (j - 1) (by omega)]; exact osF_right k _
  have hz := hP.dec
  rcases hP with rfl | ⟨hi0, rfl, rfl⟩
  · rw [law10.OrderFulls.l6_eq]
    refine cond_f (decide_eq_false (by omega)) ?_
    refine cond_t rfl ?_
    refine cond_t (by simp; omega) ?_
    refine bind_to (rowsD_B 1024 y) ?_
    refine bind_to (rowsD_OO (2 * k) z) ?_
    refine bind_to (rowsD_DO' (decO_pre (P := fun i => RiiiiiiiiiiiiiiL2.enc (z i)) hz) (1 + 2 * k)) ?_
    refine bind_to (decMany y (1 + 2 * k) none _ _ (fun i => RiiiiiiiiiiiiiiL2_dec _)) ?_
    refine bind_to hA ?_
    refine bind_to (rowsD_OO (2 * k) z) ?_
    refine cond_t rfl ?_
    refine cond_t rfl ?_
    refine bind_to (decMany y (1 + 2 * k) none _ _ (fun i => RiiiiiiiiiiiiiiL2_dec _)) ?_
    refine bind_to (Check_eq hA) ?_
    exact cond_t rfl rfl
  · rw [hi0]
    rw [hi0] at hA
    rw [l6_raw0]
    refine cond_f (decide_eq_false (by omega)) ?_
    refine cond_t rfl ?_
    refine cond_t (by simp) ?_
    refine bind_to (rowsD_B 1024 y) ?_
    refine bind_to (rowsD_DO hz 0) ?_
    refine bind_to (rowsD_DO' (decO_pre hz) (1 + 0)) ?_
    refine bind_to (decMany y (1 + 0) none _ _ (fun i => RiiiiiiiiiiiiiiL2_dec _)) ?_
    refine bind_to hA ?_
    refine bind_to (rowsD_OO 0 _) ?_
    refine cond_t rfl ?_
    refine cond_t rfl ?_
    refine bind_to (decMany y (1 + 0) none _ _ (fun i => RiiiiiiiiiiiiiiL2_dec _)) ?_
    refine bind_to (Check_eq hA) ?_
    exact cond_t rfl rfl
theorem F5_end (k : Nat) (hk : k ≤ 4) (hy : ∀ j, j < 1024 → y j = bodyF j) : law10.OrderFulls.l5 1000000 1000000 1024 (EB y) 0 (fun _ => rawZO) f (k : Int) 0 = some true := by
  obtain ⟨K1, P1, z1, a1, a2, a3⟩ := F5_run (y := y) (f := f) k hk k 0 1000000 (P := fun _ => rawZO) (z := fun _ => zO) (by omega) (by omega) (.inr ⟨rfl, rfl, rfl⟩) (fun j hj => by omega)
  have a3' : law10.OrderFulls.l5 1000000 1000000 1024 (EB y) 0 (fun _ => rawZO) f (k : Int) 0 = _ := a3
  rw [a3', F5_out K1 k a1]
  obtain ⟨K2, P2, z2, b1, b2, b3⟩ := F6_run (y := y) (f := f) k hk k 0 1000000 (P := P1) (z := z1) (by omega) (by omega) a1 (fun j hj => by
    unfold osF
    rw [if_pos (by omega)]
    exact a2 j (by omega))
  have b3' : law10.OrderFulls.l6 1000000 1000000 1024 (EB y) k P1 f (k : Int) 0 = _ := b3
  refine b3'.trans ?_
  cases f with
  | false => exact F6_no K2 k hk hy b1 b2
  | true => exact F6_yes K2 k hk hy b1 b2
theorem Fulls_eq (p0 : Int) (h0 : 0 ≤ p0) (h1 : p0 < 256) (p1 : Bool) : law10.OrderFulls.f (p0, p1) = some true := by
  have e : law10.OrderFulls.f (p0, p1) = law10.OrderFulls.g 1000000 (p0, p1) := rfl
  rw [e, law10.OrderFulls.eq]
  refine bind_to fit10_true ?_
  refine cond_f rfl ?_
  obtain ⟨K, G, y, h, hy, e1⟩ := F2_run (n := p0) (f := p1) 1024 0 1000000 (G := fun _ => rawZB) (y := fun _ => _) (by omega) (by omega) (fun _ => decZB) (fun j hj => by omega)
  have e2 : law10.OrderFulls.l2 1000000 1000000 0 (fun _ => rawZB) p0 p1 0 = _ := e1
  refine e2.trans ?_
  rw [l2_raw]
  refine cond_f rfl ?_
  refine bind_to (rowsD_DB h 1024) ?_
  have hg := good_many hy
  refine bind_to ((Right_tells hg.fine).t hg.right) ?_
  refine cond_f rfl ?_
  refine bind_to (rowsD_B 1024 y) ?_
  have hk : IntKind.i64.wrap (Int.tmod p0 5) = ((p0.toNat % 5 : Nat) : Int) := by
    rw [Int.tmod_eq_emod_of_nonneg h0, IntKind.wrap_i64]; omega
  rw [hk]
  exact F5_end _ (by omega) hy
end
theorem OrderFulls_true (p0 : Int) (p1 : Bool) (w0 : (Lit.int .u8 p0).wf = true) : law10.OrderFulls.f (p0, p1) = some true := by
  have h := w0
  simp [Lit.wf, Lit.int] at h
  have e1 : IntKind.u8.min = 0 := by decide
  have e2 : IntKind.u8.max = 255 := by decide
  exact Fulls_eq p0 (by omega) (by omega) p1
end Go.Proofs.Ytghhecijpghfhaa.Y
