/- OrderAlls: a batch is done whole or not at all, and as its orders are done one by one (printed by wip/tools/mkxk.py). -/
import Derived.Test.YtghhecijpghfhaaGreatYXh
import Derived.Test.YtghhecijpghfhaaGreatYWv
namespace Go.Proofs.YtghhecijpghfhaaGreat.Y
open Go Go.RowKit Go.Proofs.YtghhecijpghfhaaGreat.E Go.Proofs.YtghhecijpghfhaaGreat.Ma Go.Proofs.YtghhecijpghfhaaGreat.Fw
set_option linter.unusedVariables false
set_option linter.unusedSimpArgs false
set_option maxRecDepth 10000

def rawZO : List AV := [.val (.int .i64 0), .val (.int .i64 0), .val (.int .i64 0), .val (.int .i64 0), .val (.int .i64 0), .val (.int .i64 0), .val (.int .i64 0), .val (.int .i64 0), .val (.int .i64 0), .val (.int .i64 0), .val (.int .i64 0), .val (.int .i64 0), .val (.int .i64 0), .val (.int .i64 0), .val (.slice none 0 0)]
theorem Orders_l2_raw0 (k0 k1 : Nat) (v3 : Nat) (v4 : Nat → (Int × Int × Int × Int × Int × Int × Int × Int × Int × Int × Int × Int × Int × Int × Int × Int × Int × Int × Int × Int × Int × Int × Int × Int × Int × Int × Int × Int × Int × (Nat × (Nat → List AV)))) (v5 : Int) (v6 : Int) : law10.Orders.l2 k0 (k1 + 1) 0 (fun _ => rawZO) v3 (fun i => RiiiiiiiiiiiiiiiiiiiiiiiiiiiiiL2.enc (v4 i)) v5 v6 =
  bif (decide (v6 < v5)) then
    bif ((decide (0 ≤ v6)) && (decide (v6 < ((v3 : Nat) : Int)))) then
    (rowsD rtRiiiiiiiiiiiiiiL2 0 (fun _ => rawZO)).bind fun r1 =>
    (law10.Order.f ((v4 (Int.toNat v6)).1, (v4 (Int.toNat v6)).2.1, (v4 (Int.toNat v6)).2.2.1, (v4 (Int.toNat v6)).2.2.2.1, (v4 (Int.toNat v6)).2.2.2.2.1, (v4 (Int.toNat v6)).2.2.2.2.2.1, (v4 (Int.toNat v6)).2.2.2.2.2.2.1, (v4 (Int.toNat v6)).2.2.2.2.2.2.2.1, (v4 (Int.toNat v6)).2.2.2.2.2.2.2.2.1, (v4 (Int.toNat v6)).2.2.2.2.2.2.2.2.2.1, (v4 (Int.toNat v6)).2.2.2.2.2.2.2.2.2.2.1, (v4 (Int.toNat v6)).2.2.2.2.2.2.2.2.2.2.2.1, (v4 (Int.toNat v6)).2.2.2.2.2.2.2.2.2.2.2.2.1, (v4 (Int.toNat v6)).2.2.2.2.2.2.2.2.2.2.2.2.2.1, (v4 (Int.toNat v6)).2.2.2.2.2.2.2.2.2.2.2.2.2.2.1, (v4 (Int.toNat v6)).2.2.2.2.2.2.2.2.2.2.2.2.2.2.2.1, (v4 (Int.toNat v6)).2.2.2.2.2.2.2.2.2.2.2.2.2.2.2.2.1, (v4 (Int.toNat v6)).2.2.2.2.2.2.2.2.2.2.2.2.2.2.2.2.2.1, (v4 (Int.toNat v6)).2.2.2.2.2.2.2.2.2.2.2.2.2.2.2.2.2.2.1, (v4 (Int.toNat v6)).2.2.2.2.2.2.2.2.2.2.2.2.2.2.2.2.2.2.2.1, (v4 (Int.toNat v6)).2.2.2.2.2.2.2.2.2.2.2.2.2.2.2.2.2.2.2.2.1, (v4 (Int.toNat v6)).2.2.2.2.2.2.2.2.2.2.2.2.2.2.2.2.2.2.2.2.2.1, (v4 (Int.toNat v6)).2.2.2.2.2.2.2.2.2.2.2.2.2.2.2.2.2.2.2.2.2.2.1, (v4 (Int.toNat v6)).2.2.2.2.2.2.2.2.2.2.2.2.2.2.2.2.2.2.2.2.2.2.2.1, (v4 (Int.toNat v6)).2.2.2.2.2.2.2.2.2.2.2.2.2.2.2.2.2.2.2.2.2.2.2.2.1, (v4 (Int.toNat v6)).2.2.2.2.2.2.2.2.2.2.2.2.2.2.2.2.2.2.2.2.2.2.2.2.2.1, (v4 (Int.toNat v6)).2.2.2.2.2.2.2.2.2.2.2.2.2.2.2.2.2.2.2.2.2.2.2.2.2.2.1, (v4 (Int.toNat v6)).2.2.2.2.2.2.2.2.2.2.2.2.2.2.2.2.2.2.2.2.2.2.2.2.2.2.2.1, (v4 (Int.toNat v6)).2.2.2.2.2.2.2.2.2.2.2.2.2.2.2.2.2.2.2.2.2.2.2.2.2.2.2.2.1, ((v4 (Int.toNat v6)).2.2.2.2.2.2.2.2.2.2.2.2.2.2.2.2.2.2.2.2.2.2.2.2.2.2.2.2.2.1, (v4 (Int.toNat v6)).2.2.2.2.2.2.2.2.2.2.2.2.2.2.2.2.2.2.2.2.2.2.2.2.2.2.2.2.2.2))).bind fun r2 =>
    bif (decide ((0 + 1) * 136 ≤ 140737488355328)) then
    (rowsD rtRiiiiiiiiiiiiiiL2 1 (fun i => cloL (List.getD [RiiiiiiiiiiiiiiL2.enc (r2.1, r2.2.1, r2.2.2.1, r2.2.2.2.1, r2.2.2.2.2.1, r2.2.2.2.2.2.1, r2.2.2.2.2.2.2.1, r2.2.2.2.2.2.2.2.1, r2.2.2.2.2.2.2.2.2.1, r2.2.2.2.2.2.2.2.2.2.1, r2.2.2.2.2.2.2.2.2.2.2.1, r2.2.2.2.2.2.2.2.2.2.2.2.1, r2.2.2.2.2.2.2.2.2.2.2.2.2.1, r2.2.2.2.2.2.2.2.2.2.2.2.2.2.1, (r2.2.2.2.2.2.2.2.2.2.2.2.2.2.2.1, (fun i => Rii.enc (r2.2.2.2.2.2.2.2.2.2.2.2.2.2.2.2 i))))] i ([.val (.int .i64 0), .val (.int .i64 0), .val (.int .i64 0), .val (.int .i64 0), .val (.int .i64 0), .val (.int .i64 0), .val (.int .i64 0), .val (.int .i64 0), .val (.int .i64 0), .val (.int .i64 0), .val (.int .i64 0), .val (.int .i64 0), .val (.int .i64 0), .val (.int .i64 0), .val (.slice none 0 0)])))).bind fun r3 =>
    (rowsD rtRiiiiiiiiiiiiiiL2 (0 + 1) (fun i => cloL (if i = 0 then RiiiiiiiiiiiiiiL2.enc (r2.1, r2.2.1, r2.2.2.1, r2.2.2.2.1, r2.2.2.2.2.1, r2.2.2.2.2.2.1, r2.2.2.2.2.2.2.1, r2.2.2.2.2.2.2.2.1, r2.2.2.2.2.2.2.2.2.1, r2.2.2.2.2.2.2.2.2.2.1, r2.2.2.2.2.2.2.2.2.2.2.1, r2.2.2.2.2.2.2.2.2.2.2.2.1, r2.2.2.2.2.2.2.2.2.2.2.2.2.1, r2.2.2.2.2.2.2.2.2.2.2.2.2.2.1, (r2.2.2.2.2.2.2.2.2.2.2.2.2.2.2.1, (fun i => Rii.enc (r2.2.2.2.2.2.2.2.2.2.2.2.2.2.2.2 i)))) else RiiiiiiiiiiiiiiL2.enc (r1 i)))).bind fun r4 =>
    law10.Orders.l2 k0 k1 (0 + 1) (fun i => RiiiiiiiiiiiiiiL2.enc (r4 i)) v3 (fun i => RiiiiiiiiiiiiiiiiiiiiiiiiiiiiiL2.enc (v4 i)) v5 (IntKind.i64.wrap (v6 + 1))
    else none
    else none
  else
  (RowT.mk RiiiiiiiiiiiiiiL2 45 15 (0, 0, 0, 0, 0, 0, 0, 0, 0, 0, 0, 0, 0, 0, (0, fun _ => []))).dec (.slc 0 0 none none) ⟨true, 45, 15, 0, (fun _ => rawZO), none⟩ := by kernel_rfl
theorem rowsD_of (T : RTy) (n : Nat) (G : Nat → List AV) (y : Nat → T.β) (h : ∀ i, T.dec (G i) = some (y i)) : rowsD T n G = some y := by
  unfold rowsD
  rw [if_pos fun i _ => ⟨y i, h i⟩]
  refine congrArg some (funext fun i => ?_)
  exact congrArg (fun o => Option.getD o T.z) (h i)
/-- Rows that can be told. -/
def DecO (G : Nat → List AV) (y : Nat → OT) : Prop := ∀ i, RiiiiiiiiiiiiiiL2.dec (cloL (G i)) = some (y i)
theorem decO_one (y : OT) : RiiiiiiiiiiiiiiL2.dec (cloL (RiiiiiiiiiiiiiiL2.enc y)) = some y := by rw [RiiiiiiiiiiiiiiL2_clo, RiiiiiiiiiiiiiiL2_dec]
theorem decO_typed (y : Nat → OT) : DecO (fun i => RiiiiiiiiiiiiiiL2.enc (y i)) y := fun i => decO_one (y i)
theorem rowsD_DO {G : Nat → List AV} {y : Nat → OT} (h : DecO G y) (n : Nat) : rowsD rtRiiiiiiiiiiiiiiL2 n (fun i => cloL (G i)) = some y := rowsD_of rtRiiiiiiiiiiiiiiL2 n _ y h
theorem rowsD_DO' {G : Nat → List AV} {y : Nat → OT} (h : ∀ i, RiiiiiiiiiiiiiiL2.dec (G i) = some (y i)) (n : Nat) : rowsD rtRiiiiiiiiiiiiiiL2 n G = some y := rowsD_of rtRiiiiiiiiiiiiiiL2 n _ y h
theorem rowsD_OO (n : Nat) (g : Nat → OT) : rowsD rtRiiiiiiiiiiiiiiL2 n (fun i => RiiiiiiiiiiiiiiL2.enc (g i)) = some g := rowsD_DO' (fun i => RiiiiiiiiiiiiiiL2_dec (g i)) n
theorem dec_app {α : Type} {T : TyL α} {G : Nat → List AV} {y : Nat → α} (h : ∀ i, T.dec (cloL (G i)) = some (y i)) {r : List AV} {v : α} (hr : T.dec (cloL r) = some v) (q : Nat) : ∀ i, T.dec (cloL (if i = q then r else G i)) = some (upd1 y q v i) := fun i => by
  unfold upd1
  split
  · exact hr
  · exact h i
theorem dec_one {α : Type} {T : TyL α} {r z : List AV} {v u : α} (hr : T.dec (cloL r) = some v) (hz : T.dec (cloL z) = some u) : ∀ i, T.dec (cloL (List.getD [r] i z)) = some (if i = 0 then v else u) := fun i => by
  cases i with
  | zero => exact hr
  | succ i => rw [if_neg (by omega)]; exact hz
abbrev zO : OT := (0, 0, 0, 0, 0, 0, 0, 0, 0, 0, 0, 0, 0, 0, nilP)
theorem decZO : RiiiiiiiiiiiiiiL2.dec (cloL rawZO) = some zO := by kernel_rfl
def pullO : OT := (6, 0, 0, 0, 0, 0, 0, 0, 0, 0, 0, 0, 0, 0, nilP)
theorem decPull : RiiiiiiiiiiiiiiL2.dec (cloL [.val (.int .i64 6), .val (.int .i64 0), .val (.int .i64 0), .val (.int .i64 0), .val (.int .i64 0), .val (.int .i64 0), .val (.int .i64 0), .val (.int .i64 0), .val (.int .i64 0), .val (.int .i64 0), .val (.int .i64 0), .val (.int .i64 0), .val (.int .i64 0), .val (.int .i64 0), .val (.slice none 0 0)]) = some pullO := by kernel_rfl
/-- Rows told, or none yet. -/
def RowsO (n : Nat) (P : Nat → List AV) (z : Nat → OT) : Prop := P = (fun i => RiiiiiiiiiiiiiiL2.enc (z i)) ∨ (n = 0 ∧ P = (fun _ => rawZO) ∧ z = fun _ => zO)
theorem RowsO.dec {n : Nat} {P : Nat → List AV} {z : Nat → OT} (h : RowsO n P z) : DecO P z := by
  rcases h with rfl | ⟨_, rfl, rfl⟩
  · exact decO_typed z
  · exact fun _ => decZO
attribute [local irreducible] law10.Order.f order.Right.f order.over.f order.Do.f order.All.f order.Check.f world.Right.f world.Copy.f world.Same.f law09.Made.f

/-! ### The orders of deeds -/
section
variable {ds : Nat → DT}
theorem LO_step (K i l : Nat) (hi : i < l) (hl : l ≤ 20) (hd : FineD (ds i)) (hf : FewD (ds i)) {P : Nat → List AV} {z : Nat → OT} (hP : RowsO i P z) :
    ∃ o, FineO o ∧ law10.Orders.l2 1000000 (K + 1) i P l (fun t => RiiiiiiiiiiiiiiiiiiiiiiiiiiiiiL2.enc (ds t)) (l : Int) (i : Int) = law10.Orders.l2 1000000 K (i + 1) (fun t => RiiiiiiiiiiiiiiL2.enc (upd1 z i o t)) l (fun t => RiiiiiiiiiiiiiiiiiiiiiiiiiiiiiL2.enc (ds t)) (l : Int) ((i + 1 : Nat) : Int) := by
  obtain ⟨r, r1, r2⟩ := Order_ok hd hf
  have e1 : IntKind.i64.wrap ((i : Int) + 1) = ((i + 1 : Nat) : Int) := wrap_nat i (by omega)
  have hz := hP.dec
  refine ⟨rawO r, r2, ?_⟩
  rcases hP with rfl | ⟨hi0, rfl, rfl⟩
  · rw [law10.Orders.l2_eq, lt_nat i l hi, cond_true, ge_nat, cond_true, e1]
    simp only [Int.toNat_natCast]
    refine bind_to (rowsD_OO i z) ?_
    refine bind_to r1 ?_
    refine cond_t (by simp; omega) ?_
    refine bind_to (rowsD_DO' (dec_one (T := RiiiiiiiiiiiiiiL2) (decO_one (rawO r)) decZO) 1) ?_
    refine bind_to (rowsD_DO' (dec_app (T := RiiiiiiiiiiiiiiL2) hz (decO_one (rawO r)) i) (i + 1)) ?_
    rfl
  · subst hi0
    rw [Orders_l2_raw0, lt_nat 0 l hi, cond_true, ge_nat, cond_true, e1]
    simp only [Int.toNat_natCast]
    refine bind_to (rowsD_DO hz 0) ?_
    refine bind_to r1 ?_
    refine cond_t (by simp) ?_
    refine bind_to (rowsD_DO' (dec_one (T := RiiiiiiiiiiiiiiL2) (decO_one (rawO r)) decZO) 1) ?_
    refine bind_to (rowsD_DO' (dec_app (T := RiiiiiiiiiiiiiiL2) (decO_typed fun _ => zO) (decO_one (rawO r)) 0) (0 + 1)) ?_
    rfl
theorem LO_run {l : Nat} (hl : l ≤ 20) (hd : ∀ i, i < l → FineD (ds i)) (hf : ∀ i, i < l → FewD (ds i)) : ∀ (d i K : Nat) {P : Nat → List AV} {z : Nat → OT}, i + d = l → d < K → RowsO i P z → (∀ j, j < i → FineO (z j)) →
    ∃ (K' : Nat) (P' : Nat → List AV) (z' : Nat → OT), RowsO l P' z' ∧ (∀ j, j < l → FineO (z' j)) ∧ law10.Orders.l2 1000000 K i P l (fun t => RiiiiiiiiiiiiiiiiiiiiiiiiiiiiiL2.enc (ds t)) (l : Int) (i : Int) = law10.Orders.l2 1000000 (K' + 1) l P' l (fun t => RiiiiiiiiiiiiiiiiiiiiiiiiiiiiiL2.enc (ds t)) (l : Int) (l : Int)
  | 0, i, K + 1, P, z, e, _, hz, hj => by
    have : i = l := by omega
    subst this
    exact ⟨K, P, z, hz, hj, rfl⟩
  | d + 1, i, K + 1, P, z, e, hK, hz, hj => by
    obtain ⟨o, o1, o2⟩ := LO_step K i l (by omega) hl (hd i (by omega)) (hf i (by omega)) hz
    rw [o2]
    refine LO_run hl hd hf d (i + 1) K (by omega) (by omega) (.inl rfl) fun j hj' => ?_
    unfold upd1
    split
    · exact o1
    · exact hj j (by omega)
theorem rowT_dec (n : Nat) (z : Nat → OT) : (RowT.mk RiiiiiiiiiiiiiiL2 45 15 (0, 0, 0, 0, 0, 0, 0, 0, 0, 0, 0, 0, 0, 0, (0, fun _ => []))).dec (.slc 0 0 none none) ⟨true, 45, 15, n, fun i => RiiiiiiiiiiiiiiL2.enc (z i), none⟩ = some (n, z) := by
  unfold RowT.dec
  simp only [Nat.beq_refl, Bool.and_self]
  exact rowsDec_enc RiiiiiiiiiiiiiiL2_dec _ n z
theorem rowT_dec0 (G : Nat → List AV) : ∃ z : Nat → OT, (RowT.mk RiiiiiiiiiiiiiiL2 45 15 (0, 0, 0, 0, 0, 0, 0, 0, 0, 0, 0, 0, 0, 0, (0, fun _ => []))).dec (.slc 0 0 none none) ⟨true, 45, 15, 0, G, none⟩ = some (0, z) := by
  unfold RowT.dec
  simp only [Nat.beq_refl, Bool.and_self]
  unfold rowsDec
  rw [if_pos fun i hi => absurd hi (by omega)]
  exact ⟨_, rfl⟩
theorem Orders_eq {n : Nat} (hn : n ≤ 9223372036854775807) (hd : ∀ i, i < n → FineD (ds i)) (hf : ∀ i, i < n → FewD (ds i)) : ∃ (l : Nat) (os : Nat → OT), l ≤ 20 ∧ (∀ j, j < l → FineO (os j)) ∧ law10.Orders.f ((n, fun i => RiiiiiiiiiiiiiiiiiiiiiiiiiiiiiL2.enc (ds i)), 20) = some (l, os) := by
  have e : law10.Orders.f ((n, fun i => RiiiiiiiiiiiiiiiiiiiiiiiiiiiiiL2.enc (ds i)), 20) = law10.Orders.g 1000000 ((n, fun i => RiiiiiiiiiiiiiiiiiiiiiiiiiiiiiL2.enc (ds i)), 20) := rfl
  have em : (if (20 : Int) < ((n : Nat) : Int) then (20 : Int) else ((n : Nat) : Int)) = ((min n 20 : Nat) : Int) := by split <;> omega
  rw [e, law10.Orders.eq, em]
  refine ⟨min n 20, ?_⟩
  have hl : min n 20 ≤ 20 := by omega
  generalize hk : min n 20 = l at hl
  have hln : l ≤ n := by omega
  obtain ⟨K, P, z, a1, a2, a3⟩ := LO_run (l := l) hl (fun i hi => hd i (by omega)) (fun i hi => hf i (by omega)) l 0 1000000 (P := fun _ => rawZO) (z := fun _ => zO) (by omega) (by omega) (.inr ⟨rfl, rfl, rfl⟩) (fun j hj => by omega)
  have a3' : law10.Orders.l2 1000000 1000000 0 (fun _ => rawZO) l (fun t => RiiiiiiiiiiiiiiiiiiiiiiiiiiiiiL2.enc (ds t)) (l : Int) 0 = _ := a3
  rcases a1 with rfl | ⟨hi0, rfl, rfl⟩
  · refine ⟨z, hl, a2, cond_t (by simp; omega) ?_⟩
    simp only [Int.toNat_natCast]
    refine a3'.trans ?_
    rw [law10.Orders.l2_eq, decide_eq_false (by omega), cond_false]
    exact rowT_dec l z
  · subst hi0
    obtain ⟨z', hz'⟩ := rowT_dec0 (fun _ => rawZO)
    refine ⟨z', hl, fun j hj => by omega, cond_t (by simp) ?_⟩
    simp only [Int.toNat_natCast]
    refine a3'.trans ?_
    rw [Orders_l2_raw0]
    exact hz'
end

/-! ### Where the orders lead -/
/-- Bounds. -/
structure Bnd (k : Nat) (w : Wd) : Prop where
  good : Good w
  t : w.t = 0
  b : w.bs.1 ≤ k
  nb : w.nb ≤ k + 1
  j : w.js.1 ≤ k
  nj : w.nj ≤ k + 1
theorem Bnd.step {k : Nat} (hk : k ≤ 900) {w : Wd} (h : Bnd k w) {o : OT} (ho : FineO o) (hr : RightO o) : ∃ w', Bnd (k + 1) w' ∧ order.over.f (w.raw, o) = some false ∧ order.Do.f (w.raw, o) = some ((), w'.tup) := by
  obtain ⟨h1, h2, h3, h4, h5, h6⟩ := h
  obtain ⟨w', d1, d2, d3⟩ := Do_ok h1 ho hr
  obtain ⟨v, v1, v2, v3⟩ := over_eq h1 ho
  obtain ⟨s1, s2, s3, s4, s5, s6⟩ := d3
  have hv : v = false := by
    cases v with
    | false => rfl
    | true =>
      rcases v3 rfl with e | e
      · rcases (v2 e).1 rfl with e | e <;> omega
      · rcases e with e | e <;> omega
  subst hv
  exact ⟨w', ⟨d2, by omega, by omega, by omega, by omega, by omega⟩, v1, d1⟩
theorem leads {k : Nat} {w : Wd} (h : Bnd k w) : ∀ (m : Nat), k + m ≤ 900 → ∀ (os : Nat → OT), (∀ j, j < m → FineO (os j)) → (∀ j, j < m → RightO (os j)) → ∃ ws : Nat → Wd, ws 0 = w ∧ Leads m os ws ∧ Bnd (k + m) (ws m)
  | 0, _, os, _, _ => ⟨fun _ => w, rfl, ⟨fun i hi => absurd hi (by omega), fun i hi => absurd hi (by omega)⟩, h⟩
  | m + 1, hm, os, hf, hr => by
    obtain ⟨ws, e, hl, hb⟩ := leads h m (by omega) os (fun j hj => hf j (by omega)) (fun j hj => hr j (by omega))
    obtain ⟨w', b1, b2, b3⟩ := hb.step (by omega) (hf m (by omega)) (hr m (by omega))
    refine ⟨fun i => if i ≤ m then ws i else w', ?_, ⟨fun i hi => ?_, fun i hi => ?_⟩, ?_⟩
    · show (if 0 ≤ m then ws 0 else w') = w
      rw [if_pos (by omega)]; exact e
    · show order.over.f ((if i ≤ m then ws i else w').raw, os i) = _
      rw [if_pos (by omega)]
      by_cases hi' : i < m
      · exact hl.over i hi'
      · have : i = m := by omega
        subst this
        exact b2
    · show order.Do.f ((if i ≤ m then ws i else w').raw, os i) = some ((), (if i + 1 ≤ m then ws (i + 1) else w').tup)
      rw [if_pos (by omega)]
      by_cases hi' : i < m
      · rw [if_pos (by omega)]; exact hl.done i hi'
      · have : i = m := by omega
        subst this
        rw [if_neg (by omega)]
        exact b3
    · show Bnd (k + (m + 1)) (if m + 1 ≤ m then ws (m + 1) else w')
      rw [if_neg (by omega)]
      exact b1

/-! ### The loops -/
section
variable {KF : Nat} {w x got : Wd} {m : Nat} {os : Nat → OT}
theorem Check_eq {w : Wd} {n : Nat} {os : Nat → OT} {r : TWT × Int} (h : order.All.f (w.raw, (n, os)) = some r) : order.Check.f (w.raw, (n, os)) = some r.2 := by
  unfold Wd.raw
  rw [order.Check.eq]
  refine bind_to (allT_dec w n none _ os (fun i => RiiiiiiiiiiiiiiL2_dec (os i))) ?_
  exact bind_to h rfl
theorem same_refl (h : Seen w) : world.Same.f (w.raw, w.raw) = some true := (Same_tells h h).t (SameW.refl w)
theorem seen_zero : Seen zeroW := ⟨by show (0 : Nat) ≤ _; omega, fun i hi => absurd hi (by show ¬ i < 0; omega), by show (0 : Nat) ≤ _; omega, by show (0 : Nat) ≤ _; omega⟩
noncomputable def A3 (KF : Nat) (m : Nat) (os : Nat → OT) (w x got : Wd) (K : Nat) (i : Int) : Option Bool := law10.OrderAlls.l3 KF K w.t w.nb w.nj w.gx w.gy w.bs.1 (fun i => RiiiiiiiiiiL2.enc (w.bs.2 i)) w.js.1 (fun i => Riiiiiiii.enc (w.js.2 i)) w.cs.1 (fun i => Riiiii.enc (w.cs.2 i)) w.t w.nb w.nj w.gx w.gy w.bs.1 (fun i => RiiiiiiiiiiL2.enc (w.bs.2 i)) w.js.1 (fun i => Riiiiiiii.enc (w.js.2 i)) w.cs.1 (fun i => Riiiii.enc (w.cs.2 i)) x.t x.nb x.nj x.gx x.gy x.bs.1 (fun i => RiiiiiiiiiiL2.enc (x.bs.2 i)) x.js.1 (fun i => Riiiiiiii.enc (x.js.2 i)) x.cs.1 (fun i => Riiiii.enc (x.cs.2 i)) got.t got.nb got.nj got.gx got.gy got.bs.1 (fun i => RiiiiiiiiiiL2.enc (got.bs.2 i)) got.js.1 (fun i => Riiiiiiii.enc (got.js.2 i)) got.cs.1 (fun i => Riiiii.enc (got.cs.2 i)) m (fun i => RiiiiiiiiiiiiiiL2.enc (os i)) (m : Int) i
theorem A3_step (K i : Nat) (hi : i < m) (hm : m ≤ 1000) {x' : Wd} (h : order.Do.f (x.raw, os i) = some ((), x'.tup)) : A3 KF m os w x got (K + 1) (i : Int) = A3 KF m os w x' got K ((i + 1 : Nat) : Int) := by
  unfold A3
  rw [law10.OrderAlls.l3_eq, lt_nat i m hi, cond_true, ge_nat, cond_true]
  simp only [Int.toNat_natCast, wrap_nat i (show i < 9223372036854775807 by omega)]
  exact bind_to h rfl
theorem A3_end (K : Nat) (hg : Good got) : A3 KF m os w got got (K + 1) (m : Int) = some true := by
  unfold A3
  rw [law10.OrderAlls.l3_eq]
  refine cond_f (decide_eq_false (by omega)) ?_
  refine bind_to (same_refl hg.seen) ?_
  refine cond_t rfl ?_
  exact bind_to ((Right_tells hg.fine).t hg.right) rfl
theorem A3_run (hm : m ≤ 64) {ws : Nat → Wd} (h : Leads m os ws) (hg : Good (ws m)) : ∀ (d i K : Nat), i + d = m → d < K → A3 KF m os w (ws i) (ws m) K (i : Int) = some true
  | 0, i, K + 1, e, _ => by
    have : i = m := by omega
    subst this
    exact A3_end K hg
  | d + 1, i, K + 1, e, hK => by
    rw [A3_step K i (by omega) (by omega) (h.done i (by omega))]
    exact A3_run hm h hg d (i + 1) K (by omega) (by omega)
noncomputable def A2 (KF : Nat) (m : Nat) (os : Nat → OT) (w : Wd) (K : Nat) (i : Int) : Option Bool := law10.OrderAlls.l2 KF K w.t w.nb w.nj w.gx w.gy w.bs.1 (fun i => RiiiiiiiiiiL2.enc (w.bs.2 i)) w.js.1 (fun i => Riiiiiiii.enc (w.js.2 i)) w.cs.1 (fun i => Riiiii.enc (w.cs.2 i)) w.t w.nb w.nj w.gx w.gy w.bs.1 (fun i => RiiiiiiiiiiL2.enc (w.bs.2 i)) w.js.1 (fun i => Riiiiiiii.enc (w.js.2 i)) w.cs.1 (fun i => Riiiii.enc (w.cs.2 i)) m (fun i => RiiiiiiiiiiiiiiL2.enc (os i)) w.t w.nb w.nj w.gx w.gy w.bs.1 (fun i => RiiiiiiiiiiL2.enc (w.bs.2 i)) w.js.1 (fun i => Riiiiiiii.enc (w.js.2 i)) w.cs.1 (fun i => Riiiii.enc (w.cs.2 i)) (m : Int) i
theorem A2_step (K i : Nat) (hi : i < m) (hm : m ≤ 1000) : A2 KF m os w (K + 1) (i : Int) = A2 KF m os w K ((i + 1 : Nat) : Int) := by
  unfold A2
  rw [law10.OrderAlls.l2_eq, lt_nat i m hi, cond_true, ge_nat, cond_true, wrap_nat i (show i < 9223372036854775807 by omega)]
  exact bind_to (rowsD_OO m os) rfl
theorem A2_end (K : Nat) (hm : 64 < m) (hg : Good w) : A2 KF m os w (K + 1) (m : Int) = some true := by
  have hA := All_many (m := m) (os := os) w hm
  unfold A2
  rw [law10.OrderAlls.l2_eq]
  refine cond_f (decide_eq_false (by omega)) ?_
  refine bind_to (allT_dec w m none _ os (fun i => RiiiiiiiiiiiiiiL2_dec (os i))) ?_
  refine bind_to hA ?_
  refine cond_f rfl ?_
  refine bind_to (allT_dec w m none _ os (fun i => RiiiiiiiiiiiiiiL2_dec (os i))) ?_
  refine bind_to (Check_eq hA) ?_
  refine cond_f rfl ?_
  refine bind_to (same_refl hg.seen) ?_
  refine cond_f rfl ?_
  refine cond_t rfl ?_
  exact bind_to (same_refl seen_zero) rfl
theorem A2_run (hm : m ≤ 1000) (hm2 : 64 < m) (hg : Good w) : ∀ (d i K : Nat), i + d = m → d < K → A2 KF m os w K (i : Int) = some true
  | 0, i, K + 1, e, _ => by
    have : i = m := by omega
    subst this
    exact A2_end K hm2 hg
  | d + 1, i, K + 1, e, hK => by
    rw [A2_step K i (by omega) hm]
    exact A2_run hm hm2 hg d (i + 1) K (by omega) (by omega)
noncomputable def A4 (KF : Nat) (m : Nat) (os : Nat → OT) (w : Wd) (v : Int) (K : Nat) (i : Int) : Option Bool := law10.OrderAlls.l4 KF K w.t w.nb w.nj w.gx w.gy w.bs.1 (fun i => RiiiiiiiiiiL2.enc (w.bs.2 i)) w.js.1 (fun i => Riiiiiiii.enc (w.js.2 i)) w.cs.1 (fun i => Riiiii.enc (w.cs.2 i)) w.t w.nb w.nj w.gx w.gy w.bs.1 (fun i => RiiiiiiiiiiL2.enc (w.bs.2 i)) w.js.1 (fun i => Riiiiiiii.enc (w.js.2 i)) w.cs.1 (fun i => Riiiii.enc (w.cs.2 i)) m (fun i => RiiiiiiiiiiiiiiL2.enc (os i)) w.t w.nb w.nj w.gx w.gy w.bs.1 (fun i => RiiiiiiiiiiL2.enc (w.bs.2 i)) w.js.1 (fun i => Riiiiiiii.enc (w.js.2 i)) w.cs.1 (fun i => Riiiii.enc (w.cs.2 i)) v (m : Int) i
theorem A4_step (K i : Nat) (hi : i < m) (hm : m ≤ 1000) {b : Bool} (h : order.Right.f (os i) = some b) : A4 KF m os w 0 (K + 1) (i : Int) = A4 KF m os w (if b then 0 else 2) K ((i + 1 : Nat) : Int) := by
  unfold A4
  rw [law10.OrderAlls.l4_eq, lt_nat i m hi, cond_true, ge_nat, cond_true]
  simp only [Int.toNat_natCast, wrap_nat i (show i < 9223372036854775807 by omega)]
  refine bind_to (rowsD_OO m os) ?_
  refine cond_t rfl ?_
  refine bind_to h ?_
  cases b with
  | true => rfl
  | false => rfl
theorem A4_skip (K i : Nat) (hi : i < m) (hm : m ≤ 1000) : A4 KF m os w 2 (K + 1) (i : Int) = A4 KF m os w 2 K ((i + 1 : Nat) : Int) := by
  unfold A4
  rw [law10.OrderAlls.l4_eq, lt_nat i m hi, cond_true, ge_nat, cond_true]
  simp only [Int.toNat_natCast, wrap_nat i (show i < 9223372036854775807 by omega)]
  refine bind_to (rowsD_OO m os) ?_
  exact cond_f rfl rfl
theorem A4_wrong (K : Nat) (hm : m ≤ 64) (ho : ∀ i, i < m → FineO (os i)) {q : Nat} (hq : q < m) (hb : order.Right.f (os q) = some false) (hg : Good w) : A4 KF m os w 2 (K + 1) (m : Int) = some true := by
  have hA := All_wrong (m := m) (os := os) hm w ho hq hb
  unfold A4
  rw [law10.OrderAlls.l4_eq]
  refine cond_f (decide_eq_false (by omega)) ?_
  refine bind_to (allT_dec w m none _ os (fun i => RiiiiiiiiiiiiiiL2_dec (os i))) ?_
  refine bind_to hA ?_
  refine cond_f rfl ?_
  refine bind_to (allT_dec w m none _ os (fun i => RiiiiiiiiiiiiiiL2_dec (os i))) ?_
  refine bind_to (Check_eq hA) ?_
  refine cond_f rfl ?_
  refine bind_to (same_refl hg.seen) ?_
  refine cond_f rfl ?_
  refine cond_t rfl ?_
  exact bind_to (same_refl seen_zero) rfl
theorem A4_right (hF : 1000000 ≤ KF) (K : Nat) {k : Nat} (hm : m ≤ 64) (hk : k ≤ 100) (ho : ∀ i, i < m → FineO (os i)) (hr : ∀ i, i < m → RightO (os i)) (hb : Bnd k w) : A4 KF m os w 0 (K + 1) (m : Int) = some true := by
  obtain ⟨ws, e, hl, hbm⟩ := leads hb m (by omega) os ho hr
  have hA0 := All_done (m := m) (os := os) hm (ws := ws) (by rw [e]; exact hb.good) (by rw [e, hb.t]; omega) hr hl
  have hA : order.All.f (w.raw, (m, os)) = some ((ws m).tup, 0) := by rw [← e]; exact hA0
  have h3 := A3_run (KF := KF) (w := w) hm hl hbm.good m 0 KF (by omega) (by omega)
  rw [e] at h3
  unfold A4
  rw [law10.OrderAlls.l4_eq]
  refine cond_f (decide_eq_false (by omega)) ?_
  refine bind_to (allT_dec w m none _ os (fun i => RiiiiiiiiiiiiiiL2_dec (os i))) ?_
  refine bind_to hA ?_
  refine cond_f rfl ?_
  refine bind_to (allT_dec w m none _ os (fun i => RiiiiiiiiiiiiiiL2_dec (os i))) ?_
  refine bind_to (Check_eq hA) ?_
  refine cond_f rfl ?_
  refine bind_to (same_refl hb.good.seen) ?_
  refine cond_f rfl ?_
  refine cond_f rfl ?_
  exact h3
theorem A4_run2 (hm : m ≤ 64) (ho : ∀ i, i < m → FineO (os i)) {q : Nat} (hq : q < m) (hb : order.Right.f (os q) = some false) (hg : Good w) : ∀ (d i K : Nat), i + d = m → d < K → A4 KF m os w 2 K (i : Int) = some true
  | 0, i, K + 1, e, _ => by
    have : i = m := by omega
    subst this
    exact A4_wrong K hm ho hq hb hg
  | d + 1, i, K + 1, e, hK => by
    rw [A4_skip K i (by omega) (by omega)]
    exact A4_run2 hm ho hq hb hg d (i + 1) K (by omega) (by omega)
theorem A4_run (hF : 1000000 ≤ KF) {k : Nat} (hm : m ≤ 64) (hk : k ≤ 100) (ho : ∀ i, i < m → FineO (os i)) (hb : Bnd k w) : ∀ (d i K : Nat), i + d = m → d < K → (∀ j, j < i → RightO (os j)) → A4 KF m os w 0 K (i : Int) = some true
  | 0, i, K + 1, e, _, hr => by
    have : i = m := by omega
    subst this
    exact A4_right hF K hm hk ho hr hb
  | d + 1, i, K + 1, e, hK, hr => by
    obtain ⟨b, b1, _⟩ := rightO_all (ho i (by omega))
    rw [A4_step K i (by omega) (by omega) b1]
    cases b with
    | true => exact A4_run hF hm hk ho hb d (i + 1) K (by omega) (by omega) (fun j hj => by
        by_cases hj' : j < i
        · exact hr j hj'
        · have : j = i := by omega
          subst this
          exact b1)
    | false => exact A4_run2 hm ho (show i < m by omega) b1 hb.good d (i + 1) K (by omega) (by omega)
/-- What comes behind the batch. -/
theorem tail_many (hF : 1000000 ≤ KF) (hm : m ≤ 1000) (hm2 : 64 < m) (hg : Good w) : A2 KF m os w KF 0 = some true := A2_run hm hm2 hg m 0 KF (by omega) (by omega)
theorem tail_few (hF : 1000000 ≤ KF) {k : Nat} (hm : m ≤ 64) (hk : k ≤ 100) (ho : ∀ i, i < m → FineO (os i)) (hb : Bnd k w) : A4 KF m os w 0 KF 0 = some true := A4_run hF hm hk ho hb m 0 KF (by omega) (by omega) (fun j hj => by omega)
/-! Pulls -/
theorem pull_fine : FineO pullO := fine_nil i0 i0 i0 i0 i0
noncomputable def A1 (KF : Nat) (l m : Nat) (os : Nat → OT) (w : Wd) (K : Nat) (i : Int) : Option Bool := law10.OrderAlls.l1 KF K w.t w.nb w.nj w.gx w.gy w.bs.1 (fun i => RiiiiiiiiiiL2.enc (w.bs.2 i)) w.js.1 (fun i => Riiiiiiii.enc (w.js.2 i)) w.cs.1 (fun i => Riiiii.enc (w.cs.2 i)) w.t w.nb w.nj w.gx w.gy w.bs.1 (fun i => RiiiiiiiiiiL2.enc (w.bs.2 i)) w.js.1 (fun i => Riiiiiiii.enc (w.js.2 i)) w.cs.1 (fun i => Riiiii.enc (w.cs.2 i)) m (fun i => RiiiiiiiiiiiiiiL2.enc (os i)) (l : Int) i
theorem A1_step {l : Nat} (K i : Nat) (hi : i < l) (hl : l ≤ 1000) (hm : m ≤ 1000) : A1 KF l m os w (K + 1) (i : Int) = A1 KF l (m + 1) (upd1 os m pullO) w K ((i + 1 : Nat) : Int) := by
  unfold A1
  rw [law10.OrderAlls.l1_eq, lt_nat i l hi, cond_true, wrap_nat i (show i < 9223372036854775807 by omega)]
  refine cond_t (by simp; omega) ?_
  refine bind_to (rowsD_DO' (dec_one (T := RiiiiiiiiiiiiiiL2) decPull decZO) 1) ?_
  exact bind_to (rowsD_DO' (dec_app (T := RiiiiiiiiiiiiiiL2) (decO_typed os) decPull m) (m + 1)) rfl
theorem A1_end (hF : 1000000 ≤ KF) {k l : Nat} (K : Nat) (hm : m ≤ 1000) (hk : k ≤ 100) (ho : ∀ i, i < m → FineO (os i)) (hb : Bnd k w) : A1 KF l m os w (K + 1) (l : Int) = some true := by
  unfold A1
  rw [law10.OrderAlls.l1_eq]
  refine cond_f (decide_eq_false (by omega)) ?_
  by_cases h : 64 < m
  · refine cond_t (decide_eq_true (by omega)) ?_
    refine bind_to (Copy_eq hb.good) ?_
    refine bind_to (rowsD_OO m os) ?_
    exact tail_many hF hm h hb.good
  · refine cond_f (decide_eq_false (by omega)) ?_
    refine bind_to (Copy_eq hb.good) ?_
    refine bind_to (rowsD_OO m os) ?_
    exact tail_few hF (by omega) hk ho hb
theorem A1_run (hF : 1000000 ≤ KF) {k l : Nat} (hk : k ≤ 100) (hl : l ≤ 65) (hb : Bnd k w) : ∀ (d i K m : Nat) (os : Nat → OT), i + d = l → d < K → m ≤ 20 + i → (∀ j, j < m → FineO (os j)) → A1 KF l m os w K (i : Int) = some true
  | 0, i, K + 1, m, os, e, _, hm, ho => by
    have : i = l := by omega
    subst this
    exact A1_end hF K (by omega) hk ho hb
  | d + 1, i, K + 1, m, os, e, hK, hm, ho => by
    rw [A1_step K i (by omega) (by omega) (by omega)]
    refine A1_run hF hk hl hb d (i + 1) K (m + 1) _ (by omega) (by omega) (by omega) fun j hj => ?_
    unfold upd1
    split
    · exact pull_fine
    · exact ho j (by omega)
end
/-! The whole -/
section
variable {KF : Nat} {n k : Nat} {ds ms : Nat → DT} {p : Int}
noncomputable def A0 (KF : Nat) (n : Nat) (ds : Nat → DT) (k : Nat) (ms : Nat → DT) (p : Int) (K : Nat) (i : Int) : Option Bool := law10.OrderAlls.l0 KF K n (fun i => RiiiiiiiiiiiiiiiiiiiiiiiiiiiiiL2.enc (ds i)) k (fun i => RiiiiiiiiiiiiiiiiiiiiiiiiiiiiiL2.enc (ms i)) p (k : Int) i
def lenD (d : DT) : Nat := d.2.2.2.2.2.2.2.2.2.2.2.2.2.2.2.2.2.2.2.2.2.2.2.2.2.2.2.2.2.1
theorem A0_long (K i : Nat) (hi : i < k) (h : 12 < lenD (ms i)) : A0 KF n ds k ms p (K + 1) (i : Int) = some true := by
  unfold A0
  rw [law10.OrderAlls.l0_eq, lt_nat i k hi, cond_true, ge_nat, cond_true]
  simp only [Int.toNat_natCast]
  exact cond_t (decide_eq_true (by show ((lenD (ms i) : Nat) : Int) > 12; omega)) rfl
theorem A0_step (K i : Nat) (hi : i < k) (hk : k ≤ 9223372036854775807) (h : ¬ 12 < lenD (ms i)) : A0 KF n ds k ms p (K + 1) (i : Int) = A0 KF n ds k ms p K ((i + 1 : Nat) : Int) := by
  unfold A0
  rw [law10.OrderAlls.l0_eq, lt_nat i k hi, cond_true, ge_nat, cond_true]
  simp only [Int.toNat_natCast, wrap_nat i (show i < 9223372036854775807 by omega)]
  exact cond_f (decide_eq_false (by show ¬ ((lenD (ms i) : Nat) : Int) > 12; omega)) rfl
theorem bit1 (x : Int) : 0 ≤ Go.bits .and .i64 x 1 ∧ Go.bits .and .i64 x 1 ≤ 1 := by
  have := mask (m := 1) (by omega) x
  have e : (((2 ^ 1 - 1 : Nat) : Int)) = 1 := by decide
  have e2 : ((2 ^ 1 : Nat) : Int) = 2 := by decide
  rw [e, e2] at this
  rw [this]
  omega
theorem A0_end (hF : 1000000 ≤ KF) (K : Nat) (hn : ∀ i, i < n → FineD (ds i)) (hkk : k ≤ 9223372036854775807) (hk : ∀ i, i < k → FineD (ms i)) (hl : ∀ i, i < k → lenD (ms i) ≤ 12) : A0 KF n ds k ms p (K + 1) (k : Int) = some true := by
  obtain ⟨w, hw, hM⟩ := Made_eq hn 10 (by omega)
  obtain ⟨s1, s2, _, _, s5, s6, s7, s8, _⟩ := hw
  have hb : Bnd 10 w := ⟨s1, s2, by omega, by omega, by omega, by omega⟩
  obtain ⟨l, os, l1, l2, l3⟩ := Orders_eq (ds := ms) (n := k) (by omega) hk (fun i hi => by
    have := hl i hi
    show lenD (ms i) ≤ 1000
    omega)
  unfold A0
  rw [law10.OrderAlls.l0_eq]
  refine cond_f (decide_eq_false (by omega)) ?_
  refine bind_to hM ?_
  refine bind_to (Copy_eq s1) ?_
  refine bind_to l3 ?_
  by_cases h7 : (Go.bits .and .i64 p 7 == 7) = true
  · refine cond_t h7 ?_
    obtain ⟨b0, b1⟩ := bit1 (Int.fdiv p (2 ^ 3))
    have eq : ∃ q : Nat, q ≤ 65 ∧ IntKind.i64.wrap (64 + Go.bits .and .i64 (Int.fdiv p (2 ^ 3)) 1) = (q : Int) := by
      refine ⟨(64 + Go.bits .and .i64 (Int.fdiv p (2 ^ 3)) 1).toNat, by omega, ?_⟩
      rw [IntKind.wrap_i64]; omega
    obtain ⟨q, q1, q2⟩ := eq
    rw [q2]
    exact A1_run hF (w := w) (k := 10) (by omega) q1 hb q 0 KF l os (by omega) (by omega) (by omega) l2
  · refine cond_f (by simpa using h7) ?_
    refine cond_f (decide_eq_false (by show ¬ ((l : Nat) : Int) > 64; omega)) ?_
    refine bind_to (Copy_eq s1) ?_
    refine bind_to (rowsD_OO l os) ?_
    exact tail_few hF (by omega) (by omega) l2 hb
theorem A0_run (hF : 1000000 ≤ KF) (hn : ∀ i, i < n → FineD (ds i)) (hkk : k ≤ 9223372036854775807) (hk : ∀ i, i < k → FineD (ms i)) : ∀ (d i K : Nat), i + d = k → d < K → (∀ j, j < i → lenD (ms j) ≤ 12) → A0 KF n ds k ms p K (i : Int) = some true
  | 0, i, K + 1, e, _, hl => by
    have : i = k := by omega
    subst this
    exact A0_end hF K hn hkk hk hl
  | d + 1, i, K + 1, e, hK, hl => by
    by_cases h : 12 < lenD (ms i)
    · exact A0_long K i (by omega) h
    · rw [A0_step K i (by omega) hkk h]
      refine A0_run hF hn hkk hk d (i + 1) K (by omega) (by omega) fun j hj => ?_
      by_cases hj' : j < i
      · exact hl j hj'
      · have : j = i := by omega
        subst this
        omega
theorem Alls_eq (hn : ∀ i, i < n → FineD (ds i)) (hkk : k ≤ 9223372036854775807) (hk : ∀ i, i < k → FineD (ms i)) : law10.OrderAlls.f ((n, fun i => RiiiiiiiiiiiiiiiiiiiiiiiiiiiiiL2.enc (ds i)), (k, fun i => RiiiiiiiiiiiiiiiiiiiiiiiiiiiiiL2.enc (ms i)), p) = some true := by
  have e : law10.OrderAlls.f ((n, fun i => RiiiiiiiiiiiiiiiiiiiiiiiiiiiiiL2.enc (ds i)), (k, fun i => RiiiiiiiiiiiiiiiiiiiiiiiiiiiiiL2.enc (ms i)), p) = law10.OrderAlls.g (k + 1000000) ((n, fun i => RiiiiiiiiiiiiiiiiiiiiiiiiiiiiiL2.enc (ds i)), (k, fun i => RiiiiiiiiiiiiiiiiiiiiiiiiiiiiiL2.enc (ms i)), p) := rfl
  rw [e, law10.OrderAlls.eq]
  refine bind_to fit10_true ?_
  refine cond_f rfl ?_
  exact A0_run (KF := k + 1000000) (by omega) hn hkk hk k 0 (k + 1000000) (by omega) (by omega) (fun j hj => by omega)
end
theorem OrderAlls_true (n : Nat) (ds : Nat → DT) (k : Nat) (ms : Nat → DT) (p : Int) (wn : n ≤ maxLen) (w0 : ∀ i, i < n → DeedWf (ds i)) (wk : k ≤ maxLen) (w1 : ∀ i, i < k → DeedWf (ms i)) (w2 : (Lit.int .i64 p).wf = true) :
    law10.OrderAlls.f ((n, fun i => RiiiiiiiiiiiiiiiiiiiiiiiiiiiiiL2.enc (ds i)), (k, fun i => RiiiiiiiiiiiiiiiiiiiiiiiiiiiiiL2.enc (ms i)), p) = some true :=
  Alls_eq (fun i hi => (w0 i hi).fine) (by unfold maxLen at wk; omega) (fun i hi => (w1 i hi).fine)
end Go.Proofs.YtghhecijpghfhaaGreat.Y
