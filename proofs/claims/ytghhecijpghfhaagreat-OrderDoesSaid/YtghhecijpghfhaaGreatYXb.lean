/- Orders: a batch is done order by order. -/
import Derived.Test.YtghhecijpghfhaaGreatYXa
import Derived.Test.YtghhecijpghfhaaGreatYWk
namespace Go.Proofs.YtghhecijpghfhaaGreat.Y
open Go Go.RowKit Go.Proofs.YtghhecijpghfhaaGreat.E Go.Proofs.YtghhecijpghfhaaGreat.Ma Go.Proofs.YtghhecijpghfhaaGreat.Fw
set_option linter.unusedVariables false
set_option linter.unusedSimpArgs false
set_option maxRecDepth 10000

attribute [local irreducible] order.Right.f world.AddBody.f world.AddJoint.f world.RemoveBody.f world.RemoveJoint.f order.push.f world.Body.f world.Copy.f
/-- What an order changes. -/
structure StepO (w w' : Wd) : Prop where
  t : w'.t = w.t
  b : w'.bs.1 ≤ w.bs.1 + 1
  nb : w'.nb ≤ w.nb + 1
  j : w'.js.1 ≤ w.js.1 + 1
  nj : w'.nj ≤ w.nj + 1
  c : w'.cs.1 ≤ w.cs.1
theorem Step.o {w w' : Wd} (h : Step w w') : StepO w w' := ⟨h.t, h.b, h.nb, h.j, h.nj, h.c⟩
theorem StepO.refl (w : Wd) : StepO w w := ⟨rfl, by omega, by omega, by omega, by omega, by omega⟩
section
variable {w : Wd}
theorem Do1 {o : OT} (ho : FineO o) (h1 : o.1 = 1) {r : Int × Int} {w' : Wd} (e : world.AddBody.f (w.raw, bodyO o) = some (r, w'.tup)) : order.Do.f (w.raw, o) = some ((), w'.tup) := by
  obtain ⟨kd, id, a, b, px, py, vx, vy, an, sp, de, le, sk, sr, n, G⟩ := o
  obtain ⟨_, _, _, _, _, ⟨g, hG, hg⟩, hn⟩ := ho
  dsimp only at hG hg hn h1
  subst hG; subst h1
  unfold Wd.raw
  rw [order.Do.eq]
  refine cond_t rfl ?_
  rw [body_eq, Option.bind_some]
  refine bind_to e ?_
  exact outD_w (by kernel_rfl) _ _ _ _ _ _ _ _ _ _ _
theorem Do2 {o : OT} (ho : FineO o) (h1 : o.1 = 2) {r : Bool} {w' : Wd} (e : world.RemoveBody.f (w.raw, o.2.1) = some (r, w'.tup)) : order.Do.f (w.raw, o) = some ((), w'.tup) := by
  obtain ⟨kd, id, a, b, px, py, vx, vy, an, sp, de, le, sk, sr, n, G⟩ := o
  obtain ⟨_, _, _, _, _, ⟨g, hG, hg⟩, hn⟩ := ho
  dsimp only at hG hg hn h1
  subst hG; subst h1
  unfold Wd.raw
  rw [order.Do.eq]
  refine cond_f rfl (cond_t rfl ?_)
  refine bind_to e ?_
  exact outD_w (by kernel_rfl) _ _ _ _ _ _ _ _ _ _ _
theorem Do3 {o : OT} (ho : FineO o) (h1 : o.1 = 3) {r : Int × Int} {w' : Wd} (e : world.AddJoint.f (w.raw, jointO o) = some (r, w'.tup)) : order.Do.f (w.raw, o) = some ((), w'.tup) := by
  obtain ⟨kd, id, a, b, px, py, vx, vy, an, sp, de, le, sk, sr, n, G⟩ := o
  obtain ⟨_, _, _, _, _, ⟨g, hG, hg⟩, hn⟩ := ho
  dsimp only at hG hg hn h1
  subst hG; subst h1
  unfold Wd.raw
  rw [order.Do.eq]
  refine cond_f rfl (cond_f rfl (cond_t rfl ?_))
  rw [joint_eq, Option.bind_some]
  refine bind_to e ?_
  exact outD_w (by kernel_rfl) _ _ _ _ _ _ _ _ _ _ _
theorem Do4 {o : OT} (ho : FineO o) (h1 : o.1 = 4) {r : Bool} {w' : Wd} (e : world.RemoveJoint.f (w.raw, o.2.1) = some (r, w'.tup)) : order.Do.f (w.raw, o) = some ((), w'.tup) := by
  obtain ⟨kd, id, a, b, px, py, vx, vy, an, sp, de, le, sk, sr, n, G⟩ := o
  obtain ⟨_, _, _, _, _, ⟨g, hG, hg⟩, hn⟩ := ho
  dsimp only at hG hg hn h1
  subst hG; subst h1
  unfold Wd.raw
  rw [order.Do.eq]
  refine cond_f rfl (cond_f rfl (cond_f rfl (cond_t rfl ?_)))
  refine bind_to e ?_
  exact outD_w (by kernel_rfl) _ _ _ _ _ _ _ _ _ _ _
theorem Do5 {o : OT} (ho : FineO o) (h1 : o.1 = 5) {w' : Wd} (e : order.push.f (w.raw, o) = some ((), w'.tup)) : order.Do.f (w.raw, o) = some ((), w'.tup) := by
  obtain ⟨kd, id, a, b, px, py, vx, vy, an, sp, de, le, sk, sr, n, G⟩ := o
  obtain ⟨_, _, _, _, _, ⟨g, hG, hg⟩, hn⟩ := ho
  dsimp only at hG hg hn h1
  subst hG; subst h1
  unfold Wd.raw
  rw [order.Do.eq]
  refine cond_f rfl (cond_f rfl (cond_f rfl (cond_f rfl (cond_t rfl ?_))))
  refine bind_to e ?_
  exact outD_w (by kernel_rfl) _ _ _ _ _ _ _ _ _ _ _
theorem Do6 {o : OT} (ho : FineO o) (h1 : o.1 = 6) : order.Do.f (w.raw, o) = some ((), ({ w with gx := o.2.2.2.2.2.2.1, gy := o.2.2.2.2.2.2.2.1 } : Wd).tup) := by
  obtain ⟨kd, id, a, b, px, py, vx, vy, an, sp, de, le, sk, sr, n, G⟩ := o
  obtain ⟨_, _, _, _, _, ⟨g, hG, hg⟩, hn⟩ := ho
  dsimp only at hG hg hn h1
  subst hG; subst h1
  unfold Wd.raw
  rw [order.Do.eq]
  refine cond_f rfl (cond_f rfl (cond_f rfl (cond_f rfl (cond_f rfl (cond_t rfl ?_)))))
  exact outD_w (by kernel_rfl) _ _ _ _ _ _ _ _ _ _ _
theorem Do0 {o : OT} (ho : FineO o) (h1 : o.1 ≠ 1) (h2 : o.1 ≠ 2) (h3 : o.1 ≠ 3) (h4 : o.1 ≠ 4) (h5 : o.1 ≠ 5) (h6 : o.1 ≠ 6) : order.Do.f (w.raw, o) = some ((), w.tup) := by
  obtain ⟨kd, id, a, b, px, py, vx, vy, an, sp, de, le, sk, sr, n, G⟩ := o
  obtain ⟨_, _, _, _, _, ⟨g, hG, hg⟩, hn⟩ := ho
  dsimp only at hG hg hn h1 h2 h3 h4 h5 h6
  subst hG
  unfold Wd.raw
  rw [order.Do.eq]
  refine cond_f (by simpa using h1) (cond_f (by simpa using h2) (cond_f (by simpa using h3) (cond_f (by simpa using h4) (cond_f (by simpa using h5) (cond_f (by simpa using h6) ?_)))))
  exact outD_w (by kernel_rfl) _ _ _ _ _ _ _ _ _ _ _
theorem good_pull (h : Good w) {x y : Int} (hx : I64 x) (hy : I64 y) (hr : world.within.f ((x, y), 17592186044416) = some true) : Good ({ w with gx := x, gy := y } : Wd) := by
  have R := h.right
  exact ⟨⟨hx, hy, h.fine.b, h.fine.j, h.fine.nc⟩, ⟨R.t0, R.t1, R.nb1, R.nj1, R.lb, R.lj, hr, R.nb0, R.nj0, R.pb, R.pj, R.ab, R.aj, R.rb, R.rj, R.rc, R.ac⟩⟩
theorem push_ok (h : Good w) {o : OT} (ho : FineO o) : ∃ w', order.push.f (w.raw, o) = some ((), w'.tup) ∧ Good w' ∧ StepO w w' := by
  rcases push_eq h ho with ⟨p, p1, p2, p3, p4⟩ | ⟨_, p4⟩
  · have hm := mem_lst.2 ⟨p, p1, rfl⟩
    obtain ⟨x, x1, x2, x3⟩ := pushB_ok ho (h.fine.b _ hm) (h.right.rb _ hm) p3
    rw [x1] at p4
    exact ⟨_, p4, good_setB h p1 x2 x3 rfl, ⟨rfl, Nat.le_succ _, by show w.nb ≤ w.nb + 1; omega, Nat.le_succ _, by show w.nj ≤ w.nj + 1; omega, Nat.le_refl _⟩⟩
  · exact ⟨w, p4, h, .refl w⟩
/-- An order does something to a world that may be, and it may be then. -/
theorem Do_ok (h : Good w) {o : OT} (ho : FineO o) (hr : RightO o) : ∃ w', order.Do.f (w.raw, o) = some ((), w'.tup) ∧ Good w' ∧ StepO w w' := by
  obtain ⟨v, v1, v2⟩ := rightO_all ho
  have hv : v = true := by unfold RightO at hr; rw [v1] at hr; exact Option.some.inj hr
  obtain ⟨r1, r3, r6⟩ := v2 hv
  by_cases k1 : o.1 = 1
  · obtain ⟨r, w', e, g, s⟩ := doAddB h ho.body
    exact ⟨w', Do1 ho k1 e, g, s.o⟩
  by_cases k2 : o.1 = 2
  · obtain ⟨r, w', e, g, s⟩ := doRemB h o.2.1
    exact ⟨w', Do2 ho k2 e, g, s.o⟩
  by_cases k3 : o.1 = 3
  · obtain ⟨r, w', e, g, s⟩ := doAddJ h ho.joint
    exact ⟨w', Do3 ho k3 e, g, s.o⟩
  by_cases k4 : o.1 = 4
  · obtain ⟨r, w', e, g, s⟩ := doRemJ h o.2.1
    exact ⟨w', Do4 ho k4 e, g, s.o⟩
  by_cases k5 : o.1 = 5
  · obtain ⟨w', e, g, s⟩ := push_ok h ho
    exact ⟨w', Do5 ho k5 e, g, s⟩
  by_cases k6 : o.1 = 6
  · exact ⟨_, Do6 ho k6, good_pull h ho.2.2.1 ho.2.2.2.1 (r6 k6), ⟨rfl, Nat.le_succ _, by show w.nb ≤ w.nb + 1; omega, Nat.le_succ _, by show w.nj ≤ w.nj + 1; omega, Nat.le_refl _⟩⟩
  exact ⟨w, Do0 ho k1 k2 k3 k4 k5 k6, h, .refl w⟩
theorem over_eq (h : Good w) {o : OT} (ho : FineO o) : ∃ v, order.over.f (w.raw, o) = some v ∧ (o.1 = 1 → (v = true ↔ 1024 ≤ w.bs.1 ∨ 4611686018427387904 ≤ w.nb)) ∧ (v = true → o.1 = 1 ∨ (1024 ≤ w.js.1 ∨ 4611686018427387904 ≤ w.nj)) := by
  obtain ⟨kd, id, a, b, px, py, vx, vy, an, sp, de, le, sk, sr, n, G⟩ := o
  obtain ⟨_, _, _, _, _, ⟨g, hG, hg⟩, hn⟩ := ho
  dsimp only at hG hg hn
  subst hG
  have hb := h.b
  have e1 : ∀ x, world.Body.f ((w.t, w.nb, w.nj, w.gx, w.gy, (w.bs.1, fun i => RiiiiiiiiiiL2.enc (w.bs.2 i)), (w.js.1, fun i => Riiiiiiii.enc (w.js.2 i)), (w.cs.1, fun i => Riiiii.enc (w.cs.2 i))), x) = world.Body.f (w.raw, x) := fun x => rfl
  show ∃ v, _ = some v ∧ (kd = 1 → _) ∧ (v = true → kd = 1 ∨ _)
  unfold Wd.raw
  rw [order.over.eq, e1, e1]
  by_cases k1 : kd = 1
  · subst k1
    rw [show ((1 : Int) == 1) = true from rfl, cond_true]
    by_cases h1 : ((w.bs.1 : Nat) : Int) ≥ 1024
    · rw [decide_eq_true h1, cond_true]
      exact ⟨true, rfl, fun _ => by simp only [true_iff]; left; omega, fun _ => .inl rfl⟩
    · rw [decide_eq_false h1, cond_false]
      exact ⟨_, rfl, fun _ => by rw [decide_eq_true_eq]; omega, fun _ => .inl rfl⟩
  · have e : (kd == 1) = false := by simpa using k1
    rw [e, cond_false]
    by_cases k3 : kd = 3
    · subst k3
      rw [show ((3 : Int) == 3) = true from rfl, cond_true]
      have bd : ∀ x, ∃ r, world.Body.f (w.raw, x) = some r := fun x => by
        rcases Body_w w (by omega) h.right.ab x with ⟨p, _, _, p3⟩ | ⟨_, p3⟩
        · exact ⟨_, p3⟩
        · exact ⟨_, p3⟩
      obtain ⟨r1, hr1⟩ := bd a
      obtain ⟨r2, hr2⟩ := bd b
      rw [hr1, Option.bind_some, hr2, Option.bind_some]
      cases r1.2 <;> cases r2.2 <;> simp only [cond_true, cond_false]
      · exact ⟨false, rfl, fun h => by omega, fun h => by cases h⟩
      · exact ⟨false, rfl, fun h => by omega, fun h => by cases h⟩
      · exact ⟨false, rfl, fun h => by omega, fun h => by cases h⟩
      · by_cases h1 : ((w.js.1 : Nat) : Int) ≥ 1024
        · rw [decide_eq_true h1, cond_true]
          exact ⟨true, rfl, fun h => by omega, fun _ => .inr (.inl (by omega))⟩
        · rw [decide_eq_false h1, cond_false]
          exact ⟨_, rfl, fun h => by omega, fun h => .inr (.inr (by rw [decide_eq_true_eq] at h; omega))⟩
    · have e3 : (kd == 3) = false := by simpa using k3
      rw [e3, cond_false]
      exact ⟨false, rfl, fun h => absurd h k1, fun h => by cases h⟩
end
attribute [local irreducible] order.over.f order.Do.f

/-! ### A batch -/
def zeroW : Wd := ⟨0, 0, 0, 0, 0, (0, fun _ => zB), (0, fun _ => zJ), (0, fun _ => zC)⟩
theorem tT_w (e : Int) (t nb nj gx gy : Int) (nB : Nat) (gB : Nat → BT) (nJ : Nat) (gJ : Nat → JT) (nC : Nat) (gC : Nat → CT) :
    (tT (tCons (tG WTy) (tOne (tI .i64)))).dec (.tup [.agg [.val (.int .i64 t), .val (.int .i64 nb), .val (.int .i64 nj), .val (.int .i64 gx), .val (.int .i64 gy), .lst 11 nB none (fun i => RiiiiiiiiiiL2.enc (gB i)), .lst 8 nJ none (fun i => Riiiiiiii.enc (gJ i)), .lst 5 nC none (fun i => Riiiii.enc (gC i))], .val (.int .i64 e)]) = some ((t, nb, nj, gx, gy, (nB, gB), (nJ, gJ), (nC, gC)), e) := by
  simp only [dec_tT, dec_tG, dec_tCons, dec_tOne, dec_tI, dec_tTL, decRows_enc RiiiiiiiiiiL2_dec, decRows_enc Riiiiiiii_dec, decRows_enc Riiiii_dec, Option.bind_some]
theorem tT_0 (e : Int) : (tT (tCons (tG WTy) (tOne (tI .i64)))).dec (.tup [.agg [.val (.int .i64 0), .val (.int .i64 0), .val (.int .i64 0), .val (.int .i64 0), .val (.int .i64 0), .val (.slice none 0 0), .val (.slice none 0 0), .val (.slice none 0 0)], .val (.int .i64 e)]) = some (zeroW.tup, e) := by
  simp only [dec_tT, dec_tG, dec_tCons, dec_tOne, dec_tI, dec_tTL0, Option.bind_some]
  rfl
section
variable {m : Nat} {os : Nat → OT}
noncomputable def AF0 (m : Nat) (os : Nat → OT) (K : Nat) (w : Wd) (i : Int) : Option (TWT × Int) := order.All.l0 1000000 K w.t w.nb w.nj w.gx w.gy w.bs.1 (fun i => RiiiiiiiiiiL2.enc (w.bs.2 i)) w.js.1 (fun i => Riiiiiiii.enc (w.js.2 i)) w.cs.1 (fun i => Riiiii.enc (w.cs.2 i)) m (fun i => RiiiiiiiiiiiiiiL2.enc (os i)) (m : Int) i
noncomputable def AF1 (m : Nat) (os : Nat → OT) (K : Nat) (w : Wd) (i : Int) : Option (TWT × Int) := order.All.l1 1000000 K w.t w.nb w.nj w.gx w.gy w.bs.1 (fun i => RiiiiiiiiiiL2.enc (w.bs.2 i)) w.js.1 (fun i => Riiiiiiii.enc (w.js.2 i)) w.cs.1 (fun i => Riiiii.enc (w.cs.2 i)) m (fun i => RiiiiiiiiiiiiiiL2.enc (os i)) (m : Int) i
theorem AF1_of (K : Nat) (w : Wd) (i : Int) : AF1 m os K (ofT w.tup) i = AF1 m os K w i := rfl
theorem AF1_end (K : Nat) (w : Wd) : AF1 m os (K + 1) w (m : Int) = some (w.tup, 0) := by
  unfold AF1
  rw [order.All.l1_eq, nlt_nat m m (by omega), cond_false]
  exact tT_w _ _ _ _ _ _ _ _ _ _ _ _
theorem AF1_over (K : Nat) {w : Wd} (i : Nat) (hi : i < m) (h : order.over.f (w.raw, os i) = some true) : AF1 m os (K + 1) w (i : Int) = some (zeroW.tup, 3) := by
  unfold AF1
  rw [order.All.l1_eq, lt_nat i m hi, cond_true, ge_nat, cond_true]
  simp only [Int.toNat_natCast]
  refine bind_to h ?_
  exact cond_t rfl (tT_0 3)
theorem AF1_step (K : Nat) {w w' : Wd} (i : Nat) (hi : i < m) (hm : m ≤ 1000) (h : order.over.f (w.raw, os i) = some false) (hd : order.Do.f (w.raw, os i) = some ((), w'.tup)) : AF1 m os (K + 1) w (i : Int) = AF1 m os K w' ((i + 1 : Nat) : Int) := by
  unfold AF1
  rw [order.All.l1_eq, lt_nat i m hi, cond_true, ge_nat, cond_true]
  simp only [Int.toNat_natCast, wrap_nat i (show i < 9223372036854775807 by omega)]
  refine bind_to h (cond_f rfl ?_)
  exact bind_to hd rfl
theorem AF0_step (K : Nat) {w : Wd} (i : Nat) (hi : i < m) (hm : m ≤ 1000) (h : order.Right.f (os i) = some true) : AF0 m os (K + 1) w (i : Int) = AF0 m os K w ((i + 1 : Nat) : Int) := by
  unfold AF0
  rw [order.All.l0_eq, lt_nat i m hi, cond_true, ge_nat, cond_true]
  simp only [Int.toNat_natCast, wrap_nat i (show i < 9223372036854775807 by omega)]
  exact bind_to h (cond_f rfl rfl)
theorem AF0_wrong (K : Nat) {w : Wd} (i : Nat) (hi : i < m) (h : order.Right.f (os i) = some false) : AF0 m os (K + 1) w (i : Int) = some (zeroW.tup, 2) := by
  unfold AF0
  rw [order.All.l0_eq, lt_nat i m hi, cond_true, ge_nat, cond_true]
  simp only [Int.toNat_natCast]
  exact bind_to h (cond_t rfl (tT_0 2))
theorem AF0_end (K : Nat) {w : Wd} (h : Good w) (ht : w.t < 4611686018427387904) : AF0 m os (K + 1) w (m : Int) = AF1 m os 1000000 w ((0 : Nat) : Int) := by
  unfold AF0
  rw [order.All.l0_eq, nlt_nat m m (by omega), cond_false, decide_eq_false (by omega), cond_false]
  refine bind_to (Copy_eq h) ?_
  rfl
theorem All_g (w : Wd) (hm : m ≤ 64) : order.All.f (w.raw, (m, os)) = AF0 m os 1000000 w ((0 : Nat) : Int) := by
  have e : order.All.f (w.raw, (m, os)) = order.All.g 1000000 (w.raw, (m, os)) := rfl
  rw [e]
  unfold Wd.raw
  rw [order.All.eq, decide_eq_false (by omega), cond_false]
  rfl
theorem All_many (w : Wd) (hm : 64 < m) : order.All.f (w.raw, (m, os)) = some (zeroW.tup, 3) := by
  have e : order.All.f (w.raw, (m, os)) = order.All.g 1000000 (w.raw, (m, os)) := rfl
  rw [e]
  unfold Wd.raw
  rw [order.All.eq, decide_eq_true (by omega), cond_true]
  exact tT_0 3
attribute [local irreducible] AF0 AF1 order.All.f
theorem AF0_run (hm : m ≤ 64) {w : Wd} (hg : Good w) (ht : w.t < 4611686018427387904) (hr : ∀ i, i < m → order.Right.f (os i) = some true) : ∀ (d i K : Nat), i + d = m → d < K → AF0 m os K w (i : Int) = AF1 m os 1000000 w ((0 : Nat) : Int)
  | 0, i, K + 1, e, _ => by
    have : i = m := by omega
    subst this
    exact AF0_end K hg ht
  | d + 1, i, K + 1, e, hk => by
    rw [AF0_step K i (by omega) (by omega) (hr i (by omega))]
    exact AF0_run hm hg ht hr d (i + 1) K (by omega) (by omega)
/-- All orders may be: then they are done. -/
theorem All_right (hm : m ≤ 64) {w : Wd} (hg : Good w) (ht : w.t < 4611686018427387904) (hr : ∀ i, i < m → order.Right.f (os i) = some true) : order.All.f (w.raw, (m, os)) = AF1 m os 1000000 w ((0 : Nat) : Int) := by
  rw [All_g w hm]
  exact AF0_run hm hg ht hr m 0 1000000 (by omega) (by omega)
theorem AF0_bad (hm : m ≤ 64) {w : Wd} (ho : ∀ i, i < m → FineO (os i)) {q : Nat} (hq : q < m) (hb : order.Right.f (os q) = some false) : ∀ (d i K : Nat), i + d = q → d < K → AF0 m os K w (i : Int) = some (zeroW.tup, 2)
  | 0, i, K + 1, e, _ => by
    have : i = q := by omega
    subst this
    exact AF0_wrong K i hq hb
  | d + 1, i, K + 1, e, hk => by
    obtain ⟨v, v1, _⟩ := rightO_all (ho i (by omega))
    cases v with
    | false => exact AF0_wrong K i (by omega) v1
    | true =>
      rw [AF0_step K i (by omega) (by omega) v1]
      exact AF0_bad hm ho hq hb d (i + 1) K (by omega) (by omega)
/-- One order may not be. -/
theorem All_wrong (hm : m ≤ 64) (w : Wd) (ho : ∀ i, i < m → FineO (os i)) {q : Nat} (hq : q < m) (hb : order.Right.f (os q) = some false) : order.All.f (w.raw, (m, os)) = some (zeroW.tup, 2) := by
  rw [All_g w hm]
  exact AF0_bad hm ho hq hb q 0 1000000 (by omega) (by omega)
/-- The worlds that the orders lead through. -/
structure Leads (m : Nat) (os : Nat → OT) (ws : Nat → Wd) : Prop where
  over : ∀ i, i < m → order.over.f ((ws i).raw, os i) = some false
  done : ∀ i, i < m → order.Do.f ((ws i).raw, os i) = some ((), (ws (i + 1)).tup)
theorem AF1_run (hm : m ≤ 64) {ws : Nat → Wd} (h : Leads m os ws) : ∀ (d i K : Nat), i + d = m → d < K → AF1 m os K (ws i) (i : Int) = some ((ws m).tup, 0)
  | 0, i, K + 1, e, _ => by
    have : i = m := by omega
    subst this
    exact AF1_end K _
  | d + 1, i, K + 1, e, hk => by
    rw [AF1_step K i (by omega) (by omega) (h.over i (by omega)) (h.done i (by omega))]
    exact AF1_run hm h d (i + 1) K (by omega) (by omega)
theorem All_done (hm : m ≤ 64) {ws : Nat → Wd} (hg : Good (ws 0)) (ht : (ws 0).t < 4611686018427387904) (hr : ∀ i, i < m → order.Right.f (os i) = some true) (h : Leads m os ws) : order.All.f ((ws 0).raw, (m, os)) = some ((ws m).tup, 0) := by
  rw [All_right hm hg ht hr]
  exact AF1_run hm h m 0 1000000 (by omega) (by omega)
end
end Go.Proofs.YtghhecijpghfhaaGreat.Y
