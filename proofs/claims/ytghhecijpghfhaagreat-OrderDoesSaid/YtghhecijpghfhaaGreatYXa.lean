/- Orders: what may be, and what they do to a world. -/
import Derived.Test.YtghhecijpghfhaaGreatYXs
import Derived.Test.YtghhecijpghfhaaGreatYXm
namespace Go.Proofs.YtghhecijpghfhaaGreat.Y
open Go Go.RowKit Go.Proofs.YtghhecijpghfhaaGreat.E Go.Proofs.YtghhecijpghfhaaGreat.Ma Go.Proofs.YtghhecijpghfhaaGreat.Fw
set_option linter.unusedVariables false
set_option linter.unusedSimpArgs false
set_option maxRecDepth 10000

abbrev OT := Int × Int × Int × Int × Int × Int × Int × Int × Int × Int × Int × Int × Int × Int × (Nat × (Nat → List AV))
def FineO (o : OT) : Prop := I64 o.2.2.2.2.1 ∧ I64 o.2.2.2.2.2.1 ∧ I64 o.2.2.2.2.2.2.1 ∧ I64 o.2.2.2.2.2.2.2.1 ∧ I64 o.2.2.2.2.2.2.2.2.2.1 ∧ Inner o.2.2.2.2.2.2.2.2.2.2.2.2.2.2 ∧ o.2.2.2.2.2.2.2.2.2.2.2.2.2.2.1 ≤ 1000
def bodyO (o : OT) : BT := (0, o.2.2.2.2.1, o.2.2.2.2.2.1, o.2.2.2.2.2.2.1, o.2.2.2.2.2.2.2.1, o.2.2.2.2.2.2.2.2.1, o.2.2.2.2.2.2.2.2.2.1, o.2.2.2.2.2.2.2.2.2.2.1, o.2.2.2.2.2.2.2.2.2.2.2.2.1, o.2.2.2.2.2.2.2.2.2.2.2.2.2.1, o.2.2.2.2.2.2.2.2.2.2.2.2.2.2)
def jointO (o : OT) : JT := (0, o.2.2.1, o.2.2.2.1, o.2.2.2.2.1, o.2.2.2.2.2.1, o.2.2.2.2.2.2.1, o.2.2.2.2.2.2.2.1, o.2.2.2.2.2.2.2.2.2.2.2.1)
theorem FineO.body {o : OT} (h : FineO o) : FineB (bodyO o) := ⟨h.1, h.2.1, h.2.2.1, h.2.2.2.1, h.2.2.2.2.1, h.2.2.2.2.2.1⟩
theorem FineO.joint {o : OT} (h : FineO o) : FineJ (jointO o) := ⟨h.1, h.2.1, h.2.2.1, h.2.2.2.1⟩
def RightO (o : OT) : Prop := order.Right.f o = some true
section
variable {kd id a b px py vx vy an sp de le sk sr : Int} {n : Nat} {g : Nat → P2}
theorem body_eq : order.body.f (kd, id, a, b, px, py, vx, vy, an, sp, de, le, sk, sr, (n, fun i => Rii.enc (g i))) = some (0, px, py, vx, vy, an, sp, de, sk, sr, (n, g)) := by
  rw [order.body.eq]
  simp only [dec_tG, dec_tCons, dec_tOne, dec_tI, dec_tTL, decRows_enc Rii_dec, Option.bind_some]
theorem joint_eq : order.joint.f (kd, id, a, b, px, py, vx, vy, an, sp, de, le, sk, sr, (n, fun i => Rii.enc (g i))) = some (0, a, b, px, py, vx, vy, le) := by
  rw [order.joint.eq]
theorem used_some : ∃ u, order.used.f (kd, id, a, b, px, py, vx, vy, an, sp, de, le, sk, sr, (n, fun i => Rii.enc (g i))) = some u := by
  rw [order.used.eq]
  simp only [dec_tG, dec_tCons, dec_tOne, dec_tI, dec_tTL, dec_tTL0, decRows_enc Rii_dec, Option.bind_some, Bool.cond_eq_ite]
  repeat' split
  all_goals exact ⟨_, rfl⟩
theorem osame_some (hn : n ≤ 900000) (u0 u1 u2 u3 u4 u5 u6 u7 u8 u9 u10 u11 u12 u13 : Int) (un : Nat) (ug : Nat → P2) : ∃ s, order.Same.f ((kd, id, a, b, px, py, vx, vy, an, sp, de, le, sk, sr, (n, fun i => Rii.enc (g i))), (u0, u1, u2, u3, u4, u5, u6, u7, u8, u9, u10, u11, u12, u13, (un, fun i => Rii.enc (ug i)))) = some s := by
  obtain ⟨s, s1, _⟩ := sshape sk sr n hn g u12 u13 un ug
  rw [order.Same.eq, s1, Option.bind_some]
  cases s
  · exact ⟨_, rfl⟩
  simp only [and_some, cond_true]
  exact ⟨_, rfl⟩
theorem owithin {x y m : Int} (hx : I64 x) (hy : I64 y) : order.within.f ((x, y), m) = some (decide (Ma.abs x ≤ m) && decide (Ma.abs y ≤ m)) := by
  rw [order.within.eq, abs_eq hx, Option.bind_some, abs_eq hy, Option.bind_some, and_some]
/-- Orders that are the same. -/
def SameO (a b : OT) : Prop := a.1 = b.1 ∧ a.2.1 = b.2.1 ∧ a.2.2.1 = b.2.2.1 ∧ a.2.2.2.1 = b.2.2.2.1 ∧ a.2.2.2.2.1 = b.2.2.2.2.1 ∧ a.2.2.2.2.2.1 = b.2.2.2.2.2.1 ∧ a.2.2.2.2.2.2.1 = b.2.2.2.2.2.2.1 ∧ a.2.2.2.2.2.2.2.1 = b.2.2.2.2.2.2.2.1 ∧ a.2.2.2.2.2.2.2.2.1 = b.2.2.2.2.2.2.2.2.1 ∧
  a.2.2.2.2.2.2.2.2.2.1 = b.2.2.2.2.2.2.2.2.2.1 ∧ a.2.2.2.2.2.2.2.2.2.2.1 = b.2.2.2.2.2.2.2.2.2.2.1 ∧ a.2.2.2.2.2.2.2.2.2.2.2.1 = b.2.2.2.2.2.2.2.2.2.2.2.1 ∧ a.2.2.2.2.2.2.2.2.2.2.2.2.1 = b.2.2.2.2.2.2.2.2.2.2.2.2.1 ∧ a.2.2.2.2.2.2.2.2.2.2.2.2.2.1 = b.2.2.2.2.2.2.2.2.2.2.2.2.2.1 ∧
  a.2.2.2.2.2.2.2.2.2.2.2.2.2.2.1 = b.2.2.2.2.2.2.2.2.2.2.2.2.2.2.1 ∧ ∀ i, i < a.2.2.2.2.2.2.2.2.2.2.2.2.2.2.1 → a.2.2.2.2.2.2.2.2.2.2.2.2.2.2.2 i = b.2.2.2.2.2.2.2.2.2.2.2.2.2.2.2 i
theorem sorder {x y : OT} (hx : Inner x.2.2.2.2.2.2.2.2.2.2.2.2.2.2) (hy : Inner y.2.2.2.2.2.2.2.2.2.2.2.2.2.2) (hn : x.2.2.2.2.2.2.2.2.2.2.2.2.2.2.1 ≤ 900000) : Tells (order.Same.f (x, y)) (SameO x y) := by
  obtain ⟨a0, a1, a2, a3, a4, a5, a6, a7, a8, a9, a10, a11, a12, a13, n, G⟩ := x
  obtain ⟨b0, b1, b2, b3, b4, b5, b6, b7, b8, b9, b10, b11, b12, b13, n', G'⟩ := y
  obtain ⟨g, hG, _⟩ := hx
  obtain ⟨g', hG', _⟩ := hy
  dsimp only at hG hG' hn
  subst hG; subst hG'
  rw [order.Same.eq]
  unfold SameO
  refine (sshape a12 a13 n hn g b12 b13 n' g').bindB (fun hs => ?_) (fun h hq => h ⟨hq.2.2.2.2.2.2.2.2.2.2.2.2.1, hq.2.2.2.2.2.2.2.2.2.2.2.2.2.1, hq.2.2.2.2.2.2.2.2.2.2.2.2.2.2.1, fun i hi => Rii_inj (hq.2.2.2.2.2.2.2.2.2.2.2.2.2.2.2 i hi)⟩)
  refine tells_and (P := a0 = b0) (by rw [beq_iff_eq]) (fun h0 => ?_) (fun h hq => h hq.1)
  refine tells_and (P := a1 = b1) (by rw [beq_iff_eq]) (fun h1 => ?_) (fun h hq => h hq.2.1)
  refine tells_and (P := a2 = b2) (by rw [beq_iff_eq]) (fun h2 => ?_) (fun h hq => h hq.2.2.1)
  refine tells_and (P := a3 = b3) (by rw [beq_iff_eq]) (fun h3 => ?_) (fun h hq => h hq.2.2.2.1)
  refine tells_and (P := a4 = b4 ∧ a5 = b5) (by simp) (fun h4 => ?_) (fun h hq => h ⟨hq.2.2.2.2.1, hq.2.2.2.2.2.1⟩)
  refine tells_and (P := a6 = b6 ∧ a7 = b7) (by simp) (fun h5 => ?_) (fun h hq => h ⟨hq.2.2.2.2.2.2.1, hq.2.2.2.2.2.2.2.1⟩)
  refine tells_and (P := a8 = b8) (by rw [beq_iff_eq]) (fun h6 => ?_) (fun h hq => h hq.2.2.2.2.2.2.2.2.1)
  refine tells_and (P := a9 = b9) (by rw [beq_iff_eq]) (fun h7 => ?_) (fun h hq => h hq.2.2.2.2.2.2.2.2.2.1)
  refine tells_and (P := a10 = b10) (by rw [beq_iff_eq]) (fun h8 => ?_) (fun h hq => h hq.2.2.2.2.2.2.2.2.2.2.1)
  exact ⟨_, rfl, by rw [beq_iff_eq]; exact ⟨fun h9 => ⟨h0, h1, h2, h3, h4.1, h4.2, h5.1, h5.2, h6, h7, h8, h9, hs.1, hs.2.1, hs.2.2.1, fun i hi => by show Rii.enc (g i) = Rii.enc (g' i); rw [hs.2.2.2 i hi]⟩, fun hq => hq.2.2.2.2.2.2.2.2.2.2.2.1⟩⟩
end
attribute [local irreducible] order.Same.f world.RightBody.f world.RightJoint.f
theorem rightO_all {o : OT} (h : FineO o) : ∃ v, order.Right.f o = some v ∧ (v = true → (o.1 = 1 → RightB (bodyO o)) ∧ (o.1 = 3 → RightJ (jointO o)) ∧ (o.1 = 6 → world.within.f ((o.2.2.2.2.2.2.1, o.2.2.2.2.2.2.2.1), 17592186044416) = some true)) := by
  have hB := rightB_some h.body
  have hJ := rightJ_some h.joint
  obtain ⟨kd, id, a, b, px, py, vx, vy, an, sp, de, le, sk, sr, n, G⟩ := o
  obtain ⟨h1, h2, h3, h4, h5, ⟨g, hG, hg⟩, hn⟩ := h
  dsimp only at h1 h2 h3 h4 h5 hG hg hn
  subst hG
  obtain ⟨⟨u0, u1, u2, u3, u4, u5, u6, u7, u8, u9, u10, u11, u12, u13, un, ug⟩, hu⟩ := used_some (kd := kd) (id := id) (a := a) (b := b) (px := px) (py := py) (vx := vx) (vy := vy) (an := an) (sp := sp) (de := de) (le := le) (sk := sk) (sr := sr) (n := n) (g := g)
  have hsame := osame_some (kd := kd) (id := id) (a := a) (b := b) (px := px) (py := py) (vx := vx) (vy := vy) (an := an) (sp := sp) (de := de) (le := le) (sk := sk) (sr := sr) (n := n) (g := g) (by omega) u0 u1 u2 u3 u4 u5 u6 u7 u8 u9 u10 u11 u12 u13 un ug
  obtain ⟨s, hs⟩ := hsame
  obtain ⟨vb, hvb⟩ := hB
  obtain ⟨vj, hvj⟩ := hJ
  have hvb' : world.RightBody.f (0, px, py, vx, vy, an, sp, de, sk, sr, (n, fun i => Rii.enc (g i))) = some vb := hvb
  have hvj' : world.RightJoint.f (0, a, b, px, py, vx, vy, le) = some vj := hvj
  rw [order.Right.eq, hu, Option.bind_some, hs, Option.bind_some, body_eq, Option.bind_some, joint_eq, Option.bind_some, owithin h3 h4, owithin h3 h4, Option.bind_some, Option.bind_some, abs_eq h5, Option.bind_some]
  simp only [hvb', hvj', Option.bind_some]
  unfold RightB RightJ
  have hw : ∀ x y m : Int, I64 x → I64 y → world.within.f ((x, y), m) = some (decide (Ma.abs x ≤ m) && decide (Ma.abs y ≤ m)) := fun x y m hx hy => wwithin hx hy
  show ∃ v, _ = some v ∧ (v = true → (kd = 1 → world.RightBody.f (0, px, py, vx, vy, an, sp, de, sk, sr, (n, fun i => Rii.enc (g i))) = some true) ∧ (kd = 3 → world.RightJoint.f (0, a, b, px, py, vx, vy, le) = some true) ∧ (kd = 6 → world.within.f ((vx, vy), 17592186044416) = some true))
  rw [hvb', hvj', hw vx vy _ h3 h4]
  generalize (decide (Ma.abs vx ≤ 17592186044416) && decide (Ma.abs vy ≤ 17592186044416)) = c6
  cases s with
  | false => exact ⟨false, rfl, fun h => by cases h⟩
  | true =>
    rw [Bool.not_true, cond_false]
    by_cases k1 : kd = 1
    · subst k1; exact ⟨vb, rfl, fun h => ⟨fun _ => by rw [h], fun h => by omega, fun h => by omega⟩⟩
    have e1 : (kd == 1) = false := by simpa using k1
    rw [e1, cond_false]
    by_cases k2 : kd = 2
    · subst k2; exact ⟨_, rfl, fun h => ⟨fun h => by omega, fun h => by omega, fun h => by omega⟩⟩
    have e2 : (kd == 2) = false := by simpa using k2
    rw [e2, cond_false]
    by_cases k4 : kd = 4
    · subst k4; exact ⟨_, rfl, fun h => ⟨fun h => by omega, fun h => by omega, fun h => by omega⟩⟩
    have e4 : (kd == 4) = false := by simpa using k4
    rw [e4, cond_false]
    by_cases k3 : kd = 3
    · subst k3; exact ⟨vj, rfl, fun h => ⟨fun h => by omega, fun _ => by rw [h], fun h => by omega⟩⟩
    have e3 : (kd == 3) = false := by simpa using k3
    rw [e3, cond_false]
    by_cases k5 : kd = 5
    · subst k5
      simp only [show ((5 : Int) == 5) = true from rfl, cond_true, Bool.cond_eq_ite]
      repeat' split
      all_goals exact ⟨_, rfl, fun h => ⟨fun h => by omega, fun h => by omega, fun h => by omega⟩⟩
    have e5 : (kd == 5) = false := by simpa using k5
    rw [e5, cond_false]
    by_cases k6 : kd = 6
    · subst k6; exact ⟨c6, rfl, fun h => ⟨fun h => by omega, fun h => by omega, fun _ => by rw [h]⟩⟩
    have e6 : (kd == 6) = false := by simpa using k6
    rw [e6, cond_false]
    exact ⟨false, rfl, fun h => by cases h⟩

/-! ### A push -/
theorem rowsD_B (n : Nat) (g : Nat → BT) : rowsD rtRiiiiiiiiiiL2 n (fun i => RiiiiiiiiiiL2.enc (g i)) = some g := by
  unfold rowsD
  have hd : ∀ x, rtRiiiiiiiiiiL2.dec (RiiiiiiiiiiL2.enc x) = some x := RiiiiiiiiiiL2_dec
  rw [if_pos fun i _ => ⟨g i, hd _⟩]
  refine congrArg some (funext fun i => ?_)
  exact congrArg (fun o => Option.getD o rtRiiiiiiiiiiL2.z) (hd (g i))
theorem rowsD_Bu (n : Nat) (g : Nat → BT) (q : Nat) (v : BT) : rowsD rtRiiiiiiiiiiL2 n (fun i => cloL (if i = q then RiiiiiiiiiiL2.enc v else RiiiiiiiiiiL2.enc (g i))) = some (upd1 g q v) := by
  rw [row_upd_clo RiiiiiiiiiiL2_clo, rowsD_B]
theorem rowsD_B0 (n : Nat) (z : List AV) (g : Nat → BT) : rowsD rtRiiiiiiiiiiL2 n (fun i => cloL (if i < 0 then (fun _ => z) i else (fun i => RiiiiiiiiiiL2.enc (g i)) (i - 0))) = some g := by
  have e : (fun i => cloL (if i < 0 then (fun _ => z) i else (fun i => RiiiiiiiiiiL2.enc (g i)) (i - 0))) = fun i => RiiiiiiiiiiL2.enc (g i) := by
    funext i
    rw [if_neg (by omega)]
    exact RiiiiiiiiiiL2_clo _
  rw [e, rowsD_B]
theorem upd1_upd1 {α : Type} (g : Nat → α) (q : Nat) (v u : α) : upd1 (upd1 g q v) q u = upd1 g q u := by
  funext i
  unfold upd1
  split <;> rfl
theorem bind_same {α β : Type} {x y : Option α} {f g : α → Option β} (h : x = y) (h2 : ∀ a, f a = g a) : x.bind f = y.bind g := by rw [h]; exact congrArg _ (funext h2)
theorem upd1_at {α : Type} (g : Nat → α) (q : Nat) (v : α) : upd1 g q v q = v := by unfold upd1; rw [if_pos rfl]
/-- What a push does to a body: its new velocity, its new spin. -/
noncomputable def pushB (o : OT) (b : BT) : Option (Int × Int × Int) :=
  (mass.Of.f b).bind fun m => (vec.Scale.f ((o.2.2.2.2.2.2.1, o.2.2.2.2.2.2.2.1), m.2.2.1)).bind fun s => (vec.Add.f ((b.2.2.2.1, b.2.2.2.2.1), (s.1, s.2))).bind fun t => (vec.Bring.f ((t.1, t.2), 17592186044416)).bind fun v =>
    (fix.Mul.f (o.2.2.2.2.2.2.2.2.2.1, m.2.2.2)).bind fun u => (fix.Add.f (b.2.2.2.2.2.2.1, u)).bind fun q => (fix.Bring.f (q, (-1099511627776), 1099511627776)).bind fun z => some (v.1, v.2, z)
def pushed (b : BT) (x : Int × Int × Int) : BT := (b.1, b.2.1, b.2.2.1, x.1, x.2.1, b.2.2.2.2.2.1, x.2.2, b.2.2.2.2.2.2.2)
theorem bring_in {x m : Int} (h : I64 x) (h0 : 0 ≤ m) (h1 : m < 4611686018427387904) : ∃ y, fix.Bring.f (x, IntKind.i64.wrap (0 - m), m) = some y ∧ -m ≤ y ∧ y ≤ m := by
  have e : IntKind.i64.wrap (0 - m) = -m := by rw [IntKind.wrap_i64]; omega
  rw [fix.Bring.eq, whole_eq, Option.bind_some, e]
  have hw : wh x = x ∨ wh x = -9223372036854775807 := by unfold wh; split <;> simp
  refine ⟨_, rfl, ?_⟩
  repeat' split
  all_goals omega
theorem abs_in {y m : Int} (h1 : -m ≤ y) (h2 : y ≤ m) (h3 : m < 9223372036854775807) : Ma.abs y ≤ m := by
  unfold Ma.abs Ma.neg Ma.wh
  repeat' split
  all_goals omega
theorem pushB_ok {o : OT} (h : FineO o) {b : BT} (hb : FineB b) (hr : RightB b) (hd : 0 < b.2.2.2.2.2.2.2.1) : ∃ x, pushB o b = some x ∧ FineB (pushed b x) ∧ RightB (pushed b x) := by
  have hfew := rightB_few hb hr
  obtain ⟨id, px, py, vx, vy, an, sp, de, sk, sr, n, G⟩ := b
  obtain ⟨h1, h2, h3, h4, h5, g, hG, hg⟩ := hb
  dsimp only at h1 h2 h3 h4 h5 hG hg hfew hd
  subst hG
  obtain ⟨o1, o2, o3, o4, o5, _⟩ := h
  obtain ⟨⟨m0, m1, m2, m3⟩, hm, hm2, hm3⟩ := mass_ok (id := id) (px := px) (py := py) (vx := vx) (vy := vy) (an := an) (sp := sp) (de := de) (sk := sk) (sr := sr) (n := n) (g := g) ⟨h1, h2, h3, h4, h5, g, rfl, hg⟩ hr hd (by omega) hg
  obtain ⟨s, s1, s2, s3⟩ := scale_ok (m := m2) o3 o4 hm2
  obtain ⟨t, t1, t2, t3⟩ := vadd_ok h3 h4 s2 s3
  obtain ⟨va, a1, a2, a3⟩ := bring_in (m := 17592186044416) t2 (by omega) (by omega)
  obtain ⟨vb, b1, b2, b3⟩ := bring_in (m := 17592186044416) t3 (by omega) (by omega)
  obtain ⟨u, u1, u2⟩ := mul_ok o5 hm3
  obtain ⟨q, q1, q2⟩ := fadd_ok h5 u2
  obtain ⟨z, z1, z2, z3⟩ := bring_in (m := 1099511627776) q2 (by omega) (by omega)
  have z1' : fix.Bring.f (q, (-1099511627776), 1099511627776) = some z := z1
  have hv : vec.Bring.f ((t.1, t.2), 17592186044416) = some (va, vb) := by
    rw [vec.Bring.eq, a1, Option.bind_some, b1, Option.bind_some]
  have f1 : FineB (pushed (id, px, py, vx, vy, an, sp, de, sk, sr, (n, fun i => Rii.enc (g i))) (va, vb, z)) := ⟨h1, h2, by show I64 va; unfold I64; omega, by show I64 vb; unfold I64; omega, by show I64 z; unfold I64; omega, g, rfl, hg⟩
  refine ⟨(va, vb, z), ?_, f1, ?_⟩
  · unfold pushB
    refine bind_to hm ?_
    refine bind_to s1 ?_
    refine bind_to t1 ?_
    refine bind_to hv ?_
    refine bind_to u1 ?_
    refine bind_to q1 ?_
    exact bind_to z1' rfl
  · have hr' : world.RightBody.f (id, px, py, vx, vy, an, sp, de, sk, sr, (n, fun i => Rii.enc (g i))) = some true := hr
    show world.RightBody.f (id, px, py, va, vb, an, z, de, sk, sr, (n, fun i => Rii.enc (g i))) = some true
    rw [world.RightBody.eq, Right_eq sk sr n g hg, Option.bind_some, wwithin h1 h2, Option.bind_some, wwithin h3 h4, Option.bind_some, abs_eq h5, Option.bind_some] at hr'
    rw [world.RightBody.eq, Right_eq sk sr n g hg, Option.bind_some, wwithin h1 h2, Option.bind_some, wwithin (by unfold I64; omega) (by unfold I64; omega), Option.bind_some, abs_eq (by unfold I64; omega), Option.bind_some]
    rw [decide_eq_true (abs_in a2 a3 (by omega)), decide_eq_true (abs_in b2 b3 (by omega)), decide_eq_false (show ¬ Ma.abs z > 1099511627776 by have := abs_in z2 z3 (by omega); omega), decide_eq_true hd]
    rw [decide_eq_true hd] at hr'
    revert hr'
    generalize decide (RightP sk sr n g) = c1
    generalize (decide (Ma.abs px ≤ 4503599627370496) && decide (Ma.abs py ≤ 4503599627370496)) = c2
    generalize (decide (Ma.abs vx ≤ 17592186044416) && decide (Ma.abs vy ≤ 17592186044416)) = c3
    generalize decide (Ma.abs sp > 1099511627776) = c4
    generalize decide (an < 0) = c5
    generalize decide (an ≥ 4294967296) = c6
    generalize decide (de < 0) = c7
    generalize decide (de > 4398046511104) = c8
    cases c1 <;> cases c2 <;> cases c3 <;> cases c4 <;> cases c5 <;> cases c6 <;> cases c7 <;> cases c8 <;> simp
section
variable {w : Wd}
def Wd.setB (w : Wd) (q : Nat) (v : BT) : Wd := { w with bs := (w.bs.1, upd1 w.bs.2 q v) }
theorem push_eq (h : Good w) {o : OT} (ho : FineO o) :
    (∃ p, p < w.bs.1 ∧ (w.bs.2 p).1 = o.2.1 ∧ 0 < (w.bs.2 p).2.2.2.2.2.2.2.1 ∧ order.push.f (w.raw, o) = (pushB o (w.bs.2 p)).bind fun x => some ((), (w.setB p (pushed (w.bs.2 p) x)).tup)) ∨
      ((∀ p, p < w.bs.1 → (w.bs.2 p).1 = o.2.1 → ¬ 0 < (w.bs.2 p).2.2.2.2.2.2.2.1) ∧ order.push.f (w.raw, o) = some ((), w.tup)) := by
  obtain ⟨kd, id, a, b, px, py, vx, vy, an, sp, de, le, sk, sr, n, G⟩ := o
  obtain ⟨h1, h2, h3, h4, h5, ⟨g, hG, hg⟩, hn⟩ := ho
  dsimp only at h1 h2 h3 h4 h5 hG hg hn
  subst hG
  have hb := h.b
  have e1 : world.Body.f ((w.t, w.nb, w.nj, w.gx, w.gy, (w.bs.1, fun i => RiiiiiiiiiiL2.enc (w.bs.2 i)), (w.js.1, fun i => Riiiiiiii.enc (w.js.2 i)), (w.cs.1, fun i => Riiiii.enc (w.cs.2 i))), id) = world.Body.f (w.raw, id) := rfl
  unfold Wd.raw
  rw [order.push.eq, e1]
  have hs := pair_lst.1 h.right.ab
  rcases Body_w w (by omega) h.right.ab id with ⟨p, p1, p2, p3⟩ | ⟨p1, p3⟩
  · rw [p3, Option.bind_some, Bool.not_true, cond_false]
    simp only [in_nat p _ p1, cond_true, Int.toNat_natCast]
    by_cases hd : (w.bs.2 p).2.2.2.2.2.2.2.1 ≤ 0
    · rw [decide_eq_true hd, cond_true]
      refine .inr ⟨fun q q1 q2 => ?_, outD_w (by kernel_rfl) _ _ _ _ _ _ _ _ _ _ _⟩
      have : q = p := by
        rcases Nat.lt_trichotomy q p with hlt | e | hlt
        · have := hs q p hlt p1; omega
        · exact e
        · have := hs p q hlt q1; omega
      subst this
      omega
    · rw [decide_eq_false hd, cond_false]
      refine .inl ⟨p, p1, p2, by omega, ?_⟩
      have hc : decide (w.bs.1 * 104 ≤ 140737488355328) = true := by simp; omega
      rw [hc, cond_true]
      unfold pushB
      simp only [Option.bind_assoc, Option.bind_some]
      refine bind_to (rowsD_B0 _ _ _) ?_
      refine bind_same rfl fun m => ?_
      refine bind_to (rowsD_B _ _) ?_
      refine bind_same rfl fun s => ?_
      refine bind_same rfl fun t => ?_
      refine bind_same rfl fun v => ?_
      refine bind_to (rowsD_Bu _ _ _ _) ?_
      refine bind_same rfl fun u => ?_
      rw [upd1_at]
      refine bind_same rfl fun q => ?_
      refine bind_same rfl fun z => ?_
      refine bind_to (rowsD_Bu _ _ _ _) ?_
      rw [upd1_upd1]
      exact outD_w (by kernel_rfl) _ _ _ _ _ _ _ _ _ _ _
  · rw [p3, Option.bind_some, Bool.not_false, cond_true]
    exact .inr ⟨fun q q1 q2 => absurd q2 (p1 _ (mem_lst.2 ⟨q, q1, rfl⟩)), outD_w (by kernel_rfl) _ _ _ _ _ _ _ _ _ _ _⟩
theorem good_setB (h : Good w) {q : Nat} (hq : q < w.bs.1) {v : BT} (hv : FineB v) (hr : RightB v) (hid : v.1 = (w.bs.2 q).1) : Good (w.setB q v) := by
  have R := h.right
  have old : ∀ i, (upd1 w.bs.2 q v i).1 = (w.bs.2 i).1 := fun i => by
    unfold upd1
    split
    · rename_i e; subst e; exact hid
    · rfl
  have mem : ∀ a, a ∈ lst (w.setB q v).bs → a = v ∨ a ∈ lst w.bs := fun a ha => by
    obtain ⟨i, hi, rfl⟩ := mem_lst.1 ha
    show upd1 w.bs.2 q v i = v ∨ upd1 w.bs.2 q v i ∈ lst w.bs
    unfold upd1
    split
    · exact .inl rfl
    · exact .inr (mem_lst.2 ⟨i, hi, rfl⟩)
  have there : ∀ x, (∃ b ∈ lst w.bs, b.1 = x) → ∃ b ∈ lst (w.setB q v).bs, b.1 = x := fun x ⟨b, hb, e⟩ => by
    obtain ⟨i, hi, rfl⟩ := mem_lst.1 hb
    exact ⟨upd1 w.bs.2 q v i, mem_lst.2 ⟨i, hi, rfl⟩, by rw [old i]; exact e⟩
  refine ⟨⟨h.fine.gx, h.fine.gy, fun a ha => (mem a ha).elim (fun e => e ▸ hv) (h.fine.b a), h.fine.j, h.fine.nc⟩, ?_⟩
  refine ⟨R.t0, R.t1, R.nb1, R.nj1, by show (lst (w.bs.1, upd1 w.bs.2 q v)).length ≤ _; rw [lst_len]; exact h.b, R.lj, R.gr, R.nb0, R.nj0, fun a ha => ?_, R.pj, ?_, R.aj, fun a ha => (mem a ha).elim (fun e => e ▸ hr) (R.rb a), fun j hj => ?_, fun c hc => ?_, R.ac⟩
  · obtain ⟨i, hi, rfl⟩ := mem_lst.1 ha
    show 0 < (upd1 w.bs.2 q v i).1 ∧ (upd1 w.bs.2 q v i).1 < w.nb
    rw [old i]
    exact R.pb _ (mem_lst.2 ⟨i, hi, rfl⟩)
  · refine pair_lst.2 fun a b hab hb => ?_
    show (upd1 w.bs.2 q v a).1 < (upd1 w.bs.2 q v b).1
    rw [old a, old b]
    exact pair_lst.1 R.ab a b hab hb
  · obtain ⟨k1, k2, k3⟩ := R.rj j hj
    exact ⟨k1, there _ k2, there _ k3⟩
  · obtain ⟨k1, k2, k3, k4, k5⟩ := R.rc c hc
    exact ⟨k1, k2, k3, there _ k4, there _ k5⟩
end
end Go.Proofs.YtghhecijpghfhaaGreat.Y
