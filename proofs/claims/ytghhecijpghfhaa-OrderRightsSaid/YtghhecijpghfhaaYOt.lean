/- OrderRights: the orders of deeds; the law. -/
import Derived.Test.YtghhecijpghfhaaYOr
namespace Go.Proofs.Ytghhecijpghfhaa.Y
open Go Go.RowKit Go.Proofs.Ytghhecijpghfhaa.E Go.Proofs.Ytghhecijpghfhaa.Ma Go.Proofs.Ytghhecijpghfhaa.Fw
set_option linter.unusedVariables false
set_option linter.unusedSimpArgs false
set_option maxRecDepth 4000

theorem w_i (x : Int) : I64 (IntKind.i64.wrap x) := by rw [IntKind.wrap_i64]; unfold I64; omega
theorem bring_ok {x lo hi : Int} (h : I64 x) (h1 : I64 lo) (h2 : I64 hi) : ∃ y, fix.Bring.f (x, lo, hi) = some y ∧ I64 y := by
  rw [fix.Bring.eq, whole_eq, Option.bind_some]
  have := (wh_s h).i
  refine ⟨_, rfl, ?_⟩
  repeat' split
  all_goals assumption
theorem vbring_ok {x y m : Int} (h : I64 x) (h' : I64 y) (hm : I64 m) : ∃ r : Int × Int, vec.Bring.f ((x, y), m) = some r ∧ I64 r.1 ∧ I64 r.2 := by
  obtain ⟨a, a1, a2⟩ := bring_ok h (w_i (0 - m)) hm
  obtain ⟨b, b1, b2⟩ := bring_ok h' (w_i (0 - m)) hm
  rw [vec.Bring.eq, a1, Option.bind_some, b1, Option.bind_some]
  exact ⟨(a, b), rfl, a2, b2⟩
/-- A body whose numbers may be used. -/
def BodyOk (r : Int × Int × Int × Int × Int × Int × Int × Int × Int × Int × (Nat × (Nat → P2))) : Prop :=
  I64 r.2.1 ∧ I64 r.2.2.1 ∧ I64 r.2.2.2.1 ∧ I64 r.2.2.2.2.1 ∧ I64 r.2.2.2.2.2.2.1 ∧ r.2.2.2.2.2.2.2.2.2.2.1 ≤ 1000 ∧ ∀ i, i < r.2.2.2.2.2.2.2.2.2.2.1 → I2 (r.2.2.2.2.2.2.2.2.2.2.2 i)
theorem i0 : I64 0 := by unfold I64; omega
theorem place_ok {a b c d x y e : Int} (hx : I64 x) (hy : I64 y) : ∃ r, law06.Place.Body.f (a, b, c, d, x, y, e) = some r ∧ BodyOk r := by
  obtain ⟨v, v1, v2, v3⟩ := vbring_ok (m := 4294967296000) hx hy (by unfold I64; omega)
  obtain ⟨s, s1, s2⟩ := Seed_eq a b c d
  rw [law06.Place.Body.eq, v1, Option.bind_some, s1, Option.bind_some]
  simp only [dec_tG, dec_tCons, dec_tOne, dec_tI, dec_tTL, decRows_enc Rii_dec, Option.bind_some]
  refine ⟨_, rfl, v2, v3, i0, i0, i0, ?_, fun i hi => ?_⟩
  · show seedN a b ≤ 1000
    unfold seedN
    repeat' split
    all_goals omega
  · have hi' : i < seedN a b := hi
    show I2 (s i)
    rw [s2 i hi']
    exact (seed_near a b c d i hi').i
/-- An order whose numbers may be used. -/
def OrdOk (r : Int × Int × Int × Int × Int × Int × Int × Int × Int × Int × Int × Int × Int × Int × (Nat × (Nat → P2))) : Prop :=
  I64 r.2.2.2.2.1 ∧ I64 r.2.2.2.2.2.1 ∧ I64 r.2.2.2.2.2.2.1 ∧ I64 r.2.2.2.2.2.2.2.1 ∧ I64 r.2.2.2.2.2.2.2.2.2.1 ∧ r.2.2.2.2.2.2.2.2.2.2.2.2.2.2.1 ≤ 1000 ∧ ∀ i, i < r.2.2.2.2.2.2.2.2.2.2.2.2.2.2.1 → I2 (r.2.2.2.2.2.2.2.2.2.2.2.2.2.2.2 i)
section
variable {d0 d1 d2 d3 d4 d5 d6 d7 d8 d9 d10 d11 d12 d13 d14 d15 d16 d17 d18 d19 d20 d21 d22 d23 d24 d25 d26 d27 d28 : Int} {m : Nat} {q : Nat → P2}

theorem dbody_ok (a5 : I64 d5) (a6 : I64 d6) (a8 : I64 d8) (a9 : I64 d9) (a10 : I64 d10) (a14 : I64 d14) (a15 : I64 d15) (a16 : I64 d16) (a17 : I64 d17) (a20 : I64 d20) (a21 : I64 d21) (a22 : I64 d22) (a23 : I64 d23) (a25 : I64 d25) (hm : m ≤ 1000) (hq : ∀ i, i < m → I2 (q i)) : ∃ r, law09.Deed.Body.f (d0, d1, d2, d3, d4, d5, d6, d7, d8, d9, d10, d11, d12, d13, d14, d15, d16, d17, d18, d19, d20, d21, d22, d23, d24, d25, d26, d27, d28, (m, fun i => Rii.enc (q i))) = some r ∧ BodyOk r := by
  obtain ⟨r, r1, r2⟩ := place_ok (a := d1) (b := d2) (c := d3) (d := d4) (e := d7) a5 a6
  obtain ⟨v, v1, v2, v3⟩ := vbring_ok (m := 85899345920) a8 a9 (by unfold I64; omega)
  obtain ⟨s, s1, s2⟩ := bring_ok (x := d10) (lo := -85899345920) (hi := 85899345920) a10 (by unfold I64; omega) (by unfold I64; omega)
  rw [law09.Deed.Body.eq]
  simp only [r1, v1, s1, Option.bind_some, Bool.cond_eq_ite]
  simp only [dec_tG, dec_tCons, dec_tOne, dec_tI, dec_tTL, decRows_enc Rii_dec, Option.bind_some]
  obtain ⟨b1, b2, b3, b4, b5, b6, b7⟩ := r2
  split
  · exact ⟨_, rfl, a20, a21, a22, a23, a25, hm, hq⟩
  · split
    · exact ⟨_, rfl, b1, b2, b3, b4, b5, b6, b7⟩
    · exact ⟨_, rfl, b1, b2, v2, v3, s2, b6, b7⟩
theorem djoint_ok (a5 : I64 d5) (a6 : I64 d6) (a8 : I64 d8) (a9 : I64 d9) (a10 : I64 d10) (a14 : I64 d14) (a15 : I64 d15) (a16 : I64 d16) (a17 : I64 d17) (a20 : I64 d20) (a21 : I64 d21) (a22 : I64 d22) (a23 : I64 d23) (a25 : I64 d25) (hm : m ≤ 1000) (hq : ∀ i, i < m → I2 (q i)) : ∃ r, law09.Deed.Joint.f (d0, d1, d2, d3, d4, d5, d6, d7, d8, d9, d10, d11, d12, d13, d14, d15, d16, d17, d18, d19, d20, d21, d22, d23, d24, d25, d26, d27, d28, (m, fun i => Rii.enc (q i))) = some r ∧ I64 r.2.2.2.1 ∧ I64 r.2.2.2.2.1 ∧ I64 r.2.2.2.2.2.1 ∧ I64 r.2.2.2.2.2.2.1 := by
  obtain ⟨v, v1, v2, v3⟩ := vbring_ok (m := 17179869184) a14 a15 (by unfold I64; omega)
  obtain ⟨u, u1, u2, u3⟩ := vbring_ok (m := 17179869184) a16 a17 (by unfold I64; omega)
  rw [law09.Deed.Joint.eq, v1, Option.bind_some, u1, Option.bind_some]
  exact ⟨_, rfl, v2, v3, u2, u3⟩
set_option maxHeartbeats 2000000 in
theorem order_ok (a5 : I64 d5) (a6 : I64 d6) (a8 : I64 d8) (a9 : I64 d9) (a10 : I64 d10) (a14 : I64 d14) (a15 : I64 d15) (a16 : I64 d16) (a17 : I64 d17) (a20 : I64 d20) (a21 : I64 d21) (a22 : I64 d22) (a23 : I64 d23) (a25 : I64 d25) (hm : m ≤ 1000) (hq : ∀ i, i < m → I2 (q i)) : ∃ r, law10.Order.f (d0, d1, d2, d3, d4, d5, d6, d7, d8, d9, d10, d11, d12, d13, d14, d15, d16, d17, d18, d19, d20, d21, d22, d23, d24, d25, d26, d27, d28, (m, fun i => Rii.enc (q i))) = some r ∧ OrdOk r := by
  obtain ⟨r, r1, b1, b2, b3, b4, b5, b6, b7⟩ := dbody_ok (d0 := d0) (d1 := d1) (d2 := d2) (d3 := d3) (d4 := d4) (d5 := d5) (d6 := d6) (d7 := d7) (d8 := d8) (d9 := d9) (d10 := d10) (d11 := d11) (d12 := d12) (d13 := d13) (d14 := d14) (d15 := d15) (d16 := d16) (d17 := d17) (d18 := d18) (d19 := d19) (d20 := d20) (d21 := d21) (d22 := d22) (d23 := d23) (d24 := d24) (d25 := d25) (d26 := d26) (d27 := d27) (d28 := d28) a5 a6 a8 a9 a10 a14 a15 a16 a17 a20 a21 a22 a23 a25 hm hq
  obtain ⟨j, j1, j2, j3, j4, j5⟩ := djoint_ok (d0 := d0) (d1 := d1) (d2 := d2) (d3 := d3) (d4 := d4) (d5 := d5) (d6 := d6) (d7 := d7) (d8 := d8) (d9 := d9) (d10 := d10) (d11 := d11) (d12 := d12) (d13 := d13) (d14 := d14) (d15 := d15) (d16 := d16) (d17 := d17) (d18 := d18) (d19 := d19) (d20 := d20) (d21 := d21) (d22 := d22) (d23 := d23) (d24 := d24) (d25 := d25) (d26 := d26) (d27 := d27) (d28 := d28) a5 a6 a8 a9 a10 a14 a15 a16 a17 a20 a21 a22 a23 a25 hm hq
  obtain ⟨v, v1, v2, v3⟩ := vbring_ok (m := 858993459200) a8 a9 (by unfold I64; omega)
  obtain ⟨u, u1, u2, u3⟩ := vbring_ok (m := 214748364800) a8 a9 (by unfold I64; omega)
  obtain ⟨s, s1, s2⟩ := bring_ok (x := d10) (lo := -858993459200) (hi := 858993459200) a10 (by unfold I64; omega) (by unfold I64; omega)
  rw [law10.Order.eq]
  simp only [r1, j1, v1, u1, s1, Option.bind_some, Bool.cond_eq_ite]
  simp only [dec_tG, dec_tCons, dec_tOne, dec_tI, dec_tTL, dec_tTL0, decRows_enc Rii_dec, Option.bind_some]
  have none' : ∀ {k : Nat}, k = 0 → k ≤ 1000 := fun h => by omega
  have nopt : ∀ i, i < 0 → I2 ((fun _ => ((0 : Int), (0 : Int))) i) := fun i h => absurd h (by omega)
  repeat' split
  all_goals refine ⟨_, rfl, ?_⟩
  all_goals first
    | exact ⟨i0, i0, v2, v3, s2, Nat.zero_le _, nopt⟩
    | exact ⟨i0, i0, u2, u3, i0, Nat.zero_le _, nopt⟩
    | exact ⟨j2, j3, j4, j5, i0, Nat.zero_le _, nopt⟩
    | exact ⟨b1, b2, b3, b4, b5, b6, b7⟩
    | exact ⟨i0, i0, i0, i0, i0, Nat.zero_le _, nopt⟩
end
theorem fr1 : order.Right.f (6, 0, 0, 0, 0, 0, 0, (-4294967296), 0, 0, 0, 0, 0, 0, (0, fun _ => [])) = some true := by kernel_rfl
theorem fr2 : order.Right.f (6, 1, 0, 0, 0, 0, 0, 0, 0, 0, 0, 0, 0, 0, (0, fun _ => [])) = some false := by kernel_rfl
theorem fr3 : order.Right.f (0, 0, 0, 0, 0, 0, 0, 0, 0, 0, 0, 0, 0, 0, (0, fun _ => [])) = some false := by kernel_rfl
theorem fit_eq : law10.fit.f () = some true := by
  rw [law10.fit.eq, fr1, fr2, fr3, slices.Clone_lBody_Body.eq, slices.Clone_lJoint_Joint.eq, slices.Clone_lContact_Contact.eq]
  rfl
/-- What the law asks of an order. -/
theorem ord3 {o0 o1 o2 o3 o4 o5 o6 o7 o8 o9 o10 o11 o12 o13 : Int} {n : Nat} {g : Nat → P2} (h1 : I64 o4) (h2 : I64 o5) (h3 : I64 o6) (h4 : I64 o7) (h5 : I64 o9) (hn : n ≤ 1000) (hg : ∀ i, i < n → I2 (g i)) :
    ((order.Right.f (o0, o1, o2, o3, o4, o5, o6, o7, o8, o9, o10, o11, o12, o13, (n, fun i => Rii.enc (g i)))).bind fun a => (law10.right.f (o0, o1, o2, o3, o4, o5, o6, o7, o8, o9, o10, o11, o12, o13, (n, fun i => Rii.enc (g i)))).bind fun b => bif a == b then (order.Same.f ((o0, o1, o2, o3, o4, o5, o6, o7, o8, o9, o10, o11, o12, o13, (n, fun i => Rii.enc (g i))), (o0, o1, o2, o3, o4, o5, o6, o7, o8, o9, o10, o11, o12, o13, (n, fun i => Rii.enc (g i))))).bind fun c => some c else some false) = some true := by
  obtain ⟨v, v1, v2⟩ := rights (kd := o0) (id := o1) (a := o2) (b := o3) (an := o8) (de := o10) (le := o11) (sk := o12) (sr := o13) h1 h2 h3 h4 h5 hn hg
  rw [v1, v2, same_self hn]
  simp

set_option maxHeartbeats 1000000 in
theorem OrderRights_true (p0_0 p0_1 p0_2 p0_3 p0_4 p0_5 p0_6 p0_7 p0_8 p0_9 p0_10 p0_11 p0_12 p0_13 : Int) (n : Nat) (g : Nat → P2) (p1_0 p1_1 p1_2 p1_3 p1_4 p1_5 p1_6 p1_7 p1_8 p1_9 p1_10 p1_11 p1_12 p1_13 p1_14 p1_15 p1_16 p1_17 p1_18 p1_19 p1_20 p1_21 p1_22 p1_23 p1_24 p1_25 p1_26 p1_27 p1_28 : Int) (m : Nat) (q : Nat → P2) (p2 : Int) (w0 : (Lit.int .i64 p0_0).wf = true) (w1 : (Lit.int .i64 p0_1).wf = true) (w2 : (Lit.int .i64 p0_2).wf = true) (w3 : (Lit.int .i64 p0_3).wf = true) (w4 : (Lit.int .i64 p0_4).wf = true) (w5 : (Lit.int .i64 p0_5).wf = true) (w6 : (Lit.int .i64 p0_6).wf = true) (w7 : (Lit.int .i64 p0_7).wf = true) (w8 : (Lit.int .i64 p0_8).wf = true) (w9 : (Lit.int .i64 p0_9).wf = true) (w10 : (Lit.int .i64 p0_10).wf = true) (w11 : (Lit.int .i64 p0_11).wf = true) (w12 : (Lit.int .i64 p0_12).wf = true) (w13 : (Lit.int .i64 p0_13).wf = true) (wn : n ≤ maxLen) (wg : ∀ i, i < n → (Lit.int .i64 (g i).1).wf = true ∧ (Lit.int .i64 (g i).2).wf = true) (u0 : (Lit.int .i64 p1_0).wf = true) (u1 : (Lit.int .i64 p1_1).wf = true) (u2 : (Lit.int .i64 p1_2).wf = true) (u3 : (Lit.int .i64 p1_3).wf = true) (u4 : (Lit.int .i64 p1_4).wf = true) (u5 : (Lit.int .i64 p1_5).wf = true) (u6 : (Lit.int .i64 p1_6).wf = true) (u7 : (Lit.int .i64 p1_7).wf = true) (u8 : (Lit.int .i64 p1_8).wf = true) (u9 : (Lit.int .i64 p1_9).wf = true) (u10 : (Lit.int .i64 p1_10).wf = true) (u11 : (Lit.int .i64 p1_11).wf = true) (u12 : (Lit.int .i64 p1_12).wf = true) (u13 : (Lit.int .i64 p1_13).wf = true) (u14 : (Lit.int .i64 p1_14).wf = true) (u15 : (Lit.int .i64 p1_15).wf = true) (u16 : (Lit.int .i64 p1_16).wf = true) (u17 : (Lit.int .i64 p1_17).wf = true) (u18 : (Lit.int .i64 p1_18).wf = true) (u19 : (Lit.int .i64 p1_19).wf = true) (u20 : (Lit.int .i64 p1_20).wf = true) (u21 : (Lit.int .i64 p1_21).wf = true) (u22 : (Lit.int .i64 p1_22).wf = true) (u23 : (Lit.int .i64 p1_23).wf = true) (u24 : (Lit.int .i64 p1_24).wf = true) (u25 : (Lit.int .i64 p1_25).wf = true) (u26 : (Lit.int .i64 p1_26).wf = true) (u27 : (Lit.int .i64 p1_27).wf = true) (u28 : (Lit.int .i64 p1_28).wf = true) (um : m ≤ maxLen) (uq : ∀ i, i < m → (Lit.int .i64 (q i).1).wf = true ∧ (Lit.int .i64 (q i).2).wf = true) (x2 : (Lit.int .i64 p2).wf = true) : law10.OrderRights.f ((p0_0, p0_1, p0_2, p0_3, p0_4, p0_5, p0_6, p0_7, p0_8, p0_9, p0_10, p0_11, p0_12, p0_13, (n, fun i => Rii.enc (g i))), (p1_0, p1_1, p1_2, p1_3, p1_4, p1_5, p1_6, p1_7, p1_8, p1_9, p1_10, p1_11, p1_12, p1_13, p1_14, p1_15, p1_16, p1_17, p1_18, p1_19, p1_20, p1_21, p1_22, p1_23, p1_24, p1_25, p1_26, p1_27, p1_28, (m, fun i => Rii.enc (q i))), p2) = some true := by
  rw [law10.OrderRights.eq, fit_eq, Option.bind_some]
  simp only [Bool.not_true, cond_false]
  by_cases hn : n ≤ 12
  rotate_left 1
  · rw [decide_eq_true (show ((n : Nat) : Int) > 12 by omega), cond_true]
  rw [decide_eq_false (show ¬ ((n : Nat) : Int) > 12 by omega), cond_false]
  by_cases hm : m ≤ 12
  rotate_left 1
  · rw [decide_eq_true (show ((m : Nat) : Int) > 12 by omega), cond_true]
  rw [decide_eq_false (show ¬ ((m : Nat) : Int) > 12 by omega), cond_false]
  have hq : ∀ i, i < m → I2 (q i) := fun i hi => ⟨wf_i (uq i hi).1, wf_i (uq i hi).2⟩
  have hg : ∀ i, i < n → I2 (g i) := fun i hi => ⟨wf_i (wg i hi).1, wf_i (wg i hi).2⟩
  obtain ⟨r, r1, b1, b2, b3, b4, b5, b6, b7⟩ := order_ok (d0 := p1_0) (d1 := p1_1) (d2 := p1_2) (d3 := p1_3) (d4 := p1_4) (d7 := p1_7) (d11 := p1_11) (d12 := p1_12) (d13 := p1_13) (d18 := p1_18) (d19 := p1_19) (d24 := p1_24) (d26 := p1_26) (d27 := p1_27) (d28 := p1_28) (wf_i u5) (wf_i u6) (wf_i u8) (wf_i u9) (wf_i u10) (wf_i u14) (wf_i u15) (wf_i u16) (wf_i u17) (wf_i u20) (wf_i u21) (wf_i u22) (wf_i u23) (wf_i u25) (show m ≤ 1000 by omega) hq
  rw [r1, Option.bind_some]
  obtain ⟨v, v1, v2⟩ := rights (kd := p0_0) (id := p0_1) (a := p0_2) (b := p0_3) (an := p0_8) (de := p0_10) (le := p0_11) (sk := p0_12) (sr := p0_13) (wf_i w4) (wf_i w5) (wf_i w6) (wf_i w7) (wf_i w9) (show n ≤ 1000 by omega) hg
  rw [v1, v2]
  simp only [Option.bind_some, BEq.rfl, cond_true]
  have fin : ∀ {x0 x1 x2 x3 x8 x10 x11 x12 x13 : Int}, ((order.Right.f (x0, x1, x2, x3, r.2.2.2.2.1, r.2.2.2.2.2.1, r.2.2.2.2.2.2.1, r.2.2.2.2.2.2.2.1, x8, r.2.2.2.2.2.2.2.2.2.1, x10, x11, x12, x13, (r.2.2.2.2.2.2.2.2.2.2.2.2.2.2.1, (fun i => Rii.enc (r.2.2.2.2.2.2.2.2.2.2.2.2.2.2.2 i))))).bind fun a => (law10.right.f (x0, x1, x2, x3, r.2.2.2.2.1, r.2.2.2.2.2.1, r.2.2.2.2.2.2.1, r.2.2.2.2.2.2.2.1, x8, r.2.2.2.2.2.2.2.2.2.1, x10, x11, x12, x13, (r.2.2.2.2.2.2.2.2.2.2.2.2.2.2.1, (fun i => Rii.enc (r.2.2.2.2.2.2.2.2.2.2.2.2.2.2.2 i))))).bind fun b => bif a == b then (order.Same.f ((x0, x1, x2, x3, r.2.2.2.2.1, r.2.2.2.2.2.1, r.2.2.2.2.2.2.1, r.2.2.2.2.2.2.2.1, x8, r.2.2.2.2.2.2.2.2.2.1, x10, x11, x12, x13, (r.2.2.2.2.2.2.2.2.2.2.2.2.2.2.1, (fun i => Rii.enc (r.2.2.2.2.2.2.2.2.2.2.2.2.2.2.2 i)))), (x0, x1, x2, x3, r.2.2.2.2.1, r.2.2.2.2.2.1, r.2.2.2.2.2.2.1, r.2.2.2.2.2.2.2.1, x8, r.2.2.2.2.2.2.2.2.2.1, x10, x11, x12, x13, (r.2.2.2.2.2.2.2.2.2.2.2.2.2.2.1, (fun i => Rii.enc (r.2.2.2.2.2.2.2.2.2.2.2.2.2.2.2 i)))))).bind fun c => some c else some false) = some true := ord3 b1 b2 b3 b4 b5 b6 b7
  simp only [Bool.cond_eq_ite]
  simp only [Bool.cond_eq_ite] at fin
  repeat' split
  all_goals exact fin
end Go.Proofs.Ytghhecijpghfhaa.Y
