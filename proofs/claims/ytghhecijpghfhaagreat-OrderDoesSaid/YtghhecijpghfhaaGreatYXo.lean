/- OrderDoes: an order does what layer 9 does (printed by wip/tools/mkxo.py). -/
import Derived.Test.YtghhecijpghfhaaGreatYXh
import Derived.Test.YtghhecijpghfhaaGreatYWv
namespace Go.Proofs.YtghhecijpghfhaaGreat.Y
open Go Go.RowKit Go.Proofs.YtghhecijpghfhaaGreat.E Go.Proofs.YtghhecijpghfhaaGreat.Ma Go.Proofs.YtghhecijpghfhaaGreat.Fw
set_option linter.unusedVariables false
set_option linter.unusedSimpArgs false
set_option maxRecDepth 10000

/-! ### A copy whose bodies are the caller's own -/
def Wd.ownB (w : Wd) : ((Int × Int × Int × Int × Int) × ((Nat × (Nat → JT)) × (Nat × (Nat → CT)))) × (Nat × (Nat → BT)) := (((w.t, w.nb, w.nj, w.gx, w.gy), (w.js, w.cs)), w.bs)
noncomputable def CO (K : Nat) (w : Wd) (i : Int) : Option (((Int × Int × Int × Int × Int) × ((Nat × (Nat → JT)) × (Nat × (Nat → CT)))) × (Nat × (Nat → BT))) := world.Copy_o.l0 1000000 K w.t w.nb w.nj w.gx w.gy w.js.1 (fun i => Riiiiiiii.enc (w.js.2 i)) w.cs.1 (fun i => Riiiii.enc (w.cs.2 i)) w.bs.1 (fun i => RiiiiiiiiiiL2.enc (w.bs.2 i)) (w.bs.1 : Int) i
theorem CO_step (w : Wd) (K i : Nat) (hi : i < w.bs.1) (hn : w.bs.1 ≤ 900000) (hf : FineB (w.bs.2 i)) (hr : RightB (w.bs.2 i)) : CO (K + 1) w (i : Int) = CO K w ((i + 1 : Nat) : Int) := by
  have hfew := rightB_few hf hr
  obtain ⟨_, _, _, _, _, g, hG, hg⟩ := hf
  have hcp : shape.Copy.f ((w.bs.2 i).2.2.2.2.2.2.2.2.1, (w.bs.2 i).2.2.2.2.2.2.2.2.2.1, ((w.bs.2 i).2.2.2.2.2.2.2.2.2.2.1, (w.bs.2 i).2.2.2.2.2.2.2.2.2.2.2)) = some ((w.bs.2 i).2.2.2.2.2.2.2.2.1, (w.bs.2 i).2.2.2.2.2.2.2.2.2.1, ((w.bs.2 i).2.2.2.2.2.2.2.2.2.2.1, g)) := by
    rw [hG]
    exact copy_eq _ _ _ (by omega) g
  unfold CO
  rw [world.Copy_o.l0_eq, lt_nat i _ hi, cond_true, ge_nat, cond_true]
  simp only [Int.toNat_natCast]
  rw [hcp, Option.bind_some, cond_true, wrap_nat i (by omega)]
  simp only [row_upd_ren RiiiiiiiiiiL2_ren]
  have e : ((w.bs.2 i).1, (w.bs.2 i).2.1, (w.bs.2 i).2.2.1, (w.bs.2 i).2.2.2.1, (w.bs.2 i).2.2.2.2.1, (w.bs.2 i).2.2.2.2.2.1, (w.bs.2 i).2.2.2.2.2.2.1, (w.bs.2 i).2.2.2.2.2.2.2.1, (w.bs.2 i).2.2.2.2.2.2.2.2.1, (w.bs.2 i).2.2.2.2.2.2.2.2.2.1, ((w.bs.2 i).2.2.2.2.2.2.2.2.2.2.1, (fun i => Rii.enc (g i)))) = w.bs.2 i := by
    rw [← hG]
  rw [e, upd1_self]
theorem CO_end (w : Wd) (K : Nat) (hj : w.js.1 ≤ 900000) (hc : w.cs.1 ≤ 900000) : CO (K + 1) w (w.bs.1 : Int) = some w.ownB := by
  have c1 : decide (w.js.1 * 64 ≤ 140737488355328) = true := by simp; omega
  have c2 : decide (w.cs.1 * 40 ≤ 140737488355328) = true := by simp; omega
  have hc : (fun i => cloL (RiiiiiiiiiiL2.enc (w.bs.2 i))) = fun i => RiiiiiiiiiiL2.enc (w.bs.2 i) := funext fun i => RiiiiiiiiiiL2_clo _
  unfold CO
  rw [world.Copy_o.l0_eq, nlt_nat _ _ (by omega), cond_false, slices.Clone_lJoint_Joint.eq, c1, cond_true, Option.bind_some, slices.Clone_lContact_Contact.eq, c2, cond_true, Option.bind_some, hc]
  refine ownp_dec (r := [.lst 8 w.js.1 none (fun i => Riiiiiiii.enc (w.js.2 i)), .lst 5 w.cs.1 none (fun i => Riiiii.enc (w.cs.2 i))]) rfl ?_ ?_ RiiiiiiiiiiL2_dec _ _
  · rfl
  · have h1 : cloL [.lst 8 w.js.1 none (fun i => Riiiiiiii.enc (w.js.2 i)), .lst 5 w.cs.1 none (fun i => Riiiii.enc (w.cs.2 i))] = [.lst 8 w.js.1 none (fun i => Riiiiiiii.enc (w.js.2 i)), .lst 5 w.cs.1 none (fun i => Riiiii.enc (w.cs.2 i))] := rfl
    rw [h1]
    simp only [dec_tCons, dec_tOne, dec_tTL, decRows_enc Riiiiiiii_dec, decRows_enc Riiiii_dec, Option.bind_some]
theorem CO_run {w : Wd} (h : Good w) : ∀ (d i K : Nat), i + d = w.bs.1 → d < K → CO K w (i : Int) = some w.ownB
  | 0, i, K + 1, e, _ => by
    have : i = w.bs.1 := by omega
    subst this
    have hj := h.j
    exact CO_end w K (by omega) h.fine.nc
  | d + 1, i, K + 1, e, hk => by
    have hb := h.b
    have hm : w.bs.2 i ∈ lst w.bs := mem_lst.2 ⟨i, by omega, rfl⟩
    rw [CO_step w K i (by omega) (by omega) (h.fine.b _ hm) (h.right.rb _ hm)]
    exact CO_run h d (i + 1) K (by omega) (by omega)
theorem CopyO_eq {w : Wd} (h : Good w) : world.Copy_o.f w.raw = some w.ownB := by
  have hb := h.b
  have hc : decide (w.bs.1 * 104 ≤ 140737488355328) = true := by simp; omega
  have e : world.Copy_o.f w.raw = world.Copy_o.g 1000000 w.raw := rfl
  rw [e]
  unfold Wd.raw
  rw [world.Copy_o.eq, slices.Clone_lBody_Body.eq, hc, cond_true, Option.bind_some]
  exact CO_run h w.bs.1 0 1000000 (by omega) (by omega)

/-! ### What a deed's order has of its body, of its joint -/
theorem Order_ok2 {d : DT} (h : FineD d) (hf : FewD d) : ∃ (r : OP) (b : PT) (j : JT), law10.Order.f d = some r ∧ FineO (rawO r) ∧ law09.Deed.Body.f d = some b ∧ FineB (rawB b) ∧ law09.Deed.Joint.f d = some j ∧ FineJ j ∧
    ((rawO r).1 = 1 → bodyO (rawO r) = (0, (rawB b).2)) ∧ ((rawO r).1 = 3 → jointO (rawO r) = (0, j.2)) := by
  obtain ⟨r, r1, hok, b6⟩ := dbody_few h hf
  have hokf := hok.fine
  obtain ⟨b1, b2, b3, b4, b5, b7⟩ := hok
  obtain ⟨j, j1, hj⟩ := djoint_ok h
  have hj' := hj
  obtain ⟨j2, j3, j4, j5⟩ := hj'
  refine (fun (H : ∃ q : OP, law10.Order.f d = some q ∧ FineO (rawO q) ∧ ((rawO q).1 = 1 → bodyO (rawO q) = (0, (rawB r).2)) ∧ ((rawO q).1 = 3 → jointO (rawO q) = (0, j.2))) => ?_) ?_
  · obtain ⟨q, q1, q2, q3, q4⟩ := H
    exact ⟨q, r, j, q1, q2, r1, hokf, j1, hj, q3, q4⟩
  obtain ⟨x0, x1, x2, x3, x4, x5, x6, x7, x8, x9, x10, x11, x12, x13, x14, x15, x16, x17, x18, x19, x20, x21, x22, x23, x24, x25, x26, x27, x28, n, G⟩ := d
  obtain ⟨a5, a6, a8, a9, a10, a14, a15, a16, a17, a20, a21, a22, a23, a25, g, hG, hg⟩ := h
  dsimp only at a5 a6 a8 a9 a10 a14 a15 a16 a17 a20 a21 a22 a23 a25 hG hg
  subst hG
  obtain ⟨v, v1, v2, v3⟩ := vbring_ok (m := 858993459200) a8 a9 (by unfold I64; omega)
  obtain ⟨u, u1, u2, u3⟩ := vbring_ok (m := 214748364800) a8 a9 (by unfold I64; omega)
  obtain ⟨s, s1, s2⟩ := bring_ok (x := x10) (lo := -858993459200) (hi := 858993459200) a10 (by unfold I64; omega) (by unfold I64; omega)
  rw [law10.Order.eq]
  simp only [r1, j1, v1, u1, s1, Option.bind_some, Bool.cond_eq_ite]
  simp only [dec_tG, dec_tCons, dec_tOne, dec_tI, dec_tTL, dec_tTL0, decRows_enc Rii_dec, Option.bind_some]
  have nil : Inner ((0, fun i => Rii.enc ((fun _ => ((0 : Int), (0 : Int))) i)) : Nat × (Nat → List AV)) := ⟨fun _ => (0, 0), rfl, fun i hi => absurd hi (by show ¬ i < 0; omega)⟩
  have hin : Inner ((r.2.2.2.2.2.2.2.2.2.2.1, fun i => Rii.enc (r.2.2.2.2.2.2.2.2.2.2.2 i)) : Nat × (Nat → List AV)) := ⟨_, rfl, b7⟩
  repeat' split
  all_goals refine ⟨_, rfl, ?_⟩
  all_goals first
    | exact ⟨⟨i0, i0, v2, v3, s2, nil, Nat.zero_le _⟩, fun e => absurd (show (5 : Int) = 1 from e) (by decide), fun e => absurd (show (5 : Int) = 3 from e) (by decide)⟩
    | exact ⟨⟨i0, i0, u2, u3, i0, nil, Nat.zero_le _⟩, fun e => absurd (show (6 : Int) = 1 from e) (by decide), fun e => absurd (show (6 : Int) = 3 from e) (by decide)⟩
    | exact ⟨⟨j2, j3, j4, j5, i0, nil, Nat.zero_le _⟩, fun e => absurd (show (3 : Int) = 1 from e) (by decide), fun _ => rfl⟩
    | exact ⟨⟨b1, b2, b3, b4, b5, hin, b6⟩, fun _ => rfl, fun e => absurd (show (1 : Int) = 3 from e) (by decide)⟩
    | exact ⟨⟨i0, i0, i0, i0, i0, nil, Nat.zero_le _⟩, fun e => absurd (show (2 : Int) = 1 from e) (by decide), fun e => absurd (show (2 : Int) = 3 from e) (by decide)⟩
    | exact ⟨⟨i0, i0, i0, i0, i0, nil, Nat.zero_le _⟩, fun e => absurd (show (4 : Int) = 1 from e) (by decide), fun e => absurd (show (4 : Int) = 3 from e) (by decide)⟩
theorem addB_id (w : Wd) (b : BT) (x : Int) : world.AddBody.f (w.raw, (x, b.2)) = world.AddBody.f (w.raw, b) := by kernel_rfl
theorem addJ_id (w : Wd) (j : JT) (x : Int) : world.AddJoint.f (w.raw, (x, j.2)) = world.AddJoint.f (w.raw, j) := by kernel_rfl

/-! ### The end -/
attribute [local irreducible] law10.Order.f law09.Deed.Body.f law09.Deed.Joint.f order.Right.f order.Do.f world.Right.f world.Copy_o.f world.Same.f law09.Made.f world.AddBody.f world.AddJoint.f world.RemoveBody.f world.RemoveJoint.f mass.Of.f
section
variable {w x y : Wd}
theorem same_refl (h : Seen w) : world.Same.f (w.raw, w.raw) = some true := (Same_tells h h).t (SameW.refl w)
theorem fin_ok (hg : Good w) (hx : Good x) : ((world.Same.f (x.raw, x.raw)).bind fun a => bif a then (world.Right.f x.raw).bind fun b => bif b then (world.Same.f (w.raw, w.raw)).bind fun c => some c else some false else some false) = some true := by
  refine bind_to (same_refl hx.seen) ?_
  refine cond_t rfl ?_
  refine bind_to ((Right_tells hx.fine).t hx.right) ?_
  refine cond_t rfl ?_
  exact bind_to (same_refl hg.seen) rfl

/-! ### The loop that pushes -/
variable {d0 d1 d2 d3 d4 d5 d6 d7 d8 d9 d10 d11 d12 d13 d14 d15 d16 d17 d18 d19 d20 d21 d22 d23 d24 d25 d26 d27 d28 : Int} {dn : Nat} {dg : Nat → P2} {o0 o1 o2 o3 o4 o5 o6 o7 o8 o9 o10 o11 o12 o13 : Int} {on : Nat} {og : Nat → P2}
noncomputable def DL (d0 d1 d2 d3 d4 d5 d6 d7 d8 d9 d10 d11 d12 d13 d14 d15 d16 d17 d18 d19 d20 d21 d22 d23 d24 d25 d26 d27 d28 : Int) (dn : Nat) (dg : Nat → P2) (o0 o1 o2 o3 o4 o5 o6 o7 o8 o9 o10 o11 o12 o13 : Int) (on : Nat) (og : Nat → P2) (w x y : Wd) (K : Nat) (i : Int) : Option Bool := law10.OrderDoes.l0 1000000 K d0 d1 d2 d3 d4 d5 d6 d7 d8 d9 d10 d11 d12 d13 d14 d15 d16 d17 d18 d19 d20 d21 d22 d23 d24 d25 d26 d27 d28 dn (fun i => Rii.enc (dg i)) w.t w.nb w.nj w.gx w.gy w.bs.1 (fun i => RiiiiiiiiiiL2.enc (w.bs.2 i)) w.js.1 (fun i => Riiiiiiii.enc (w.js.2 i)) w.cs.1 (fun i => Riiiii.enc (w.cs.2 i)) o0 o1 o2 o3 o4 o5 o6 o7 o8 o9 o10 o11 o12 o13 on (fun i => Rii.enc (og i)) w.bs.1 (fun i => RiiiiiiiiiiL2.enc (w.bs.2 i)) y.bs.1 (fun i => RiiiiiiiiiiL2.enc (y.bs.2 i)) w.t w.nb w.nj w.gx w.gy w.js.1 (fun i => Riiiiiiii.enc (w.js.2 i)) w.cs.1 (fun i => Riiiii.enc (w.cs.2 i)) x.t x.nb x.nj x.gx x.gy x.bs.1 (fun i => RiiiiiiiiiiL2.enc (x.bs.2 i)) x.js.1 (fun i => Riiiiiiii.enc (x.js.2 i)) x.cs.1 (fun i => Riiiii.enc (x.cs.2 i)) y.t y.nb y.nj y.gx y.gy y.js.1 (fun i => Riiiiiiii.enc (y.js.2 i)) y.cs.1 (fun i => Riiiii.enc (y.cs.2 i)) (y.bs.1 : Int) i
theorem DL_skip (K i : Nat) (hi : i < y.bs.1) (hn : y.bs.1 ≤ 900000) (h : (y.bs.2 i).1 ≠ o1 ∨ (y.bs.2 i).2.2.2.2.2.2.2.1 = 0) : DL d0 d1 d2 d3 d4 d5 d6 d7 d8 d9 d10 d11 d12 d13 d14 d15 d16 d17 d18 d19 d20 d21 d22 d23 d24 d25 d26 d27 d28 dn dg o0 o1 o2 o3 o4 o5 o6 o7 o8 o9 o10 o11 o12 o13 on og w x y (K + 1) (i : Int) = DL d0 d1 d2 d3 d4 d5 d6 d7 d8 d9 d10 d11 d12 d13 d14 d15 d16 d17 d18 d19 d20 d21 d22 d23 d24 d25 d26 d27 d28 dn dg o0 o1 o2 o3 o4 o5 o6 o7 o8 o9 o10 o11 o12 o13 on og w x y K ((i + 1 : Nat) : Int) := by
  unfold DL
  rw [law10.OrderDoes.l0_eq, lt_nat i _ hi, cond_true, ge_nat, cond_true]
  simp only [Int.toNat_natCast, wrap_nat i (show i < 9223372036854775807 by omega)]
  by_cases h1 : (y.bs.2 i).1 = o1
  · refine cond_f (by rw [h1]; simp) ?_
    refine cond_t (by rcases h with h | h; exact absurd h1 h; rw [h]; rfl) ?_
    rfl
  · exact cond_t (by simpa using h1) rfl
theorem DL_push (K i : Nat) (hi : i < y.bs.1) (hn : y.bs.1 ≤ 900000) (h : (y.bs.2 i).1 = o1) (hd : (y.bs.2 i).2.2.2.2.2.2.2.1 ≠ 0) {z : Int × Int × Int} (hz : pushB (o0, o1, o2, o3, o4, o5, o6, o7, o8, o9, o10, o11, o12, o13, (on, fun i => Rii.enc (og i))) (y.bs.2 i) = some z) : DL d0 d1 d2 d3 d4 d5 d6 d7 d8 d9 d10 d11 d12 d13 d14 d15 d16 d17 d18 d19 d20 d21 d22 d23 d24 d25 d26 d27 d28 dn dg o0 o1 o2 o3 o4 o5 o6 o7 o8 o9 o10 o11 o12 o13 on og w x y (K + 1) (i : Int) = DL d0 d1 d2 d3 d4 d5 d6 d7 d8 d9 d10 d11 d12 d13 d14 d15 d16 d17 d18 d19 d20 d21 d22 d23 d24 d25 d26 d27 d28 dn dg o0 o1 o2 o3 o4 o5 o6 o7 o8 o9 o10 o11 o12 o13 on og w x (y.setB i (pushed (y.bs.2 i) z)) K ((i + 1 : Nat) : Int) := by
  have hc : DL d0 d1 d2 d3 d4 d5 d6 d7 d8 d9 d10 d11 d12 d13 d14 d15 d16 d17 d18 d19 d20 d21 d22 d23 d24 d25 d26 d27 d28 dn dg o0 o1 o2 o3 o4 o5 o6 o7 o8 o9 o10 o11 o12 o13 on og w x y (K + 1) (i : Int) = (pushB (o0, o1, o2, o3, o4, o5, o6, o7, o8, o9, o10, o11, o12, o13, (on, fun i => Rii.enc (og i))) (y.bs.2 i)).bind fun z => DL d0 d1 d2 d3 d4 d5 d6 d7 d8 d9 d10 d11 d12 d13 d14 d15 d16 d17 d18 d19 d20 d21 d22 d23 d24 d25 d26 d27 d28 dn dg o0 o1 o2 o3 o4 o5 o6 o7 o8 o9 o10 o11 o12 o13 on og w x (y.setB i (pushed (y.bs.2 i) z)) K ((i + 1 : Nat) : Int) := by
    unfold DL
    rw [law10.OrderDoes.l0_eq, lt_nat i _ hi, cond_true, ge_nat, cond_true]
    simp only [Int.toNat_natCast, wrap_nat i (show i < 9223372036854775807 by omega)]
    refine cond_f (by rw [h]; simp) ?_
    refine cond_f (by simpa using hd) ?_
    unfold pushB
    simp only [Option.bind_assoc, Option.bind_some]
    refine bind_same rfl fun m => ?_
    refine bind_to (rowsD_B _ _) ?_
    refine bind_to (rowsD_B _ _) ?_
    refine bind_same rfl fun s => ?_
    refine bind_same rfl fun t => ?_
    refine bind_same rfl fun v => ?_
    refine bind_to (rowsD_B _ _) ?_
    refine bind_to (rowsD_Bu _ _ _ _) ?_
    refine bind_same rfl fun u => ?_
    rw [upd1_at]
    refine bind_same rfl fun q => ?_
    refine bind_same rfl fun z => ?_
    refine bind_to (rowsD_B _ _) ?_
    refine bind_to (rowsD_Bu _ _ _ _) ?_
    rw [upd1_upd1]
    rfl
  rw [hc, hz]; rfl
theorem DL_skips (hn : y.bs.1 ≤ 900000) {m : Nat} (hm : m ≤ y.bs.1) : ∀ (d i K : Nat), i + d = m → (∀ j, i ≤ j → j < m → (y.bs.2 j).1 ≠ o1 ∨ (y.bs.2 j).2.2.2.2.2.2.2.1 = 0) → DL d0 d1 d2 d3 d4 d5 d6 d7 d8 d9 d10 d11 d12 d13 d14 d15 d16 d17 d18 d19 d20 d21 d22 d23 d24 d25 d26 d27 d28 dn dg o0 o1 o2 o3 o4 o5 o6 o7 o8 o9 o10 o11 o12 o13 on og w x y (K + d) (i : Int) = DL d0 d1 d2 d3 d4 d5 d6 d7 d8 d9 d10 d11 d12 d13 d14 d15 d16 d17 d18 d19 d20 d21 d22 d23 d24 d25 d26 d27 d28 dn dg o0 o1 o2 o3 o4 o5 o6 o7 o8 o9 o10 o11 o12 o13 on og w x y K (m : Int)
  | 0, i, K, e, _ => by
    have : i = m := by omega
    subst this
    rfl
  | d + 1, i, K, e, h => by
    rw [show K + (d + 1) = (K + d) + 1 by omega, DL_skip (K + d) i (by omega) hn (h i (by omega) (by omega))]
    exact DL_skips hn hm d (i + 1) K (by omega) fun j h1 h2 => h j (by omega) h2
theorem DL_end (K : Nat) (hg : Good w) (hx : Good x) : DL d0 d1 d2 d3 d4 d5 d6 d7 d8 d9 d10 d11 d12 d13 d14 d15 d16 d17 d18 d19 d20 d21 d22 d23 d24 d25 d26 d27 d28 dn dg o0 o1 o2 o3 o4 o5 o6 o7 o8 o9 o10 o11 o12 o13 on og w x x (K + 1) (x.bs.1 : Int) = some true := by
  unfold DL
  rw [law10.OrderDoes.l0_eq]
  refine cond_f (decide_eq_false (by omega)) ?_
  exact fin_ok hg hx
theorem dens {b : BT} (hf : FineB b) (hr : RightB b) : 0 ≤ b.2.2.2.2.2.2.2.1 := by
  obtain ⟨id, px, py, vx, vy, an, sp, de, sk, sr, n, G⟩ := b
  have hf' := hf
  obtain ⟨h1, h2, h3, h4, h5, g, hG, hg⟩ := hf'
  dsimp only at h1 h2 h3 h4 h5 hG hg
  subst hG
  have hr' : world.RightBody.f (id, px, py, vx, vy, an, sp, de, sk, sr, (n, fun i => Rii.enc (g i))) = some true := hr
  rw [world.RightBody.eq, Right_eq sk sr n g hg, Option.bind_some, wwithin h1 h2, Option.bind_some, wwithin h3 h4, Option.bind_some, abs_eq h5, Option.bind_some] at hr'
  by_cases h : de < 0
  · exfalso
    rw [decide_eq_true h] at hr'
    revert hr'
    generalize decide (RightP sk sr n g) = c1
    generalize (decide (Ma.abs px ≤ 4503599627370496) && decide (Ma.abs py ≤ 4503599627370496)) = c2
    generalize (decide (Ma.abs vx ≤ 17592186044416) && decide (Ma.abs vy ≤ 17592186044416)) = c3
    generalize decide (Ma.abs sp > 1099511627776) = c4
    generalize decide (an < 0) = c5
    generalize decide (an ≥ 4294967296) = c6
    generalize decide (de > 0) = c7
    generalize decide (de > 4398046511104) = c8
    generalize decide (0 < de) = c9
    cases c1 <;> cases c2 <;> cases c3 <;> cases c4 <;> cases c5 <;> cases c6 <;> cases c7 <;> cases c8 <;> cases c9 <;> simp
  · show 0 ≤ de
    omega
theorem push_loop (hg : Good w) (hy : Good w) (ho : FineO (o0, o1, o2, o3, o4, o5, o6, o7, o8, o9, o10, o11, o12, o13, (on, fun i => Rii.enc (og i)))) : ∃ w', order.push.f (w.raw, (o0, o1, o2, o3, o4, o5, o6, o7, o8, o9, o10, o11, o12, o13, (on, fun i => Rii.enc (og i)))) = some ((), w'.tup) ∧ Good w' ∧ DL d0 d1 d2 d3 d4 d5 d6 d7 d8 d9 d10 d11 d12 d13 d14 d15 d16 d17 d18 d19 d20 d21 d22 d23 d24 d25 d26 d27 d28 dn dg o0 o1 o2 o3 o4 o5 o6 o7 o8 o9 o10 o11 o12 o13 on og w w' w 1000000 0 = some true := by
  have hb := hg.b
  have hs := pair_lst.1 hg.right.ab
  rcases push_eq hg ho with ⟨p, p1, p2, p3, p4⟩ | ⟨p1, p4⟩
  · have hm := mem_lst.2 ⟨p, p1, rfl⟩
    obtain ⟨z, z1, z2, z3⟩ := pushB_ok ho (hg.fine.b _ hm) (hg.right.rb _ hm) p3
    have hG := good_setB hg p1 z2 z3 rfl
    rw [z1, Option.bind_some] at p4
    refine ⟨_, p4, hG, ?_⟩
    have p2' : (w.bs.2 p).1 = o1 := p2
    have n1 : ∀ j, 0 ≤ j → j < p → (w.bs.2 j).1 ≠ o1 ∨ (w.bs.2 j).2.2.2.2.2.2.2.1 = 0 := fun j _ h2 => .inl (by have := hs j p h2 p1; omega)
    have n2 : ∀ j, p + 1 ≤ j → j < w.bs.1 → ((w.setB p (pushed (w.bs.2 p) z)).bs.2 j).1 ≠ o1 ∨ ((w.setB p (pushed (w.bs.2 p) z)).bs.2 j).2.2.2.2.2.2.2.1 = 0 := fun j h1 h2 => .inl (by
      show (upd1 w.bs.2 p (pushed (w.bs.2 p) z) j).1 ≠ o1
      unfold upd1
      rw [if_neg (by omega)]
      have := hs p j (by omega) h2
      omega)
    have s1 := DL_skips (w := w) (x := w.setB p (pushed (w.bs.2 p) z)) (y := w) (dn := dn) (dg := dg) (on := on) (og := og) (d0 := d0) (d1 := d1) (d2 := d2) (d3 := d3) (d4 := d4) (d5 := d5) (d6 := d6) (d7 := d7) (d8 := d8) (d9 := d9) (d10 := d10) (d11 := d11) (d12 := d12) (d13 := d13) (d14 := d14) (d15 := d15) (d16 := d16) (d17 := d17) (d18 := d18) (d19 := d19) (d20 := d20) (d21 := d21) (d22 := d22) (d23 := d23) (d24 := d24) (d25 := d25) (d26 := d26) (d27 := d27) (d28 := d28) (o0 := o0) (o1 := o1) (o2 := o2) (o3 := o3) (o4 := o4) (o5 := o5) (o6 := o6) (o7 := o7) (o8 := o8) (o9 := o9) (o10 := o10) (o11 := o11) (o12 := o12) (o13 := o13) (by omega) (m := p) (by omega) p 0 (1000000 - p) (by omega) n1
    rw [show 1000000 - p + p = (1000000 : Nat) by omega] at s1
    refine Eq.trans s1 ?_
    rw [show 1000000 - p = (1000000 - w.bs.1 + (w.bs.1 - (p + 1))) + 1 by omega, DL_push _ p p1 (by omega) p2' (by omega) z1]
    have s2 := DL_skips (w := w) (x := w.setB p (pushed (w.bs.2 p) z)) (y := w.setB p (pushed (w.bs.2 p) z)) (dn := dn) (dg := dg) (on := on) (og := og) (d0 := d0) (d1 := d1) (d2 := d2) (d3 := d3) (d4 := d4) (d5 := d5) (d6 := d6) (d7 := d7) (d8 := d8) (d9 := d9) (d10 := d10) (d11 := d11) (d12 := d12) (d13 := d13) (d14 := d14) (d15 := d15) (d16 := d16) (d17 := d17) (d18 := d18) (d19 := d19) (d20 := d20) (d21 := d21) (d22 := d22) (d23 := d23) (d24 := d24) (d25 := d25) (d26 := d26) (d27 := d27) (d28 := d28) (o0 := o0) (o1 := o1) (o2 := o2) (o3 := o3) (o4 := o4) (o5 := o5) (o6 := o6) (o7 := o7) (o8 := o8) (o9 := o9) (o10 := o10) (o11 := o11) (o12 := o12) (o13 := o13) (by show w.bs.1 ≤ _; omega) (m := w.bs.1) (Nat.le_refl _) (w.bs.1 - (p + 1)) (p + 1) (1000000 - w.bs.1) (by omega) n2
    refine Eq.trans s2 ?_
    rw [show 1000000 - w.bs.1 = (999999 - w.bs.1) + 1 by omega]
    exact DL_end _ hg hG
  · refine ⟨w, p4, hg, ?_⟩
    have n1 : ∀ j, 0 ≤ j → j < w.bs.1 → (w.bs.2 j).1 ≠ o1 ∨ (w.bs.2 j).2.2.2.2.2.2.2.1 = 0 := fun j _ h2 => by
      by_cases e : (w.bs.2 j).1 = o1
      · have hm := mem_lst.2 ⟨j, h2, rfl⟩
        have h3 := dens (hg.fine.b _ hm) (hg.right.rb _ hm)
        have h4 := p1 j h2 e
        exact .inr (by omega)
      · exact .inl e
    have s1 := DL_skips (w := w) (x := w) (y := w) (dn := dn) (dg := dg) (on := on) (og := og) (d0 := d0) (d1 := d1) (d2 := d2) (d3 := d3) (d4 := d4) (d5 := d5) (d6 := d6) (d7 := d7) (d8 := d8) (d9 := d9) (d10 := d10) (d11 := d11) (d12 := d12) (d13 := d13) (d14 := d14) (d15 := d15) (d16 := d16) (d17 := d17) (d18 := d18) (d19 := d19) (d20 := d20) (d21 := d21) (d22 := d22) (d23 := d23) (d24 := d24) (d25 := d25) (d26 := d26) (d27 := d27) (d28 := d28) (o0 := o0) (o1 := o1) (o2 := o2) (o3 := o3) (o4 := o4) (o5 := o5) (o6 := o6) (o7 := o7) (o8 := o8) (o9 := o9) (o10 := o10) (o11 := o11) (o12 := o12) (o13 := o13) (by omega) (m := w.bs.1) (Nat.le_refl _) w.bs.1 0 (1000000 - w.bs.1) (by omega) n1
    rw [show 1000000 - w.bs.1 + w.bs.1 = (1000000 : Nat) by omega] at s1
    refine Eq.trans s1 ?_
    rw [show 1000000 - w.bs.1 = (999999 - w.bs.1) + 1 by omega]
    exact DL_end _ hg hg
end

/-! ### The whole -/
theorem Does_eq {n : Nat} {ds : Nat → DT} (hds : ∀ i, i < n → FineD (ds i)) (d0 d1 d2 d3 d4 d5 d6 d7 d8 d9 d10 d11 d12 d13 d14 d15 d16 d17 d18 d19 d20 d21 d22 d23 d24 d25 d26 d27 d28 : Int) (dn : Nat) (dg : Nat → P2) (hd : FineD (d0, d1, d2, d3, d4, d5, d6, d7, d8, d9, d10, d11, d12, d13, d14, d15, d16, d17, d18, d19, d20, d21, d22, d23, d24, d25, d26, d27, d28, (dn, fun i => Rii.enc (dg i)))) : law10.OrderDoes.f ((n, fun i => RiiiiiiiiiiiiiiiiiiiiiiiiiiiiiL2.enc (ds i)), (d0, d1, d2, d3, d4, d5, d6, d7, d8, d9, d10, d11, d12, d13, d14, d15, d16, d17, d18, d19, d20, d21, d22, d23, d24, d25, d26, d27, d28, (dn, fun i => Rii.enc (dg i)))) = some true := by
  have e : law10.OrderDoes.f ((n, fun i => RiiiiiiiiiiiiiiiiiiiiiiiiiiiiiL2.enc (ds i)), (d0, d1, d2, d3, d4, d5, d6, d7, d8, d9, d10, d11, d12, d13, d14, d15, d16, d17, d18, d19, d20, d21, d22, d23, d24, d25, d26, d27, d28, (dn, fun i => Rii.enc (dg i)))) = law10.OrderDoes.g 1000000 ((n, fun i => RiiiiiiiiiiiiiiiiiiiiiiiiiiiiiL2.enc (ds i)), (d0, d1, d2, d3, d4, d5, d6, d7, d8, d9, d10, d11, d12, d13, d14, d15, d16, d17, d18, d19, d20, d21, d22, d23, d24, d25, d26, d27, d28, (dn, fun i => Rii.enc (dg i)))) := rfl
  rw [e, law10.OrderDoes.eq]
  refine bind_to fit10_true ?_
  refine cond_f rfl ?_
  by_cases h12 : ((dn : Nat) : Int) > 12
  · exact cond_t (decide_eq_true h12) rfl
  refine cond_f (decide_eq_false h12) ?_
  obtain ⟨w, hw, hM⟩ := Made_eq hds 12 (by omega)
  obtain ⟨g1, _, _, _, _, _, _, _, _⟩ := hw
  refine bind_to hM ?_
  obtain ⟨r, b, j, r1, ho, b1, hb, j1, hj, q1, q3⟩ := Order_ok2 hd (by show dn ≤ 1000; omega)
  refine bind_to r1 ?_
  obtain ⟨v, v1, v2⟩ := rightO_all ho
  refine bind_to v1 ?_
  cases v with
  | false => exact cond_t rfl rfl
  | true =>
  refine cond_f rfl ?_
  refine bind_to (CopyO_eq g1) ?_
  refine bind_to (CopyO_eq g1) ?_
  refine bind_to (CopyO_eq g1) ?_
  refine bind_to (rowsD_B _ _) ?_
  refine bind_to (rowsD_B _ _) ?_
  refine bind_to (rowsD_B _ _) ?_
  by_cases k1 : r.1 = 1
  · obtain ⟨q, w', e1, hg', _⟩ := doAddB g1 ho.body
    have e2 : world.AddBody.f (w.raw, rawB b) = some (q, w'.tup) := by
      rw [q1 k1, addB_id] at e1; exact e1
    refine bind_to (Do1 ho k1 e1) ?_
    refine cond_t (beq_iff_eq.2 k1) ?_
    refine bind_to b1 ?_
    refine bind_to e2 ?_
    exact fin_ok g1 hg'
  by_cases k3 : r.1 = 3
  · obtain ⟨q, w', e1, hg', _⟩ := doAddJ g1 ho.joint
    have e2 : world.AddJoint.f (w.raw, j) = some (q, w'.tup) := by
      rw [q3 k3, addJ_id] at e1; exact e1
    refine bind_to (Do3 ho k3 e1) ?_
    refine cond_f (beq_eq_false_iff_ne.2 k1) ?_
    refine cond_t (beq_iff_eq.2 k3) ?_
    refine bind_to j1 ?_
    refine bind_to e2 ?_
    exact fin_ok g1 hg'
  by_cases k2 : r.1 = 2
  · obtain ⟨q, w', e1, hg', _⟩ := doRemB g1 r.2.1
    refine bind_to (Do2 ho k2 e1) ?_
    refine cond_f (beq_eq_false_iff_ne.2 k1) ?_
    refine cond_f (beq_eq_false_iff_ne.2 k3) ?_
    refine cond_t (beq_iff_eq.2 k2) ?_
    refine bind_to e1 ?_
    exact fin_ok g1 hg'
  by_cases k4 : r.1 = 4
  · obtain ⟨q, w', e1, hg', _⟩ := doRemJ g1 r.2.1
    refine bind_to (Do4 ho k4 e1) ?_
    refine cond_f (beq_eq_false_iff_ne.2 k1) ?_
    refine cond_f (beq_eq_false_iff_ne.2 k3) ?_
    refine cond_f (beq_eq_false_iff_ne.2 k2) ?_
    refine cond_t (beq_iff_eq.2 k4) ?_
    refine bind_to e1 ?_
    exact fin_ok g1 hg'
  by_cases k6 : r.1 = 6
  · have hg' := good_pull g1 ho.2.2.1 ho.2.2.2.1 ((v2 rfl).2.2 k6)
    refine bind_to (Do6 ho k6) ?_
    refine cond_f (beq_eq_false_iff_ne.2 k1) ?_
    refine cond_f (beq_eq_false_iff_ne.2 k3) ?_
    refine cond_f (beq_eq_false_iff_ne.2 k2) ?_
    refine cond_f (beq_eq_false_iff_ne.2 k4) ?_
    refine cond_t (beq_iff_eq.2 k6) ?_
    refine bind_to (rowsD_B _ _) ?_
    refine bind_to (rowsD_B _ _) ?_
    exact fin_ok g1 hg'
  by_cases k5 : r.1 = 5
  · obtain ⟨w', e1, hg', hL⟩ := push_loop (w := w) g1 g1 (d0 := d0) (d1 := d1) (d2 := d2) (d3 := d3) (d4 := d4) (d5 := d5) (d6 := d6) (d7 := d7) (d8 := d8) (d9 := d9) (d10 := d10) (d11 := d11) (d12 := d12) (d13 := d13) (d14 := d14) (d15 := d15) (d16 := d16) (d17 := d17) (d18 := d18) (d19 := d19) (d20 := d20) (d21 := d21) (d22 := d22) (d23 := d23) (d24 := d24) (d25 := d25) (d26 := d26) (d27 := d27) (d28 := d28) (dn := dn) (dg := dg) (o0 := r.1) (o1 := r.2.1) (o2 := r.2.2.1) (o3 := r.2.2.2.1) (o4 := r.2.2.2.2.1) (o5 := r.2.2.2.2.2.1) (o6 := r.2.2.2.2.2.2.1) (o7 := r.2.2.2.2.2.2.2.1) (o8 := r.2.2.2.2.2.2.2.2.1) (o9 := r.2.2.2.2.2.2.2.2.2.1) (o10 := r.2.2.2.2.2.2.2.2.2.2.1) (o11 := r.2.2.2.2.2.2.2.2.2.2.2.1) (o12 := r.2.2.2.2.2.2.2.2.2.2.2.2.1) (o13 := r.2.2.2.2.2.2.2.2.2.2.2.2.2.1) (on := r.2.2.2.2.2.2.2.2.2.2.2.2.2.2.1) (og := r.2.2.2.2.2.2.2.2.2.2.2.2.2.2.2) ho
    refine bind_to (Do5 ho k5 e1) ?_
    refine cond_f (beq_eq_false_iff_ne.2 k1) ?_
    refine cond_f (beq_eq_false_iff_ne.2 k3) ?_
    refine cond_f (beq_eq_false_iff_ne.2 k2) ?_
    refine cond_f (beq_eq_false_iff_ne.2 k4) ?_
    refine cond_f (beq_eq_false_iff_ne.2 k6) ?_
    refine cond_t (beq_iff_eq.2 k5) ?_
    exact hL
  refine bind_to (Do0 ho k1 k2 k3 k4 k5 k6) ?_
  refine cond_f (beq_eq_false_iff_ne.2 k1) ?_
  refine cond_f (beq_eq_false_iff_ne.2 k3) ?_
  refine cond_f (beq_eq_false_iff_ne.2 k2) ?_
  refine cond_f (beq_eq_false_iff_ne.2 k4) ?_
  refine cond_f (beq_eq_false_iff_ne.2 k6) ?_
  refine cond_f (beq_eq_false_iff_ne.2 k5) ?_
  exact fin_ok g1 g1
theorem OrderDoes_true (n : Nat) (ds : Nat → DT) (d0 d1 d2 d3 d4 d5 d6 d7 d8 d9 d10 d11 d12 d13 d14 d15 d16 d17 d18 d19 d20 d21 d22 d23 d24 d25 d26 d27 d28 : Int) (dn : Nat) (dg : Nat → P2) (wn : n ≤ maxLen) (w0 : ∀ i, i < n → DeedWf (ds i)) (x0 : (Lit.int .i64 d0).wf = true) (x1 : (Lit.int .i64 d1).wf = true) (x2 : (Lit.int .i64 d2).wf = true) (x3 : (Lit.int .i64 d3).wf = true) (x4 : (Lit.int .i64 d4).wf = true) (x5 : (Lit.int .i64 d5).wf = true) (x6 : (Lit.int .i64 d6).wf = true) (x7 : (Lit.int .i64 d7).wf = true) (x8 : (Lit.int .i64 d8).wf = true) (x9 : (Lit.int .i64 d9).wf = true) (x10 : (Lit.int .i64 d10).wf = true) (x11 : (Lit.int .i64 d11).wf = true) (x12 : (Lit.int .i64 d12).wf = true) (x13 : (Lit.int .i64 d13).wf = true) (x14 : (Lit.int .i64 d14).wf = true) (x15 : (Lit.int .i64 d15).wf = true) (x16 : (Lit.int .i64 d16).wf = true) (x17 : (Lit.int .i64 d17).wf = true) (x18 : (Lit.int .i64 d18).wf = true) (x19 : (Lit.int .i64 d19).wf = true) (x20 : (Lit.int .i64 d20).wf = true) (x21 : (Lit.int .i64 d21).wf = true) (x22 : (Lit.int .i64 d22).wf = true) (x23 : (Lit.int .i64 d23).wf = true) (x24 : (Lit.int .i64 d24).wf = true) (x25 : (Lit.int .i64 d25).wf = true) (x26 : (Lit.int .i64 d26).wf = true) (x27 : (Lit.int .i64 d27).wf = true) (x28 : (Lit.int .i64 d28).wf = true) (wdn : dn ≤ maxLen) (wdg : ∀ i, i < dn → (Lit.int .i64 (dg i).1).wf = true ∧ (Lit.int .i64 (dg i).2).wf = true) :
    law10.OrderDoes.f ((n, fun i => RiiiiiiiiiiiiiiiiiiiiiiiiiiiiiL2.enc (ds i)), (d0, d1, d2, d3, d4, d5, d6, d7, d8, d9, d10, d11, d12, d13, d14, d15, d16, d17, d18, d19, d20, d21, d22, d23, d24, d25, d26, d27, d28, (dn, fun i => Rii.enc (dg i)))) = some true :=
  Does_eq (fun i hi => (w0 i hi).fine) d0 d1 d2 d3 d4 d5 d6 d7 d8 d9 d10 d11 d12 d13 d14 d15 d16 d17 d18 d19 d20 d21 d22 d23 d24 d25 d26 d27 d28 dn dg (DeedWf.fine ⟨x0, x1, x2, x3, x4, x5, x6, x7, x8, x9, x10, x11, x12, x13, x14, x15, x16, x17, x18, x19, x20, x21, x22, x23, x24, x25, x26, x27, x28, dg, rfl, wdg⟩)
end Go.Proofs.YtghhecijpghfhaaGreat.Y
