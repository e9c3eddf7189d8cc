/- Worlds: Right, and what the operations do. -/
import Derived.Test.YtbcnifnmccaleaaYWc
namespace Go.Proofs.Ytbcnifnmccaleaa.Y
open Go Go.RowKit Go.Proofs.Ytbcnifnmccaleaa.E Go.Proofs.Ytbcnifnmccaleaa.Ma Go.Proofs.Ytbcnifnmccaleaa.Fw
set_option linter.unusedVariables false
set_option linter.unusedSimpArgs false
set_option maxRecDepth 10000

theorem tells_no {c : Prop} [Decidable c] {X : Option Bool} {P : Prop} (h1 : c → ¬ P) (h2 : ¬ c → Tells X P) : Tells (bif decide c then some false else X) P := by
  by_cases h : c
  · rw [decide_eq_true h]; exact ⟨false, rfl, by simp only [Bool.false_eq_true, false_iff]; exact h1 h⟩
  · rw [decide_eq_false h]; exact h2 h
theorem tells_b {b : Bool} {X : Option Bool} {P : Prop} (h1 : b = false → ¬ P) (h2 : b = true → Tells X P) : Tells (bif (!b) then some false else X) P := by
  cases b with
  | true => exact h2 rfl
  | false => exact ⟨false, rfl, by simp only [Bool.false_eq_true, false_iff]; exact h1 rfl⟩
theorem Tells.congr {X : Option Bool} {P Q : Prop} (h : Tells X P) (e : P ↔ Q) : Tells X Q := by
  obtain ⟨b, h1, h2⟩ := h
  exact ⟨b, h1, h2.trans e⟩

section
variable {w : Wd}
def ThereL (w : Wd) (x : Int) : Prop := ∃ b ∈ lst w.bs, b.1 = x
def PJ (w : Wd) (i : Nat) : Prop := RightJ (w.js.2 i) ∧ ThereL w (w.js.2 i).2.1 ∧ ThereL w (w.js.2 i).2.2.1
def PC (w : Wd) (i : Nat) : Prop := (w.cs.2 i).1 < (w.cs.2 i).2.1 ∧ 0 ≤ (w.cs.2 i).2.2.1 ∧ 0 ≤ (w.cs.2 i).2.2.2.1 ∧ (ThereL w (w.cs.2 i).1 ∧ ThereL w (w.cs.2 i).2.1) ∧ (0 < i → CLt (w.cs.2 (i - 1)) (w.cs.2 i))
noncomputable def RL2 (w : Wd) (K : Nat) (i : Int) : Option Bool := world.Right.l2 1000000 K w.t w.nb w.nj w.gx w.gy w.bs.1 (fun i => RiiiiiiiiiiL2.enc (w.bs.2 i)) w.js.1 (fun i => Riiiiiiii.enc (w.js.2 i)) w.cs.1 (fun i => Riiiii.enc (w.cs.2 i)) (w.cs.1 : Int) i
noncomputable def RL1 (w : Wd) (K : Nat) (i : Int) : Option Bool := world.Right.l1 1000000 K w.t w.nb w.nj w.gx w.gy w.bs.1 (fun i => RiiiiiiiiiiL2.enc (w.bs.2 i)) w.js.1 (fun i => Riiiiiiii.enc (w.js.2 i)) w.cs.1 (fun i => Riiiii.enc (w.cs.2 i)) (w.js.1 : Int) i
noncomputable def RL0 (w : Wd) (K : Nat) (i : Int) : Option Bool := world.Right.l0 1000000 K w.t w.nb w.nj w.gx w.gy w.bs.1 (fun i => RiiiiiiiiiiL2.enc (w.bs.2 i)) w.js.1 (fun i => Riiiiiiii.enc (w.js.2 i)) w.cs.1 (fun i => Riiiii.enc (w.cs.2 i)) (w.bs.1 : Int) i
theorem l2_step (hb : w.bs.1 ≤ 900000) (hs : (lst w.bs).Pairwise fun a b => a.1 < b.1) (k i : Nat) (hi : i < w.cs.1) (hn : w.cs.1 ≤ 900000) : (PC w i ∧ RL2 w (k + 1) (i : Int) = RL2 w k ((i + 1 : Nat) : Int)) ∨ (¬ PC w i ∧ RL2 w (k + 1) (i : Int) = some false) := by
  unfold RL2
  rw [world.Right.l2_eq, lt_nat i _ hi, cond_true, ge_nat, cond_true]
  simp only [Int.toNat_natCast]
  by_cases h1 : (w.cs.2 i).1 ≥ (w.cs.2 i).2.1
  · rw [decide_eq_true h1, cond_true]; exact .inr ⟨fun h => by have := h.1; omega, rfl⟩
  rw [decide_eq_false h1, cond_false]
  by_cases h2 : (w.cs.2 i).2.2.1 < 0
  · rw [decide_eq_true h2, cond_true]; exact .inr ⟨fun h => by have := h.2.1; omega, rfl⟩
  rw [decide_eq_false h2, cond_false]
  by_cases h3 : (w.cs.2 i).2.2.2.1 < 0
  · rw [decide_eq_true h3, cond_true]; exact .inr ⟨fun h => by have := h.2.2.1; omega, rfl⟩
  rw [decide_eq_false h3, cond_false]
  obtain ⟨b, e1, e2⟩ := There_w w hb hs (w.cs.2 i).1 (w.cs.2 i).2.1
  have e1' : world.Right_3.f ((w.cs.2 i).1, (w.cs.2 i).2.1, (w.t, w.nb, w.nj, w.gx, w.gy, (w.bs.1, fun i => RiiiiiiiiiiL2.enc (w.bs.2 i)), (w.js.1, fun i => Riiiiiiii.enc (w.js.2 i)), (w.cs.1, fun i => Riiiii.enc (w.cs.2 i)))) = some b := e1
  rw [e1', Option.bind_some]
  cases b with
  | false => exact .inr ⟨fun h => (by have := e2.2 h.2.2.2.1; cases this), rfl⟩
  | true =>
    have e3 := e2.1 rfl
    rw [Bool.not_true, cond_false]
    by_cases h4 : 0 < i
    · have h5 : decide ((i : Int) > 0) = true := by simp; omega
      have h6 : IntKind.i64.wrap ((i : Int) - 1) = ((i - 1 : Nat) : Int) := by rw [IntKind.wrap_i64]; omega
      rw [h5, cond_true, h6, in_nat (i - 1) _ (by omega), cond_true, Int.toNat_natCast]
      obtain ⟨o, o1, o2⟩ := order_eq (w.cs.2 (i - 1)) (w.cs.2 i)
      have o1' : world.order.f (((w.cs.2 (i - 1)).1, (w.cs.2 (i - 1)).2.1, (w.cs.2 (i - 1)).2.2.1, (w.cs.2 (i - 1)).2.2.2.1, (w.cs.2 (i - 1)).2.2.2.2), ((w.cs.2 i).1, (w.cs.2 i).2.1, (w.cs.2 i).2.2.1, (w.cs.2 i).2.2.2.1, (w.cs.2 i).2.2.2.2)) = some o := o1
      rw [o1', Option.bind_some]
      by_cases h7 : o ≥ 0
      · rw [decide_eq_true h7, cond_true]; exact .inr ⟨fun h => by have := o2.2 (h.2.2.2.2 h4); omega, rfl⟩
      · rw [decide_eq_false h7, cond_false, wrap_nat i (by omega)]
        exact .inl ⟨⟨by omega, by omega, by omega, e3, fun _ => o2.1 (by omega)⟩, rfl⟩
    · have h5 : decide ((i : Int) > 0) = false := by simp; omega
      rw [h5, cond_false, wrap_nat i (by omega)]
      exact .inl ⟨⟨by omega, by omega, by omega, e3, fun h => absurd h h4⟩, rfl⟩
theorem l2_end (k : Nat) : RL2 w (k + 1) (w.cs.1 : Int) = some true := by
  unfold RL2
  rw [world.Right.l2_eq, nlt_nat _ _ (by omega), cond_false]
theorem l1_step (hf : FineW w) (hb : w.bs.1 ≤ 900000) (hs : (lst w.bs).Pairwise fun a b => a.1 < b.1) (k i : Nat) (hi : i < w.js.1) (hn : w.js.1 ≤ 900000) : (PJ w i ∧ RL1 w (k + 1) (i : Int) = RL1 w k ((i + 1 : Nat) : Int)) ∨ (¬ PJ w i ∧ RL1 w (k + 1) (i : Int) = some false) := by
  unfold RL1
  rw [world.Right.l1_eq, lt_nat i _ hi, cond_true, ge_nat, cond_true]
  simp only [Int.toNat_natCast]
  obtain ⟨v, v1⟩ := rightJ_some (hf.j _ (mem_lst.2 ⟨i, hi, rfl⟩))
  have v1' : world.RightJoint.f ((w.js.2 i).1, (w.js.2 i).2.1, (w.js.2 i).2.2.1, (w.js.2 i).2.2.2.1, (w.js.2 i).2.2.2.2.1, (w.js.2 i).2.2.2.2.2.1, (w.js.2 i).2.2.2.2.2.2.1, (w.js.2 i).2.2.2.2.2.2.2) = some v := v1
  rw [v1', Option.bind_some]
  cases v with
  | false => exact .inr ⟨fun h => (by have := h.1; unfold RightJ at this; rw [v1] at this; cases this), rfl⟩
  | true =>
    rw [Bool.not_true, cond_false]
    obtain ⟨b, e1, e2⟩ := There_w w hb hs (w.js.2 i).2.1 (w.js.2 i).2.2.1
    have e1' : world.Right_3.f ((w.js.2 i).2.1, (w.js.2 i).2.2.1, (w.t, w.nb, w.nj, w.gx, w.gy, (w.bs.1, fun i => RiiiiiiiiiiL2.enc (w.bs.2 i)), (w.js.1, fun i => Riiiiiiii.enc (w.js.2 i)), (w.cs.1, fun i => Riiiii.enc (w.cs.2 i)))) = some b := e1
    rw [e1', Option.bind_some]
    cases b with
    | false => exact .inr ⟨fun h => (by have := e2.2 h.2; cases this), rfl⟩
    | true =>
      rw [Bool.not_true, cond_false, wrap_nat i (by omega)]
      exact .inl ⟨⟨v1, e2.1 rfl⟩, rfl⟩
theorem l1_end (k : Nat) : RL1 w (k + 1) (w.js.1 : Int) = RL2 w 1000000 ((0 : Nat) : Int) := by
  unfold RL1
  rw [world.Right.l1_eq, nlt_nat _ _ (by omega), cond_false]
  rfl
theorem l0_step (hf : FineW w) (k i : Nat) (hi : i < w.bs.1) (hn : w.bs.1 ≤ 900000) : (RightB (w.bs.2 i) ∧ RL0 w (k + 1) (i : Int) = RL0 w k ((i + 1 : Nat) : Int)) ∨ (¬ RightB (w.bs.2 i) ∧ RL0 w (k + 1) (i : Int) = some false) := by
  unfold RL0
  rw [world.Right.l0_eq, lt_nat i _ hi, cond_true, ge_nat, cond_true]
  simp only [Int.toNat_natCast]
  obtain ⟨v, v1⟩ := rightB_some (hf.b _ (mem_lst.2 ⟨i, hi, rfl⟩))
  have v1' : world.RightBody.f ((w.bs.2 i).1, (w.bs.2 i).2.1, (w.bs.2 i).2.2.1, (w.bs.2 i).2.2.2.1, (w.bs.2 i).2.2.2.2.1, (w.bs.2 i).2.2.2.2.2.1, (w.bs.2 i).2.2.2.2.2.2.1, (w.bs.2 i).2.2.2.2.2.2.2.1, (w.bs.2 i).2.2.2.2.2.2.2.2.1, (w.bs.2 i).2.2.2.2.2.2.2.2.2.1, ((w.bs.2 i).2.2.2.2.2.2.2.2.2.2.1, (w.bs.2 i).2.2.2.2.2.2.2.2.2.2.2)) = some v := v1
  rw [v1', Option.bind_some]
  cases v with
  | false => exact .inr ⟨fun h => (by unfold RightB at h; rw [v1] at h; cases h), rfl⟩
  | true =>
    rw [Bool.not_true, cond_false, wrap_nat i (by omega)]
    exact .inl ⟨v1, rfl⟩
theorem l0_end (k : Nat) : RL0 w (k + 1) (w.bs.1 : Int) = RL1 w 1000000 ((0 : Nat) : Int) := by
  unfold RL0
  rw [world.Right.l0_eq, nlt_nat _ _ (by omega), cond_false]
  rfl
theorem adj {n : Nat} {c : Nat → CT} (h : ∀ i, i < n → 0 < i → CLt (c (i - 1)) (c i)) (a : Nat) : ∀ b, a < b → b < n → CLt (c a) (c b)
  | 0, hab, _ => by omega
  | b + 1, hab, hb => by
    have h1 := h (b + 1) hb (by omega)
    rw [Nat.add_sub_cancel] at h1
    by_cases e : a = b
    · subst e; exact h1
    · exact (adj h a b (by omega) (by omega)).trans h1
theorem within_some {x y m : Int} (hx : I64 x) (hy : I64 y) : ∃ v, world.within.f ((x, y), m) = some v := ⟨_, wwithin hx hy⟩
/-- world.Right says whether a world may be. -/
theorem Right_tells (hf : FineW w) : Tells (world.Right.f w.raw) (RightW w) := by
  have e : world.Right.f w.raw = world.Right.g 1000000 w.raw := rfl
  rw [e]
  unfold Wd.raw
  rw [world.Right.eq]
  refine tells_no (fun h hr => by have := hr.t0; omega) fun h1 => ?_
  refine tells_no (fun h hr => by have := hr.t1; omega) fun h2 => ?_
  refine tells_no (fun h hr => by have := hr.nb1; omega) fun h3 => ?_
  refine tells_no (fun h hr => by have := hr.nj1; omega) fun h4 => ?_
  refine tells_no (fun h hr => by have := hr.lb; rw [lst_len] at this; omega) fun h5 => ?_
  refine tells_no (fun h hr => by have := hr.lj; rw [lst_len] at this; omega) fun h6 => ?_
  obtain ⟨v, hv⟩ := within_some (m := 17592186044416) hf.gx hf.gy
  rw [hv, Option.bind_some]
  refine tells_b (fun h hr => by have := hr.gr; rw [hv, h] at this; cases this) fun h7 => ?_
  obtain ⟨b, b1, b2⟩ := risingB w.bs.1 (by omega) w.bs.2 w.nb
  rw [b1, Option.bind_some]
  rw [riseB_iff] at b2
  refine tells_b (fun h hr => by have := b2.2 ⟨hr.pb, hr.ab, hr.nb0⟩; rw [h] at this; cases this) fun h8 => ?_
  obtain ⟨c, c1, c2⟩ := risingJ w.js.1 (by omega) w.js.2 w.nj
  rw [c1, Option.bind_some]
  rw [riseJ_iff] at c2
  refine tells_b (fun h hr => by have := c2.2 ⟨hr.pj, hr.aj, hr.nj0⟩; rw [h] at this; cases this) fun h9 => ?_
  have b3 := b2.1 h8
  have c3 := c2.1 h9
  have hb : w.bs.1 ≤ 900000 := by omega
  have hnc := hf.nc
  show Tells (RL0 w 1000000 ((0 : Nat) : Int)) _
  rcases scan_all (n := w.bs.1) (by omega) (fun i => RightB (w.bs.2 i)) (fun K i => RL0 w K i) (some false) (RL1 w 1000000 ((0 : Nat) : Int)) (fun k i hi => l0_step hf k i hi hb) (fun k => l0_end k) w.bs.1 0 1000000 (by omega) (by omega) with ⟨g1, g2⟩ | ⟨⟨t, g1, g3, g4⟩, g2⟩
  · rw [g2]
    rcases scan_all (n := w.js.1) (by omega) (PJ w) (fun K i => RL1 w K i) (some false) (RL2 w 1000000 ((0 : Nat) : Int)) (fun k i hi => l1_step hf hb b3.2.1 k i hi (by omega)) (fun k => l1_end k) w.js.1 0 1000000 (by omega) (by omega) with ⟨k1, k2⟩ | ⟨⟨t, k1, k3, k4⟩, k2⟩
    · rw [k2]
      rcases scan_all (n := w.cs.1) (by omega) (PC w) (fun K i => RL2 w K i) (some false) (some true) (fun k i hi => l2_step hb b3.2.1 k i hi hnc) (fun k => l2_end k) w.cs.1 0 1000000 (by omega) (by omega) with ⟨m1, m2⟩ | ⟨⟨t, m1, m3, m4⟩, m2⟩
      · rw [m2]
        refine ⟨true, rfl, by
          simp only [true_iff]
          exact ⟨by omega, by omega, by omega, by omega, by rw [lst_len]; omega, by rw [lst_len]; omega, by rw [hv, h7], b3.2.2, c3.2.2, b3.1, c3.1, b3.2.1, c3.2.1, fun b hb => by
            obtain ⟨i, hi, rfl⟩ := mem_lst.1 hb
            exact g1 i (by omega) hi, fun j hj => by
            obtain ⟨i, hi, rfl⟩ := mem_lst.1 hj
            exact k1 i (by omega) hi, fun c hc => by
            obtain ⟨i, hi, rfl⟩ := mem_lst.1 hc
            have := m1 i (by omega) hi
            exact ⟨this.1, this.2.1, this.2.2.1, this.2.2.2.1⟩, pair_lst.2 (adj fun i hi h0 => (m1 i (by omega) hi).2.2.2.2 h0)⟩⟩
      · rw [m2]
        refine ⟨false, rfl, by
          simp only [Bool.false_eq_true, false_iff]
          intro hr
          have h1 := hr.rc _ (mem_lst.2 ⟨t, m3, rfl⟩)
          exact m4 ⟨h1.1, h1.2.1, h1.2.2.1, h1.2.2.2, fun h0 => (pair_lst.1 hr.ac) (t - 1) t (by omega) m3⟩⟩
    · rw [k2]
      refine ⟨false, rfl, by
        simp only [Bool.false_eq_true, false_iff]
        intro hr
        exact k4 (hr.rj _ (mem_lst.2 ⟨t, k3, rfl⟩))⟩
  · rw [g2]
    refine ⟨false, rfl, by
      simp only [Bool.false_eq_true, false_iff]
      intro hr
      exact g4 (hr.rb _ (mem_lst.2 ⟨t, g3, rfl⟩))⟩
end
end Go.Proofs.Ytbcnifnmccaleaa.Y
