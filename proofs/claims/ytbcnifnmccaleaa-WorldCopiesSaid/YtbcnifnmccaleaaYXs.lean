/- Worlds: Same says whether they are the same (printed by wip/tools/mkxs.py). -/
import Derived.Test.YtbcnifnmccaleaaYWf
namespace Go.Proofs.Ytbcnifnmccaleaa.Y
open Go Go.RowKit Go.Proofs.Ytbcnifnmccaleaa.E Go.Proofs.Ytbcnifnmccaleaa.Ma Go.Proofs.Ytbcnifnmccaleaa.Fw
set_option linter.unusedVariables false
set_option linter.unusedSimpArgs false
set_option maxRecDepth 10000

theorem natbeq (a b : Nat) : ((a : Int) != (b : Int)) = decide (a ≠ b) := by rw [Bool.eq_iff_iff]; simp; omega
theorem eqV_c (a b : P2) : ((a.1 == b.1) && ((a.2 == b.2) && true)) = true ↔ a = b := by
  simp only [Bool.and_eq_true, beq_iff_eq, Prod.ext_iff, _root_.and_true, and_assoc]
theorem eqV (n m : Nat) (hn : n ≤ 900000) (g h : Nat → P2) : Tells (slices.Equal_lV_V.f ((n, fun i => Rii.enc (g i)), (m, fun i => Rii.enc (h i)))) (n = m ∧ ∀ i, i < n → g i = h i) := by
  have e : slices.Equal_lV_V.f ((n, fun i => Rii.enc (g i)), (m, fun i => Rii.enc (h i))) = slices.Equal_lV_V.g 1000000 ((n, fun i => Rii.enc (g i)), (m, fun i => Rii.enc (h i))) := rfl
  rw [e, slices.Equal_lV_V.eq, natbeq]
  by_cases hm : n = m
  · subst hm
    rw [decide_eq_false (by simp), cond_false]
    rcases scan_all (n := n) (by omega) (fun i => g i = h i) (fun K i => slices.Equal_lV_V.l0 1000000 K n (fun i => Rii.enc (g i)) n (fun i => Rii.enc (h i)) (n : Int) i) (some false) (some true) (fun k i hi => by
      rw [slices.Equal_lV_V.l0_eq, lt_nat i n hi, cond_true, ge_nat, cond_true]
      simp only [Int.toNat_natCast, cond_true]
      have hc := eqV_c (g i) (h i)
      generalize (((g i).1 == (h i).1) && (((g i).2 == (h i).2) && true)) = cc at hc
      cases cc with
      | true =>
        rw [Bool.not_true, cond_false, wrap_nat i (by omega)]
        exact .inl ⟨hc.1 rfl, rfl⟩
      | false => exact .inr ⟨fun hq => (by have := hc.2 hq; cases this), rfl⟩) (fun k => by rw [slices.Equal_lV_V.l0_eq, nlt_nat n n (by omega), cond_false]) n 0 1000000 (by omega) (by omega) with ⟨h1, h2⟩ | ⟨⟨t, h1, h3, h4⟩, h2⟩
    · exact ⟨true, h2, by simp only [true_iff]; exact ⟨trivial, fun i hi => h1 i (by omega) hi⟩⟩
    · exact ⟨false, h2, by simp only [Bool.false_eq_true, false_iff]; intro hq; exact h4 (hq.2 t h3)⟩
  · rw [decide_eq_true hm, cond_true]
    exact ⟨false, rfl, by simp only [Bool.false_eq_true, false_iff]; intro hq; exact hm hq.1⟩
theorem eqJ_c (a b : JT) : ((a.1 == b.1) && ((a.2.1 == b.2.1) && ((a.2.2.1 == b.2.2.1) && (((a.2.2.2.1 == b.2.2.2.1) && ((a.2.2.2.2.1 == b.2.2.2.2.1) && true)) && (((a.2.2.2.2.2.1 == b.2.2.2.2.2.1) && ((a.2.2.2.2.2.2.1 == b.2.2.2.2.2.2.1) && true)) && ((a.2.2.2.2.2.2.2 == b.2.2.2.2.2.2.2) && true)))))) = true ↔ a = b := by
  simp only [Bool.and_eq_true, beq_iff_eq, Prod.ext_iff, _root_.and_true, and_assoc]
theorem eqJ (n m : Nat) (hn : n ≤ 900000) (g h : Nat → JT) : Tells (slices.Equal_lJoint_Joint.f ((n, fun i => Riiiiiiii.enc (g i)), (m, fun i => Riiiiiiii.enc (h i)))) (n = m ∧ ∀ i, i < n → g i = h i) := by
  have e : slices.Equal_lJoint_Joint.f ((n, fun i => Riiiiiiii.enc (g i)), (m, fun i => Riiiiiiii.enc (h i))) = slices.Equal_lJoint_Joint.g 1000000 ((n, fun i => Riiiiiiii.enc (g i)), (m, fun i => Riiiiiiii.enc (h i))) := rfl
  rw [e, slices.Equal_lJoint_Joint.eq, natbeq]
  by_cases hm : n = m
  · subst hm
    rw [decide_eq_false (by simp), cond_false]
    rcases scan_all (n := n) (by omega) (fun i => g i = h i) (fun K i => slices.Equal_lJoint_Joint.l0 1000000 K n (fun i => Riiiiiiii.enc (g i)) n (fun i => Riiiiiiii.enc (h i)) (n : Int) i) (some false) (some true) (fun k i hi => by
      rw [slices.Equal_lJoint_Joint.l0_eq, lt_nat i n hi, cond_true, ge_nat, cond_true]
      simp only [Int.toNat_natCast, cond_true]
      have hc := eqJ_c (g i) (h i)
      generalize (((g i).1 == (h i).1) && (((g i).2.1 == (h i).2.1) && (((g i).2.2.1 == (h i).2.2.1) && ((((g i).2.2.2.1 == (h i).2.2.2.1) && (((g i).2.2.2.2.1 == (h i).2.2.2.2.1) && true)) && ((((g i).2.2.2.2.2.1 == (h i).2.2.2.2.2.1) && (((g i).2.2.2.2.2.2.1 == (h i).2.2.2.2.2.2.1) && true)) && (((g i).2.2.2.2.2.2.2 == (h i).2.2.2.2.2.2.2) && true)))))) = cc at hc
      cases cc with
      | true =>
        rw [Bool.not_true, cond_false, wrap_nat i (by omega)]
        exact .inl ⟨hc.1 rfl, rfl⟩
      | false => exact .inr ⟨fun hq => (by have := hc.2 hq; cases this), rfl⟩) (fun k => by rw [slices.Equal_lJoint_Joint.l0_eq, nlt_nat n n (by omega), cond_false]) n 0 1000000 (by omega) (by omega) with ⟨h1, h2⟩ | ⟨⟨t, h1, h3, h4⟩, h2⟩
    · exact ⟨true, h2, by simp only [true_iff]; exact ⟨trivial, fun i hi => h1 i (by omega) hi⟩⟩
    · exact ⟨false, h2, by simp only [Bool.false_eq_true, false_iff]; intro hq; exact h4 (hq.2 t h3)⟩
  · rw [decide_eq_true hm, cond_true]
    exact ⟨false, rfl, by simp only [Bool.false_eq_true, false_iff]; intro hq; exact hm hq.1⟩
theorem eqC_c (a b : CT) : ((a.1 == b.1) && ((a.2.1 == b.2.1) && ((a.2.2.1 == b.2.2.1) && ((a.2.2.2.1 == b.2.2.2.1) && ((a.2.2.2.2 == b.2.2.2.2) && true))))) = true ↔ a = b := by
  simp only [Bool.and_eq_true, beq_iff_eq, Prod.ext_iff, _root_.and_true, and_assoc]
theorem eqC (n m : Nat) (hn : n ≤ 900000) (g h : Nat → CT) : Tells (slices.Equal_lContact_Contact.f ((n, fun i => Riiiii.enc (g i)), (m, fun i => Riiiii.enc (h i)))) (n = m ∧ ∀ i, i < n → g i = h i) := by
  have e : slices.Equal_lContact_Contact.f ((n, fun i => Riiiii.enc (g i)), (m, fun i => Riiiii.enc (h i))) = slices.Equal_lContact_Contact.g 1000000 ((n, fun i => Riiiii.enc (g i)), (m, fun i => Riiiii.enc (h i))) := rfl
  rw [e, slices.Equal_lContact_Contact.eq, natbeq]
  by_cases hm : n = m
  · subst hm
    rw [decide_eq_false (by simp), cond_false]
    rcases scan_all (n := n) (by omega) (fun i => g i = h i) (fun K i => slices.Equal_lContact_Contact.l0 1000000 K n (fun i => Riiiii.enc (g i)) n (fun i => Riiiii.enc (h i)) (n : Int) i) (some false) (some true) (fun k i hi => by
      rw [slices.Equal_lContact_Contact.l0_eq, lt_nat i n hi, cond_true, ge_nat, cond_true]
      simp only [Int.toNat_natCast, cond_true]
      have hc := eqC_c (g i) (h i)
      generalize (((g i).1 == (h i).1) && (((g i).2.1 == (h i).2.1) && (((g i).2.2.1 == (h i).2.2.1) && (((g i).2.2.2.1 == (h i).2.2.2.1) && (((g i).2.2.2.2 == (h i).2.2.2.2) && true))))) = cc at hc
      cases cc with
      | true =>
        rw [Bool.not_true, cond_false, wrap_nat i (by omega)]
        exact .inl ⟨hc.1 rfl, rfl⟩
      | false => exact .inr ⟨fun hq => (by have := hc.2 hq; cases this), rfl⟩) (fun k => by rw [slices.Equal_lContact_Contact.l0_eq, nlt_nat n n (by omega), cond_false]) n 0 1000000 (by omega) (by omega) with ⟨h1, h2⟩ | ⟨⟨t, h1, h3, h4⟩, h2⟩
    · exact ⟨true, h2, by simp only [true_iff]; exact ⟨trivial, fun i hi => h1 i (by omega) hi⟩⟩
    · exact ⟨false, h2, by simp only [Bool.false_eq_true, false_iff]; intro hq; exact h4 (hq.2 t h3)⟩
  · rw [decide_eq_true hm, cond_true]
    exact ⟨false, rfl, by simp only [Bool.false_eq_true, false_iff]; intro hq; exact hm hq.1⟩
theorem bind_to' {α β : Type} {x : Option α} {a : α} {f : α → Option β} {r : Option β} (h : x = some a) (h2 : f a = r) : x.bind f = r := by rw [h]; exact h2
theorem Tells.bindB {X : Option Bool} {P Q : Prop} {Z : Option Bool} (h : Tells X P) (h1 : P → Tells Z Q) (h2 : ¬ P → ¬ Q) : Tells (X.bind fun r => bif r then Z else some false) Q := by
  obtain ⟨b, b1, b2⟩ := h
  rw [b1, Option.bind_some]
  cases b with
  | true => exact h1 (b2.1 rfl)
  | false => exact ⟨false, rfl, by simp only [Bool.false_eq_true, false_iff]; exact h2 fun hp => by have := b2.2 hp; cases this⟩
theorem tells_and {c : Bool} {X : Option Bool} {P Q : Prop} (hc : c = true ↔ P) (h : P → Tells X Q) (h2 : ¬ P → ¬ Q) : Tells (bif c then X else some false) Q := by
  cases c with
  | true => exact h (hc.1 rfl)
  | false => exact ⟨false, rfl, by simp only [Bool.false_eq_true, false_iff]; exact h2 fun hp => by have := hc.2 hp; cases this⟩
theorem tells_some {X : Option Bool} {P : Prop} (h : Tells X P) : Tells (X.bind fun r => some r) P := by
  obtain ⟨b, b1, b2⟩ := h
  exact ⟨b, by rw [b1]; rfl, b2⟩
def SameS (k r : Int) (n : Nat) (g : Nat → P2) (k' r' : Int) (n' : Nat) (g' : Nat → P2) : Prop := k = k' ∧ r = r' ∧ n = n' ∧ ∀ i, i < n → g i = g' i
theorem sshape (k r : Int) (n : Nat) (hn : n ≤ 900000) (g : Nat → P2) (k' r' : Int) (n' : Nat) (g' : Nat → P2) : Tells (shape.Same.f ((k, r, (n, fun i => Rii.enc (g i))), (k', r', (n', fun i => Rii.enc (g' i))))) (SameS k r n g k' r' n' g') := by
  rw [shape.Same.eq]
  unfold SameS
  refine tells_and (P := k = k') (by rw [beq_iff_eq]) (fun h1 => ?_) (fun h hq => h hq.1)
  refine tells_and (P := r = r') (by rw [beq_iff_eq]) (fun h2 => ?_) (fun h hq => h hq.2.1)
  exact tells_some ((eqV n n' hn g g').congr ⟨fun hq => ⟨h1, h2, hq.1, hq.2⟩, fun hq => ⟨hq.2.2.1, hq.2.2.2⟩⟩)
/-- Bodies that are the same. -/
def SameB (a b : BT) : Prop := a.1 = b.1 ∧ a.2.1 = b.2.1 ∧ a.2.2.1 = b.2.2.1 ∧ a.2.2.2.1 = b.2.2.2.1 ∧ a.2.2.2.2.1 = b.2.2.2.2.1 ∧ a.2.2.2.2.2.1 = b.2.2.2.2.2.1 ∧ a.2.2.2.2.2.2.1 = b.2.2.2.2.2.2.1 ∧ a.2.2.2.2.2.2.2.1 = b.2.2.2.2.2.2.2.1 ∧
  a.2.2.2.2.2.2.2.2.1 = b.2.2.2.2.2.2.2.2.1 ∧ a.2.2.2.2.2.2.2.2.2.1 = b.2.2.2.2.2.2.2.2.2.1 ∧ a.2.2.2.2.2.2.2.2.2.2.1 = b.2.2.2.2.2.2.2.2.2.2.1 ∧ ∀ i, i < a.2.2.2.2.2.2.2.2.2.2.1 → a.2.2.2.2.2.2.2.2.2.2.2 i = b.2.2.2.2.2.2.2.2.2.2.2 i
theorem Rii_inj {p q : P2} (h : Rii.enc p = Rii.enc q) : p = q := by
  have := congrArg Rii.dec h
  rw [Rii_dec, Rii_dec] at this
  exact Option.some.inj this
theorem SameB.refl (a : BT) : SameB a a := ⟨rfl, rfl, rfl, rfl, rfl, rfl, rfl, rfl, rfl, rfl, rfl, fun _ _ => rfl⟩
theorem sbody {a b : BT} (ha : Inner a.2.2.2.2.2.2.2.2.2.2) (hb : Inner b.2.2.2.2.2.2.2.2.2.2) (hn : a.2.2.2.2.2.2.2.2.2.2.1 ≤ 900000) : Tells (world.sameBody.f (a, b)) (SameB a b) := by
  obtain ⟨a0, a1, a2, a3, a4, a5, a6, a7, a8, a9, n, G⟩ := a
  obtain ⟨b0, b1, b2, b3, b4, b5, b6, b7, b8, b9, n', G'⟩ := b
  obtain ⟨g, hG, _⟩ := ha
  obtain ⟨g', hG', _⟩ := hb
  dsimp only at hG hG' hn
  subst hG; subst hG'
  rw [world.sameBody.eq]
  unfold SameB
  refine tells_and (P := a0 = b0) (by rw [beq_iff_eq]) (fun h0 => ?_) (fun h hq => h hq.1)
  refine tells_and (P := a1 = b1 ∧ a2 = b2) (by simp) (fun h1 => ?_) (fun h hq => h ⟨hq.2.1, hq.2.2.1⟩)
  refine tells_and (P := a3 = b3 ∧ a4 = b4) (by simp) (fun h2 => ?_) (fun h hq => h ⟨hq.2.2.2.1, hq.2.2.2.2.1⟩)
  refine tells_and (P := a5 = b5) (by rw [beq_iff_eq]) (fun h3 => ?_) (fun h hq => h hq.2.2.2.2.2.1)
  refine tells_and (P := a6 = b6) (by rw [beq_iff_eq]) (fun h4 => ?_) (fun h hq => h hq.2.2.2.2.2.2.1)
  refine tells_and (P := a7 = b7) (by rw [beq_iff_eq]) (fun h5 => ?_) (fun h hq => h hq.2.2.2.2.2.2.2.1)
  refine tells_some ((sshape a8 a9 n hn g b8 b9 n' g').congr ⟨fun hq => ⟨h0, h1.1, h1.2, h2.1, h2.2, h3, h4, h5, hq.1, hq.2.1, hq.2.2.1, fun i hi => by show Rii.enc (g i) = Rii.enc (g' i); rw [hq.2.2.2 i hi]⟩, fun hq => ⟨hq.2.2.2.2.2.2.2.2.1, hq.2.2.2.2.2.2.2.2.2.1, hq.2.2.2.2.2.2.2.2.2.2.1, fun i hi => Rii_inj (hq.2.2.2.2.2.2.2.2.2.2.2 i hi)⟩⟩)
attribute [local irreducible] world.sameBody.f
theorem eqB (n m : Nat) (hn : n ≤ 900000) (g h : Nat → BT) (hg : ∀ i, i < n → Inner (g i).2.2.2.2.2.2.2.2.2.2 ∧ (g i).2.2.2.2.2.2.2.2.2.2.1 ≤ 900000) (hh : ∀ i, i < m → Inner (h i).2.2.2.2.2.2.2.2.2.2) :
    Tells (slices.EqualFunc_lBody_lBody_Body_Body.f ((n, fun i => RiiiiiiiiiiL2.enc (g i)), (m, fun i => RiiiiiiiiiiL2.enc (h i)), ())) (n = m ∧ ∀ i, i < n → SameB (g i) (h i)) := by
  have e : slices.EqualFunc_lBody_lBody_Body_Body.f ((n, fun i => RiiiiiiiiiiL2.enc (g i)), (m, fun i => RiiiiiiiiiiL2.enc (h i)), ()) = slices.EqualFunc_lBody_lBody_Body_Body.g 1000000 ((n, fun i => RiiiiiiiiiiL2.enc (g i)), (m, fun i => RiiiiiiiiiiL2.enc (h i)), ()) := rfl
  rw [e, slices.EqualFunc_lBody_lBody_Body_Body.eq, natbeq]
  by_cases hm : n = m
  · subst hm
    rw [decide_eq_false (by simp), cond_false]
    rcases scan_all (n := n) (by omega) (fun i => SameB (g i) (h i)) (fun K i => slices.EqualFunc_lBody_lBody_Body_Body.l0 1000000 K n (fun i => RiiiiiiiiiiL2.enc (h i)) n (fun i => RiiiiiiiiiiL2.enc (g i)) (n : Int) i) (some false) (some true) (fun k i hi => by
      rw [slices.EqualFunc_lBody_lBody_Body_Body.l0_eq, lt_nat i n hi, cond_true, ge_nat, cond_true]
      simp only [Int.toNat_natCast, cond_true]
      obtain ⟨b, b1, b2⟩ := sbody (hg i hi).1 (hh i hi) (hg i hi).2
      cases b with
      | true =>
        refine .inl ⟨b2.1 rfl, ?_⟩
        rw [wrap_nat i (by omega)]
        exact bind_to' b1 rfl
      | false =>
        refine .inr ⟨fun hq => (by have := b2.2 hq; cases this), ?_⟩
        exact bind_to' b1 rfl) (fun k => by rw [slices.EqualFunc_lBody_lBody_Body_Body.l0_eq, nlt_nat n n (by omega), cond_false]) n 0 1000000 (by omega) (by omega) with ⟨h1, h2⟩ | ⟨⟨t, h1, h3, h4⟩, h2⟩
    · exact ⟨true, h2, by simp only [true_iff]; exact ⟨trivial, fun i hi => h1 i (by omega) hi⟩⟩
    · exact ⟨false, h2, by simp only [Bool.false_eq_true, false_iff]; intro hq; exact h4 (hq.2 t h3)⟩
  · rw [decide_eq_true hm, cond_true]
    exact ⟨false, rfl, by simp only [Bool.false_eq_true, false_iff]; intro hq; exact hm hq.1⟩
/-- Worlds that are the same. -/
structure SameW (a b : Wd) : Prop where
  t : a.t = b.t
  nb : a.nb = b.nb
  nj : a.nj = b.nj
  gx : a.gx = b.gx
  gy : a.gy = b.gy
  bn : a.bs.1 = b.bs.1
  bb : ∀ i, i < a.bs.1 → SameB (a.bs.2 i) (b.bs.2 i)
  jn : a.js.1 = b.js.1
  j : ∀ i, i < a.js.1 → a.js.2 i = b.js.2 i
  cn : a.cs.1 = b.cs.1
  c : ∀ i, i < a.cs.1 → a.cs.2 i = b.cs.2 i
theorem SameW.refl (a : Wd) : SameW a a := ⟨rfl, rfl, rfl, rfl, rfl, rfl, fun _ _ => .refl _, rfl, fun _ _ => rfl, rfl, fun _ _ => rfl⟩
/-- What Same looks at. -/
structure Seen (w : Wd) : Prop where
  bn : w.bs.1 ≤ 900000
  b : ∀ i, i < w.bs.1 → Inner (w.bs.2 i).2.2.2.2.2.2.2.2.2.2 ∧ (w.bs.2 i).2.2.2.2.2.2.2.2.2.2.1 ≤ 900000
  jn : w.js.1 ≤ 900000
  cn : w.cs.1 ≤ 900000
theorem Good.seen {w : Wd} (h : Good w) : Seen w := by
  have hb := h.b
  have hj := h.j
  refine ⟨by omega, fun i hi => ?_, by omega, h.fine.nc⟩
  have hm := mem_lst.2 ⟨i, hi, rfl⟩
  have := rightB_few (h.fine.b _ hm) (h.right.rb _ hm)
  exact ⟨(h.fine.b _ hm).2.2.2.2.2, by omega⟩
attribute [local irreducible] slices.EqualFunc_lBody_lBody_Body_Body.f slices.Equal_lJoint_Joint.f slices.Equal_lContact_Contact.f
theorem Same_tells {a b : Wd} (ha : Seen a) (hb : Seen b) : Tells (world.Same.f (a.raw, b.raw)) (SameW a b) := by
  have nb : ∀ (x y : Int) {X : Option Bool} {Q : Prop}, (x = y → Tells X Q) → (x ≠ y → ¬ Q) → Tells (bif (x != y) then some false else X) Q := fun x y X Q h1 h2 => by
    by_cases h : x = y
    · have : (x != y) = false := by simp [h]
      rw [this]; exact h1 h
    · have : (x != y) = true := by simp [h]
      rw [this]; exact ⟨false, rfl, by simp only [Bool.false_eq_true, false_iff]; exact h2 h⟩
  unfold Wd.raw
  rw [world.Same.eq]
  refine nb _ _ (fun h0 => ?_) (fun h hq => h hq.t)
  refine nb _ _ (fun h1 => ?_) (fun h hq => h hq.nb)
  refine nb _ _ (fun h2 => ?_) (fun h hq => h hq.nj)
  by_cases hg : a.gx = b.gx ∧ a.gy = b.gy
  · have e : (!((a.gx == b.gx) && ((a.gy == b.gy) && true))) = false := by simp [hg.1, hg.2]
    rw [e, cond_false]
    refine (eqB a.bs.1 b.bs.1 ha.bn a.bs.2 b.bs.2 ha.b fun i hi => (hb.b i hi).1).bindB (fun h3 => ?_) (fun h hq => h ⟨hq.bn, hq.bb⟩)
    refine (eqJ a.js.1 b.js.1 ha.jn a.js.2 b.js.2).bindB (fun h4 => ?_) (fun h hq => h ⟨hq.jn, hq.j⟩)
    exact tells_some ((eqC a.cs.1 b.cs.1 ha.cn a.cs.2 b.cs.2).congr ⟨fun h5 => ⟨h0, h1, h2, hg.1, hg.2, h3.1, h3.2, h4.1, h4.2, h5.1, h5.2⟩, fun hq => ⟨hq.cn, hq.c⟩⟩)
  · have e : (!((a.gx == b.gx) && ((a.gy == b.gy) && true))) = true := by
      cases h1 : (a.gx == b.gx) <;> cases h2 : (a.gy == b.gy) <;> simp_all
    rw [e, cond_true]
    exact ⟨false, rfl, by simp only [Bool.false_eq_true, false_iff]; intro hq; exact hg ⟨hq.gx, hq.gy⟩⟩
end Go.Proofs.Ytbcnifnmccaleaa.Y
