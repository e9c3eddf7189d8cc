/- A region that draws its order: the law. -/
import Derived.Test.YtbcnifnmccaleaaFwP
namespace Go.Proofs.Ytbcnifnmccaleaa.Fw
open Go Go.RowKit
set_option linter.unusedVariables false
set_option linter.unusedSimpArgs false

section
variable {P : Program} {Γ : Ctx} {R : Type} {w0 w : World} {W : Nat → Prop} {F : RoMap} {ρ : Pm} {RO : RoMap} {s : St} {a : Act}

/-- Whatever order is picked from here on. -/
def wpAnyA (Γ : Ctx) (ops : Array Oper) (bs : List Nat) (base : Nat) (Q : St → Prop) : Nat → Array Bool → St → Prop
  | 0, listed, s => Region.ready .any ops listed = [] ∧ Q s
  | fuel + 1, listed, s => (Region.ready .any ops listed = [] → Q s) ∧ ∀ i ∈ Region.ready .any ops listed, ∃ s', stp Γ ops bs base i s = some s' ∧ wpAnyA Γ ops bs base Q fuel (listed.setIfInBounds i true) s'

def Cl (bs : List Nat) (listed : Array Bool) : Prop := ∀ j k, listed.getD j false = true → (bs.getD j 0).testBit k = true → listed.getD k false = true

theorem ready_spec {ops : Array Oper} {listed : Array Bool} {j : Nat} (h : j ∈ Region.ready .any ops listed) : ∃ o, ops[j]? = some o ∧ listed.getD j true = false ∧ ∀ e ∈ o.after, Region.binds .any e = true → listed.getD e.on false = true := by
  obtain ⟨h1, o, h2, h3⟩ := mem_ready.1 h
  exact ⟨o, h2, h1, h3⟩

theorem bsOk_spec {ops : Array Oper} {bs : List Nat} (h : bsOk ops.toList bs = true) (hb : ∀ j k, (bs.getD j 0).testBit k = true → k < ops.size) {j k : Nat} {o : Oper} (hj : ops[j]? = some o) (hk : (bs.getD j 0).testBit k = true) :
    ∃ e ∈ o.after, Region.binds .any e = true ∧ (e.on = k ∨ (bs.getD e.on 0).testBit k = true) := by
  unfold bsOk at h
  rw [Bool.and_eq_true] at h
  have h := h.2
  rw [List.all_eq_true] at h
  have h1 := h (o, j) (mem_zip hj)
  simp only at h1
  rw [List.all_eq_true] at h1
  have h2 := h1 k (by simpa using hb j k hk)
  rw [hk] at h2
  simp only [Bool.not_true, Bool.false_or, List.any_eq_true, Bool.and_eq_true, Bool.or_eq_true, beq_iff_eq] at h2
  obtain ⟨e, he, h3, h4⟩ := h2
  exact ⟨e, by simpa using he, h3, h4⟩

theorem bsOk_lt {ops : Array Oper} {bs : List Nat} (h : bsOk ops.toList bs = true) : ∀ j k, (bs.getD j 0).testBit k = true → k < ops.size := by
  intro j k hk
  unfold bsOk at h
  rw [Bool.and_eq_true, List.all_eq_true] at h
  rcases Nat.lt_or_ge k ops.size with h' | h'
  · exact h'
  · exfalso
    have hlt : bs.getD j 0 < 2 ^ ops.size := by
      rw [List.getD_eq_getElem?_getD]
      cases hq : bs[j]? with
      | none => exact Nat.two_pow_pos _
      | some b =>
        have := h.1 b (List.mem_of_getElem? hq)
        simpa using this
    rw [Nat.testBit_lt_two_pow (Nat.lt_of_lt_of_le hlt (Nat.pow_le_pow_right (by omega) h'))] at hk
    cases hk

theorem ready_bits {ops : Array Oper} {bs : List Nat} (hbs : bsOk ops.toList bs = true) (hb : ∀ j k, (bs.getD j 0).testBit k = true → k < ops.size) {listed : Array Bool} (hc : Cl bs listed) {j : Nat} (h : j ∈ Region.ready .any ops listed) {k : Nat} (hk : (bs.getD j 0).testBit k = true) : listed.getD k false = true := by
  obtain ⟨o, ho, _, h2⟩ := ready_spec h
  obtain ⟨e, he, h3, h4⟩ := bsOk_spec hbs hb ho hk
  rcases h4 with h4 | h4
  · rw [← h4]; exact h2 e he h3
  · exact hc _ _ (h2 e he h3) h4

theorem Cl.set {ops : Array Oper} {bs : List Nat} (hbs : bsOk ops.toList bs = true) (hb : ∀ j k, (bs.getD j 0).testBit k = true → k < ops.size) {listed : Array Bool} (hc : Cl bs listed) {j : Nat} (h : j ∈ Region.ready .any ops listed) : Cl bs (listed.setIfInBounds j true) := by
  intro x k hx hk
  by_cases hxj : j = x
  · subst hxj
    exact getD_set_true (ready_bits hbs hb hc h hk)
  · rw [getD_set_ne false hxj] at hx
    exact getD_set_true (hc x k hx hk)

theorem unl {listed : Array Bool} {i : Nat} (h : listed.getD i true = false) : listed.getD i false = false := by
  rw [Array.getD_eq_getD_getElem?] at h ⊢
  cases hq : listed[i]? with
  | none => rw [hq] at h; cases h
  | some b => rw [hq] at h; simpa using h

/-- One that may come up may be taken first. -/
theorem any_first {ops : Array Oper} {bs : List Nat} {base : Nat} {Q : St → Prop} (hbs : bsOk ops.toList bs = true) (hb : ∀ j k, (bs.getD j 0).testBit k = true → k < ops.size) (hap : apartB ops bs = true) {i : Nat} : ∀ (fuel : Nat) (listed : Array Bool) (s s1 : St), Cl bs listed → i ∈ Region.ready .any ops listed →
    stp Γ ops bs base i s = some s1 → wpAnyA Γ ops bs base Q fuel (listed.setIfInBounds i true) s1 → wpAnyA Γ ops bs base Q (fuel + 1) listed s := by
  intro fuel
  induction fuel with
  | zero =>
    intro listed s s1 hc hr h1 H
    refine ⟨fun h => (by rw [h] at hr; cases hr), fun j hj => ?_⟩
    by_cases hji : j = i
    · subst hji; exact ⟨s1, h1, H⟩
    · have := ready_mono hj hji
      rw [H.1] at this
      cases this
  | succ fuel ih =>
    intro listed s s1 hc hr h1 H
    refine ⟨fun h => (by rw [h] at hr; cases hr), fun j hj => ?_⟩
    by_cases hji : j = i
    · subst hji; exact ⟨s1, h1, H⟩
    · obtain ⟨s2, h2, h3⟩ := H.2 j (ready_mono hj hji)
      obtain ⟨x, hx, ux, _⟩ := ready_spec hr
      obtain ⟨y, hy, uy, _⟩ := ready_spec hj
      have b1 : (bs.getD i 0).testBit j = false := by
        cases hq : (bs.getD i 0).testBit j with
        | false => rfl
        | true => have := ready_bits hbs hb hc hr hq; rw [unl uy] at this; cases this
      have b2 : (bs.getD j 0).testBit i = false := by
        cases hq : (bs.getD j 0).testBit i with
        | false => rfl
        | true => have := ready_bits hbs hb hc hj hq; rw [unl ux] at this; cases this
      obtain ⟨s1', g1, g2⟩ := stp_comm hx hy (Ne.symm hji) b1 b2 (apartB_spec hap hx hy (Ne.symm hji) b1 b2) h1 h2
      refine ⟨s1', g1, ih (listed.setIfInBounds j true) s1' s2 (hc.set hbs hb hj) (ready_mono hr (Ne.symm hji)) g2 ?_⟩
      rw [Array.setIfInBounds_comm _ _ hji]
      exact h3

/-- The text's order serves every order. -/
theorem any_lex {ops : Array Oper} {bs : List Nat} {base : Nat} {K : St → Option R} {r : R} (hlex : lexOk ops.toList = true) (hbs : bsOk ops.toList bs = true) (hb : ∀ j k, (bs.getD j 0).testBit k = true → k < ops.size) (hap : apartB ops bs = true) :
    ∀ (l : List Oper) (k : Nat) (listed : Array Bool) (s : St), (∀ j, l[j]? = ops[k + j]?) → k + l.length = ops.size → (∀ j, j < ops.size → listed[j]? = some (decide (j < k))) → Cl bs listed → evD Γ ops bs base k l s K = some r →
      wpAnyA Γ ops bs base (fun s => K s = some r) l.length listed s
  | [], k, listed, s, hl, hn, hk, hc, h => by
    refine ⟨?_, h⟩
    rw [List.eq_nil_iff_forall_not_mem]
    intro j hj
    obtain ⟨o, ho, h1, _⟩ := ready_spec hj
    have hj' : j < ops.size := (Array.getElem?_eq_some_iff.1 ho).1
    rw [Array.getD_eq_getD_getElem?, hk j hj'] at h1
    simp at h1 hn
    omega
  | o :: l, k, listed, s, hl, hn, hk, hc, h => by
    have h0 : ops[k]? = some o := by simpa using (hl 0).symm
    obtain ⟨s', h1, h2⟩ := evD_stp h0 h
    have hkn : k < ops.size := (Array.getElem?_eq_some_iff.1 h0).1
    have hr : k ∈ Region.ready .any ops listed := by
      refine mem_ready.2 ⟨?_, o, h0, fun e he hbi => ?_⟩
      · rw [Array.getD_eq_getD_getElem?, hk k hkn]; simp
      · unfold lexOk at hlex
        rw [List.all_eq_true] at hlex
        have h3 := hlex (o, k) (mem_zip h0)
        simp only at h3
        rw [List.all_eq_true] at h3
        have h4 := h3 e (by simpa using he)
        rw [hbi] at h4
        have h5 : e.on < k := by simpa using h4
        rw [Array.getD_eq_getD_getElem?, hk e.on (by omega)]
        simpa using h5
    refine any_first hbs hb hap l.length listed s s' hc hr h1 (any_lex hlex hbs hb hap l (k + 1) _ s' (fun j => ?_) (by simp at hn; omega) (fun j hj => ?_) (hc.set hbs hb hr) h2)
    · have := hl (j + 1)
      simpa [Nat.add_assoc, Nat.add_comm 1 j] using this
    · have hs : k < listed.size := by
        have := hk k hkn
        exact (Array.getElem?_eq_some_iff.1 this).1
      rw [Array.getElem?_setIfInBounds]
      by_cases hjk : k = j
      · subst hjk; simp [hs]
      · rw [if_neg hjk, hk j hj]
        congr 1
        rw [decide_eq_decide]
        omega
end
end Go.Proofs.Ytbcnifnmccaleaa.Fw
