/- shape.Right, and the law's own 'right', by what the document says. -/
import Derived.Test.YtbcnifnmccaleaaYBa
namespace Go.Proofs.Ytbcnifnmccaleaa.Y
open Go Go.RowKit Go.Proofs.Ytbcnifnmccaleaa.E Go.Proofs.Ytbcnifnmccaleaa.Ma
set_option linter.unusedVariables false
set_option linter.unusedSimpArgs false

theorem abs_within {x : Int} (h : I64 x) : (abs x ≤ 274877906944) ↔ (-274877906944 ≤ x ∧ x ≤ 274877906944) := by
  unfold abs neg wh; unfold I64 at h; repeat' split
  all_goals omega
theorem within_eq {p : P2} (h : I2 p) : shape.within.f p = some (decide (Fit2 p)) := by
  obtain ⟨x, y⟩ := p
  rw [shape.within.eq, abs_eq h.1, Option.bind_some, abs_eq h.2]
  have e1 := abs_within h.1; have e2 := abs_within h.2
  simp only at e1 e2
  simp only [Bool.cond_decide, Option.bind_some, e1, e2]
  unfold Fit2
  simp only
  split
  · rename_i hc; congr 1; simp [hc]
  · rename_i hc
    have : ¬ (-274877906944 ≤ x ∧ x ≤ 274877906944 ∧ -274877906944 ≤ y ∧ y ≤ 274877906944) := fun h => hc ⟨h.1, h.2.1⟩
    simp [this]
/-- How a corner lies to a side: i, its next one q, the corner j. -/
def cr (g : Nat → P2) (i q j : Nat) : Int := cross (vsub (g q) (g i)) (vsub (g j) (g i))
def SideOk (n : Nat) (g : Nat → P2) (i : Nat) (j : Nat) : Prop := j ≠ i → j ≠ (i + 1) % n → 0 < cr g i ((i + 1) % n) j
instance (n : Nat) (g : Nat → P2) (i j : Nat) : Decidable (SideOk n g i j) := by unfold SideOk; infer_instance
/-- A polygon may be. -/
def PolyOk (n : Nat) (g : Nat → P2) : Prop := ∀ i, i < n → Fit2 (g i) ∧ ∀ j, j < n → SideOk n g i j
def RightP (kd r : Int) (n : Nat) (g : Nat → P2) : Prop :=
  if kd = 1 then n = 0 ∧ 16777216 ≤ r ∧ r ≤ 274877906944 else kd = 2 ∧ r = 0 ∧ 3 ≤ n ∧ n ≤ 8 ∧ PolyOk n g
instance (n : Nat) (g : Nat → P2) : Decidable (PolyOk n g) := by unfold PolyOk; infer_instance
instance (kd r : Int) (n : Nat) (g : Nat → P2) : Decidable (RightP kd r n g) := by unfold RightP; infer_instance

section
variable {n : Nat} {g : Nat → P2} {r : Int}
noncomputable def L1 (n : Nat) (g : Nat → P2) (r : Int) (k0 k1 i : Nat) : Option Bool := shape.Right.l1 k0 k1 2 r n (fun i => Rii.enc (g i)) n n (fun i => Rii.enc (g i)) n i
noncomputable def L2 (n : Nat) (g : Nat → P2) (r : Int) (k0 k1 K i j : Nat) : Option Bool :=
  shape.Right.l2 k0 k1 K 2 r n (fun i => Rii.enc (g i)) (g i).1 (g i).2 n i (((i + 1) % n : Nat) : Int) n (fun i => Rii.enc (g i)) n n j
theorem L2_step (hn : 3 ≤ n) (hn8 : n ≤ 8) (hw : ∀ i, i < n → I2 (g i)) (k0 k1 K : Nat) {i j : Nat} (hi : i < n) (hj : j < n) :
    L2 n g r k0 k1 (K + 1) i j = if j = i ∨ j = (i + 1) % n then L2 n g r k0 k1 K i (j + 1) else if cr g i ((i + 1) % n) j ≤ 0 then some false else if n = 3 then L1 n g r k0 k1 (i + 1) else L2 n g r k0 k1 K i (j + 1) := by
  have hq : (i + 1) % n < n := Nat.mod_lt _ (by omega)
  unfold L2 L1
  rw [shape.Right.l2_eq]
  simp only [Bool.cond_decide, ix_ok hj, ix_ok hq, cond_true, Int.toNat_natCast, wsucc hj (by omega), wsucc hi (by omega)]
  rw [if_pos (by omega)]
  rw [vsub_eq (a := g ((i + 1) % n)) (b := g i) (hw _ hq) (hw _ hi), Option.bind_some, vsub_eq (a := g j) (b := g i) (hw _ hj) (hw _ hi), Option.bind_some, cross_eq (vsub_s _ _).i (vsub_s _ _).i, Option.bind_some]
  have e1 : ((j : Int) == (i : Int)) = decide (j = i) := natb _ _
  have e2 : ((j : Int) == (((i + 1) % n : Nat) : Int)) = decide (j = (i + 1) % n) := natb _ _
  have e3 : ((n : Int) == 3) = decide (n = 3) := by rw [Bool.eq_iff_iff]; simp; omega
  rw [e1, e2, e3]
  simp only [Bool.cond_decide]
  unfold cr
  by_cases h1 : j = i
  · simp [h1]
  · by_cases h2 : j = (i + 1) % n
    · simp [h2]
    · simp [h1, h2]
theorem L2_end (k0 k1 K : Nat) {i : Nat} (hi : i < n) (hn8 : n ≤ 8) : L2 n g r k0 k1 (K + 1) i n = L1 n g r k0 k1 (i + 1) := by
  unfold L2 L1
  rw [shape.Right.l2_eq]
  simp only [Bool.cond_decide, wsucc hi (by omega)]
  rw [if_neg (by omega)]
theorem right_l2 (hn : 3 ≤ n) (hn8 : n ≤ 8) (hw : ∀ i, i < n → I2 (g i)) (k0 k1 : Nat) {i : Nat} (hi : i < n) : ∀ (d j K : Nat), j + d = n → d < K →
    ((∀ j', j ≤ j' → j' < n → SideOk n g i j') → L2 n g r k0 k1 K i j = L1 n g r k0 k1 (i + 1)) ∧
    (¬ (∀ j', j ≤ j' → j' < n → SideOk n g i j') → L2 n g r k0 k1 K i j = some false)
  | 0, j, K, hd, hK => by
    obtain ⟨K, rfl⟩ : ∃ m, K = m + 1 := ⟨K - 1, by omega⟩
    have : j = n := by omega
    subst this
    exact ⟨fun _ => L2_end k0 k1 K hi hn8, fun h => absurd (fun j' h1 h2 => absurd h2 (by omega)) h⟩
  | d + 1, j, K, hd, hK => by
    obtain ⟨K, rfl⟩ : ∃ m, K = m + 1 := ⟨K - 1, by omega⟩
    have hj : j < n := by omega
    obtain ⟨ih1, ih2⟩ := right_l2 hn hn8 hw k0 k1 hi d (j + 1) K (by omega) (by omega)
    rw [L2_step hn hn8 hw k0 k1 K hi hj]
    have split : (∀ j', j ≤ j' → j' < n → SideOk n g i j') ↔ SideOk n g i j ∧ ∀ j', j + 1 ≤ j' → j' < n → SideOk n g i j' := by
      constructor
      · exact fun h => ⟨h j (Nat.le_refl _) hj, fun j' h1 h2 => h j' (by omega) h2⟩
      · intro h j' h1 h2
        by_cases e : j' = j
        · subst e; exact h.1
        · exact h.2 j' (by omega) h2
    rw [split]
    by_cases h1 : j = i ∨ j = (i + 1) % n
    · rw [if_pos h1]
      have : SideOk n g i j := by unfold SideOk; omega
      exact ⟨fun h => ih1 h.2, fun h => ih2 fun h' => h ⟨this, h'⟩⟩
    · rw [if_neg h1]
      by_cases h2 : cr g i ((i + 1) % n) j ≤ 0
      · rw [if_pos h2]
        have : ¬ SideOk n g i j := fun h => by have := h (by omega) (by omega); omega
        exact ⟨fun h => absurd h.1 this, fun _ => rfl⟩
      · rw [if_neg h2]
        have : SideOk n g i j := fun _ _ => by omega
        by_cases h3 : n = 3
        · rw [if_pos h3]
          have rest : ∀ j', j + 1 ≤ j' → j' < n → SideOk n g i j' := by
            intro j' g1 g2 g3 g4
            exfalso
            subst h3
            have : i = 0 ∨ i = 1 ∨ i = 2 := by omega
            rcases this with rfl | rfl | rfl <;> simp at * <;> omega
          exact ⟨fun _ => rfl, fun h => absurd ⟨this, rest⟩ h⟩
        · rw [if_neg h3]
          exact ⟨fun h => ih1 h.2, fun h => ih2 fun h' => h ⟨this, h'⟩⟩
theorem L1_step (hn : 3 ≤ n) (hn8 : n ≤ 8) (k0 K : Nat) {i : Nat} (hi : i < n) : L1 n g r k0 (K + 1) i = L2 n g r k0 K k0 i 0 := by
  unfold L2 L1
  rw [shape.Right.l1_eq]
  simp only [Bool.cond_decide, ix_ok hi, cond_true, Int.toNat_natCast, tmod_next hi (by omega)]
  rw [if_pos (by omega), if_pos (by omega)]; rfl
theorem L1_end (k0 K : Nat) : L1 n g r k0 (K + 1) n = some true := by
  unfold L1
  rw [shape.Right.l1_eq]
  simp only [Bool.cond_decide]
  rw [if_neg (by omega)]
theorem right_l1 (hn : 3 ≤ n) (hn8 : n ≤ 8) (hw : ∀ i, i < n → I2 (g i)) {k0 : Nat} (hk : 9 ≤ k0) : ∀ (d i K : Nat), i + d = n → d < K →
    ((∀ i', i ≤ i' → i' < n → ∀ j, j < n → SideOk n g i' j) → L1 n g r k0 K i = some true) ∧ (¬ (∀ i', i ≤ i' → i' < n → ∀ j, j < n → SideOk n g i' j) → L1 n g r k0 K i = some false)
  | 0, i, K, hd, hK => by
    obtain ⟨K, rfl⟩ : ∃ m, K = m + 1 := ⟨K - 1, by omega⟩
    have : i = n := by omega
    subst this
    exact ⟨fun _ => L1_end k0 K, fun h => absurd (fun i' h1 h2 => absurd h2 (by omega)) h⟩
  | d + 1, i, K, hd, hK => by
    obtain ⟨K, rfl⟩ : ∃ m, K = m + 1 := ⟨K - 1, by omega⟩
    have hi : i < n := by omega
    obtain ⟨ih1, ih2⟩ := right_l1 hn hn8 hw hk d (i + 1) K (by omega) (by omega)
    obtain ⟨l1, l2⟩ := right_l2 (r := r) hn hn8 hw k0 K hi n 0 k0 (by omega) (by omega)
    rw [L1_step hn hn8 k0 K hi]
    have split : (∀ i', i ≤ i' → i' < n → ∀ j, j < n → SideOk n g i' j) ↔ (∀ j, 0 ≤ j → j < n → SideOk n g i j) ∧ ∀ i', i + 1 ≤ i' → i' < n → ∀ j, j < n → SideOk n g i' j := by
      constructor
      · exact fun h => ⟨fun j _ hj => h i (Nat.le_refl _) hi j hj, fun i' h1 h2 => h i' (by omega) h2⟩
      · intro h i' h1 h2 j hj
        by_cases e : i' = i
        · subst e; exact h.1 j (by omega) hj
        · exact h.2 i' (by omega) h2 j hj
    rw [split]
    by_cases h1 : ∀ j, 0 ≤ j → j < n → SideOk n g i j
    · rw [l1 h1]
      exact ⟨fun h => ih1 h.2, fun h => ih2 fun h' => h ⟨h1, h'⟩⟩
    · rw [l2 h1]
      exact ⟨fun h => absurd h.1 h1, fun _ => rfl⟩
noncomputable def L0 (n : Nat) (g : Nat → P2) (r : Int) (k0 K i : Nat) : Option Bool := shape.Right.l0 k0 K 2 r n (fun i => Rii.enc (g i)) n i
theorem right_l0 (hn : 3 ≤ n) (hn8 : n ≤ 8) (hw : ∀ i, i < n → I2 (g i)) {k0 : Nat} (hk : 9 ≤ k0) : ∀ (d i K : Nat), i + d = n → d < K →
    ((∀ i', i ≤ i' → i' < n → Fit2 (g i')) → L0 n g r k0 K i = L1 n g r k0 k0 0) ∧ (¬ (∀ i', i ≤ i' → i' < n → Fit2 (g i')) → L0 n g r k0 K i = some false)
  | 0, i, K, hd, hK => by
    obtain ⟨K, rfl⟩ : ∃ m, K = m + 1 := ⟨K - 1, by omega⟩
    have : i = n := by omega
    subst this
    refine ⟨fun _ => ?_, fun h => absurd (fun i' h1 h2 => absurd h2 (by omega)) h⟩
    unfold L0 L1
    rw [shape.Right.l0_eq]
    simp only [Bool.cond_decide]
    rw [if_neg (by omega)]; rfl
  | d + 1, i, K, hd, hK => by
    obtain ⟨K, rfl⟩ : ∃ m, K = m + 1 := ⟨K - 1, by omega⟩
    have hi : i < n := by omega
    obtain ⟨ih1, ih2⟩ := right_l0 hn hn8 hw hk d (i + 1) K (by omega) (by omega)
    have e : L0 n g r k0 (K + 1) i = if Fit2 (g i) then L0 n g r k0 K (i + 1) else some false := by
      unfold L0
      rw [shape.Right.l0_eq]
      simp only [Bool.cond_decide, ix_ok hi, cond_true, Int.toNat_natCast, wsucc hi (by omega)]
      rw [if_pos (by omega), within_eq (p := g i) (hw i hi), Option.bind_some]
      by_cases hf : Fit2 (g i) <;> simp [hf]
    rw [e]
    have split : (∀ i', i ≤ i' → i' < n → Fit2 (g i')) ↔ Fit2 (g i) ∧ ∀ i', i + 1 ≤ i' → i' < n → Fit2 (g i') := by
      constructor
      · exact fun h => ⟨h i (Nat.le_refl _) hi, fun i' h1 h2 => h i' (by omega) h2⟩
      · intro h i' h1 h2
        by_cases e : i' = i
        · subst e; exact h.1
        · exact h.2 i' (by omega) h2
    rw [split]
    by_cases h1 : Fit2 (g i)
    · rw [if_pos h1]
      exact ⟨fun h => ih1 h.2, fun h => ih2 fun h' => h ⟨h1, h'⟩⟩
    · rw [if_neg h1]
      exact ⟨fun h => absurd h.1 h1, fun _ => rfl⟩
theorem Right_eq (kd r : Int) (n : Nat) (g : Nat → P2) (hw : ∀ i, i < n → I2 (g i)) : shape.Right.f (kd, r, (n, fun i => Rii.enc (g i))) = some (decide (RightP kd r n g)) := by
  show shape.Right.g 1000000 _ = _
  rw [shape.Right.eq]
  unfold RightP
  by_cases h1 : kd = 1
  · subst h1
    simp only [BEq.rfl, cond_true, if_pos]
    by_cases h2 : n = 0
    · subst h2
      by_cases h3 : r ≥ 16777216 <;> simp [h3]
      all_goals first | omega | (intro; omega)
    · have : ((n : Int) == 0) = false := by simp; omega
      simp [this, h2]
  · have e1 : (kd == 1) = false := by simpa using h1
    simp only [e1, cond_false, if_neg h1]
    by_cases h2 : kd = 2
    · subst h2
      by_cases h3 : r = 0
      · subst h3
        simp only [bne_self_eq_false, cond_false, Bool.cond_decide]
        by_cases h4 : 3 ≤ n
        · by_cases h5 : n ≤ 8
          · rw [if_neg (by omega), if_neg (by omega)]
            obtain ⟨a1, a2⟩ := right_l0 (r := 0) h4 h5 hw (k0 := 1000000) (by omega) n 0 1000000 (by omega) (by omega)
            obtain ⟨b1, b2⟩ := right_l1 (r := 0) h4 h5 hw (k0 := 1000000) (by omega) n 0 1000000 (by omega) (by omega)
            have e : shape.Right.l0 1000000 1000000 2 0 n (fun i => Rii.enc (g i)) n 0 = L0 n g 0 1000000 1000000 0 := rfl
            rw [e]
            by_cases hf : ∀ i', 0 ≤ i' → i' < n → Fit2 (g i')
            · rw [a1 hf]
              by_cases hs : ∀ i', 0 ≤ i' → i' < n → ∀ j, j < n → SideOk n g i' j
              · rw [b1 hs]
                have : PolyOk n g := fun i hi => ⟨hf i (by omega) hi, fun j hj => hs i (by omega) hi j hj⟩
                simp [this, h4, h5]
              · rw [b2 hs]
                have : ¬ PolyOk n g := fun h => hs fun i _ hi j hj => (h i hi).2 j hj
                simp [this]
            · rw [a2 hf]
              have : ¬ PolyOk n g := fun h => hf fun i _ hi => (h i hi).1
              simp [this]
          · rw [if_neg (by omega), if_pos (by omega)]; simp [h5]
        · rw [if_pos (by omega)]; simp [h4]
      · have : (r != 0) = true := by simpa using h3
        simp [this, h3]
    · have : (kd != 2) = true := by simpa using h2
      simp [this, h2]
end
end Go.Proofs.Ytbcnifnmccaleaa.Y
