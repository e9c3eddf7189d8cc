/- The law's own 'right' (package bagatellelaw04) says the same. -/
import Derived.Test.YtbdkcjikphlgfaaYRi
namespace Go.Proofs.Ytbdkcjikphlgfaa.Y
open Go Go.RowKit Go.Proofs.Ytbdkcjikphlgfaa.E Go.Proofs.Ytbdkcjikphlgfaa.Ma
set_option linter.unusedVariables false
set_option linter.unusedSimpArgs false

section
variable {n : Nat} {g : Nat → P2} {r : Int}
noncomputable def M0 (n : Nat) (g : Nat → P2) (r : Int) (k0 K i : Nat) : Option Bool := law04.right.l0 k0 K 2 r n (fun i => Rii.enc (g i)) n n (fun i => Rii.enc (g i)) n i
noncomputable def M1 (n : Nat) (g : Nat → P2) (r : Int) (k0 k1 K i j : Nat) : Option Bool :=
  law04.right.l1 k0 k1 K 2 r n (fun i => Rii.enc (g i)) (g i).1 (g i).2 (g ((i + 1) % n)).1 (g ((i + 1) % n)).2 n i n (fun i => Rii.enc (g i)) n n j
theorem M1_step (hn : 3 ≤ n) (hn8 : n ≤ 8) (hw : ∀ i, i < n → I2 (g i)) (k0 k1 K : Nat) {i j : Nat} (hi : i < n) (hj : j < n) :
    M1 n g r k0 k1 (K + 1) i j = if SideOk n g i j then M1 n g r k0 k1 K i (j + 1) else some false := by
  have hq : (i + 1) % n < n := Nat.mod_lt _ (by omega)
  unfold M1
  rw [law04.right.l1_eq]
  simp only [tmod_next hi (show n ≤ 1000 by omega)]
  simp only [Bool.cond_decide, ix_ok hj, cond_true, Int.toNat_natCast, wsucc hj (show n ≤ 1000 by omega), bne, natb]
  rw [if_pos (by omega)]
  rw [vsub_eq (a := g ((i + 1) % n)) (b := g i) (hw _ hq) (hw _ hi), Option.bind_some, vsub_eq (a := g j) (b := g i) (hw _ hj) (hw _ hi), Option.bind_some, cross_eq (vsub_s _ _).i (vsub_s _ _).i, Option.bind_some]
  have h0 : ((n : Int) ≠ 0) := by omega
  by_cases h1 : j = i
  · rw [if_pos (show SideOk n g i j from fun h => absurd h1 h)]; simp [h1]
  · have h1' : decide (j = i) = false := decide_eq_false h1
    by_cases h2 : j = (i + 1) % n
    · have h2' : decide (j = (i + 1) % n) = true := decide_eq_true h2
      rw [h1', h2', if_pos h0, if_pos (show SideOk n g i j from fun _ h => absurd h2 h)]; rfl
    · have h2' : decide (j = (i + 1) % n) = false := decide_eq_false h2
      rw [h1', h2', if_pos h0]
      by_cases h3 : cross (vsub (g ((i + 1) % n)) (g i)) (vsub (g j) (g i)) ≤ 0
      · have : ¬ SideOk n g i j := fun h => by have := h h1 h2; unfold cr at this; omega
        rw [if_pos h3, if_neg this]; rfl
      · rw [if_neg h3, if_pos (show SideOk n g i j from fun _ _ => by unfold cr; omega)]; rfl
theorem M1_end (k0 k1 K : Nat) {i : Nat} (hi : i < n) (hn8 : n ≤ 8) : M1 n g r k0 k1 (K + 1) i n = M0 n g r k0 k1 (i + 1) := by
  unfold M1 M0
  rw [law04.right.l1_eq]
  simp only [Bool.cond_decide, wsucc hi (show n ≤ 1000 by omega)]
  rw [if_neg (by omega)]
theorem m1 (hn : 3 ≤ n) (hn8 : n ≤ 8) (hw : ∀ i, i < n → I2 (g i)) (k0 k1 : Nat) {i : Nat} (hi : i < n) : ∀ (d j K : Nat), j + d = n → d < K →
    ((∀ j', j ≤ j' → j' < n → SideOk n g i j') → M1 n g r k0 k1 K i j = M0 n g r k0 k1 (i + 1)) ∧
    (¬ (∀ j', j ≤ j' → j' < n → SideOk n g i j') → M1 n g r k0 k1 K i j = some false)
  | 0, j, K, hd, hK => by
    obtain ⟨K, rfl⟩ : ∃ m, K = m + 1 := ⟨K - 1, by omega⟩
    have : j = n := by omega
    subst this
    exact ⟨fun _ => M1_end k0 k1 K hi hn8, fun h => absurd (fun j' h1 h2 => absurd h2 (by omega)) h⟩
  | d + 1, j, K, hd, hK => by
    obtain ⟨K, rfl⟩ : ∃ m, K = m + 1 := ⟨K - 1, by omega⟩
    have hj : j < n := by omega
    obtain ⟨ih1, ih2⟩ := m1 hn hn8 hw k0 k1 hi d (j + 1) K (by omega) (by omega)
    rw [M1_step hn hn8 hw k0 k1 K hi hj]
    have split : (∀ j', j ≤ j' → j' < n → SideOk n g i j') ↔ SideOk n g i j ∧ ∀ j', j + 1 ≤ j' → j' < n → SideOk n g i j' := by
      constructor
      · exact fun h => ⟨h j (Nat.le_refl _) hj, fun j' h1 h2 => h j' (by omega) h2⟩
      · intro h j' h1 h2
        by_cases e : j' = j
        · subst e; exact h.1
        · exact h.2 j' (by omega) h2
    rw [split]
    by_cases h1 : SideOk n g i j
    · rw [if_pos h1]
      exact ⟨fun h => ih1 h.2, fun h => ih2 fun h' => h ⟨h1, h'⟩⟩
    · rw [if_neg h1]
      exact ⟨fun h => absurd h.1 h1, fun _ => rfl⟩
theorem M0_step (hn : 3 ≤ n) (hn8 : n ≤ 8) (k0 K : Nat) {i : Nat} (hi : i < n) : M0 n g r k0 (K + 1) i = if Fit2 (g i) then M1 n g r k0 K k0 i 0 else some false := by
  have hq : (i + 1) % n < n := Nat.mod_lt _ (by omega)
  unfold M1 M0
  rw [law04.right.l0_eq]
  simp only [tmod_next hi (show n ≤ 1000 by omega)]
  simp only [Bool.cond_decide, ix_ok hi, ix_ok hq, cond_true, Int.toNat_natCast]
  rw [if_pos (by omega), if_pos (show (n : Int) ≠ 0 by omega)]
  by_cases hf : Fit2 (g i)
  · rw [if_pos hf]; unfold Fit2 at hf
    repeat' split
    all_goals first | rfl | (exfalso; omega)
  · rw [if_neg hf]; unfold Fit2 at hf
    repeat' split
    all_goals first | rfl | (exfalso; omega)
theorem M0_end (k0 K : Nat) : M0 n g r k0 (K + 1) n = some true := by
  unfold M0
  rw [law04.right.l0_eq]
  simp only [Bool.cond_decide]
  rw [if_neg (by omega)]
theorem m0 (hn : 3 ≤ n) (hn8 : n ≤ 8) (hw : ∀ i, i < n → I2 (g i)) {k0 : Nat} (hk : 9 ≤ k0) : ∀ (d i K : Nat), i + d = n → d < K →
    ((∀ i', i ≤ i' → i' < n → Fit2 (g i') ∧ ∀ j, j < n → SideOk n g i' j) → M0 n g r k0 K i = some true) ∧ (¬ (∀ i', i ≤ i' → i' < n → Fit2 (g i') ∧ ∀ j, j < n → SideOk n g i' j) → M0 n g r k0 K i = some false)
  | 0, i, K, hd, hK => by
    obtain ⟨K, rfl⟩ : ∃ m, K = m + 1 := ⟨K - 1, by omega⟩
    have : i = n := by omega
    subst this
    exact ⟨fun _ => M0_end k0 K, fun h => absurd (fun i' h1 h2 => absurd h2 (by omega)) h⟩
  | d + 1, i, K, hd, hK => by
    obtain ⟨K, rfl⟩ : ∃ m, K = m + 1 := ⟨K - 1, by omega⟩
    have hi : i < n := by omega
    obtain ⟨ih1, ih2⟩ := m0 hn hn8 hw hk d (i + 1) K (by omega) (by omega)
    obtain ⟨l1, l2⟩ := m1 (r := r) hn hn8 hw k0 K hi n 0 k0 (by omega) (by omega)
    rw [M0_step hn hn8 k0 K hi]
    have split : (∀ i', i ≤ i' → i' < n → Fit2 (g i') ∧ ∀ j, j < n → SideOk n g i' j) ↔ (Fit2 (g i) ∧ ∀ j, 0 ≤ j → j < n → SideOk n g i j) ∧ ∀ i', i + 1 ≤ i' → i' < n → Fit2 (g i') ∧ ∀ j, j < n → SideOk n g i' j := by
      constructor
      · exact fun h => ⟨⟨(h i (Nat.le_refl _) hi).1, fun j _ hj => (h i (Nat.le_refl _) hi).2 j hj⟩, fun i' h1 h2 => h i' (by omega) h2⟩
      · intro h i' h1 h2
        by_cases e : i' = i
        · subst e; exact ⟨h.1.1, fun j hj => h.1.2 j (by omega) hj⟩
        · exact h.2 i' (by omega) h2
    rw [split]
    by_cases hf : Fit2 (g i)
    · rw [if_pos hf]
      by_cases h1 : ∀ j, 0 ≤ j → j < n → SideOk n g i j
      · rw [l1 h1]
        exact ⟨fun h => ih1 h.2, fun h => ih2 fun h' => h ⟨⟨hf, h1⟩, h'⟩⟩
      · rw [l2 h1]
        exact ⟨fun h => absurd h.1.2 h1, fun _ => rfl⟩
    · rw [if_neg hf]
      exact ⟨fun h => absurd h.1.1 hf, fun _ => rfl⟩
theorem right_eq (kd r : Int) (n : Nat) (g : Nat → P2) (hw : ∀ i, i < n → I2 (g i)) : law04.right.f (kd, r, (n, fun i => Rii.enc (g i))) = some (decide (RightP kd r n g)) := by
  show law04.right.g 1000000 _ = _
  rw [law04.right.eq]
  unfold RightP
  by_cases h1 : kd = 1
  · subst h1
    simp only [BEq.rfl, cond_true, if_pos]
    by_cases h2 : n = 0
    · subst h2
      by_cases h3 : r ≥ 16777216 <;> simp [h3]
      all_goals first | omega | (intro; omega)
    · have : ((n : Int) == 0) = false := by simp; omega
      simp [this, h2]
  · have e1 : (kd == 1) = false := by simpa using h1
    simp only [e1, cond_false, if_neg h1]
    by_cases h2 : kd = 2
    · subst h2
      by_cases h3 : r = 0
      · subst h3
        simp only [bne_self_eq_false, cond_false, Bool.cond_decide]
        by_cases h4 : 3 ≤ n
        · by_cases h5 : n ≤ 8
          · rw [if_neg (by omega), if_neg (by omega)]
            obtain ⟨a1, a2⟩ := m0 (r := 0) h4 h5 hw (k0 := 1000000) (by omega) n 0 1000000 (by omega) (by omega)
            have e : law04.right.l0 1000000 1000000 2 0 n (fun i => Rii.enc (g i)) n n (fun i => Rii.enc (g i)) n 0 = M0 n g 0 1000000 1000000 0 := rfl
            rw [e]
            by_cases hf : ∀ i', 0 ≤ i' → i' < n → Fit2 (g i') ∧ ∀ j, j < n → SideOk n g i' j
            · rw [a1 hf]
              have : PolyOk n g := fun i hi => hf i (by omega) hi
              simp [this, h4, h5]
            · rw [a2 hf]
              have : ¬ PolyOk n g := fun h => hf fun i _ hi => h i hi
              simp [this]
          · rw [if_neg (by omega), if_pos (by omega)]; simp [h5]
        · rw [if_pos (by omega)]; simp [h4]
      · have : (r != 0) = true := by simpa using h3
        simp [this, h3]
    · have : (kd != 2) = true := by simpa using h2
      simp [this, h2]
end
end Go.Proofs.Ytbdkcjikphlgfaa.Y
