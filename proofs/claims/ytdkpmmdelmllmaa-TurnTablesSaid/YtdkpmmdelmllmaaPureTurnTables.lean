/- For all numbers c and s and every n: Tabled accepts exactly the 1024 rotations; no condition. -/
import Derived.OpenShut
import Derived.Test.YtdkpmmdelmllmaaPTux2
import Derived.Test.YtdkpmmdelmllmaaPTux4
import Derived.Test.YtdkpmmdelmllmaaTm
namespace Go.Proofs.Ytdkpmmdelmllmaa.Pure
open Go.RowKit Go.Proofs.YtdkpmmdelmllmaaW.PrintWords Go.Proofs.YtdkpmmdelmllmaaW.PrintLast Go.Proofs.YtdkpmmdelmllmaaW.PrintMore Go.Proofs.Ytdkpmmdelmllmaa.PTu Go.Proofs.Ytdkpmmdelmllmaa.Ma Go.Proofs.Ytdkpmmdelmllmaa.Tm

theorem fit_eq {k : Nat} (hk : 2 ≤ k) : bagatellelaw02_fit.f k = some true := by
  unfold bagatellelaw02_fit.f
  rw [Of_eq hk, Option.bind_some, Step_eq, Option.bind_some]
  decide +kernel
/-- A pair of numbers is the rotation of a step from i on. -/
def from_ (c s : Int) : Nat → Int → Bool
  | 0, _ => false
  | d + 1, i => (sn (i + 256) == c && sn i == s) || from_ c s d (i + 1)
theorem tabled_loop (c s : Int) : ∀ (d : Nat) (i : Int) (k : Nat), 0 ≤ i → i + d = 1024 → d + 4 < k → turn_Tabled.l0 k i c s = some (from_ c s d i) := by
  intro d
  induction d with
  | zero =>
    intro i k h0 h1 hk
    obtain ⟨k, rfl⟩ : ∃ m, k = m + 1 := ⟨k - 1, by omega⟩
    simp only [turn_Tabled.l0]
    rw [if_neg (by omega)]; rfl
  | succ d ih =>
    intro i k h0 h1 hk
    obtain ⟨k, rfl⟩ : ∃ m, k = m + 1 := ⟨k - 1, by omega⟩
    simp only [turn_Tabled.l0, from_]
    rw [if_pos (by omega), v64 (x := i + 256) (by unfold I64; omega), sine_eq (by omega), Option.bind_some, sine_eq (by omega), Option.bind_some, v64 (x := i + 1) (by unfold I64; omega), ih (i + 1) k (by omega) (by omega) (by omega)]
    by_cases h2 : sn (i + 256) = c
    · rw [if_pos h2]
      by_cases h3 : sn i = s
      · rw [if_pos h3]; simp [h2, h3]
      · rw [if_neg h3]; simp [h3]
    · rw [if_neg h2]; simp [h2]
theorem tabled_eq {k : Nat} (hk : 1030 ≤ k) (c s : Int) : turn_Tabled.f k c s = some (from_ c s 1024 0) := tabled_loop c s 1024 0 k (by omega) (by omega) (by omega)
theorem from_true (c s : Int) : ∀ (d : Nat) (i : Int), from_ c s d i = true ↔ ∃ j : Nat, j < d ∧ sn (i + j + 256) = c ∧ sn (i + j) = s := by
  intro d
  induction d with
  | zero => intro i; simp [from_]
  | succ d ih =>
    intro i
    simp only [from_, Bool.or_eq_true, Bool.and_eq_true, beq_iff_eq, ih]
    constructor
    · rintro (⟨h1, h2⟩ | ⟨j, hj, h1, h2⟩)
      · exact ⟨0, by omega, by simpa using h1, by simpa using h2⟩
      · exact ⟨j + 1, by omega, by rw [← h1]; congr 1; omega, by rw [← h2]; congr 1; omega⟩
    · rintro ⟨j, hj, h1, h2⟩
      cases j with
      | zero => exact .inl ⟨by simpa using h1, by simpa using h2⟩
      | succ j => exact .inr ⟨j, by omega, by rw [← h1]; congr 1; omega, by rw [← h2]; congr 1; omega⟩
theorem doc_sine {n : Int} (h0 : 0 ≤ n) (h1 : n < 1024) : bagatellelaw02_sine.f n = some (sn n) := by
  unfold bagatellelaw02_sine.f sn qh
  rw [show n % 1024 = n by omega]
  by_cases c1 : n ≤ 256
  · rw [if_pos c1, if_pos (by omega), if_pos c1, Sine_eq h0 c1, Option.bind_some]
  · rw [if_neg c1]
    by_cases c2 : n ≤ 512
    · rw [if_pos c2, if_pos c2, if_neg c1, v64 (by unfold I64; omega), Sine_eq (by omega) (by omega), Option.bind_some]
    · rw [if_neg c2, if_neg c2]
      by_cases c3 : n ≤ 768
      · have := tb_b (n := n - 512) (by omega) (by omega)
        rw [if_pos c3, if_pos (by omega), v64 (x := n - 512) (by unfold I64; omega), Sine_eq (by omega) (by omega), Option.bind_some, v64 (by unfold I64; omega)]
      · have := tb_b (n := 1024 - n) (by omega) (by omega)
        rw [if_neg c3, if_neg (by omega), v64 (x := 1024 - n) (by unfold I64; omega), Sine_eq (by omega) (by omega), Option.bind_some, v64 (by unfold I64; omega)]
        congr 3; omega
theorem want_loop (c s : Int) (W : Bool) (hT : ∀ k, 1030 ≤ k → turn_Tabled.f k c s = some W) : ∀ (d : Nat) (i : Int) (want : Bool) (k : Nat), 0 ≤ i → i + d = 1024 → d + 1040 < k → (want || from_ c s d i) = W → bagatellelaw02_TurnTables.l0 k c s want i = some true := by
  intro d
  induction d with
  | zero =>
    intro i want k h0 h1 hk hw
    obtain ⟨k, rfl⟩ : ∃ m, k = m + 1 := ⟨k - 1, by omega⟩
    simp only [bagatellelaw02_TurnTables.l0]
    rw [if_neg (by omega), hT _ (by omega), Option.bind_some, ← hw]
    simp [from_]
  | succ d ih =>
    intro i want k h0 h1 hk hw
    obtain ⟨k, rfl⟩ : ∃ m, k = m + 1 := ⟨k - 1, by omega⟩
    simp only [bagatellelaw02_TurnTables.l0]
    simp only [from_] at hw
    rw [if_pos (by omega), v64 (x := i + 1) (by unfold I64; omega)]
    cases want with
    | true => rw [if_pos rfl]; exact ih (i + 1) true k (by omega) (by omega) (by omega) (by simpa using hw)
    | false =>
      rw [if_neg (by decide), doc_sine h0 (by omega), Option.bind_some]
      by_cases h2 : sn i = s
      · have e : sn (Int.tmod (i + 256) 1024) = sn (i + 256) := by rw [Int.tmod_eq_emod_of_nonneg (by omega), sn_mod]
        rw [if_pos h2, v64 (x := i + 256) (by unfold I64; omega), doc_sine (by rw [Int.tmod_eq_emod_of_nonneg (by omega)]; omega) (by rw [Int.tmod_eq_emod_of_nonneg (by omega)]; omega), Option.bind_some, e]
        refine ih (i + 1) _ k (by omega) (by omega) (by omega) ?_
        rw [← hw]; simp [h2]
      · rw [if_neg h2]
        refine ih (i + 1) _ k (by omega) (by omega) (by omega) ?_
        rw [← hw]; simp [h2]
theorem TurnTables : bagatellelaw02_TurnTables.Pure := by
  intro c s n _ _ _
  refine ⟨2100, ?_⟩
  have hm : 0 ≤ n % 1024 ∧ n % 1024 < 1024 := by omega
  have fin : bagatellelaw02_TurnTables.j0 2100 c s false = some true := by
    have : bagatellelaw02_TurnTables.j0 2100 c s false = bagatellelaw02_TurnTables.l0 2099 c s false 0 := by simp only [bagatellelaw02_TurnTables.j0]; rw [if_neg (by decide)]
    rw [this]
    exact want_loop c s _ (fun k hk => tabled_eq hk c s) 1024 0 false 2099 (by omega) (by omega) (by omega) (Bool.false_or _)
  unfold bagatellelaw02_TurnTables.f
  rw [fit_eq (by omega), Option.bind_some, if_pos rfl, m10]
  generalize n % 1024 = m at *
  have s1 : stp (m * 4194304) = m := by unfold stp; omega
  have b1 := sn_b m; have b2 := sn_b (m + 256)
  rw [v64 (x := m * 4194304) (by unfold I64; omega), Of_eq (by omega), Option.bind_some, s1]
  simp only
  rw [v64 (x := sn m + 1) (by unfold I64; omega), v64 (x := sn (m + 256) - 3) (by unfold I64; omega), tabled_eq (by omega), tabled_eq (by omega), tabled_eq (by omega), Option.bind_some, Option.bind_some, Option.bind_some]
  have t1 : from_ (sn (m + 256)) (sn m) 1024 0 = true := (from_true _ _ _ _).2 ⟨m.toNat, by omega, by congr 1; omega, by congr 1; omega⟩
  have t2 : from_ (sn (m + 256)) (sn m + 1) 1024 0 = false := by
    rw [Bool.eq_false_iff]; intro h
    obtain ⟨j, _, h1, h2⟩ := (from_true _ _ _ _).1 h
    have := size_of_cos (.inl h1)
    omega
  have t3 : from_ (sn (m + 256) - 3) (sn m) 1024 0 = false := by
    rw [Bool.eq_false_iff]; intro h
    obtain ⟨j, _, h1, h2⟩ := (from_true _ _ _ _).1 h
    have := size_of_sin h2
    omega
  rw [t1, t2, t3, if_pos rfl, if_neg (by decide)]
  exact fin

end Go.Proofs.Ytdkpmmdelmllmaa.Pure
