/- Small words: numbers of rows, corners that are not far. -/
import Derived.Test.YtbcnifnmccaleaaYVs
namespace Go.Proofs.Ytbcnifnmccaleaa.Y
open Go Go.RowKit Go.Proofs.Ytbcnifnmccaleaa.E Go.Proofs.Ytbcnifnmccaleaa.Ma
set_option linter.unusedVariables false
set_option linter.unusedSimpArgs false

def Fit2 (p : P2) : Prop := -274877906944 ≤ p.1 ∧ p.1 ≤ 274877906944 ∧ -274877906944 ≤ p.2 ∧ p.2 ≤ 274877906944
instance (p : P2) : Decidable (Fit2 p) := by unfold Fit2; infer_instance
theorem natb (a b : Nat) : ((a : Int) == (b : Int)) = decide (a = b) := by rw [Bool.eq_iff_iff]; simp only [beq_iff_eq, decide_eq_true_eq]; exact Int.ofNat_inj
theorem tmod_next {i n : Nat} (h : i < n) (hn : n ≤ 1000) : Int.tmod (IntKind.i64.wrap ((i : Int) + 1)) (n : Int) = (((i + 1) % n : Nat) : Int) := by
  rw [w64 (by unfold I64; omega), Int.tmod_eq_emod_of_nonneg (by omega)]; rfl
theorem wsucc {i n : Nat} (h : i < n) (hn : n ≤ 1000) : IntKind.i64.wrap ((i : Int) + 1) = ((i + 1 : Nat) : Int) := by
  rw [w64 (by unfold I64; omega)]; omega
theorem ix_ok {i n : Nat} (h : i < n) : ((decide (0 ≤ (i : Int))) && (decide ((i : Int) < ((n : Nat) : Int)))) = true := by simp; exact_mod_cast h

end Go.Proofs.Ytbcnifnmccaleaa.Y
