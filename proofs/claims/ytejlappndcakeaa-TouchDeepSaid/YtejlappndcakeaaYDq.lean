/- Polygons that seeds make, in small numbers. -/
import Derived.Test.YtejlappndcakeaaYDr
namespace Go.Proofs.Ytejlappndcakeaa.Y
open Go Go.RowKit Go.Proofs.Ytejlappndcakeaa.E Go.Proofs.Ytejlappndcakeaa.Ma Go.Proofs.Ytejlappndcakeaa.Fw
set_option linter.unusedVariables false
set_option linter.unusedSimpArgs false

theorem ring_lat : ∀ m : Fin 9, 3 ≤ m.val → ∀ tt : Fin 10, ∀ i : Fin m.val,
    (∀ j : Fin m.val, j.val = i.val ∨ j.val = nxt m.val i.val ∨ 1 ≤ crs (side (pick m.val tt.val) m.val i.val) (sb (pick m.val tt.val j.val) (pick m.val tt.val i.val))) ∧
    1 ≤ crs (side (pick m.val tt.val) m.val i.val) (side (pick m.val tt.val) m.val (nxt m.val i.val)) ∧
    nrm (side (pick m.val tt.val) m.val i.val) * nrm (side (pick m.val tt.val) m.val (nxt m.val i.val)) ≤ 8 * crs (side (pick m.val tt.val) m.val i.val) (side (pick m.val tt.val) m.val (nxt m.val i.val)) := by decide +kernel
def boxH (u v : Int) (i : Nat) : P2 := (boxPts u v).getD i (0, 0)
theorem box_lat : ∀ u : Fin 64, ∀ v : Fin 32, ∀ i : Fin 4,
    (∀ j : Fin 4, j.val = i.val ∨ j.val = nxt 4 i.val ∨ 1 ≤ crs (side (boxH (1 + (u.val : Int)) (1 + (v.val : Int))) 4 i.val) (sb (boxH (1 + (u.val : Int)) (1 + (v.val : Int)) j.val) (boxH (1 + (u.val : Int)) (1 + (v.val : Int)) i.val))) ∧
    1 ≤ crs (side (boxH (1 + (u.val : Int)) (1 + (v.val : Int))) 4 i.val) (side (boxH (1 + (u.val : Int)) (1 + (v.val : Int))) 4 (nxt 4 i.val)) ∧
    nrm (side (boxH (1 + (u.val : Int)) (1 + (v.val : Int))) 4 i.val) * nrm (side (boxH (1 + (u.val : Int)) (1 + (v.val : Int))) 4 (nxt 4 i.val)) ≤ 8 * crs (side (boxH (1 + (u.val : Int)) (1 + (v.val : Int))) 4 i.val) (side (boxH (1 + (u.val : Int)) (1 + (v.val : Int))) 4 (nxt 4 i.val)) := by decide +kernel
theorem seed_lat {a b c d : Int} (h0 : a % 4 ≠ 0) : ∃ (s : Int) (h : Nat → P2), Lat s 8 h (seedN a b) ∧ ∀ i, i < seedN a b → seedPt a b c d i = ((h i).1 * s, (h i).2 * s) := by
  by_cases h1 : a % 4 = 1
  · have en : seedN a b = 4 := by unfold seedN; rw [if_neg h0, if_pos h1]
    rw [en]
    have q := fun i (hi : i < 4) => box_lat ⟨(c % 64).toNat, by omega⟩ ⟨(d % 32).toNat, by omega⟩ ⟨i, hi⟩
    simp only at q
    rw [show 1 + (((c % 64).toNat : Nat) : Int) = 1 + c % 64 by omega, show 1 + (((d % 32).toNat : Nat) : Int) = 1 + d % 32 by omega] at q
    refine ⟨268435456, boxH (1 + c % 64) (1 + d % 32), ⟨by omega, fun i hi => ?_, fun i k hi hk => (q i hi).1 ⟨k, hk⟩, fun i hi => (q i hi).2.1, fun i hi => (q i hi).2.2, by omega, by omega⟩, fun i hi => ?_⟩
    · have : i = 0 ∨ i = 1 ∨ i = 2 ∨ i = 3 := by omega
      rcases this with rfl | rfl | rfl | rfl <;> simp [boxH, boxPts, Sm] <;> omega
    · unfold seedPt
      rw [if_pos h1]
      have : i = 0 ∨ i = 1 ∨ i = 2 ∨ i = 3 := by omega
      rcases this with rfl | rfl | rfl | rfl <;> simp [boxH, boxPts, Int.neg_mul]
  · have en : seedN a b = (3 + b % 256 % 6).toNat := by unfold seedN; rw [if_neg h0, if_neg h1]
    rw [en]
    have q := fun i (hi : i < (3 + b % 256 % 6).toNat) => ring_lat ⟨(3 + b % 256 % 6).toNat, by omega⟩ (by simp only; omega) ⟨(d % 256 % 10).toNat, by omega⟩ ⟨i, hi⟩
    simp only at q
    refine ⟨(1 + c % 64) * 4194304, pick (3 + b % 256 % 6).toNat (d % 256 % 10).toNat, ⟨by omega, fun i hi => pick_b _ _ _, fun i k hi hk => (q i hi).1 ⟨k, hk⟩, fun i hi => (q i hi).2.1, fun i hi => (q i hi).2.2, by omega, by omega⟩, fun i hi => ?_⟩
    unfold seedPt
    rw [if_neg h1]
end Go.Proofs.Ytejlappndcakeaa.Y
