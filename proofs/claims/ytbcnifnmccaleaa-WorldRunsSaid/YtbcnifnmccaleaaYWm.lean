/- Worlds: a body, a joint, may be just as the document says. -/
import Derived.Test.YtbcnifnmccaleaaYWf
namespace Go.Proofs.Ytbcnifnmccaleaa.Y
open Go Go.RowKit Go.Proofs.Ytbcnifnmccaleaa.E Go.Proofs.Ytbcnifnmccaleaa.Ma Go.Proofs.Ytbcnifnmccaleaa.Fw
set_option linter.unusedVariables false
set_option linter.unusedSimpArgs false
set_option maxRecDepth 10000

theorem abs_le {x m : Int} (h : I64 x) (h1 : 0 ≤ m) (h2 : m < 9223372036854775807) : Ma.abs x ≤ m ↔ (x ≤ m ∧ -m ≤ x) := by
  unfold Ma.abs Ma.neg Ma.wh; unfold I64 at h; repeat' split
  all_goals omega
theorem in_eq {x m : Int} (h : I64 x) (h1 : 0 ≤ m) (h2 : m < 9223372036854775807) : law09.«in».f (x, m) = some (decide (Ma.abs x ≤ m)) := by
  have e : IntKind.i64.wrap (0 - m) = -m := by rw [IntKind.wrap_i64]; omega
  rw [law09.«in».eq, e, and_some]
  congr 1
  rw [Bool.eq_iff_iff, Bool.and_eq_true, decide_eq_true_eq, decide_eq_true_eq, decide_eq_true_eq, abs_le h h1 h2]
theorem may_eq {b : BT} (h : FineB b) : law09.may.f b = world.RightBody.f b := by
  obtain ⟨id, px, py, vx, vy, an, sp, de, sk, sr, n, G⟩ := b
  obtain ⟨h1, h2, h3, h4, h5, g, hG, hg⟩ := h
  dsimp only at h1 h2 h3 h4 h5 hG hg
  subst hG
  rw [law09.may.eq, world.RightBody.eq, Right_eq sk sr n g hg, in_eq h1 (by omega) (by omega), in_eq h2 (by omega) (by omega), in_eq h3 (by omega) (by omega), in_eq h4 (by omega) (by omega), in_eq h5 (by omega) (by omega),
    wwithin h1 h2, wwithin h3 h4, abs_eq h5]
  simp only [Option.bind_some]
  have hs : decide (Ma.abs sp > 1099511627776) = !decide (Ma.abs sp ≤ 1099511627776) := by
    rw [Bool.eq_iff_iff]; simp
  rw [hs]
  generalize decide (RightP sk sr n g) = c1
  generalize decide (Ma.abs px ≤ 4503599627370496) = c2
  generalize decide (Ma.abs py ≤ 4503599627370496) = c3
  generalize decide (Ma.abs vx ≤ 17592186044416) = c4
  generalize decide (Ma.abs vy ≤ 17592186044416) = c5
  generalize decide (Ma.abs sp ≤ 1099511627776) = c6
  cases c1 <;> cases c2 <;> cases c3 <;> cases c4 <;> cases c5 <;> cases c6 <;> simp only [cond_true, cond_false, Bool.cond_self, Bool.not_true, Bool.not_false, Bool.and_true, Bool.true_and, Bool.and_false, Bool.false_and]
  simp only [Bool.cond_eq_ite]
  have e1 : (de != 0) = decide (de ≠ 0) := by rw [Bool.eq_iff_iff]; simp
  have e2 : ∀ x : Int, (x == 0) = decide (x = 0) := fun x => by rw [Bool.eq_iff_iff]; simp
  simp only [e1, e2, decide_eq_true_eq, Bool.and_eq_true]
  repeat' split
  all_goals first | rfl | (congr 1; rw [Bool.eq_iff_iff]; simp; omega) | (exfalso; omega)
theorem joins_eq {j : JT} (h : FineJ j) : law09.joins.f j = world.RightJoint.f j := by
  obtain ⟨id, a, b, px, py, vx, vy, le⟩ := j
  obtain ⟨h1, h2, h3, h4⟩ := h
  dsimp only at h1 h2 h3 h4
  rw [law09.joins.eq, world.RightJoint.eq, in_eq h1 (by omega) (by omega), in_eq h2 (by omega) (by omega), in_eq h3 (by omega) (by omega), in_eq h4 (by omega) (by omega), wwithin h1 h2, wwithin h3 h4]
  have ha : ∀ x : Int, decide (x > 0) = decide (x ≥ 1) := fun x => by rw [Bool.eq_iff_iff]; simp; omega
  simp only [Option.bind_some, ha]
  generalize decide (Ma.abs px ≤ 274877906944) = c2
  generalize decide (Ma.abs py ≤ 274877906944) = c3
  generalize decide (Ma.abs vx ≤ 274877906944) = c4
  generalize decide (Ma.abs vy ≤ 274877906944) = c5
  cases c2 <;> cases c3 <;> cases c4 <;> cases c5 <;> simp only [cond_true, cond_false, Bool.and_true, Bool.true_and, Bool.and_false, Bool.false_and]

end Go.Proofs.Ytbcnifnmccaleaa.Y
