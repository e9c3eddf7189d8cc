/- What the functions of package vec give: sums, differences, products. -/
import Derived.Test.YtbcnifnmccaleaaYFx
namespace Go.Proofs.Ytbcnifnmccaleaa.Y
open Go Go.RowKit Go.Proofs.Ytbcnifnmccaleaa.E Go.Proofs.Ytbcnifnmccaleaa.Ma
set_option linter.unusedVariables false
set_option linter.unusedSimpArgs false

abbrev P2 := Int × Int
def I2 (p : P2) : Prop := I64 p.1 ∧ I64 p.2
def S2 (p : P2) : Prop := S63 p.1 ∧ S63 p.2
theorem S2.i {p : P2} (h : S2 p) : I2 p := ⟨h.1.i, h.2.i⟩
def vsub (a b : P2) : P2 := (sub a.1 b.1, sub a.2 b.2)
def cross (a b : P2) : Int := sub (mul a.1 b.2) (mul a.2 b.1)
def dot (a b : P2) : Int := add (mul a.1 b.1) (mul a.2 b.2)
theorem vsub_s (a b : P2) : S2 (vsub a b) := ⟨sub_s _ _, sub_s _ _⟩
theorem vsub_eq {a b : P2} (ha : I2 a) (hb : I2 b) : vec.Sub.f (a, b) = some (vsub a b) := by
  obtain ⟨a1, a2⟩ := a; obtain ⟨b1, b2⟩ := b
  rw [vec.Sub.eq, sub_eq' ha.1 hb.1, Option.bind_some, sub_eq' ha.2 hb.2]; rfl
theorem cross_eq {a b : P2} (ha : I2 a) (hb : I2 b) : vec.Cross.f (a, b) = some (cross a b) := by
  obtain ⟨a1, a2⟩ := a; obtain ⟨b1, b2⟩ := b
  rw [vec.Cross.eq, mul_eq ha.1 hb.2, Option.bind_some, mul_eq ha.2 hb.1, Option.bind_some, sub_eq' (mul_s ha.1 hb.2).i (mul_s ha.2 hb.1).i]; rfl
end Go.Proofs.Ytbcnifnmccaleaa.Y
