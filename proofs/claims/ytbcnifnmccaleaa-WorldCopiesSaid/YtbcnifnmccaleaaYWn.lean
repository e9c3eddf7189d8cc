/- Worlds: the example of two bodies. -/
import Derived.Test.YtbcnifnmccaleaaYWf
namespace Go.Proofs.Ytbcnifnmccaleaa.Y
open Go Go.RowKit Go.Proofs.Ytbcnifnmccaleaa.E Go.Proofs.Ytbcnifnmccaleaa.Ma Go.Proofs.Ytbcnifnmccaleaa.Fw
set_option linter.unusedVariables false
set_option linter.unusedSimpArgs false
set_option maxRecDepth 10000

def circ (de : Int) : BT := (0, 0, 0, 0, 0, 0, 0, de, 1, 4294967296, (0, fun _ => Rii.enc (0, 0)))
theorem circ_right (de : Int) (h : de = 0 ∨ de = 4294967296) : world.RightBody.f (circ de) = some true := by
  rcases h with rfl | rfl
  · kernel_rfl
  · kernel_rfl
theorem circ_fine (de : Int) : FineB (circ de) := ⟨i0, i0, i0, i0, i0, fun _ => (0, 0), rfl, fun i hi => absurd hi (by show ¬ i < 0; omega)⟩
theorem addC {w : Wd} (hg : Good w) {de : Int} (h : de = 0 ∨ de = 4294967296) (h1 : w.bs.1 < 1024) (h2 : w.nb < 4611686018427387904) :
    world.AddBody.f (w.raw, circ de) = some ((w.nb, 0), (w.addB (circ de)).tup) ∧ Good (w.addB (circ de)) := by
  have hr : RightB (circ de) := circ_right de h
  exact ⟨AddBody_ok _ hr (circ_fine de) h1 h2 hg.right.nb0, good_addB hg hr (circ_fine de) h1 h2⟩
theorem zero_wrong : world.Right.f (0, 0, 0, 0, 0, (0, fun _ => RiiiiiiiiiiL2.enc (0, 0, 0, 0, 0, 0, 0, 0, 0, 0, (0, fun _ => []))), (0, fun _ => Riiiiiiii.enc (0, 0, 0, 0, 0, 0, 0, 0)), (0, fun _ => Riiiii.enc (0, 0, 0, 0, 0))) = some false := by kernel_rfl
attribute [local irreducible] world.Right.f world.AddBody.f world.RemoveBody.f world.Body.f
theorem fit_true : law09.fit.f () = some true := by
  obtain ⟨a1, g1⟩ := addC good_new (de := 4294967296) (.inr rfl) (by decide) (by decide)
  obtain ⟨a2, g2⟩ := addC g1 (de := 4294967296) (.inr rfl) (by decide) (by decide)
  rw [law09.fit.eq]
  refine bind_to New_eq ?_
  refine bind_to a1 ?_
  refine bind_to a2 ?_
  refine cond_t rfl ?_
  refine cond_t rfl ?_
  refine cond_t rfl ?_
  refine bind_to g2.tells ?_
  refine cond_t rfl ?_
  refine cond_t rfl ?_
  exact bind_to zero_wrong rfl
end Go.Proofs.Ytbcnifnmccaleaa.Y
