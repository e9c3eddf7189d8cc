/- Worlds: a copy is the same (its lists as ones that are read). -/
import Derived.Test.YtghhecijpghfhaaGreatYWf
namespace Go.Proofs.YtghhecijpghfhaaGreat.Y
open Go Go.RowKit Go.Proofs.YtghhecijpghfhaaGreat.E Go.Proofs.YtghhecijpghfhaaGreat.Ma Go.Proofs.YtghhecijpghfhaaGreat.Fw
set_option linter.unusedVariables false
set_option linter.unusedSimpArgs false
set_option maxRecDepth 10000

noncomputable def CF (K : Nat) (w : Wd) (i : Int) : Option TWT := world.Copy.l0 1000000 K w.t w.nb w.nj w.gx w.gy w.js.1 (fun i => Riiiiiiii.enc (w.js.2 i)) w.cs.1 (fun i => Riiiii.enc (w.cs.2 i)) w.bs.1 (fun i => RiiiiiiiiiiL2.enc (w.bs.2 i)) (w.bs.1 : Int) i
theorem upd1_self {α : Type} (g : Nat → α) (i : Nat) : upd1 g i (g i) = g := by
  funext j
  unfold upd1
  split
  · rename_i h; rw [h]
  · rfl
theorem CF_step (w : Wd) (K i : Nat) (hi : i < w.bs.1) (hn : w.bs.1 ≤ 900000) (hf : FineB (w.bs.2 i)) (hr : RightB (w.bs.2 i)) : CF (K + 1) w (i : Int) = CF K w ((i + 1 : Nat) : Int) := by
  have hfew := rightB_few hf hr
  obtain ⟨_, _, _, _, _, g, hG, hg⟩ := hf
  have hcp : shape.Copy.f ((w.bs.2 i).2.2.2.2.2.2.2.2.1, (w.bs.2 i).2.2.2.2.2.2.2.2.2.1, ((w.bs.2 i).2.2.2.2.2.2.2.2.2.2.1, (w.bs.2 i).2.2.2.2.2.2.2.2.2.2.2)) = some ((w.bs.2 i).2.2.2.2.2.2.2.2.1, (w.bs.2 i).2.2.2.2.2.2.2.2.2.1, ((w.bs.2 i).2.2.2.2.2.2.2.2.2.2.1, g)) := by
    rw [hG]
    exact copy_eq _ _ _ (by omega) g
  unfold CF
  rw [world.Copy.l0_eq, lt_nat i _ hi, cond_true, ge_nat, cond_true]
  simp only [Int.toNat_natCast]
  rw [hcp, Option.bind_some, cond_true, wrap_nat i (by omega)]
  simp only [row_upd_ren RiiiiiiiiiiL2_ren]
  have e : ((w.bs.2 i).1, (w.bs.2 i).2.1, (w.bs.2 i).2.2.1, (w.bs.2 i).2.2.2.1, (w.bs.2 i).2.2.2.2.1, (w.bs.2 i).2.2.2.2.2.1, (w.bs.2 i).2.2.2.2.2.2.1, (w.bs.2 i).2.2.2.2.2.2.2.1, (w.bs.2 i).2.2.2.2.2.2.2.2.1, (w.bs.2 i).2.2.2.2.2.2.2.2.2.1, ((w.bs.2 i).2.2.2.2.2.2.2.2.2.2.1, (fun i => Rii.enc (g i)))) = w.bs.2 i := by
    rw [← hG]
  rw [e, upd1_self]
theorem CF_end (w : Wd) (K : Nat) (hj : w.js.1 ≤ 900000) (hc : w.cs.1 ≤ 900000) : CF (K + 1) w (w.bs.1 : Int) = some w.tup := by
  have c1 : decide (w.js.1 * 64 ≤ 140737488355328) = true := by simp; omega
  have c2 : decide (w.cs.1 * 40 ≤ 140737488355328) = true := by simp; omega
  unfold CF
  rw [world.Copy.l0_eq, nlt_nat _ _ (by omega), cond_false, slices.Clone_lJoint_Joint.eq, c1, cond_true, Option.bind_some, slices.Clone_lContact_Contact.eq, c2, cond_true, Option.bind_some]
  exact tG_w _ _ _ _ _ _ _ _ _ _ _
theorem CF_run {w : Wd} (h : Good w) : ∀ (d i K : Nat), i + d = w.bs.1 → d < K → CF K w (i : Int) = some w.tup
  | 0, i, K + 1, e, _ => by
    have : i = w.bs.1 := by omega
    subst this
    have hj := h.j
    exact CF_end w K (by omega) h.fine.nc
  | d + 1, i, K + 1, e, hk => by
    have hb := h.b
    have hm : w.bs.2 i ∈ lst w.bs := mem_lst.2 ⟨i, by omega, rfl⟩
    rw [CF_step w K i (by omega) (by omega) (h.fine.b _ hm) (h.right.rb _ hm)]
    exact CF_run h d (i + 1) K (by omega) (by omega)
/-- A copy is the same. -/
theorem Copy_eq {w : Wd} (h : Good w) : world.Copy.f w.raw = some w.tup := by
  have hb := h.b
  have hc : decide (w.bs.1 * 104 ≤ 140737488355328) = true := by simp; omega
  have e : world.Copy.f w.raw = world.Copy.g 1000000 w.raw := rfl
  rw [e]
  unfold Wd.raw
  rw [world.Copy.eq, slices.Clone_lBody_Body.eq, hc, cond_true, Option.bind_some]
  exact CF_run h w.bs.1 0 1000000 (by omega) (by omega)
end Go.Proofs.YtghhecijpghfhaaGreat.Y
