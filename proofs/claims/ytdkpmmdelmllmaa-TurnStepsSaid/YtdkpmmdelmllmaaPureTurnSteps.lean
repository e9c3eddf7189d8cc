/- For every step of the first quarter and every number within a step: sines rise and cosines fall from step to step, and what is within a step has its rotation; no condition. -/
import Derived.OpenShut
import Derived.Test.YtdkpmmdelmllmaaPTux2
import Derived.Test.YtdkpmmdelmllmaaPTux3
import Derived.Test.YtdkpmmdelmllmaaTm
namespace Go.Proofs.Ytdkpmmdelmllmaa.Pure
open Go.RowKit Go.Proofs.YtdkpmmdelmllmaaW.PrintWords Go.Proofs.YtdkpmmdelmllmaaW.PrintLast Go.Proofs.YtdkpmmdelmllmaaW.PrintMore Go.Proofs.Ytdkpmmdelmllmaa.PTu Go.Proofs.Ytdkpmmdelmllmaa.Ma Go.Proofs.Ytdkpmmdelmllmaa.Tm

theorem fit_eq {k : Nat} (hk : 2 ≤ k) : bagatellelaw02_fit.f k = some true := by
  unfold bagatellelaw02_fit.f
  rw [Of_eq hk, Option.bind_some, Step_eq, Option.bind_some]
  decide +kernel
theorem TurnSteps : bagatellelaw02_TurnSteps.Pure := by
  intro n x _ _
  refine ⟨103, ?_⟩
  unfold bagatellelaw02_TurnSteps.f
  have hm : 0 ≤ n % 256 ∧ n % 256 < 256 := by omega
  rw [fit_eq (by omega), Option.bind_some, if_pos rfl, m8]
  generalize n % 256 = m at *
  rw [v64 (x := m * 4194304) (by unfold I64; omega), v64 (x := m * 4194304 + 4194304) (by unfold I64; omega), Of_eq (by omega), Option.bind_some, Of_eq (by omega), Option.bind_some]
  have s1 : stp (m * 4194304) = m := by unfold stp; omega
  have s2 : stp (m * 4194304 + 4194304) = m + 1 := by unfold stp; omega
  have e1 : sn m = tb m := by unfold sn qh; rw [show m % 1024 = m by omega, if_pos (by omega), if_pos (by omega)]
  have e2 : sn (m + 1) = tb (m + 1) := by unfold sn qh; rw [show (m + 1) % 1024 = m + 1 by omega, if_pos (by omega), if_pos (by omega)]
  have e3 : sn (m + 256) = tb (256 - m) := by
    unfold sn qh; rw [show (m + 256) % 1024 = m + 256 by omega, if_pos (by omega)]
    by_cases h : m = 0
    · subst h; rfl
    · rw [if_neg (by omega)]; congr 1; omega
  have e4 : sn (m + 1 + 256) = tb (256 - m - 1) := by
    unfold sn qh; rw [show (m + 1 + 256) % 1024 = m + 257 by omega, if_pos (by omega), if_neg (by omega)]; congr 1; omega
  have l1 := tb_step hm.1 (by omega : m < 256)
  have l2 := tb_step (n := 256 - m - 1) (by omega) (by omega)
  rw [show 256 - m - 1 + 1 = 256 - m by omega] at l2
  have b1 := tb_b hm.1 (by omega)
  have b2 := tb_b (n := 256 - m - 1) (by omega) (by omega)
  have hx : 0 ≤ x % 4194304 ∧ x % 4194304 < 4194304 := by omega
  have s3 : stp (m * 4194304 + x % 4194304) = m := by unfold stp; omega
  have s4 : stp (m * 4194304 - 1) = Int.tmod (m + 1023) 1024 := by
    rw [Int.tmod_eq_emod_of_nonneg (by omega)]; unfold stp; omega
  simp only [s1, s2, e1, e2, e3, e4]
  rw [if_neg (by omega), if_neg (by omega), if_neg (by omega), decide_eq_false (by omega)]
  simp only [bagatellelaw02_TurnSteps.j0]
  rw [if_neg (by decide), m22, v64 (x := m * 4194304 + x % 4194304) (by unfold I64; omega), Of_eq (by omega), Option.bind_some, Step_eq, Option.bind_some, v64 (x := m * 4194304 - 1) (by unfold I64; omega), Step_eq, Option.bind_some, s3, s4, v64 (x := m + 1023) (by unfold I64; omega), e3, e1, if_pos (by simp), if_pos rfl]
  simp

end Go.Proofs.Ytdkpmmdelmllmaa.Pure
