/- For every number a (shifted by 8 bits) and every count of whole turns: whole turns more, or less, change no angle, and an angle is its own; no condition. -/
import Derived.OpenShut
import Derived.Test.YtdkpmmdelmllmaaPTux2
import Derived.Test.YtdkpmmdelmllmaaPTux4
import Derived.Test.YtdkpmmdelmllmaaTm
namespace Go.Proofs.Ytdkpmmdelmllmaa.Pure
open Go.RowKit Go.Proofs.YtdkpmmdelmllmaaW.PrintWords Go.Proofs.YtdkpmmdelmllmaaW.PrintLast Go.Proofs.YtdkpmmdelmllmaaW.PrintMore Go.Proofs.Ytdkpmmdelmllmaa.PTu Go.Proofs.Ytdkpmmdelmllmaa.Ma Go.Proofs.Ytdkpmmdelmllmaa.Tm

theorem fit_eq {k : Nat} (hk : 2 ≤ k) : bagatellelaw02_fit.f k = some true := by
  unfold bagatellelaw02_fit.f
  rw [Of_eq hk, Option.bind_some, Step_eq, Option.bind_some]
  decide +kernel
theorem TurnWraps : bagatellelaw02_TurnWraps.Pure := by
  intro a t wa wt
  have ha := bounds_i64 wa
  have ht : -128 ≤ t ∧ t ≤ 127 := by
    have := bounds_i8 wt; exact this
  refine ⟨103, ?_⟩
  unfold bagatellelaw02_TurnWraps.f
  have hb : -36028797018963968 ≤ a / 256 ∧ a / 256 < 36028797018963968 := by omega
  rw [fit_eq (by omega), Option.bind_some, if_pos rfl]
  generalize a / 256 = x at *
  rw [v64 (x := t) (by unfold I64; omega), v64 (x := t * 4294967296) (by unfold I64; omega), v64 (x := x + t * 4294967296) (by unfold I64; omega)]
  have e1 : wrp (wrp x) = wrp x := by unfold wrp; omega
  have e2 : wrp (x + t * 4294967296) = wrp x := by unfold wrp; omega
  have e3 : stp (x + t * 4294967296) = stp x := by unfold stp; omega
  have e4 : stp (wrp x) = stp x := by unfold wrp stp; omega
  have hw : 0 ≤ wrp x ∧ wrp x < 4294967296 := by unfold wrp; omega
  have e5 : wrp (-(wrp x)) = Int.tmod (4294967296 - wrp x) 4294967296 := by
    rw [Int.tmod_eq_emod_of_nonneg (by omega)]; unfold wrp at *; omega
  rw [Wrap_eq, Option.bind_some, Wrap_eq, Option.bind_some, if_pos e1, Wrap_eq, Option.bind_some, if_pos e2, Step_eq, Option.bind_some, Step_eq, Option.bind_some, if_pos e3, Of_eq (by omega), Option.bind_some, Of_eq (by omega), Option.bind_some, e3, e4, if_pos (by simp), v64 (x := -(wrp x)) (by unfold I64; omega), Wrap_eq, Option.bind_some, e5, v64 (x := 4294967296 - wrp x) (by unfold I64; omega)]
  simp

end Go.Proofs.Ytdkpmmdelmllmaa.Pure
