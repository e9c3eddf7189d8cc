/- For every angle: a quarter more turns a cosine into a sine, half a turn turns both round, and the squares sum to nearly one; no condition. -/
import Derived.OpenShut
import Derived.Test.YtdkpmmdelmllmaaPTux2
import Derived.Test.YtdkpmmdelmllmaaPTux6
import Derived.Test.YtdkpmmdelmllmaaTm
import Derived.Test.YtdkpmmdelmllmaaFx
namespace Go.Proofs.Ytdkpmmdelmllmaa.Pure
open Go.RowKit Go.Proofs.YtdkpmmdelmllmaaW.PrintWords Go.Proofs.YtdkpmmdelmllmaaW.PrintLast Go.Proofs.YtdkpmmdelmllmaaW.PrintMore Go.Proofs.Ytdkpmmdelmllmaa.PTu Go.Proofs.Ytdkpmmdelmllmaa.Ma Go.Proofs.Ytdkpmmdelmllmaa.Tm Go.Proofs.Ytdkpmmdelmllmaa.Fx

theorem fit_eq {k : Nat} (hk : 2 ≤ k) : bagatellelaw02_fit.f k = some true := by
  unfold bagatellelaw02_fit.f
  rw [Of_eq hk, Option.bind_some, Step_eq, Option.bind_some]
  decide +kernel
theorem near : ∀ i : Fin 1024, -8 < Ma.add (Ma.mul (sn ((i.val : Int) + 256)) (sn ((i.val : Int) + 256))) (Ma.mul (sn (i.val : Int)) (sn (i.val : Int))) - 4294967296 ∧ Ma.add (Ma.mul (sn ((i.val : Int) + 256)) (sn ((i.val : Int) + 256))) (Ma.mul (sn (i.val : Int)) (sn (i.val : Int))) - 4294967296 < 8 := by decide +kernel
theorem TurnRounds : bagatellelaw02_TurnRounds.Pure := by
  intro a _
  refine ⟨103, ?_⟩
  unfold bagatellelaw02_TurnRounds.f
  have hw : 0 ≤ wrp a ∧ wrp a < 4294967296 := by unfold wrp; omega
  rw [fit_eq (by omega), Option.bind_some, if_pos rfl, Wrap_eq, Option.bind_some]
  generalize wrp a = w at *
  rw [Of_eq (by omega), Option.bind_some, v64 (x := w + 1073741824) (by unfold I64; omega), v64 (x := w + 2147483648) (by unfold I64; omega), Of_eq (by omega), Option.bind_some, Of_eq (by omega), Option.bind_some]
  have hn : 0 ≤ w / 4194304 ∧ w / 4194304 < 1024 := by omega
  have s0 : stp w = w / 4194304 := by unfold stp; omega
  have s1 : sn (stp (w + 1073741824)) = sn (w / 4194304 + 256) := sn_congr (by unfold stp; omega)
  have s2 : sn (stp (w + 2147483648)) = sn (w / 4194304 + 512) := sn_congr (by unfold stp; omega)
  have s3 : sn (stp (w + 1073741824) + 256) = sn (w / 4194304 + 512) := sn_congr (by unfold stp; omega)
  have s4 : sn (stp (w + 2147483648) + 256) = sn (w / 4194304 + 256 + 512) := sn_congr (by unfold stp; omega)
  have s5 : sn (stp (-(w / 4194304 * 4194304))) = sn (-(w / 4194304)) := sn_congr (by unfold stp; omega)
  have s6 : sn (stp (-(w / 4194304 * 4194304)) + 256) = sn (-(w / 4194304) + 256) := sn_congr (by unfold stp; omega)
  have hc : sn (-(w / 4194304) + 256) = sn (w / 4194304 + 256) := by
    have : sn (-(-(w / 4194304) + 256)) = sn (w / 4194304 + 256 + 512) := sn_congr (by omega)
    rw [sn_neg, sn_half] at this; omega
  have nr := near ⟨(w / 4194304).toNat, by omega⟩
  simp only [show (((w / 4194304).toNat : Nat) : Int) = w / 4194304 by omega] at nr
  have b1 := sn_b (w / 4194304); have b2 := sn_b (w / 4194304 + 256)
  have t1 := sn_S (w / 4194304); have t2 := sn_S (w / 4194304 + 256)
  simp only [s0, s1, s2, s3, s4, sn_half]
  generalize hS : sn (w / 4194304) = S at *
  generalize hC : sn (w / 4194304 + 256) = C at *
  rw [v64 (x := -S) (by unfold I64; omega), v64 (x := -C) (by unfold I64; omega)]
  simp only [if_true]
  simp only [bagatellelaw02_TurnRounds.j0]
  have m1 := mul_s t2.i t2.i; have m2 := mul_s t1.i t1.i
  rw [if_neg (by simp), mul_eq (by omega) t2.i t2.i, Option.bind_some, mul_eq (by omega) t1.i t1.i, Option.bind_some, add_eq' (by omega) m1.i m2.i, Option.bind_some, v64 (x := w / 4194304 * 4194304) (by unfold I64; omega), v64 (x := -(w / 4194304 * 4194304)) (by unfold I64; omega), Of_eq (by omega), Option.bind_some, s5, s6, sn_neg, hc, hS]
  generalize Ma.add (Ma.mul C C) (Ma.mul S S) = q at *
  have hq : S63 (q - 4294967296) := by unfold S63; omega
  rw [v64 (x := q - 4294967296) hq.i, abs_eq hq.i, Option.bind_some, if_pos, if_pos rfl, v64 (x := -S) (by unfold I64; omega)]
  · simp
  · unfold Ma.abs; rw [neg_id hq]; split <;> omega

end Go.Proofs.Ytdkpmmdelmllmaa.Pure
