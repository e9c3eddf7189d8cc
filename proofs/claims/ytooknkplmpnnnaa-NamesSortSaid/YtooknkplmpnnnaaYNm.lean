/- Names: the example, numbers that may be. -/
import Derived.Test.YtooknkplmpnnnaaYNb
namespace Go.Proofs.Ytooknkplmpnnnaa.Y
open Go Go.RowKit Go.Proofs.Ytooknkplmpnnnaa.E Go.Proofs.Ytooknkplmpnnnaa.Fw
set_option linter.unusedVariables false
set_option linter.unusedSimpArgs false

theorem wf_j {n : Int} (h : (Lit.int .i64 n).wf = true) : J64 n := by
  simp [Lit.wf, IntKind.min, IntKind.max, IntKind.signed, IntKind.bits] at h
  unfold J64
  omega
theorem may_eq {n : Int} (h : J64 n) : ∃ m, law18.may.f n = some m ∧ 0 ≤ m ∧ m ≤ 4611686018427387904 := by
  rw [law18.may.eq]
  simp only [Bool.cond_decide]
  unfold J64 at h
  split
  · rw [w64 (x := n + 1) (by unfold J64; omega), w64 (by unfold J64; omega)]
    refine ⟨_, rfl, ?_⟩
    split <;> omega
  · refine ⟨_, rfl, ?_⟩
    split <;> omega
theorem beq_self_str (s : ByteArray) : (ByteArray.toList s == ByteArray.toList s) = true := by rw [beq_str]; exact decide_eq_true rfl
theorem fit_eq : law18.fit.f () = some true := by
  rw [law18.fit.eq, Segment_eq, Option.bind_some, Parse_eq, Option.bind_some, Check_eq, Option.bind_some, parse_nm (.inr rfl) (by omega) (by omega)]
  have e : nm 99 255 = Strc9c2d315 := by kernel_rfl
  rw [e, beq_self_str]
  rfl

end Go.Proofs.Ytooknkplmpnnnaa.Y
