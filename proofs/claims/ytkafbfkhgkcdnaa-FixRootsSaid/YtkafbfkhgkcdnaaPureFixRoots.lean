/- For every number a of 64 bits the root fix.Sqrt(a) is the greatest number whose square, in 2^-32ths, is not above a; no condition. -/
import Derived.OpenShut
import Derived.Test.YtkafbfkhgkcdnaaPFixx5
import Derived.Test.YtkafbfkhgkcdnaaLe
namespace Go.Proofs.Ytkafbfkhgkcdnaa.Pure
open Go.RowKit Go.Proofs.YtkafbfkhgkcdnaaW.PrintWords Go.Proofs.YtkafbfkhgkcdnaaW.PrintLast Go.Proofs.YtkafbfkhgkcdnaaW.PrintMore Go.Proofs.Ytkafbfkhgkcdnaa.PFix Go.Proofs.Ytkafbfkhgkcdnaa.Ma Go.Proofs.Ytkafbfkhgkcdnaa.Fx Go.Proofs.Ytkafbfkhgkcdnaa.Dv Go.Proofs.Ytkafbfkhgkcdnaa.Le

theorem FixRoots : bagatellelaw01_FixRoots.Pure := by
  intro a wa
  have ha : I64 a := bounds_i64 wa
  refine ⟨101, ?_⟩
  unfold bagatellelaw01_FixRoots.f
  rw [fit_eq (by omega), Option.bind_some, if_pos rfl, sqrt_eq (by omega) ha, Option.bind_some]
  by_cases h0 : a ≤ 0
  · rw [if_pos h0]; unfold Ma.sqrt; rw [if_pos h0]; rfl
  · obtain ⟨s0, s1, s2, s3⟩ := sqrt_spec (a := a) (by omega) ha.2
    have h1 := ha.2
    have n0 := Int.mul_nonneg s0 s0
    rw [if_neg h0, u64 (x := a) (by omega) (by omega), times_eq (by omega) (by omega) (by omega) (by omega), Option.bind_some, if_pos s0, u64 (x := Ma.sqrt a) (by omega) (by omega), times_eq (by omega) (by omega) (by omega) (by omega), Option.bind_some, u64 (x := Ma.sqrt a + 1) (by omega) (by omega), times_eq (by omega) (by omega) (by omega) (by omega), Option.bind_some]
    simp only [cmp_eq (show 1 ≤ 101 by omega), Option.bind_some]
    rw [if_pos, if_neg (by omega), if_neg (by omega)]
    · rfl
    · split
      · decide
      · split
        · decide
        · omega

end Go.Proofs.Ytkafbfkhgkcdnaa.Pure
