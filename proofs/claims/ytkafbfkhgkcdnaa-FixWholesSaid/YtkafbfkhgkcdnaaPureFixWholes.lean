/- For all whole numbers n, d and every number a of 64 bits: whole numbers and their parts are numbers, those that are too great are brought, and Bring brings a number between two others; no condition. -/
import Derived.OpenShut
import Derived.Test.YtkafbfkhgkcdnaaPFixx7
import Derived.Test.YtkafbfkhgkcdnaaLe
namespace Go.Proofs.Ytkafbfkhgkcdnaa.Pure
open Go.RowKit Go.Proofs.YtkafbfkhgkcdnaaW.PrintWords Go.Proofs.YtkafbfkhgkcdnaaW.PrintLast Go.Proofs.YtkafbfkhgkcdnaaW.PrintMore Go.Proofs.Ytkafbfkhgkcdnaa.PFix Go.Proofs.Ytkafbfkhgkcdnaa.Ma Go.Proofs.Ytkafbfkhgkcdnaa.Fx Go.Proofs.Ytkafbfkhgkcdnaa.Dv Go.Proofs.Ytkafbfkhgkcdnaa.Le

theorem FixWholes : bagatellelaw01_FixWholes.Pure := by
  intro n d a wn wd wa
  have ha : I64 a := bounds_i64 wa
  refine ⟨102, ?_⟩
  unfold bagatellelaw01_FixWholes.f
  have fin : bagatellelaw01_FixWholes.j0 102 n d a (ofN n) = some true := by
    simp only [bagatellelaw01_FixWholes.j0]
    rw [of_eq, Option.bind_some, Option.bind_some, bring_eq, Option.bind_some, part_eq (by omega), Option.bind_some, Option.bind_some, div_eq (by omega) (ofN_s n).i (ofN_s d).i, Option.bind_some, if_pos rfl]
    have hm : mx a (-9223372036854775807) = wh a := rfl
    rw [hm]
    generalize wh a = x at *
    have hle : mn (ofN d) (ofN n) ≤ mx (ofN d) (ofN n) := by
      unfold mx mn; repeat' split
      all_goals omega
    generalize mn (ofN d) (ofN n) = lo at *
    generalize mx (ofN d) (ofN n) = hi at *
    have hr : mn (mx x lo) hi = if x < lo then lo else if hi < x then hi else x := by
      unfold mx mn; repeat' split
      all_goals omega
    rw [hr]
    by_cases h1 : x < lo
    · simp only [if_pos h1]; rw [if_pos (by omega), if_pos hle, if_pos trivial]
    · by_cases h2 : hi < x
      · simp only [if_neg h1, if_pos h2]; rw [if_pos (by omega), if_pos (by omega), if_pos trivial]
      · simp only [if_neg h1, if_neg h2]; rw [if_pos (by omega), if_pos (by omega)]; simp
  rw [fit_eq (by omega), Option.bind_some, if_pos rfl, of_eq, Option.bind_some, fin]
  unfold ofN
  by_cases h1 : n ≥ 2147483648
  · rw [if_pos h1, if_pos h1, if_pos rfl]
  · rw [if_neg h1, if_neg h1]
    by_cases h2 : n ≤ -2147483648
    · rw [if_pos h2, if_pos h2, if_pos rfl]
    · rw [if_neg h2, if_neg h2, w64 (by unfold I64; omega), if_pos rfl]

end Go.Proofs.Ytkafbfkhgkcdnaa.Pure
