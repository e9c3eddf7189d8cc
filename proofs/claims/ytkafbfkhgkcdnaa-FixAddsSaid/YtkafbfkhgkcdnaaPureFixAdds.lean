/- For all numbers a and b of 64 bits: sums and differences are what sizes and signs make, brought to the least and the most; no condition. -/
import Derived.OpenShut
import Derived.Test.YtkafbfkhgkcdnaaPFixx7
import Derived.Test.YtkafbfkhgkcdnaaLe
namespace Go.Proofs.Ytkafbfkhgkcdnaa.Pure
open Go.RowKit Go.Proofs.YtkafbfkhgkcdnaaW.PrintWords Go.Proofs.YtkafbfkhgkcdnaaW.PrintLast Go.Proofs.YtkafbfkhgkcdnaaW.PrintMore Go.Proofs.Ytkafbfkhgkcdnaa.PFix Go.Proofs.Ytkafbfkhgkcdnaa.Ma Go.Proofs.Ytkafbfkhgkcdnaa.Fx Go.Proofs.Ytkafbfkhgkcdnaa.Dv Go.Proofs.Ytkafbfkhgkcdnaa.Le

theorem FixAdds : bagatellelaw01_FixAdds.Pure := by
  intro a b wa wb
  have ha : I64 a := bounds_i64 wa
  have hb : I64 b := bounds_i64 wb
  have fin : ∀ (x y : Int), S63 x → S63 y → bagatellelaw01_FixAdds.j1 102 x y = some true := by
    intro x y hx hy
    have hn := neg_S hy
    have hnx := neg_S hx
    have hs := sub_s x y
    have hs' := sub_s y x
    have e1 : Ma.add x (-y) = Ma.sub x y := by unfold Ma.sub; rw [neg_id hy]
    simp only [bagatellelaw01_FixAdds.j1, bagatellelaw01_FixAdds.j2]
    rw [add_eq' (by omega) hx.i hy.i, Option.bind_some, sum_eq (by omega) hx hy, Option.bind_some, if_pos rfl, sub_eq' (by omega) hx.i hy.i, Option.bind_some, w64s hn, sum_eq (by omega) hx hn, Option.bind_some, if_pos e1.symm, neg_eq hx.i, Option.bind_some, w64s hnx, if_pos (neg_id hx), abs_eq hx.i, Option.bind_some, size_eq hx.i, Option.bind_some, w64s (abs_S hx.i), if_neg (by simp), add_eq' (by omega) hx.i hy.i, Option.bind_some, add_eq' (by omega) hy.i hx.i, Option.bind_some, if_pos (add_comm x y), sub_eq' (by omega) hx.i hy.i, Option.bind_some, sub_eq' (by omega) hy.i hx.i, Option.bind_some, w64s (neg_S hs'), sub_anti hx hy]
    simp
  refine ⟨104, ?_⟩
  have step : ∀ x : Int, S63 x → bagatellelaw01_FixAdds.j0 104 x b = some true := by
    intro x hx
    have : bagatellelaw01_FixAdds.j0 104 x b = if b < (-9223372036854775807) then (bagatellelaw01_FixAdds.j1 103 x (-9223372036854775807)) else (bagatellelaw01_FixAdds.j1 103 x b) := by
      simp only [bagatellelaw01_FixAdds.j0]
    rw [this]
    have m := (at_rounds (g := fun k => bagatellelaw01_FixAdds.j1 k x (wh b)) (fun k => (bagatellelaw01_FixAdds.mono_l k).2.1 _ _) (show 102 ≤ 103 by omega) (fin x (wh b) hx (wh_s hb)))
    unfold wh at m
    split
    · rename_i h; rw [if_pos h] at m; exact m
    · rename_i h; rw [if_neg h] at m; exact m
  unfold bagatellelaw01_FixAdds.f
  rw [fit_eq (by omega), Option.bind_some, if_pos rfl]
  have := step (wh a) (wh_s ha)
  unfold wh at this
  split
  · rename_i h; rw [if_pos h] at this; exact this
  · rename_i h; rw [if_neg h] at this; exact this

end Go.Proofs.Ytkafbfkhgkcdnaa.Pure
