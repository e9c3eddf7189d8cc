/- For every way a and every number: both parts are brought to what is asked, to either side; no condition. -/
import Derived.OpenShut
import Derived.Test.YtfdjpjainjjljaaPVex5
import Derived.Test.YtfdjpjainjjljaaPVex7
import Derived.Test.YtfdjpjainjjljaaVc
import Derived.Test.YtfdjpjainjjljaaTm
namespace Go.Proofs.Ytfdjpjainjjljaa.Pure
open Go.RowKit Go.Proofs.YtfdjpjainjjljaaW.PrintWords Go.Proofs.YtfdjpjainjjljaaW.PrintLast Go.Proofs.YtfdjpjainjjljaaW.PrintMore Go.Proofs.Ytfdjpjainjjljaa.PVe Go.Proofs.Ytfdjpjainjjljaa.Ma Go.Proofs.Ytfdjpjainjjljaa.Fx Go.Proofs.Ytfdjpjainjjljaa.Dv Go.Proofs.Ytfdjpjainjjljaa.Vc Go.Proofs.Ytfdjpjainjjljaa.Tm

theorem fit_eq {k : Nat} (hk : 100 ≤ k) : bagatellelaw03_fit.f k = some true :=
  at_rounds bagatellelaw03_fit.mono hk (by decide +kernel)
theorem nb {a b c d : Int} (h1 : a = c) (h2 : b = d) : ¬ ((!(a == c) || (!(b == d))) = true) := by rw [h1, h2]; simp
theorem yb {a b c d : Int} (h1 : a = c) (h2 : b = d) : (a == c && (b == d)) = true := by rw [h1, h2]; simp
theorem VecBrings : bagatellelaw03_VecBrings.Pure := by
  intro a b m wa wb wm
  have ha : I64 a := bounds_i64 wa
  have hb : I64 b := bounds_i64 wb
  have hm : I64 m := bounds_i64 wm
  refine ⟨103, ?_⟩
  unfold bagatellelaw03_VecBrings.f
  have m0 := abs_s hm
  rw [fit_eq (by omega), Option.bind_some, if_pos rfl, abs_eq hm, Option.bind_some]
  generalize Ma.abs m = t at *
  have h1 := bring_b (a := a) m0.1; have h2 := bring_b (a := b) m0.1
  have s1 : S63 (bring a t) := by unfold S63; omega
  have s2 : S63 (bring b t) := by unfold S63; omega
  have idem : ∀ x : Int, -t ≤ x → x ≤ t → bring x t = x := by
    intro x h3 h4; unfold bring; rw [wh_id (by unfold S63; omega)]; unfold mx mn; rw [if_neg (by omega), if_neg (by omega)]
  have ab : ∀ x : Int, -t ≤ x → x ≤ t → Ma.abs x ≤ t := by
    intro x h3 h4; unfold Ma.abs; rw [neg_id (by unfold S63; omega)]; split <;> omega
  have e1 := idem _ h1.1 h1.2; have e2 := idem _ h2.1 h2.2
  have be : ∀ x : Int, fix_Bring.f x (-t) t = some (bring x t) := fun x => Bring_eq x (-t) t
  rw [vBring_eq m0.1 m0.2, Option.bind_some, w64 (x := -t) (by unfold I64; omega), be, Option.bind_some, if_pos rfl, be, Option.bind_some, if_pos rfl, abs_eq s1.i, Option.bind_some, if_pos (ab _ h1.1 h1.2), abs_eq s2.i, Option.bind_some, if_pos (ab _ h2.1 h2.2), vBring_eq m0.1 m0.2, Option.bind_some, e1, e2]
  simp

end Go.Proofs.Ytfdjpjainjjljaa.Pure
