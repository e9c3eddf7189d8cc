/- For all ways a, b and every number s: sums, differences and multiples go part by part; what goes along, and across, is the sum, and the difference, of two products; no condition. -/
import Derived.OpenShut
import Derived.Test.YtfdjpjainjjljaaPVex11
import Derived.Test.YtfdjpjainjjljaaPVex5
import Derived.Test.YtfdjpjainjjljaaVc
import Derived.Test.YtfdjpjainjjljaaTm
namespace Go.Proofs.Ytfdjpjainjjljaa.Pure
open Go.RowKit Go.Proofs.YtfdjpjainjjljaaW.PrintWords Go.Proofs.YtfdjpjainjjljaaW.PrintLast Go.Proofs.YtfdjpjainjjljaaW.PrintMore Go.Proofs.Ytfdjpjainjjljaa.PVe Go.Proofs.Ytfdjpjainjjljaa.Ma Go.Proofs.Ytfdjpjainjjljaa.Fx Go.Proofs.Ytfdjpjainjjljaa.Dv Go.Proofs.Ytfdjpjainjjljaa.Vc Go.Proofs.Ytfdjpjainjjljaa.Tm

theorem fit_eq {k : Nat} (hk : 100 ≤ k) : bagatellelaw03_fit.f k = some true :=
  at_rounds bagatellelaw03_fit.mono hk (by decide +kernel)
theorem nb {a b c d : Int} (h1 : a = c) (h2 : b = d) : ¬ ((!(a == c) || (!(b == d))) = true) := by rw [h1, h2]; simp
theorem yb {a b c d : Int} (h1 : a = c) (h2 : b = d) : (a == c && (b == d)) = true := by rw [h1, h2]; simp
theorem VecAdds : bagatellelaw03_VecAdds.Pure := by
  intro a b c d s wa wb wc wd ws
  have ha0 : S63 (mx a (-9223372036854775807)) := wh_s (bounds_i64 wa)
  have hb0 : S63 (mx b (-9223372036854775807)) := wh_s (bounds_i64 wb)
  have hc0 : S63 (mx c (-9223372036854775807)) := wh_s (bounds_i64 wc)
  have hd0 : S63 (mx d (-9223372036854775807)) := wh_s (bounds_i64 wd)
  have hs : I64 s := bounds_i64 ws
  refine ⟨103, ?_⟩
  unfold bagatellelaw03_VecAdds.f bagatellelaw03_Tame.f
  rw [fit_eq (by omega), Option.bind_some, if_pos rfl, Option.bind_some, Option.bind_some]
  simp only
  generalize mx a (-9223372036854775807) = x at *
  generalize mx b (-9223372036854775807) = y at *
  generalize mx c (-9223372036854775807) = u at *
  generalize mx d (-9223372036854775807) = v at *
  have hx := ha0.i; have hy := hb0.i; have hu := hc0.i; have hv := hd0.i
  have ny := neg_id hb0; have nx := neg_id ha0; have nv := neg_id hd0
  have iny : I64 (-y) := (neg_S hb0).i
  have inv : I64 (-v) := (neg_S hd0).i
  have k1 : 60 ≤ 103 := by omega
  rw [vAdd_eq k1 hx hy hu hv, Option.bind_some, add_eq' (by omega) hx hu, Option.bind_some, add_eq' (by omega) hy hv, Option.bind_some, if_neg (nb rfl rfl), vSub_eq k1 hx hy hu hv, Option.bind_some, Sub_eq (by omega) hx hu, Option.bind_some, Sub_eq (by omega) hy hv, Option.bind_some, if_neg (nb rfl rfl), vNeg_eq hx hy, Option.bind_some, nx, ny, w64s (neg_S ha0), w64s (neg_S hb0), if_neg (nb rfl rfl), vScale_eq k1 hx hy hs, Option.bind_some, mul_eq (by omega) hx hs, Option.bind_some, mul_eq (by omega) hy hs, Option.bind_some, if_neg (nb rfl rfl)]
  have ed : fix_Add.f 103 (Ma.mul x u) (Ma.mul y v) = some (dot x y u v) := add_eq' (by omega) (mul_i hx hu) (mul_i hy hv)
  have ec : fix_Sub.f 103 (Ma.mul x v) (Ma.mul y u) = some (cross x y u v) := Sub_eq (by omega) (mul_i hx hv) (mul_i hy hu)
  rw [vDot_eq k1 hx hy hu hv, Option.bind_some, mul_eq (by omega) hx hu, Option.bind_some, mul_eq (by omega) hy hv, Option.bind_some, ed, Option.bind_some, if_pos rfl, vCross_eq k1 hx hy hu hv, Option.bind_some, mul_eq (by omega) hx hv, Option.bind_some, mul_eq (by omega) hy hu, Option.bind_some, ec, Option.bind_some, if_pos rfl]
  rw [vLeft_eq hy, Option.bind_some, ny, if_pos (yb rfl rfl), vSpun_eq k1 hx hy hs, Option.bind_some, Option.bind_some, vScale_eq k1 iny hx hs, Option.bind_some, ny, if_pos (yb rfl rfl), Option.bind_some, vCross_eq k1 hu hv hx hy, Option.bind_some]
  have e1 : cross x y u v = -cross u v x y := by
    unfold cross
    rw [sub_anti (mul_s hx hv) (mul_s hy hu), Ma.mul_comm y u, Ma.mul_comm x v]
  have e2 : dot x y (-v) u = -cross x y u v := by
    unfold dot cross
    have m1 := mul_s hx hv; have m2 := mul_s hy hu
    rw [Ma.mul_neg hx hd0, sub_eq m1 m2, add_eq (neg_S m1) m2, ← clamp_neg]; congr 1; omega
  have e3 := neg_S (sub_s (Ma.mul u y) (Ma.mul v x))
  have e4 := neg_S (sub_s (Ma.mul x v) (Ma.mul y u))
  rw [show wrap64 (-cross u v x y) = -cross u v x y from w64s e3, if_pos e1, vLeft_eq hv, Option.bind_some, nv, vDot_eq k1 hx hy inv hu, Option.bind_some, Option.bind_some, show wrap64 (-cross x y u v) = -cross x y u v from w64s e4, e2]
  simp

end Go.Proofs.Ytfdjpjainjjljaa.Pure
