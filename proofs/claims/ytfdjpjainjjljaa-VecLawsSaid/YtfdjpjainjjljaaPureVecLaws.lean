/- For all ways a and b, brought to 2^44: four quarter turns are none, what goes along and across turns with a way, and sums can be taken back; no condition. -/
import Derived.OpenShut
import Derived.Test.YtfdjpjainjjljaaPVex14
import Derived.Test.YtfdjpjainjjljaaPVex5
import Derived.Test.YtfdjpjainjjljaaVc
import Derived.Test.YtfdjpjainjjljaaTm
namespace Go.Proofs.Ytfdjpjainjjljaa.Pure
open Go.RowKit Go.Proofs.YtfdjpjainjjljaaW.PrintWords Go.Proofs.YtfdjpjainjjljaaW.PrintLast Go.Proofs.YtfdjpjainjjljaaW.PrintMore Go.Proofs.Ytfdjpjainjjljaa.PVe Go.Proofs.Ytfdjpjainjjljaa.Ma Go.Proofs.Ytfdjpjainjjljaa.Fx Go.Proofs.Ytfdjpjainjjljaa.Dv Go.Proofs.Ytfdjpjainjjljaa.Vc Go.Proofs.Ytfdjpjainjjljaa.Tm

theorem fit_eq {k : Nat} (hk : 100 ≤ k) : bagatellelaw03_fit.f k = some true :=
  at_rounds bagatellelaw03_fit.mono hk (by decide +kernel)
theorem nb {a b c d : Int} (h1 : a = c) (h2 : b = d) : ¬ ((!(a == c) || (!(b == d))) = true) := by rw [h1, h2]; simp
theorem yb {a b c d : Int} (h1 : a = c) (h2 : b = d) : (a == c && (b == d)) = true := by rw [h1, h2]; simp
theorem VecLaws : bagatellelaw03_VecLaws.Pure := by
  intro a b c d _ _ _ _
  refine ⟨103, ?_⟩
  unfold bagatellelaw03_VecLaws.f
  have k1 : 60 ≤ 103 := by omega
  rw [fit_eq (by omega), Option.bind_some, if_pos rfl, vBring_eq (by omega) (by omega), Option.bind_some, vBring_eq (by omega) (by omega), Option.bind_some]
  simp only
  have b1 := bring_b (a := a) (m := 17592186044416) (by omega)
  have b2 := bring_b (a := b) (m := 17592186044416) (by omega)
  have b3 := bring_b (a := c) (m := 17592186044416) (by omega)
  have b4 := bring_b (a := d) (m := 17592186044416) (by omega)
  generalize bring a 17592186044416 = x at *
  generalize bring b 17592186044416 = y at *
  generalize bring c 17592186044416 = u at *
  generalize bring d 17592186044416 = v at *
  have sx : S63 x := by unfold S63; omega
  have sy : S63 y := by unfold S63; omega
  have su : S63 u := by unfold S63; omega
  have sv : S63 v := by unfold S63; omega
  have snx := neg_S sx; have sny := neg_S sy; have snv := neg_S sv
  have nx := neg_id sx; have ny := neg_id sy; have nv := neg_id sv
  have nnx : Ma.neg (-x) = x := by rw [neg_id snx]; omega
  have nny : Ma.neg (-y) = y := by rw [neg_id sny]; omega
  have a1 : Ma.add x u = x + u := add_id sx su (by unfold S63; omega)
  have a2 : Ma.add y v = y + v := add_id sy sv (by unfold S63; omega)
  have sa1 : S63 (x + u) := by unfold S63; omega
  have sa2 : S63 (y + v) := by unfold S63; omega
  have t1 : Ma.sub (x + u) u = x := by rw [sub_id sa1 su (by unfold S63; omega)]; omega
  have t2 : Ma.sub (y + v) v = y := by rw [sub_id sa2 sv (by unfold S63; omega)]; omega
  have d0 : dot x y (-y) x = 0 := by
    unfold dot; rw [Ma.mul_neg sx.i sy, Ma.mul_comm y x]
    have m := mul_s sx.i sy.i
    rw [add_eq (neg_S m) m, show -Ma.mul x y + Ma.mul x y = 0 by omega]; rfl
  have c0 : cross x y x y = 0 := by unfold cross; rw [Ma.mul_comm y x]; exact Ma.sub_self (mul_s sx.i sy.i)
  have dc : dot x y u v = dot u v x y := by unfold dot; rw [Ma.mul_comm x u, Ma.mul_comm y v]
  have m1 := mul_s sx.i su.i; have m2 := mul_s sy.i sv.i; have m3 := mul_s sx.i sv.i; have m4 := mul_s sy.i su.i
  have d1 : dot (-y) x (-v) u = dot x y u v := by
    unfold dot; rw [Ma.mul_neg sny.i sv, Ma.neg_mul sy sv.i, Int.neg_neg, Ma.add_comm]
  have c1 : cross (-y) x (-v) u = cross x y u v := by
    unfold cross; rw [Ma.mul_neg sx.i sv, Ma.neg_mul sy su.i, sub_eq (neg_S m4) (neg_S m3), sub_eq m3 m4]; congr 1; omega
  have l1 : len (-y) x = len x y := by
    unfold len dot; rw [Ma.mul_neg sny.i sy, Ma.neg_mul sy sy.i, Int.neg_neg, Ma.add_comm]
  rw [vLeft_eq sy.i, Option.bind_some, ny, vLeft_eq sx.i, Option.bind_some, nx, vLeft_eq sny.i, Option.bind_some, nny, vLeft_eq snx.i, Option.bind_some, nnx, if_neg (nb rfl rfl), Option.bind_some, vNeg_eq sx.i sy.i, Option.bind_some, nx, ny, if_neg (nb rfl rfl)]
  rw [vDot_eq k1 sx.i sy.i sny.i sx.i, Option.bind_some, if_pos d0, vCross_eq k1 sx.i sy.i sx.i sy.i, Option.bind_some, if_pos c0, vAdd_eq k1 sx.i sy.i su.i sv.i, Option.bind_some, a1, a2, vSub_eq k1 sa1.i sa2.i su.i sv.i, Option.bind_some, t1, t2, if_neg (nb rfl rfl), Option.bind_some, vAdd_eq k1 su.i sv.i sx.i sy.i, Option.bind_some, Ma.add_comm u x, Ma.add_comm v y, a1, a2, if_neg (nb rfl rfl)]
  rw [vDot_eq k1 sx.i sy.i su.i sv.i, Option.bind_some, vDot_eq k1 su.i sv.i sx.i sy.i, Option.bind_some, if_pos dc, vLeft_eq sv.i, Option.bind_some, nv, vDot_eq k1 sny.i sx.i snv.i su.i, Option.bind_some, Option.bind_some, if_pos d1, Option.bind_some, vCross_eq k1 sny.i sx.i snv.i su.i, Option.bind_some, vCross_eq k1 sx.i sy.i su.i sv.i, Option.bind_some, if_pos c1, vLen_eq k1 sny.i sx.i, Option.bind_some, vLen_eq k1 sx.i sy.i, Option.bind_some, if_pos l1, vScale_eq k1 sx.i sy.i (show I64 4294967296 by unfold I64; omega), Option.bind_some, mul_one sx, mul_one sy]
  simp

end Go.Proofs.Ytfdjpjainjjljaa.Pure
