/- What the printed functions of package vec compute, part by part. -/
import Derived.Test.YtlbkpfcidpnhgaaPBox12
import Derived.Test.YtlbkpfcidpnhgaaPBox3
import Derived.Test.YtlbkpfcidpnhgaaPBox4
import Derived.Test.YtlbkpfcidpnhgaaPBox7
import Derived.Test.YtlbkpfcidpnhgaaMb
import Derived.Test.YtlbkpfcidpnhgaaDv
import Derived.Test.YtlbkpfcidpnhgaaFs
namespace Go.Proofs.Ytlbkpfcidpnhgaa.Vc
open Go.RowKit Go.Proofs.YtlbkpfcidpnhgaaW.PrintWords Go.Proofs.YtlbkpfcidpnhgaaW.PrintLast Go.Proofs.YtlbkpfcidpnhgaaW.PrintMore Go.Proofs.Ytlbkpfcidpnhgaa.PBo Go.Proofs.Ytlbkpfcidpnhgaa.Ma Go.Proofs.Ytlbkpfcidpnhgaa.Fx Go.Proofs.Ytlbkpfcidpnhgaa.Dv

theorem add_i (a b : Int) : I64 (Ma.add a b) := (add_s a b).i
theorem sub_i (a b : Int) : I64 (Ma.sub a b) := (sub_s a b).i
theorem neg_i {a : Int} (h : I64 a) : I64 (Ma.neg a) := (neg_s h).i
theorem mul_i {a b : Int} (h : I64 a) (h' : I64 b) : I64 (Ma.mul a b) := (mul_s h h').i
theorem div_i {a b : Int} (h : I64 a) (h' : I64 b) : I64 (Ma.div a b) := (div_s h h').i
theorem abs_i {a : Int} (h : I64 a) : I64 (Ma.abs a) := (abs_S h).i
theorem sqrt_i {a : Int} (h : I64 a) : I64 (Ma.sqrt a) := (sqrt_s h).i
def dot (a b c d : Int) : Int := Ma.add (Ma.mul a c) (Ma.mul b d)
def cross (a b c d : Int) : Int := Ma.sub (Ma.mul a d) (Ma.mul b c)
def len (a b : Int) : Int := Ma.sqrt (dot a b a b)
theorem dot_i (a b c d : Int) : I64 (dot a b c d) := add_i _ _
theorem cross_i (a b c d : Int) : I64 (cross a b c d) := sub_i _ _
theorem len_i (a b : Int) : I64 (len a b) := sqrt_i (dot_i _ _ _ _)
theorem dot_S (a b c d : Int) : S63 (dot a b c d) := add_s _ _
theorem len_S (a b : Int) : S63 (len a b) := sqrt_s (dot_i _ _ _ _)
def bring (a m : Int) : Int := mn (mx (wh a) (-m)) m
theorem bring_b {a m : Int} (hm : 0 ≤ m) : -m ≤ bring a m ∧ bring a m ≤ m := by
  unfold bring mx mn; repeat' split
  all_goals omega
theorem Sub_eq {k : Nat} (hk : 1 ≤ k) {a b : Int} (ha : I64 a) (hb : I64 b) : fix_Sub.f k a b = some (Ma.sub a b) := by
  unfold fix_Sub.f; rw [neg_eq hb, Option.bind_some, add_eq' hk ha (neg_s hb).i, Option.bind_some]; rfl
theorem Bring_eq (a lo hi : Int) : fix_Bring.f a lo hi = some (mn (mx (wh a) lo) hi) := by
  unfold fix_Bring.f; rw [whole_eq, Option.bind_some]
section
variable {k : Nat} (hk : 60 ≤ k) {a b c d : Int} (ha : I64 a) (hb : I64 b) (hc : I64 c) (hd : I64 d)
include hk ha hb hc hd
theorem vAdd_eq : vec_Add.f k a b c d = some (Ma.add a c, Ma.add b d) := by
  unfold vec_Add.f; rw [add_eq' (by omega) ha hc, Option.bind_some, add_eq' (by omega) hb hd, Option.bind_some]
theorem vSub_eq : vec_Sub.f k a b c d = some (Ma.sub a c, Ma.sub b d) := by
  unfold vec_Sub.f; rw [Sub_eq (by omega) ha hc, Option.bind_some, Sub_eq (by omega) hb hd, Option.bind_some]
theorem vDot_eq : vec_Dot.f k a b c d = some (dot a b c d) := by
  unfold vec_Dot.f; rw [mul_eq (by omega) ha hc, Option.bind_some, mul_eq (by omega) hb hd, Option.bind_some, add_eq' (by omega) (mul_i ha hc) (mul_i hb hd), Option.bind_some]; rfl
theorem vApply_eq : vec_Apply.f k a b c d = some (Ma.sub (Ma.mul a c) (Ma.mul b d), Ma.add (Ma.mul b c) (Ma.mul a d)) := by
  unfold vec_Apply.f; rw [mul_eq (by omega) ha hc, Option.bind_some, mul_eq (by omega) hb hd, Option.bind_some, Sub_eq (by omega) (mul_i ha hc) (mul_i hb hd), Option.bind_some, mul_eq (by omega) hb hc, Option.bind_some, mul_eq (by omega) ha hd, Option.bind_some, add_eq' (by omega) (mul_i hb hc) (mul_i ha hd), Option.bind_some]
omit hc hd
theorem vLen_eq : vec_Len.f k a b = some (len a b) := by
  unfold vec_Len.f; rw [vDot_eq hk ha hb ha hb, Option.bind_some, sqrt_eq (by omega) (dot_i _ _ _ _), Option.bind_some]; rfl
end
theorem vBring_eq {a b m : Int} (h0 : 0 ≤ m) (h1 : m ≤ 9223372036854775807) : vec_Bring.f a b m = some (bring a m, bring b m) := by
  unfold vec_Bring.f; rw [w64 (x := -m) (by unfold I64; omega), Bring_eq, Option.bind_some, Bring_eq, Option.bind_some]; rfl
end Go.Proofs.Ytlbkpfcidpnhgaa.Vc
