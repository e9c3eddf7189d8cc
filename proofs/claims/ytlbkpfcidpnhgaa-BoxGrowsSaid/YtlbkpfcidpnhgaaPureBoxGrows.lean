/- For every rectangle and every number: grown by it, a rectangle goes as much farther to all sides; no condition. -/
import Derived.OpenShut
import Derived.Test.YtlbkpfcidpnhgaaPBox3
import Derived.Test.YtlbkpfcidpnhgaaPBox5
import Derived.Test.YtlbkpfcidpnhgaaPBox6
import Derived.Test.YtlbkpfcidpnhgaaPBox7
import Derived.Test.YtlbkpfcidpnhgaaSh
namespace Go.Proofs.Ytlbkpfcidpnhgaa.Pure
open Go.RowKit Go.Proofs.YtlbkpfcidpnhgaaW.PrintWords Go.Proofs.YtlbkpfcidpnhgaaW.PrintLast Go.Proofs.YtlbkpfcidpnhgaaW.PrintMore Go.Proofs.Ytlbkpfcidpnhgaa.PBo Go.Proofs.Ytlbkpfcidpnhgaa.Ma Go.Proofs.Ytlbkpfcidpnhgaa.Fx Go.Proofs.Ytlbkpfcidpnhgaa.Dv Go.Proofs.Ytlbkpfcidpnhgaa.Vc Go.Proofs.Ytlbkpfcidpnhgaa.Tm Go.Proofs.Ytlbkpfcidpnhgaa.Ln Go.Proofs.Ytlbkpfcidpnhgaa.Sh

theorem fit_eq {k : Nat} (hk : 200 ≤ k) : bagatellelaw06_fit.f k = some true :=
  at_rounds bagatellelaw06_fit.mono hk (by decide +kernel)
theorem nb {a b c d : Int} (h1 : a = c) (h2 : b = d) : ¬ ((!(a == c) || (!(b == d))) = true) := by rw [h1, h2]; simp
theorem yb {a b c d : Int} (h1 : a = c) (h2 : b = d) : (a == c && (b == d)) = true := by rw [h1, h2]; simp
theorem Grow_eq {k : Nat} (hk : 60 ≤ k) {a b c d g : Int} (ha : I64 a) (hb : I64 b) (hc : I64 c) (hd : I64 d) (hg : I64 g) : box_Grow.f k a b c d g = some (Ma.sub a g, Ma.sub b g, Ma.add c g, Ma.add d g) := by
  unfold box_Grow.f; rw [vSub_eq hk ha hb hg hg, Option.bind_some, vAdd_eq hk hc hd hg hg, Option.bind_some]
theorem BoxGrows : bagatellelaw06_BoxGrows.Pure := by
  intro a b c d g wa wb wc wd wg
  have ha : I64 a := bounds_i64 wa
  have hb : I64 b := bounds_i64 wb
  have hc : I64 c := bounds_i64 wc
  have hd : I64 d := bounds_i64 wd
  have hg : I64 g := bounds_i64 wg
  refine ⟨203, ?_⟩
  unfold bagatellelaw06_BoxGrows.f
  rw [fit_eq (by omega), Option.bind_some, if_pos rfl, Grow_eq (by omega) ha hb hc hd hg, Option.bind_some, Sub_eq (by omega) ha hg, Option.bind_some, if_pos rfl, Sub_eq (by omega) hb hg, Option.bind_some, if_pos rfl, add_eq' (by omega) hc hg, Option.bind_some, if_pos rfl, add_eq' (by omega) hd hg, Option.bind_some]
  simp

end Go.Proofs.Ytlbkpfcidpnhgaa.Pure
