/- Worlds: a copy is the same. -/
import Derived.Test.YtbcnifnmccaleaaYWf
namespace Go.Proofs.Ytbcnifnmccaleaa.Y
open Go Go.RowKit Go.Proofs.Ytbcnifnmccaleaa.E Go.Proofs.Ytbcnifnmccaleaa.Ma Go.Proofs.Ytbcnifnmccaleaa.Fw
set_option linter.unusedVariables false
set_option linter.unusedSimpArgs false
set_option maxRecDepth 10000

abbrev OWT := (Int × Int × Int × Int × Int) × ((Nat × (Nat → BT)) × ((Nat × (Nat → JT)) × (Nat × (Nat → CT))))
def Wd.own (w : Wd) : OWT := ((w.t, w.nb, w.nj, w.gx, w.gy), (w.bs, (w.js, w.cs)))
noncomputable abbrev WsTy : WsT (Int × Int × Int × Int × Int) ((Nat × (Nat → BT)) × ((Nat × (Nat → JT)) × (Nat × (Nat → CT)))) :=
  WsT.mk (tCons (tI .i64) (tCons (tI .i64) (tCons (tI .i64) (tCons (tI .i64) (tOne (tI .i64)))))) (oCons (RowT.mk RiiiiiiiiiiL2 43 11 zB) (oCons (RowT.mk Riiiiiiii 51 8 zJ) (oOne (RowT.mk Riiiii 69 5 zC))))
theorem ws_w (t nb nj gx gy : Int) (nB : Nat) (gB : Nat → BT) (nJ : Nat) (gJ : Nat → JT) (nC : Nat) (gC : Nat → CT) :
    WsTy.dec (.agg [.val (.int .i64 t), .val (.int .i64 nb), .val (.int .i64 nj), .val (.int .i64 gx), .val (.int .i64 gy), .slc 0 0 none none, .slc 1 0 none none, .slc 2 0 none none])
      [⟨true, 43, 11, nB, fun i => RiiiiiiiiiiL2.enc (gB i), none⟩, ⟨true, 51, 8, nJ, fun i => Riiiiiiii.enc (gJ i), none⟩, ⟨true, 69, 5, nC, fun i => Riiiii.enc (gC i), none⟩] = some ((t, nb, nj, gx, gy), ((nB, gB), ((nJ, gJ), (nC, gC)))) :=
  ws_dec (by kernel_rfl) (by kernel_rfl) (oCons_dec (RowT.rows_typed (T := RowT.mk RiiiiiiiiiiL2 43 11 zB) RiiiiiiiiiiL2_clo RiiiiiiiiiiL2_dec nB gB)
    (oCons_dec (RowT.rows_typed (T := RowT.mk Riiiiiiii 51 8 zJ) Riiiiiiii_clo Riiiiiiii_dec nJ gJ) (oOne_dec (RowT.rows_typed (T := RowT.mk Riiiii 69 5 zC) Riiiii_clo Riiiii_dec nC gC))))
noncomputable def CF (K : Nat) (w : Wd) (i : Int) : Option OWT := world.Copy.l0 1000000 K w.t w.nb w.nj w.gx w.gy w.js.1 (fun i => Riiiiiiii.enc (w.js.2 i)) w.cs.1 (fun i => Riiiii.enc (w.cs.2 i)) w.bs.1 (fun i => RiiiiiiiiiiL2.enc (w.bs.2 i)) (w.bs.1 : Int) i
theorem upd1_self {α : Type} (g : Nat → α) (i : Nat) : upd1 g i (g i) = g := by
  funext j
  unfold upd1
  split
  · rename_i h; rw [h]
  · rfl
theorem CF_step (w : Wd) (K i : Nat) (hi : i < w.bs.1) (hn : w.bs.1 ≤ 900000) (hf : FineB (w.bs.2 i)) (hr : RightB (w.bs.2 i)) : CF (K + 1) w (i : Int) = CF K w ((i + 1 : Nat) : Int) := by
  have hfew := rightB_few hf hr
  obtain ⟨_, _, _, _, _, g, hG, hg⟩ := hf
  have hcp : shape.Copy.f ((w.bs.2 i).2.2.2.2.2.2.2.2.1, (w.bs.2 i).2.2.2.2.2.2.2.2.2.1, ((w.bs.2 i).2.2.2.2.2.2.2.2.2.2.1, (w.bs.2 i).2.2.2.2.2.2.2.2.2.2.2)) = some ((w.bs.2 i).2.2.2.2.2.2.2.2.1, (w.bs.2 i).2.2.2.2.2.2.2.2.2.1, ((w.bs.2 i).2.2.2.2.2.2.2.2.2.2.1, g)) := by
    rw [hG]
    exact copy_eq _ _ _ (by omega) g
  unfold CF
  rw [world.Copy.l0_eq, lt_nat i _ hi, cond_true, ge_nat, cond_true]
  simp only [Int.toNat_natCast]
  rw [hcp, Option.bind_some, cond_true, wrap_nat i (by omega)]
  simp only [row_upd_ren RiiiiiiiiiiL2_ren]
  have e : ((w.bs.2 i).1, (w.bs.2 i).2.1, (w.bs.2 i).2.2.1, (w.bs.2 i).2.2.2.1, (w.bs.2 i).2.2.2.2.1, (w.bs.2 i).2.2.2.2.2.1, (w.bs.2 i).2.2.2.2.2.2.1, (w.bs.2 i).2.2.2.2.2.2.2.1, (w.bs.2 i).2.2.2.2.2.2.2.2.1, (w.bs.2 i).2.2.2.2.2.2.2.2.2.1, ((w.bs.2 i).2.2.2.2.2.2.2.2.2.2.1, (fun i => Rii.enc (g i)))) = w.bs.2 i := by
    rw [← hG]
  rw [e, upd1_self]
theorem CF_end (w : Wd) (K : Nat) (hj : w.js.1 ≤ 900000) (hc : w.cs.1 ≤ 900000) : CF (K + 1) w (w.bs.1 : Int) = some w.own := by
  have c1 : decide (w.js.1 * 64 ≤ 140737488355328) = true := by simp; omega
  have c2 : decide (w.cs.1 * 40 ≤ 140737488355328) = true := by simp; omega
  unfold CF
  rw [world.Copy.l0_eq, nlt_nat _ _ (by omega), cond_false, slices.Clone_lJoint_Joint.eq, c1, cond_true, Option.bind_some, slices.Clone_lContact_Contact.eq, c2, cond_true, Option.bind_some]
  exact ws_w _ _ _ _ _ _ _ _ _ _ _
theorem CF_run {w : Wd} (h : Good w) : ∀ (d i K : Nat), i + d = w.bs.1 → d < K → CF K w (i : Int) = some w.own
  | 0, i, K + 1, e, _ => by
    have : i = w.bs.1 := by omega
    subst this
    have hj := h.j
    exact CF_end w K (by omega) h.fine.nc
  | d + 1, i, K + 1, e, hk => by
    have hb := h.b
    have hm : w.bs.2 i ∈ lst w.bs := mem_lst.2 ⟨i, by omega, rfl⟩
    rw [CF_step w K i (by omega) (by omega) (h.fine.b _ hm) (h.right.rb _ hm)]
    exact CF_run h d (i + 1) K (by omega) (by omega)
/-- A copy is the same. -/
theorem Copy_eq {w : Wd} (h : Good w) : world.Copy.f w.raw = some w.own := by
  have hb := h.b
  have hc : decide (w.bs.1 * 104 ≤ 140737488355328) = true := by simp; omega
  have e : world.Copy.f w.raw = world.Copy.g 1000000 w.raw := rfl
  rw [e]
  unfold Wd.raw
  rw [world.Copy.eq, slices.Clone_lBody_Body.eq, hc, cond_true, Option.bind_some]
  exact CF_run h w.bs.1 0 1000000 (by omega) (by omega)
end Go.Proofs.Ytbcnifnmccaleaa.Y
