/- Worlds: a copy whose last body's corners are a list of the caller's own. -/
import Derived.Test.YtbcnifnmccaleaaYWp
namespace Go.Proofs.Ytbcnifnmccaleaa.Y
open Go Go.RowKit Go.Proofs.Ytbcnifnmccaleaa.E Go.Proofs.Ytbcnifnmccaleaa.Ma Go.Proofs.Ytbcnifnmccaleaa.Fw
set_option linter.unusedVariables false
set_option linter.unusedSimpArgs false
set_option maxRecDepth 10000

abbrev Z10 := Int × Int × Int × Int × Int × Int × Int × Int × Int × Int
/-- A body of its numbers, and its corners. -/
def bodyZ (z : Z10) (p : Nat × (Nat → List AV)) : BT := (z.1, z.2.1, z.2.2.1, z.2.2.2.1, z.2.2.2.2.1, z.2.2.2.2.2.1, z.2.2.2.2.2.2.1, z.2.2.2.2.2.2.2.1, z.2.2.2.2.2.2.2.2.1, z.2.2.2.2.2.2.2.2.2, p)
theorem deep_dec {α β γ δ : Type} {T : DeepT α β γ δ} {cs : List AV} {ob : Ob} {rest : List Ob} {x : α} {b : (Nat × (Nat → β)) × γ} {d : δ} (h1 : slcsB 0 T.V.num (cs.drop (cs.length - T.V.num)) = true) (h2 : T.pre.dec (cloL (cs.take (cs.length - T.V.num))) = some x) (h3 : T.lastDec ob = some b) (h4 : T.V.dec rest = some d) : T.dec (.agg cs) (ob :: rest) = some (x, b, d) := by
  unfold DeepT.dec
  simp only [h1, h2, h3, h4]
theorem lastDec_of {α β γ δ : Type} {T : DeepT α β γ δ} {m : Nat} {rows : Nat → List AV} {y : Nat → β} {l : List AV} {z : γ} (hr : ∀ i, i < m → T.U.row.dec (cloL (rows i)) = some (y i)) (h1 : lastS T.V.num (rows m) = some l) (h2 : T.L.dec (cloL l) = some z) :
    T.lastDec ⟨true, T.U.e, T.U.sz, m + 1, rows, none⟩ = some ((m, fun i => (T.U.row.dec (cloL (rows i))).getD T.U.z), z) := by
  unfold DeepT.lastDec
  have e : rowsDec T.U.row T.U.z m (fun i => cloL (rows i)) = some (m, fun i => (T.U.row.dec (cloL (rows i))).getD T.U.z) := by
    unfold rowsDec
    rw [if_pos fun i hi => ⟨_, hr i hi⟩]
  simp only [Nat.beq_refl, Bool.and_self, e, h1, h2]
theorem deep_ex {α β γ δ : Type} {T : DeepT α β γ δ} {cs : List AV} {rest : List Ob} {m : Nat} {rows : Nat → List AV} {y : Nat → β} {l : List AV} {x : α} {z : γ} {d : δ} (h1 : slcsB 0 T.V.num (cs.drop (cs.length - T.V.num)) = true) (h2 : T.pre.dec (cloL (cs.take (cs.length - T.V.num))) = some x)
    (hr : ∀ i, i < m → T.U.row.dec (cloL (rows i)) = some (y i)) (hl : lastS T.V.num (rows m) = some l) (hz : T.L.dec (cloL l) = some z) (h4 : T.V.dec rest = some d) :
    ∃ y' : Nat → β, (∀ i, i < m → y' i = y i) ∧ T.dec (.agg cs) (⟨true, T.U.e, T.U.sz, m + 1, rows, none⟩ :: rest) = some (x, ((m, y'), z), d) :=
  ⟨_, fun i hi => by show (T.U.row.dec (cloL (rows i))).getD T.U.z = y i; rw [hr i hi]; rfl, deep_dec h1 h2 (lastDec_of hr hl hz) h4⟩
noncomputable abbrev DTy : DeepT (Int × Int × Int × Int × Int) BT Z10 ((Nat × (Nat → JT)) × ((Nat × (Nat → CT)) × (Nat × (Nat → P2)))) :=
  DeepT.mk (tCons (tI .i64) (tCons (tI .i64) (tCons (tI .i64) (tCons (tI .i64) (tOne (tI .i64)))))) (RowT.mk RiiiiiiiiiiL2 43 11 zB) Riiiiiiiiii (oCons (RowT.mk Riiiiiiii 51 8 zJ) (oCons (RowT.mk Riiiii 69 5 zC) (oOne (RowT.mk Rii 26 2 (0, 0)))))
theorem copyw_eq (kd r : Int) (n : Nat) (hn : n ≤ 1000) (g : Nat → P2) : shape.Copy_w.f (kd, r, (n, fun i => Rii.enc (g i))) = some ((kd, r), (n, g)) := by
  have hc : decide (n * 16 ≤ 140737488355328) = true := by simp; omega
  have e : (fun i => cloL (if i < 0 then (fun _ => Rii.enc (0, 0)) i else (fun i => Rii.enc (g i)) (i - 0))) = fun i => Rii.enc (g i) := by
    funext i
    rw [if_neg (by omega)]
    exact Rii_clo _
  have e0 : shape.Copy_w.f (kd, r, (n, fun i => Rii.enc (g i))) = shape.Copy_w.g 0 (kd, r, (n, fun i => Rii.enc (g i))) := rfl
  rw [e0, shape.Copy_w.eq, hc, cond_true, e]
  exact own_dec (T := OwnT.mk (tCons (tI .i64) (tOne (tI .i64))) Rii 26 2 (0, 0)) (l := [.val (.int .i64 kd), .val (.int .i64 r)]) rfl (by kernel_rfl) Rii_dec n g
/-! ### The copy's loop -/
theorem turn_row (n : Nat) (h : Nat → P2) (a0 a1 a2 a3 a4 a5 a6 a7 a8 a9 : Int) : renL (lookF [] 3) (frzC 39 ⟨true, 26, 2, n, (fun i => Rii.enc (h i)), none⟩ [.val (.int .i64 a0), .val (.int .i64 a1), .val (.int .i64 a2), .val (.int .i64 a3), .val (.int .i64 a4), .val (.int .i64 a5), .val (.int .i64 a6), .val (.int .i64 a7), .val (.int .i64 a8), .val (.int .i64 a9), .slc 39 0 none none]) = RiiiiiiiiiiL2.enc (a0, a1, a2, a3, a4, a5, a6, a7, a8, a9, (n, fun i => Rii.enc (h i))) := by kernel_rfl
theorem turn_old (ob : Ob) (x : BT) : renL (lookF [] 3) (frzC 39 ob (RiiiiiiiiiiL2.enc x)) = RiiiiiiiiiiL2.enc x := by kernel_rfl
theorem turn_rows (n : Nat) (h : Nat → P2) (a0 a1 a2 a3 a4 a5 a6 a7 a8 a9 : Int) (g : Nat → BT) (k : Nat) : (fun i => renL (lookF [] 3) (frzC 39 ⟨true, 26, 2, n, (fun i => Rii.enc (h i)), none⟩ (if i = k then [.val (.int .i64 a0), .val (.int .i64 a1), .val (.int .i64 a2), .val (.int .i64 a3), .val (.int .i64 a4), .val (.int .i64 a5), .val (.int .i64 a6), .val (.int .i64 a7), .val (.int .i64 a8), .val (.int .i64 a9), .slc 39 0 none none] else RiiiiiiiiiiL2.enc (g i)))) = fun i => RiiiiiiiiiiL2.enc (upd1 g k (a0, a1, a2, a3, a4, a5, a6, a7, a8, a9, (n, fun i => Rii.enc (h i))) i) := by
  funext i
  unfold upd1
  split
  · exact turn_row n h a0 a1 a2 a3 a4 a5 a6 a7 a8 a9
  · exact turn_old _ _
abbrev DWT := (Int × Int × Int × Int × Int) × ((Nat × (Nat → BT)) × Z10) × ((Nat × (Nat → JT)) × ((Nat × (Nat → CT)) × (Nat × (Nat → P2))))
noncomputable def CD (K : Nat) (w : Wd) (i : Int) : Option DWT := world.Copy_d.l0 1000000 K w.t w.nb w.nj w.gx w.gy w.js.1 (fun i => Riiiiiiii.enc (w.js.2 i)) w.cs.1 (fun i => Riiiii.enc (w.cs.2 i)) w.bs.1 (fun i => RiiiiiiiiiiL2.enc (w.bs.2 i)) (w.bs.1 : Int) i
theorem CD_copy {w : Wd} {i : Nat} (hf : FineB (w.bs.2 i)) (hr : RightB (w.bs.2 i)) : ∃ g : Nat → P2, (w.bs.2 i).2.2.2.2.2.2.2.2.2.2.2 = (fun i => Rii.enc (g i)) ∧ (∀ j, j < (w.bs.2 i).2.2.2.2.2.2.2.2.2.2.1 → I2 (g j)) ∧
    shape.Copy_w.f ((w.bs.2 i).2.2.2.2.2.2.2.2.1, (w.bs.2 i).2.2.2.2.2.2.2.2.2.1, ((w.bs.2 i).2.2.2.2.2.2.2.2.2.2.1, (w.bs.2 i).2.2.2.2.2.2.2.2.2.2.2)) = some (((w.bs.2 i).2.2.2.2.2.2.2.2.1, (w.bs.2 i).2.2.2.2.2.2.2.2.2.1), ((w.bs.2 i).2.2.2.2.2.2.2.2.2.2.1, g)) := by
  have hfew := rightB_few hf hr
  obtain ⟨_, _, _, _, _, g, hG, hg⟩ := hf
  refine ⟨g, hG, hg, ?_⟩
  rw [hG]
  exact copyw_eq _ _ _ (by omega) g
theorem CD_step (w : Wd) (K i : Nat) (hi : i + 1 < w.bs.1) (hn : w.bs.1 ≤ 900000) (hf : FineB (w.bs.2 i)) (hr : RightB (w.bs.2 i)) : CD (K + 1) w (i : Int) = CD K w ((i + 1 : Nat) : Int) := by
  obtain ⟨g, hG, hg, hcp⟩ := CD_copy hf hr
  have hd : decide ((i : Int) + 1 = (w.bs.1 : Int)) = false := by simp; omega
  unfold CD
  rw [world.Copy_d.l0_eq, hd, cond_false, lt_nat i _ (by omega), cond_true, ge_nat, cond_true]
  simp only [Int.toNat_natCast]
  rw [hcp, Option.bind_some, cond_true, wrap_nat i (by omega), turn_rows]
  have e : ((w.bs.2 i).1, (w.bs.2 i).2.1, (w.bs.2 i).2.2.1, (w.bs.2 i).2.2.2.1, (w.bs.2 i).2.2.2.2.1, (w.bs.2 i).2.2.2.2.2.1, (w.bs.2 i).2.2.2.2.2.2.1, (w.bs.2 i).2.2.2.2.2.2.2.1, (w.bs.2 i).2.2.2.2.2.2.2.2.1, (w.bs.2 i).2.2.2.2.2.2.2.2.2.1, ((w.bs.2 i).2.2.2.2.2.2.2.2.2.2.1, (fun i => Rii.enc (g i)))) = w.bs.2 i := by
    rw [← hG]
  rw [e, upd1_self]
/-- The last turn, and what comes behind it. -/
theorem CD_last (w : Wd) (K m : Nat) (hm : w.bs.1 = m + 1) (hn : w.bs.1 ≤ 900000) (hj : w.js.1 ≤ 900000) (hc : w.cs.1 ≤ 900000) {z : Z10} {np : Nat} {g : Nat → P2} (hl : w.bs.2 m = bodyZ z (np, fun i => Rii.enc (g i))) (hnp : np ≤ 1000) :
    ∃ y : Nat → BT, (∀ i, i < m → y i = w.bs.2 i) ∧ CD (K + 1) w (m : Int) = some ((w.t, w.nb, w.nj, w.gx, w.gy), ((m, y), z), (w.js, (w.cs, (np, g)))) := by
  have hd : decide ((m : Int) + 1 = (w.bs.1 : Int)) = true := by simp; omega
  have c1 : decide (w.js.1 * 64 ≤ 140737488355328) = true := by simp; omega
  have c2 : decide (w.cs.1 * 40 ≤ 140737488355328) = true := by simp; omega
  have hlt : decide (((m + 1 : Nat) : Int) < (w.bs.1 : Int)) = false := by simp; omega
  have hcp : shape.Copy_w.f ((w.bs.2 m).2.2.2.2.2.2.2.2.1, (w.bs.2 m).2.2.2.2.2.2.2.2.2.1, ((w.bs.2 m).2.2.2.2.2.2.2.2.2.2.1, (w.bs.2 m).2.2.2.2.2.2.2.2.2.2.2)) = some ((z.2.2.2.2.2.2.2.2.1, z.2.2.2.2.2.2.2.2.2), (np, g)) := by
    rw [hl]
    exact copyw_eq _ _ _ hnp g
  unfold CD
  rw [world.Copy_d.l0_eq, hd, cond_true, lt_nat m _ (by omega), cond_true, ge_nat, cond_true]
  simp only [Int.toNat_natCast]
  rw [hcp, Option.bind_some, cond_true, wrap_nat m (by omega), hlt, cond_false, slices.Clone_lJoint_Joint.eq, c1, cond_true, Option.bind_some, slices.Clone_lContact_Contact.eq, c2, cond_true, Option.bind_some, hm]
  refine deep_ex (T := DTy) (y := w.bs.2) (z := z) (l := [.val (.int .i64 z.1), .val (.int .i64 z.2.1), .val (.int .i64 z.2.2.1), .val (.int .i64 z.2.2.2.1), .val (.int .i64 z.2.2.2.2.1), .val (.int .i64 z.2.2.2.2.2.1), .val (.int .i64 z.2.2.2.2.2.2.1), .val (.int .i64 z.2.2.2.2.2.2.2.1), .val (.int .i64 z.2.2.2.2.2.2.2.2.1), .val (.int .i64 z.2.2.2.2.2.2.2.2.2)]) (by kernel_rfl) (by kernel_rfl) (fun i hi => ?_) ?_ (by kernel_rfl) (oCons_dec (RowT.rows_typed (T := RowT.mk Riiiiiiii 51 8 zJ) Riiiiiiii_clo Riiiiiiii_dec w.js.1 w.js.2) (oCons_dec (RowT.rows_typed (T := RowT.mk Riiiii 69 5 zC) Riiiii_clo Riiiii_dec w.cs.1 w.cs.2) (oOne_dec (RowT.rows_typed (T := RowT.mk Rii 26 2 (0, 0)) Rii_clo Rii_dec np g))))
  · show RiiiiiiiiiiL2.dec (cloL (renL (posF [2, 63, 75, 39]) (if i = m then _ else RiiiiiiiiiiL2.enc (w.bs.2 i)))) = _
    rw [if_neg (by omega), RiiiiiiiiiiL2_ren, RiiiiiiiiiiL2_clo, RiiiiiiiiiiL2_dec]
  · rw [if_pos rfl, hl]
    kernel_rfl
theorem CD_run {w : Wd} (h : Good w) {m : Nat} (hm : w.bs.1 = m + 1) {z : Z10} {np : Nat} {g : Nat → P2} (hl : w.bs.2 m = bodyZ z (np, fun i => Rii.enc (g i))) (hnp : np ≤ 1000) :
    ∀ (d i K : Nat), i + d = m → d < K → ∃ y : Nat → BT, (∀ i, i < m → y i = w.bs.2 i) ∧ CD K w (i : Int) = some ((w.t, w.nb, w.nj, w.gx, w.gy), ((m, y), z), (w.js, (w.cs, (np, g))))
  | 0, i, K + 1, e, _ => by
    have : i = m := by omega
    subst this
    have hj := h.j
    have hb := h.b
    exact CD_last w K i hm (by omega) (by omega) h.fine.nc hl hnp
  | d + 1, i, K + 1, e, hk => by
    have hb := h.b
    have hmm : w.bs.2 i ∈ lst w.bs := mem_lst.2 ⟨i, by omega, rfl⟩
    rw [CD_step w K i (by omega) (by omega) (h.fine.b _ hmm) (h.right.rb _ hmm)]
    exact CD_run h hm hl hnp d (i + 1) K (by omega) (by omega)
/-- A copy, its last body's corners by themselves. -/
theorem CopyD_eq {w : Wd} (h : Good w) {m : Nat} (hm : w.bs.1 = m + 1) {z : Z10} {np : Nat} {g : Nat → P2} (hl : w.bs.2 m = bodyZ z (np, fun i => Rii.enc (g i))) (hnp : np ≤ 1000) :
    ∃ y : Nat → BT, (∀ i, i < m → y i = w.bs.2 i) ∧ world.Copy_d.f w.raw = some ((w.t, w.nb, w.nj, w.gx, w.gy), ((m, y), z), (w.js, (w.cs, (np, g)))) := by
  have hb := h.b
  have hc : decide (w.bs.1 * 104 ≤ 140737488355328) = true := by simp; omega
  have e : world.Copy_d.f w.raw = world.Copy_d.g 1000000 w.raw := rfl
  rw [e]
  unfold Wd.raw
  rw [world.Copy_d.eq, slices.Clone_lBody_Body.eq, hc, cond_true, Option.bind_some]
  exact CD_run h hm hl hnp m 0 1000000 (by omega) (by omega)
end Go.Proofs.Ytbcnifnmccaleaa.Y
