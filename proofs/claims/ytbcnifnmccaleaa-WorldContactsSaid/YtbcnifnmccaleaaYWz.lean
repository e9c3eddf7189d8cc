/- Worlds without contacts: bodies and joints come and go; worlds made of deeds (printed by wip/tools/mkwz.py). -/
import Derived.Test.YtbcnifnmccaleaaYWf
namespace Go.Proofs.Ytbcnifnmccaleaa.Y
open Go Go.RowKit Go.Proofs.Ytbcnifnmccaleaa.E Go.Proofs.Ytbcnifnmccaleaa.Ma Go.Proofs.Ytbcnifnmccaleaa.Fw
set_option linter.unusedVariables false
set_option linter.unusedSimpArgs false
set_option maxRecDepth 10000

abbrev RZT := Int × Int × Int × Int × Int × (Nat × (Nat → List AV)) × (Nat × (Nat → List AV)) × Unit
abbrev TZT := Int × Int × Int × Int × Int × (Nat × (Nat → BT)) × (Nat × (Nat → JT)) × Unit
def Wd.rawz (w : Wd) : RZT := (w.t, w.nb, w.nj, w.gx, w.gy, (w.bs.1, fun i => RiiiiiiiiiiL2.enc (w.bs.2 i)), (w.js.1, fun i => Riiiiiiii.enc (w.js.2 i)), ())
def Wd.tupz (w : Wd) : TZT := (w.t, w.nb, w.nj, w.gx, w.gy, w.bs, w.js, ())
def ofTz (x : TZT) : Wd := ⟨x.1, x.2.1, x.2.2.1, x.2.2.2.1, x.2.2.2.2.1, x.2.2.2.2.2.1, x.2.2.2.2.2.2.1, (0, fun _ => zC)⟩
noncomputable abbrev WTz : TyL TZT := (tCons (tI .i64) (tCons (tI .i64) (tCons (tI .i64) (tCons (tI .i64) (tCons (tI .i64) (tCons (tTL RiiiiiiiiiiL2 11 zB) (tCons (tTL Riiiiiiii 8 zJ) (tOne tNS))))))))
theorem dec_tNS : tNS.dec (.val (.slice none 0 0)) = some () := rfl
theorem outD_wz {β : Type} {U : Ty β} {v : AV} {x : β} (hU : U.dec v = some x) (t nb nj gx gy : Int) (nB : Nat) (gB : Nat → BT) (nJ : Nat) (gJ : Nat → JT) :
    outD U WTz v [.val (.int .i64 t), .val (.int .i64 nb), .val (.int .i64 nj), .val (.int .i64 gx), .val (.int .i64 gy), .lst 11 nB none (fun i => RiiiiiiiiiiL2.enc (gB i)), .lst 8 nJ none (fun i => Riiiiiiii.enc (gJ i)), .val (.slice none 0 0)] = some (x, (t, nb, nj, gx, gy, (nB, gB), (nJ, gJ), ())) := by
  unfold outD
  rw [hU]
  simp only [dec_tCons, dec_tOne, dec_tI, dec_tTL, dec_tNS, decRows_enc RiiiiiiiiiiL2_dec, decRows_enc Riiiiiiii_dec, Option.bind_some]
theorem Body_c (t nb nj gx gy : Int) (nB : Nat) (gB : Nat → BT) (nJ : Nat) (gJ : Nat → JT) (c : Nat × (Nat → List AV)) (x : Int) : world.Body.f ((t, nb, nj, gx, gy, (nB, fun i => RiiiiiiiiiiL2.enc (gB i)), (nJ, fun i => Riiiiiiii.enc (gJ i)), c), x) =
    (world.find_Body.f ((nB, (fun i => RiiiiiiiiiiL2.enc (gB i))), x, ())).bind fun r1 => some (r1.1, r1.2) := by kernel_rfl
theorem Joint_c (t nb nj gx gy : Int) (nB : Nat) (gB : Nat → BT) (nJ : Nat) (gJ : Nat → JT) (c : Nat × (Nat → List AV)) (x : Int) : world.Joint.f ((t, nb, nj, gx, gy, (nB, fun i => RiiiiiiiiiiL2.enc (gB i)), (nJ, fun i => Riiiiiiii.enc (gJ i)), c), x) =
    (world.find_Joint.f ((nJ, (fun i => Riiiiiiii.enc (gJ i))), x, ())).bind fun r1 => some (r1.1, r1.2) := by kernel_rfl
section
variable {w : Wd}
theorem Body_z (x : Int) : world.Body.f ((w.t, w.nb, w.nj, w.gx, w.gy, (w.bs.1, fun i => RiiiiiiiiiiL2.enc (w.bs.2 i)), (w.js.1, fun i => Riiiiiiii.enc (w.js.2 i)), (0, fun _ => [])), x) = world.Body.f (w.raw, x) := by
  unfold Wd.raw
  rw [Body_c, Body_c]
theorem Joint_z (x : Int) : world.Joint.f ((w.t, w.nb, w.nj, w.gx, w.gy, (w.bs.1, fun i => RiiiiiiiiiiL2.enc (w.bs.2 i)), (w.js.1, fun i => Riiiiiiii.enc (w.js.2 i)), (0, fun _ => [])), x) = world.Joint.f (w.raw, x) := by
  unfold Wd.raw
  rw [Joint_c, Joint_c]
theorem AddBody_no_z (b : BT) (hr : world.RightBody.f b = some false) (hb : FineB b) : world.AddBody_z.f (w.rawz, b) = some ((0, 2), w.tupz) := by
  obtain ⟨id, px, py, vx, vy, an, sp, de, sk, sr, n, G⟩ := b
  obtain ⟨_, _, _, _, _, g, hG, hg⟩ := hb
  dsimp only at hG hg
  subst hG
  unfold Wd.rawz
  rw [world.AddBody_z.eq, hr, Option.bind_some, Bool.not_false, cond_true]
  exact outD_wz (by kernel_rfl) _ _ _ _ _ _ _ _ _
theorem AddBody_full_z (b : BT) (hr : RightB b) (hb : FineB b) (hf : 1024 ≤ w.bs.1 ∨ 4611686018427387904 ≤ w.nb) : world.AddBody_z.f (w.rawz, b) = some ((0, 3), w.tupz) := by
  obtain ⟨id, px, py, vx, vy, an, sp, de, sk, sr, n, G⟩ := b
  obtain ⟨_, _, _, _, _, g, hG, hg⟩ := hb
  dsimp only at hG hg
  subst hG
  unfold RightB at hr
  unfold Wd.rawz
  rw [world.AddBody_z.eq, hr, Option.bind_some, Bool.not_true, cond_false]
  by_cases h : ((w.bs.1 : Nat) : Int) ≥ 1024
  · rw [decide_eq_true h, cond_true]
    exact outD_wz (by kernel_rfl) _ _ _ _ _ _ _ _ _
  · rw [decide_eq_false h, cond_false, decide_eq_true (show w.nb ≥ 4611686018427387904 by omega), cond_true]
    exact outD_wz (by kernel_rfl) _ _ _ _ _ _ _ _ _
theorem AddBody_ok_z (b : BT) (hr : RightB b) (hb : FineB b) (h1 : w.bs.1 < 1024) (h2 : w.nb < 4611686018427387904) (h0 : 1 ≤ w.nb) : world.AddBody_z.f (w.rawz, b) = some ((w.nb, 0), (w.addB b).tupz) := by
  have hfew := rightB_few hb hr
  obtain ⟨id, px, py, vx, vy, an, sp, de, sk, sr, n, G⟩ := b
  obtain ⟨_, _, _, _, _, g, hG, hg⟩ := hb
  dsimp only at hG hg hfew
  subst hG
  unfold RightB at hr
  unfold Wd.rawz
  have hc : ((decide (w.bs.1 ≤ w.bs.1)) && (decide ((w.bs.1 + 1) * 104 ≤ 140737488355328))) = true := by simp; omega
  have hw : IntKind.i64.wrap (w.nb + 1) = w.nb + 1 := by rw [IntKind.wrap_i64]; omega
  rw [world.AddBody_z.eq, hr, Option.bind_some, Bool.not_true, cond_false, decide_eq_false (show ¬ ((w.bs.1 : Nat) : Int) ≥ 1024 by omega), cond_false, decide_eq_false (show ¬ w.nb ≥ 4611686018427387904 by omega), cond_false,
    copy_eq sk sr n (by omega) g, Option.bind_some, clipB_eq, Option.bind_some]
  simp only [hc, cond_true, hw]
  rw [row_upd_clo RiiiiiiiiiiL2_clo]
  exact outD_wz (by kernel_rfl) _ _ _ _ _ _ _ _ _
theorem AddJoint_no_z (j : JT) (hr : world.RightJoint.f j = some false) : world.AddJoint_z.f (w.rawz, j) = some ((0, 2), w.tupz) := by
  obtain ⟨id, a, b, px, py, vx, vy, le⟩ := j
  unfold Wd.rawz
  rw [world.AddJoint_z.eq, hr, Option.bind_some, Bool.not_false, cond_true]
  exact outD_wz (by kernel_rfl) _ _ _ _ _ _ _ _ _
theorem AddJoint_eq_z (j : JT) (hr : RightJ j) (hn : w.bs.1 ≤ 900000) (hs : (lst w.bs).Pairwise fun a b => a.1 < b.1) (h0 : 1 ≤ w.nj) :
    (¬ (ThereL w j.2.1 ∧ ThereL w j.2.2.1) ∧ world.AddJoint_z.f (w.rawz, j) = some ((0, 4), w.tupz)) ∨
    ((ThereL w j.2.1 ∧ ThereL w j.2.2.1) ∧ (1024 ≤ w.js.1 ∨ 4611686018427387904 ≤ w.nj) ∧ world.AddJoint_z.f (w.rawz, j) = some ((0, 3), w.tupz)) ∨
    ((ThereL w j.2.1 ∧ ThereL w j.2.2.1) ∧ w.js.1 < 1024 ∧ w.nj < 4611686018427387904 ∧ world.AddJoint_z.f (w.rawz, j) = some ((w.nj, 0), (w.addJ j).tupz)) := by
  obtain ⟨id, a, b, px, py, vx, vy, le⟩ := j
  unfold RightJ at hr
  dsimp only
  have e1 : ∀ x, world.Body.f ((w.t, w.nb, w.nj, w.gx, w.gy, (w.bs.1, fun i => RiiiiiiiiiiL2.enc (w.bs.2 i)), (w.js.1, fun i => Riiiiiiii.enc (w.js.2 i)), (0, fun _ => [])), x) = world.Body.f (w.raw, x) := fun x => Body_z x
  unfold Wd.rawz
  rw [world.AddJoint_z.eq, hr, Option.bind_some, Bool.not_true, cond_false, e1, e1]
  rcases Body_w w hn hs a with ⟨p, h1, h2, h3⟩ | ⟨h1, h3⟩
  · rw [h3, Option.bind_some]
    have ta : ThereL w a := ⟨_, mem_lst.2 ⟨p, h1, rfl⟩, h2⟩
    rcases Body_w w hn hs b with ⟨q, g1, g2, g3⟩ | ⟨g1, g3⟩
    · have tb : ThereL w b := ⟨_, mem_lst.2 ⟨q, g1, rfl⟩, g2⟩
      rw [g3, Option.bind_some, Bool.not_true, cond_false, cond_false]
      refine .inr ?_
      by_cases c1 : ((w.js.1 : Nat) : Int) ≥ 1024
      · rw [decide_eq_true c1, cond_true]
        exact .inl ⟨⟨ta, tb⟩, by omega, outD_wz (by kernel_rfl) _ _ _ _ _ _ _ _ _⟩
      rw [decide_eq_false c1, cond_false]
      by_cases c2 : w.nj ≥ 4611686018427387904
      · rw [decide_eq_true c2, cond_true]
        exact .inl ⟨⟨ta, tb⟩, by omega, outD_wz (by kernel_rfl) _ _ _ _ _ _ _ _ _⟩
      rw [decide_eq_false c2, cond_false]
      have hc : ((decide (w.js.1 ≤ w.js.1)) && (decide ((w.js.1 + 1) * 64 ≤ 140737488355328))) = true := by simp; omega
      have hw : IntKind.i64.wrap (w.nj + 1) = w.nj + 1 := by rw [IntKind.wrap_i64]; omega
      rw [clipJ_eq, Option.bind_some]
      simp only [hc, cond_true, hw]
      rw [row_upd_clo Riiiiiiii_clo]
      exact .inr ⟨⟨ta, tb⟩, by omega, by omega, outD_wz (by kernel_rfl) _ _ _ _ _ _ _ _ _⟩
    · rw [g3, Option.bind_some, Bool.not_true, cond_false, Bool.not_false, cond_true]
      exact .inl ⟨fun ⟨_, c, hc, e⟩ => g1 c hc e, outD_wz (by kernel_rfl) _ _ _ _ _ _ _ _ _⟩
  · rw [h3, Option.bind_some]
    have nt : ¬ (ThereL w a ∧ ThereL w b) := fun ⟨⟨c, hc, e⟩, _⟩ => h1 c hc e
    rcases Body_w w hn hs b with ⟨q, g1, g2, g3⟩ | ⟨g1, g3⟩
    · rw [g3, Option.bind_some, Bool.not_false, cond_true]
      exact .inl ⟨nt, outD_wz (by kernel_rfl) _ _ _ _ _ _ _ _ _⟩
    · rw [g3, Option.bind_some, Bool.not_false, cond_true]
      exact .inl ⟨nt, outD_wz (by kernel_rfl) _ _ _ _ _ _ _ _ _⟩
theorem RemoveJoint_eq_z (hj : w.js.1 ≤ 900000) (hs : (lst w.js).Pairwise fun a b => a.1 < b.1) (x : Int) :
    ((∃ j ∈ lst w.js, j.1 = x) ∧ ∃ y2, lst y2 = (lst w.js).filter (fun b => !goneJ_v1 x b) ∧ world.RemoveJoint_z.f (w.rawz, x) = some (true, ({ w with js := y2 } : Wd).tupz)) ∨
      (¬ (∃ j ∈ lst w.js, j.1 = x) ∧ world.RemoveJoint_z.f (w.rawz, x) = some (false, w.tupz)) := by
  have e1 : ∀ x, world.Joint.f ((w.t, w.nb, w.nj, w.gx, w.gy, (w.bs.1, fun i => RiiiiiiiiiiL2.enc (w.bs.2 i)), (w.js.1, fun i => Riiiiiiii.enc (w.js.2 i)), (0, fun _ => [])), x) = world.Joint.f (w.raw, x) := fun x => Joint_z x
  unfold Wd.rawz
  rw [world.RemoveJoint_z.eq, e1]
  rcases Joint_w w hj hs x with ⟨p, h1, h2, h3⟩ | ⟨h1, h3⟩
  · rw [h3, Option.bind_some, Bool.not_true, cond_false]
    obtain ⟨y2, b1, b2⟩ := withoutJ_v1 w.js.1 hj w.js.2 x
    rw [b1, Option.bind_some]
    exact .inl ⟨⟨_, mem_lst.2 ⟨p, h1, rfl⟩, h2⟩, y2, b2, outD_wz (by kernel_rfl) _ _ _ _ _ _ _ _ _⟩
  · rw [h3, Option.bind_some, Bool.not_false, cond_true]
    exact .inr ⟨fun ⟨c, hc, e⟩ => h1 c hc e, outD_wz (by kernel_rfl) _ _ _ _ _ _ _ _ _⟩
theorem RemoveBody_eq_z (hb : w.bs.1 ≤ 900000) (hj : w.js.1 ≤ 900000) (hs : (lst w.bs).Pairwise fun a b => a.1 < b.1) (x : Int) :
    (ThereL w x ∧ ∃ y1 y2, lst y1 = (lst w.bs).filter (fun b => !goneB x b) ∧ lst y2 = (lst w.js).filter (fun b => !goneJ x b) ∧
      world.RemoveBody_z.f (w.rawz, x) = some (true, ({ w with bs := y1, js := y2 } : Wd).tupz)) ∨ (¬ ThereL w x ∧ world.RemoveBody_z.f (w.rawz, x) = some (false, w.tupz)) := by
  unfold Wd.rawz
  rw [world.RemoveBody_z.eq, Body_z]
  rcases Body_w w hb hs x with ⟨p, h1, h2, h3⟩ | ⟨h1, h3⟩
  · rw [h3, Option.bind_some, Bool.not_true, cond_false]
    obtain ⟨y1, a1, a2⟩ := withoutB w.bs.1 hb w.bs.2 x
    obtain ⟨y2, b1, b2⟩ := withoutJ w.js.1 hj w.js.2 x
    rw [a1, Option.bind_some, b1, Option.bind_some]
    exact .inl ⟨⟨_, mem_lst.2 ⟨p, h1, rfl⟩, h2⟩, y1, y2, a2, b2, outD_wz (by kernel_rfl) _ _ _ _ _ _ _ _ _⟩
  · rw [h3, Option.bind_some, Bool.not_false, cond_true]
    exact .inr ⟨fun ⟨c, hc, e⟩ => h1 c hc e, outD_wz (by kernel_rfl) _ _ _ _ _ _ _ _ _⟩
theorem doAddB_z (h : Good w) {b : BT} (hb : FineB b) : ∃ r w', world.AddBody_z.f (w.rawz, b) = some (r, w'.tupz) ∧ Good w' ∧ Step w w' := by
  obtain ⟨v, hv⟩ := rightB_some hb
  cases v with
  | false => exact ⟨_, w, AddBody_no_z b hv hb, h, .refl w⟩
  | true =>
    by_cases hf : 1024 ≤ w.bs.1 ∨ 4611686018427387904 ≤ w.nb
    · exact ⟨_, w, AddBody_full_z b hv hb hf, h, .refl w⟩
    · have h1 : w.bs.1 < 1024 := by omega
      have h2 : w.nb < 4611686018427387904 := by omega
      refine ⟨_, w.addB b, AddBody_ok_z b hv hb h1 h2 h.right.nb0, good_addB h hv hb h1 h2, ⟨rfl, rfl, rfl, ?_, ?_, ?_, ?_, ?_⟩⟩
      · exact Nat.le_refl _
      · exact Int.le_refl _
      · exact Nat.le_succ _
      · show w.nj ≤ w.nj + 1; omega
      · exact Nat.le_refl _
theorem doAddJ_z (h : Good w) {j : JT} (hj : FineJ j) : ∃ r w', world.AddJoint_z.f (w.rawz, j) = some (r, w'.tupz) ∧ Good w' ∧ Step w w' := by
  obtain ⟨v, hv⟩ := rightJ_some hj
  cases v with
  | false => exact ⟨_, w, AddJoint_no_z j hv, h, .refl w⟩
  | true =>
    have hb := h.b
    rcases AddJoint_eq_z j hv (by omega) h.right.ab h.right.nj0 with ⟨_, e⟩ | ⟨_, _, e⟩ | ⟨ht, h1, h2, e⟩
    · exact ⟨_, w, e, h, .refl w⟩
    · exact ⟨_, w, e, h, .refl w⟩
    · refine ⟨_, w.addJ j, e, good_addJ h hv hj ht h1 h2, ⟨rfl, rfl, rfl, ?_, ?_, ?_, ?_, ?_⟩⟩
      · exact Nat.le_succ _
      · show w.nb ≤ w.nb + 1; omega
      · exact Nat.le_refl _
      · exact Int.le_refl _
      · exact Nat.le_refl _
theorem doRemJ_z (h : Good w) (x : Int) : ∃ r w', world.RemoveJoint_z.f (w.rawz, x) = some (r, w'.tupz) ∧ Good w' ∧ Step w w' := by
  have hj := h.j
  rcases RemoveJoint_eq_z (by omega) h.right.aj x with ⟨_, y2, e2, e⟩ | ⟨_, e⟩
  · have l2 := filter_le e2
    refine ⟨_, _, e, good_removeJ h x e2, ⟨rfl, rfl, rfl, ?_, ?_, ?_, ?_, Nat.le_refl _⟩⟩
    · exact Nat.le_succ _
    · show w.nb ≤ w.nb + 1; omega
    · show y2.1 ≤ w.js.1 + 1; omega
    · show w.nj ≤ w.nj + 1; omega
  · exact ⟨_, w, e, h, .refl w⟩
theorem doRemB_z (h : Good w) (hc0 : w.cs.1 = 0) (x : Int) : ∃ r w', world.RemoveBody_z.f (w.rawz, x) = some (r, w'.tupz) ∧ Good w' ∧ Step w w' := by
  have hb := h.b
  have hj := h.j
  rcases RemoveBody_eq_z (by omega) (by omega) h.right.ab x with ⟨_, y1, y2, e1, e2, e⟩ | ⟨_, e⟩
  · have l1 := filter_le e1
    have l2 := filter_le e2
    have e3 : lst w.cs = (lst w.cs).filter (fun b => !goneC x b) := by
      have : lst w.cs = [] := by unfold lst; rw [hc0]; rfl
      rw [this]; rfl
    refine ⟨_, _, e, good_removeB h x e1 e2 e3, ⟨rfl, rfl, rfl, ?_, ?_, ?_, ?_, ?_⟩⟩
    · show y1.1 ≤ w.bs.1 + 1; omega
    · show w.nb ≤ w.nb + 1; omega
    · show y2.1 ≤ w.js.1 + 1; omega
    · show w.nj ≤ w.nj + 1; omega
    · exact Nat.le_refl _
  · exact ⟨_, w, e, h, .refl w⟩
end

/-! ### Made -/
theorem tG_w_z (t nb nj gx gy : Int) (nB : Nat) (gB : Nat → BT) (nJ : Nat) (gJ : Nat → JT) :
    (tG WTz).dec (.agg [.val (.int .i64 t), .val (.int .i64 nb), .val (.int .i64 nj), .val (.int .i64 gx), .val (.int .i64 gy), .lst 11 nB none (fun i => RiiiiiiiiiiL2.enc (gB i)), .lst 8 nJ none (fun i => Riiiiiiii.enc (gJ i)), .val (.slice none 0 0)]) = some (t, nb, nj, gx, gy, (nB, gB), (nJ, gJ), ()) := by
  simp only [dec_tG, dec_tCons, dec_tOne, dec_tI, dec_tTL, decRows_enc RiiiiiiiiiiL2_dec, decRows_enc Riiiiiiii_dec, dec_tNS, Option.bind_some]
theorem New_eq_z : world.New_z.f () = some newW.tupz := by
  rw [world.New_z.eq]
  simp only [dec_tG, dec_tCons, dec_tOne, dec_tI, dec_tTL0, dec_tNS, Option.bind_some]
  rfl
noncomputable def MF_z (n : Nat) (ds : Nat → DT) (K : Nat) (w : Wd) (i : Int) : Option TZT := law09.Made_z.l0 1000000 K w.t w.nb w.nj w.gx w.gy w.bs.1 (fun i => RiiiiiiiiiiL2.enc (w.bs.2 i)) w.js.1 (fun i => Riiiiiiii.enc (w.js.2 i)) n (fun i => RiiiiiiiiiiiiiiiiiiiiiiiiiiiiiL2.enc (ds i)) (n : Int) i
section
variable {n : Nat} {ds : Nat → DT}
theorem MF_of (K : Nat) (w : Wd) (i : Int) : MF_z n ds K (ofTz w.tupz) i = MF_z n ds K w i := by unfold MF_z; rfl
noncomputable def opJ_z (n : Nat) (ds : Nat → DT) (K : Nat) (w : Wd) (i : Int) (d : DT) : Option TZT := (law09.Deed.Joint.f d).bind fun j => (world.AddJoint_z.f (w.rawz, j)).bind fun r => MF_z n ds K (ofTz r.2) (IntKind.i64.wrap (i + 1))
noncomputable def opB_z (n : Nat) (ds : Nat → DT) (K : Nat) (w : Wd) (i : Int) (d : DT) : Option TZT := (law09.Deed.Body.f d).bind fun j => (world.AddBody_z.f (w.rawz, rawB j)).bind fun r => MF_z n ds K (ofTz r.2) (IntKind.i64.wrap (i + 1))
noncomputable def opRB_z (n : Nat) (ds : Nat → DT) (K : Nat) (w : Wd) (i : Int) (d : DT) : Option TZT := (world.RemoveBody_z.f (w.rawz, Go.bits .and .i64 d.2.2.2.2.2.2.2.2.2.2.2.2.1 15)).bind fun r => MF_z n ds K (ofTz r.2) (IntKind.i64.wrap (i + 1))
noncomputable def opRJ_z (n : Nat) (ds : Nat → DT) (K : Nat) (w : Wd) (i : Int) (d : DT) : Option TZT := (world.RemoveJoint_z.f (w.rawz, Go.bits .and .i64 d.2.2.2.2.2.2.2.2.2.2.2.2.1 15)).bind fun r => MF_z n ds K (ofTz r.2) (IntKind.i64.wrap (i + 1))
theorem MF_eq_z (K : Nat) (w : Wd) (i : Int) : MF_z n ds (K + 1) w i = bif decide (i < (n : Int)) then (bif (decide (0 ≤ i) && decide (i < ((n : Nat) : Int))) then
    (bif (Go.bits .and .i64 (ds i.toNat).1 7 == 4) then (bif (Go.bits .and .i64 (ds i.toNat).1 7 == 4) then opJ_z n ds K w i (ds i.toNat) else bif (Go.bits .and .i64 (ds i.toNat).1 7 == 6) then opRB_z n ds K w i (ds i.toNat) else bif (Go.bits .and .i64 (ds i.toNat).1 7 == 3) then opRJ_z n ds K w i (ds i.toNat) else opB_z n ds K w i (ds i.toNat))
     else bif (Go.bits .and .i64 (ds i.toNat).1 7 == 5) then opJ_z n ds K w i (ds i.toNat) else bif (Go.bits .and .i64 (ds i.toNat).1 7 == 6) then opRB_z n ds K w i (ds i.toNat) else bif (Go.bits .and .i64 (ds i.toNat).1 7 == 3) then opRJ_z n ds K w i (ds i.toNat) else opB_z n ds K w i (ds i.toNat))
    else none) else some w.tupz := by
  have e : (tG WTz).dec (.agg [.val (.int .i64 w.t), .val (.int .i64 w.nb), .val (.int .i64 w.nj), .val (.int .i64 w.gx), .val (.int .i64 w.gy), .lst 11 w.bs.1 none (fun i => RiiiiiiiiiiL2.enc (w.bs.2 i)), .lst 8 w.js.1 none (fun i => Riiiiiiii.enc (w.js.2 i)), .val (.slice none 0 0)]) = some w.tupz := tG_w_z _ _ _ _ _ _ _ _ _
  rw [← e]
  exact law09.Made_z.l0_eq 1000000 K w.t w.nb w.nj w.gx w.gy w.bs.1 w.bs.2 w.js.1 w.js.2 n ds (n : Int) i
attribute [local irreducible] opJ_z opB_z opRB_z opRJ_z MF_z
theorem MF_step_z (hn : n ≤ 1000000) (hd : ∀ i, i < n → FineD (ds i)) (K : Nat) {w : Wd} (i : Nat) (hi : i < n) (h : Small i w) : ∃ w', Small (i + 1) w' ∧ MF_z n ds (K + 1) w (i : Int) = MF_z n ds K w' ((i + 1 : Nat) : Int) := by
  rw [MF_eq_z, lt_nat i n hi, cond_true, ge_nat, cond_true, Int.toNat_natCast]
  have fd := hd i hi
  have hj : ∃ w', Small (i + 1) w' ∧ opJ_z n ds K w (i : Int) (ds i) = MF_z n ds K w' ((i + 1 : Nat) : Int) := by
    obtain ⟨j, j1, j2⟩ := djoint_ok fd
    obtain ⟨r, w', e, g, s⟩ := doAddJ_z h.good j2
    refine ⟨w', h.step g s, ?_⟩
    unfold opJ_z
    rw [j1, Option.bind_some, e, Option.bind_some, wrap_nat i (by omega)]
    exact MF_of _ _ _
  have hb : ∃ w', Small (i + 1) w' ∧ opB_z n ds K w (i : Int) (ds i) = MF_z n ds K w' ((i + 1 : Nat) : Int) := by
    obtain ⟨j, j1, j2⟩ := dbody_ok fd
    obtain ⟨r, w', e, g, s⟩ := doAddB_z h.good j2.fine
    refine ⟨w', h.step g s, ?_⟩
    unfold opB_z
    rw [j1, Option.bind_some, e, Option.bind_some, wrap_nat i (by omega)]
    exact MF_of _ _ _
  have hrb : ∃ w', Small (i + 1) w' ∧ opRB_z n ds K w (i : Int) (ds i) = MF_z n ds K w' ((i + 1 : Nat) : Int) := by
    obtain ⟨r, w', e, g, s⟩ := doRemB_z h.good h.c (Go.bits .and .i64 (ds i).2.2.2.2.2.2.2.2.2.2.2.2.1 15)
    refine ⟨w', h.step g s, ?_⟩
    unfold opRB_z
    rw [e, Option.bind_some, wrap_nat i (by omega)]
    exact MF_of _ _ _
  have hrj : ∃ w', Small (i + 1) w' ∧ opRJ_z n ds K w (i : Int) (ds i) = MF_z n ds K w' ((i + 1 : Nat) : Int) := by
    obtain ⟨r, w', e, g, s⟩ := doRemJ_z h.good (Go.bits .and .i64 (ds i).2.2.2.2.2.2.2.2.2.2.2.2.1 15)
    refine ⟨w', h.step g s, ?_⟩
    unfold opRJ_z
    rw [e, Option.bind_some, wrap_nat i (by omega)]
    exact MF_of _ _ _
  simp only [Bool.cond_eq_ite]
  repeat' split
  all_goals first | exact hj | exact hb | exact hrb | exact hrj
theorem MF_run_z (hn : n ≤ 900000) (hd : ∀ i, i < n → FineD (ds i)) : ∀ (d i K : Nat) (w : Wd), i + d = n → d < K → Small i w → ∃ w', Small n w' ∧ MF_z n ds K w (i : Int) = some w'.tupz
  | 0, i, K + 1, w, h, _, hs => by
    have : i = n := by omega
    subst this
    refine ⟨w, hs, ?_⟩
    rw [MF_eq_z, nlt_nat i i (by omega), cond_false]
  | d + 1, i, K + 1, w, h, hk, hs => by
    obtain ⟨w', h1, h2⟩ := MF_step_z (by omega) hd K i (by omega) hs
    rw [h2]
    exact MF_run_z hn hd d (i + 1) K w' (by omega) (by omega) h1
theorem Made_eq_z (hd : ∀ i, i < n → FineD (ds i)) (k : Nat) (hk : k ≤ 900000) : ∃ w, Small (min n k) w ∧ law09.Made_z.f ((n, fun i => RiiiiiiiiiiiiiiiiiiiiiiiiiiiiiL2.enc (ds i)), (k : Int)) = some w.tupz := by
  have e : law09.Made_z.f ((n, fun i => RiiiiiiiiiiiiiiiiiiiiiiiiiiiiiL2.enc (ds i)), (k : Int)) = law09.Made_z.g 1000000 ((n, fun i => RiiiiiiiiiiiiiiiiiiiiiiiiiiiiiL2.enc (ds i)), (k : Int)) := rfl
  rw [e, law09.Made_z.eq, New_eq_z, Option.bind_some]
  have em : (if (k : Int) < ((n : Nat) : Int) then (k : Int) else ((n : Nat) : Int)) = ((min n k : Nat) : Int) := by split <;> omega
  rw [em]
  have hc : ((decide (0 ≤ ((min n k : Nat) : Int))) && (decide (((min n k : Nat) : Int) ≤ ((n : Nat) : Int)))) = true := by simp; omega
  rw [hc, cond_true, Int.toNat_natCast]
  have e3 : ∀ K, law09.Made_z.l0 1000000 K newW.tupz.1 newW.tupz.2.1 newW.tupz.2.2.1 newW.tupz.2.2.2.1 newW.tupz.2.2.2.2.1 newW.tupz.2.2.2.2.2.1.1 (fun i => RiiiiiiiiiiL2.enc (newW.tupz.2.2.2.2.2.1.2 i)) newW.tupz.2.2.2.2.2.2.1.1 (fun i => Riiiiiiii.enc (newW.tupz.2.2.2.2.2.2.1.2 i)) (min n k) (fun i => RiiiiiiiiiiiiiiiiiiiiiiiiiiiiiL2.enc (ds i)) ((min n k : Nat) : Int) 0 = MF_z (min n k) ds K newW ((0 : Nat) : Int) := fun K => by unfold MF_z; rfl
  rw [e3]
  exact MF_run_z (n := min n k) (by omega) (fun i hi => hd i (by omega)) (min n k) 0 1000000 newW (by omega) (by omega) ⟨good_new, rfl, rfl, rfl, Nat.le_refl _, Int.le_refl _, Nat.le_refl _, Int.le_refl _, rfl⟩
end
end Go.Proofs.Ytbcnifnmccaleaa.Y
