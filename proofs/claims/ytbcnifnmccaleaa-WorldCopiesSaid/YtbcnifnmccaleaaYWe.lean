/- Worlds: bodies and joints come and go. -/
import Derived.Test.YtbcnifnmccaleaaYWd
namespace Go.Proofs.Ytbcnifnmccaleaa.Y
open Go Go.RowKit Go.Proofs.Ytbcnifnmccaleaa.E Go.Proofs.Ytbcnifnmccaleaa.Ma Go.Proofs.Ytbcnifnmccaleaa.Fw
set_option linter.unusedVariables false
set_option linter.unusedSimpArgs false
set_option maxRecDepth 10000

structure Good (w : Wd) : Prop where
  fine : FineW w
  right : RightW w
def Wd.addB (w : Wd) (b : BT) : Wd := { w with nb := w.nb + 1, bs := (w.bs.1 + 1, upd1 w.bs.2 w.bs.1 (w.nb, b.2)) }
def Wd.addJ (w : Wd) (j : JT) : Wd := { w with nj := w.nj + 1, js := (w.js.1 + 1, upd1 w.js.2 w.js.1 (w.nj, j.2)) }
theorem lst_push {α : Type} (x : Nat × (Nat → α)) (v : α) : lst (x.1 + 1, upd1 x.2 x.1 v) = lst x ++ [v] := map_upd1 x.2 x.1 v
theorem Good.b {w : Wd} (h : Good w) : w.bs.1 ≤ 1024 := by have := h.right.lb; rwa [lst_len] at this
theorem Good.j {w : Wd} (h : Good w) : w.js.1 ≤ 1024 := by have := h.right.lj; rwa [lst_len] at this
theorem Good.tells {w : Wd} (h : Good w) : world.Right.f w.raw = some true := (Right_tells h.fine).t h.right

section
variable {w : Wd}
theorem copy_eq (kd r : Int) (n : Nat) (hn : n ≤ 1000) (g : Nat → P2) : shape.Copy.f (kd, r, (n, fun i => Rii.enc (g i))) = some (kd, r, (n, g)) := by
  have hc : decide (n * 16 ≤ 140737488355328) = true := by simp; omega
  have e : (fun i => cloL (if i < 0 then (fun _ => Rii.enc (0, 0)) i else (fun i => Rii.enc (g i)) (i - 0))) = fun i => Rii.enc (g i) := by
    funext i
    rw [if_neg (by omega)]
    exact Rii_clo _
  rw [shape.Copy.eq, hc, cond_true, e]
  simp only [dec_tG, dec_tCons, dec_tOne, dec_tI, dec_tTL, decRows_enc Rii_dec, Option.bind_some]
theorem clipB_eq (n : Nat) (g : Nat → BT) : slices.Clip_lBody_Body.f (n, fun i => RiiiiiiiiiiL2.enc (g i)) = some (n, g) := by
  have hc : (((decide (0 ≤ ((n : Nat) : Int))) && (decide (((n : Nat) : Int) ≤ ((n : Nat) : Int)))) && (decide (((n : Nat) : Int) ≤ ((n : Nat) : Int)))) = true := by simp
  rw [slices.Clip_lBody_Body.eq, hc, cond_true, Int.toNat_natCast, dec_tTC, decRows_enc RiiiiiiiiiiL2_dec]
theorem clipJ_eq (n : Nat) (g : Nat → JT) : slices.Clip_lJoint_Joint.f (n, fun i => Riiiiiiii.enc (g i)) = some (n, g) := by
  have hc : (((decide (0 ≤ ((n : Nat) : Int))) && (decide (((n : Nat) : Int) ≤ ((n : Nat) : Int)))) && (decide (((n : Nat) : Int) ≤ ((n : Nat) : Int)))) = true := by simp
  rw [slices.Clip_lJoint_Joint.eq, hc, cond_true, Int.toNat_natCast, dec_tTC, decRows_enc Riiiiiiii_dec]
theorem AddBody_no (b : BT) (hr : world.RightBody.f b = some false) (hb : FineB b) : world.AddBody.f (w.raw, b) = some ((0, 2), w.tup) := by
  obtain ⟨id, px, py, vx, vy, an, sp, de, sk, sr, n, G⟩ := b
  obtain ⟨_, _, _, _, _, g, hG, hg⟩ := hb
  dsimp only at hG hg
  subst hG
  unfold Wd.raw
  rw [world.AddBody.eq, hr, Option.bind_some, Bool.not_false, cond_true]
  exact outD_w (by kernel_rfl) _ _ _ _ _ _ _ _ _ _ _
theorem AddBody_full (b : BT) (hr : RightB b) (hb : FineB b) (hf : 1024 ≤ w.bs.1 ∨ 4611686018427387904 ≤ w.nb) : world.AddBody.f (w.raw, b) = some ((0, 3), w.tup) := by
  obtain ⟨id, px, py, vx, vy, an, sp, de, sk, sr, n, G⟩ := b
  obtain ⟨_, _, _, _, _, g, hG, hg⟩ := hb
  dsimp only at hG hg
  subst hG
  unfold RightB at hr
  unfold Wd.raw
  rw [world.AddBody.eq, hr, Option.bind_some, Bool.not_true, cond_false]
  by_cases h : ((w.bs.1 : Nat) : Int) ≥ 1024
  · rw [decide_eq_true h, cond_true]
    exact outD_w (by kernel_rfl) _ _ _ _ _ _ _ _ _ _ _
  · rw [decide_eq_false h, cond_false, decide_eq_true (show w.nb ≥ 4611686018427387904 by omega), cond_true]
    exact outD_w (by kernel_rfl) _ _ _ _ _ _ _ _ _ _ _
theorem AddBody_ok (b : BT) (hr : RightB b) (hb : FineB b) (h1 : w.bs.1 < 1024) (h2 : w.nb < 4611686018427387904) (h0 : 1 ≤ w.nb) : world.AddBody.f (w.raw, b) = some ((w.nb, 0), (w.addB b).tup) := by
  have hfew := rightB_few hb hr
  obtain ⟨id, px, py, vx, vy, an, sp, de, sk, sr, n, G⟩ := b
  obtain ⟨_, _, _, _, _, g, hG, hg⟩ := hb
  dsimp only at hG hg hfew
  subst hG
  unfold RightB at hr
  unfold Wd.raw
  have hc : ((decide (w.bs.1 ≤ w.bs.1)) && (decide ((w.bs.1 + 1) * 104 ≤ 140737488355328))) = true := by simp; omega
  have hw : IntKind.i64.wrap (w.nb + 1) = w.nb + 1 := by rw [IntKind.wrap_i64]; omega
  rw [world.AddBody.eq, hr, Option.bind_some, Bool.not_true, cond_false, decide_eq_false (show ¬ ((w.bs.1 : Nat) : Int) ≥ 1024 by omega), cond_false, decide_eq_false (show ¬ w.nb ≥ 4611686018427387904 by omega), cond_false,
    copy_eq sk sr n (by omega) g, Option.bind_some, clipB_eq, Option.bind_some]
  simp only [hc, cond_true, hw]
  rw [row_upd_clo RiiiiiiiiiiL2_clo]
  exact outD_w (by kernel_rfl) _ _ _ _ _ _ _ _ _ _ _
theorem good_addB {b : BT} (h : Good w) (hr : RightB b) (hb : FineB b) (h1 : w.bs.1 < 1024) (h2 : w.nb < 4611686018427387904) : Good (w.addB b) := by
  have e : lst (w.addB b).bs = lst w.bs ++ [(w.nb, b.2)] := lst_push w.bs _
  have R := h.right
  refine ⟨⟨h.fine.gx, h.fine.gy, fun a ha => ?_, h.fine.j, h.fine.nc⟩, ?_⟩
  · rw [e, List.mem_append, List.mem_singleton] at ha
    rcases ha with ha | rfl
    · exact h.fine.b a ha
    · exact hb
  · have hnb := R.nb0
    refine ⟨R.t0, R.t1, by show w.nb + 1 ≤ _; omega, R.nj1, by rw [e]; simp [lst_len]; omega, R.lj, R.gr, by show 1 ≤ w.nb + 1; omega, R.nj0, fun a ha => ?_, R.pj, ?_, R.aj, fun a ha => ?_, fun j hj => ?_, fun c hc => ?_, R.ac⟩
    · show 0 < a.1 ∧ a.1 < w.nb + 1
      rw [e, List.mem_append, List.mem_singleton] at ha
      rcases ha with ha | rfl
      · have := R.pb a ha; omega
      · show 0 < w.nb ∧ w.nb < w.nb + 1
        omega
    · rw [e, List.pairwise_append]
      refine ⟨R.ab, by simp, fun a ha c hc => ?_⟩
      rw [List.mem_singleton] at hc
      subst hc
      exact (R.pb a ha).2
    · rw [e, List.mem_append, List.mem_singleton] at ha
      rcases ha with ha | rfl
      · exact R.rb a ha
      · unfold RightB; rw [rightB_id]; exact hr
    · obtain ⟨q1, ⟨b1, q2, q3⟩, b2, q4, q5⟩ := R.rj j hj
      exact ⟨q1, ⟨b1, by rw [e]; simp [q2], q3⟩, b2, by rw [e]; simp [q4], q5⟩
    · obtain ⟨q0, q1, q6, ⟨b1, q2, q3⟩, b2, q4, q5⟩ := R.rc c hc
      exact ⟨q0, q1, q6, ⟨b1, by rw [e]; simp [q2], q3⟩, b2, by rw [e]; simp [q4], q5⟩

/-! ### Joints -/
theorem AddJoint_no (j : JT) (hr : world.RightJoint.f j = some false) : world.AddJoint.f (w.raw, j) = some ((0, 2), w.tup) := by
  obtain ⟨id, a, b, px, py, vx, vy, le⟩ := j
  unfold Wd.raw
  rw [world.AddJoint.eq, hr, Option.bind_some, Bool.not_false, cond_true]
  exact outD_w (by kernel_rfl) _ _ _ _ _ _ _ _ _ _ _
theorem AddJoint_eq (j : JT) (hr : RightJ j) (hn : w.bs.1 ≤ 900000) (hs : (lst w.bs).Pairwise fun a b => a.1 < b.1) (h0 : 1 ≤ w.nj) :
    (¬ (ThereL w j.2.1 ∧ ThereL w j.2.2.1) ∧ world.AddJoint.f (w.raw, j) = some ((0, 4), w.tup)) ∨
    ((ThereL w j.2.1 ∧ ThereL w j.2.2.1) ∧ (1024 ≤ w.js.1 ∨ 4611686018427387904 ≤ w.nj) ∧ world.AddJoint.f (w.raw, j) = some ((0, 3), w.tup)) ∨
    ((ThereL w j.2.1 ∧ ThereL w j.2.2.1) ∧ w.js.1 < 1024 ∧ w.nj < 4611686018427387904 ∧ world.AddJoint.f (w.raw, j) = some ((w.nj, 0), (w.addJ j).tup)) := by
  obtain ⟨id, a, b, px, py, vx, vy, le⟩ := j
  unfold RightJ at hr
  dsimp only
  have e1 : ∀ x, world.Body.f ((w.t, w.nb, w.nj, w.gx, w.gy, (w.bs.1, fun i => RiiiiiiiiiiL2.enc (w.bs.2 i)), (w.js.1, fun i => Riiiiiiii.enc (w.js.2 i)), (w.cs.1, fun i => Riiiii.enc (w.cs.2 i))), x) = world.Body.f (w.raw, x) := fun x => rfl
  unfold Wd.raw
  rw [world.AddJoint.eq, hr, Option.bind_some, Bool.not_true, cond_false, e1, e1]
  rcases Body_w w hn hs a with ⟨p, h1, h2, h3⟩ | ⟨h1, h3⟩
  · rw [h3, Option.bind_some]
    have ta : ThereL w a := ⟨_, mem_lst.2 ⟨p, h1, rfl⟩, h2⟩
    rcases Body_w w hn hs b with ⟨q, g1, g2, g3⟩ | ⟨g1, g3⟩
    · have tb : ThereL w b := ⟨_, mem_lst.2 ⟨q, g1, rfl⟩, g2⟩
      rw [g3, Option.bind_some, Bool.not_true, cond_false, cond_false]
      refine .inr ?_
      by_cases c1 : ((w.js.1 : Nat) : Int) ≥ 1024
      · rw [decide_eq_true c1, cond_true]
        exact .inl ⟨⟨ta, tb⟩, by omega, outD_w (by kernel_rfl) _ _ _ _ _ _ _ _ _ _ _⟩
      rw [decide_eq_false c1, cond_false]
      by_cases c2 : w.nj ≥ 4611686018427387904
      · rw [decide_eq_true c2, cond_true]
        exact .inl ⟨⟨ta, tb⟩, by omega, outD_w (by kernel_rfl) _ _ _ _ _ _ _ _ _ _ _⟩
      rw [decide_eq_false c2, cond_false]
      have hc : ((decide (w.js.1 ≤ w.js.1)) && (decide ((w.js.1 + 1) * 64 ≤ 140737488355328))) = true := by simp; omega
      have hw : IntKind.i64.wrap (w.nj + 1) = w.nj + 1 := by rw [IntKind.wrap_i64]; omega
      rw [clipJ_eq, Option.bind_some]
      simp only [hc, cond_true, hw]
      rw [row_upd_clo Riiiiiiii_clo]
      exact .inr ⟨⟨ta, tb⟩, by omega, by omega, outD_w (by kernel_rfl) _ _ _ _ _ _ _ _ _ _ _⟩
    · rw [g3, Option.bind_some, Bool.not_true, cond_false, Bool.not_false, cond_true]
      exact .inl ⟨fun ⟨_, c, hc, e⟩ => g1 c hc e, outD_w (by kernel_rfl) _ _ _ _ _ _ _ _ _ _ _⟩
  · rw [h3, Option.bind_some]
    have nt : ¬ (ThereL w a ∧ ThereL w b) := fun ⟨⟨c, hc, e⟩, _⟩ => h1 c hc e
    rcases Body_w w hn hs b with ⟨q, g1, g2, g3⟩ | ⟨g1, g3⟩
    · rw [g3, Option.bind_some, Bool.not_false, cond_true]
      exact .inl ⟨nt, outD_w (by kernel_rfl) _ _ _ _ _ _ _ _ _ _ _⟩
    · rw [g3, Option.bind_some, Bool.not_false, cond_true]
      exact .inl ⟨nt, outD_w (by kernel_rfl) _ _ _ _ _ _ _ _ _ _ _⟩
theorem good_addJ {j : JT} (h : Good w) (hr : RightJ j) (hj : FineJ j) (ht : ThereL w j.2.1 ∧ ThereL w j.2.2.1) (h1 : w.js.1 < 1024) (h2 : w.nj < 4611686018427387904) : Good (w.addJ j) := by
  have e : lst (w.addJ j).js = lst w.js ++ [(w.nj, j.2)] := lst_push w.js _
  have R := h.right
  refine ⟨⟨h.fine.gx, h.fine.gy, h.fine.b, fun a ha => ?_, h.fine.nc⟩, ?_⟩
  · rw [e, List.mem_append, List.mem_singleton] at ha
    rcases ha with ha | rfl
    · exact h.fine.j a ha
    · exact hj
  · have hnb := R.nj0
    refine ⟨R.t0, R.t1, R.nb1, by show w.nj + 1 ≤ _; omega, R.lb, by rw [e]; simp [lst_len]; omega, R.gr, R.nb0, by show 1 ≤ w.nj + 1; omega, R.pb, fun a ha => ?_, R.ab, ?_, R.rb, fun a ha => ?_, R.rc, R.ac⟩
    · show 0 < a.1 ∧ a.1 < w.nj + 1
      rw [e, List.mem_append, List.mem_singleton] at ha
      rcases ha with ha | rfl
      · have := R.pj a ha; omega
      · show 0 < w.nj ∧ w.nj < w.nj + 1
        omega
    · rw [e, List.pairwise_append]
      refine ⟨R.aj, by simp, fun a ha c hc => ?_⟩
      rw [List.mem_singleton] at hc
      subst hc
      exact (R.pj a ha).2
    · rw [e, List.mem_append, List.mem_singleton] at ha
      rcases ha with ha | rfl
      · exact R.rj a ha
      · refine ⟨by unfold RightJ; rw [rightJ_id]; exact hr, ht.1, ht.2⟩

/-! ### Removing -/
theorem RemoveBody_eq (hb : w.bs.1 ≤ 900000) (hj : w.js.1 ≤ 900000) (hc : w.cs.1 ≤ 900000) (hs : (lst w.bs).Pairwise fun a b => a.1 < b.1) (x : Int) :
    (ThereL w x ∧ ∃ y1 y2 y3, lst y1 = (lst w.bs).filter (fun b => !goneB x b) ∧ lst y2 = (lst w.js).filter (fun b => !goneJ x b) ∧ lst y3 = (lst w.cs).filter (fun b => !goneC x b) ∧
      world.RemoveBody.f (w.raw, x) = some (true, ({ w with bs := y1, js := y2, cs := y3 } : Wd).tup)) ∨ (¬ ThereL w x ∧ world.RemoveBody.f (w.raw, x) = some (false, w.tup)) := by
  have e1 : ∀ x, world.Body.f ((w.t, w.nb, w.nj, w.gx, w.gy, (w.bs.1, fun i => RiiiiiiiiiiL2.enc (w.bs.2 i)), (w.js.1, fun i => Riiiiiiii.enc (w.js.2 i)), (w.cs.1, fun i => Riiiii.enc (w.cs.2 i))), x) = world.Body.f (w.raw, x) := fun x => rfl
  unfold Wd.raw
  rw [world.RemoveBody.eq, e1]
  rcases Body_w w hb hs x with ⟨p, h1, h2, h3⟩ | ⟨h1, h3⟩
  · rw [h3, Option.bind_some, Bool.not_true, cond_false]
    obtain ⟨y1, a1, a2⟩ := withoutB w.bs.1 hb w.bs.2 x
    obtain ⟨y2, b1, b2⟩ := withoutJ w.js.1 hj w.js.2 x
    obtain ⟨y3, c1, c2⟩ := withoutC w.cs.1 hc w.cs.2 x
    rw [a1, Option.bind_some, b1, Option.bind_some, c1, Option.bind_some]
    exact .inl ⟨⟨_, mem_lst.2 ⟨p, h1, rfl⟩, h2⟩, y1, y2, y3, a2, b2, c2, outD_w (by kernel_rfl) _ _ _ _ _ _ _ _ _ _ _⟩
  · rw [h3, Option.bind_some, Bool.not_false, cond_true]
    exact .inr ⟨fun ⟨c, hc, e⟩ => h1 c hc e, outD_w (by kernel_rfl) _ _ _ _ _ _ _ _ _ _ _⟩
theorem RemoveJoint_eq (hj : w.js.1 ≤ 900000) (hs : (lst w.js).Pairwise fun a b => a.1 < b.1) (x : Int) :
    ((∃ j ∈ lst w.js, j.1 = x) ∧ ∃ y2, lst y2 = (lst w.js).filter (fun b => !goneJ_v1 x b) ∧ world.RemoveJoint.f (w.raw, x) = some (true, ({ w with js := y2 } : Wd).tup)) ∨
      (¬ (∃ j ∈ lst w.js, j.1 = x) ∧ world.RemoveJoint.f (w.raw, x) = some (false, w.tup)) := by
  have e1 : ∀ x, world.Joint.f ((w.t, w.nb, w.nj, w.gx, w.gy, (w.bs.1, fun i => RiiiiiiiiiiL2.enc (w.bs.2 i)), (w.js.1, fun i => Riiiiiiii.enc (w.js.2 i)), (w.cs.1, fun i => Riiiii.enc (w.cs.2 i))), x) = world.Joint.f (w.raw, x) := fun x => rfl
  unfold Wd.raw
  rw [world.RemoveJoint.eq, e1]
  rcases Joint_w w hj hs x with ⟨p, h1, h2, h3⟩ | ⟨h1, h3⟩
  · rw [h3, Option.bind_some, Bool.not_true, cond_false]
    obtain ⟨y2, b1, b2⟩ := withoutJ_v1 w.js.1 hj w.js.2 x
    rw [b1, Option.bind_some]
    exact .inl ⟨⟨_, mem_lst.2 ⟨p, h1, rfl⟩, h2⟩, y2, b2, outD_w (by kernel_rfl) _ _ _ _ _ _ _ _ _ _ _⟩
  · rw [h3, Option.bind_some, Bool.not_false, cond_true]
    exact .inr ⟨fun ⟨c, hc, e⟩ => h1 c hc e, outD_w (by kernel_rfl) _ _ _ _ _ _ _ _ _ _ _⟩
theorem filter_le {α : Type} {x y : Nat × (Nat → α)} {p : α → Bool} (h : lst y = (lst x).filter p) : y.1 ≤ x.1 := by
  have := List.length_filter_le p (lst x)
  rw [← h, lst_len, lst_len] at this
  exact this
theorem good_removeB (h : Good w) (x : Int) {y1 : Nat × (Nat → BT)} {y2 : Nat × (Nat → JT)} {y3 : Nat × (Nat → CT)} (e1 : lst y1 = (lst w.bs).filter (fun b => !goneB x b)) (e2 : lst y2 = (lst w.js).filter (fun b => !goneJ x b)) (e3 : lst y3 = (lst w.cs).filter (fun b => !goneC x b)) :
    Good { w with bs := y1, js := y2, cs := y3 } := by
  have R := h.right
  have m1 : ∀ a, a ∈ lst y1 ↔ a ∈ lst w.bs ∧ a.1 ≠ x := fun a => by rw [e1, List.mem_filter]; unfold goneB; simp
  have m2 : ∀ a, a ∈ lst y2 ↔ a ∈ lst w.js ∧ a.2.1 ≠ x ∧ a.2.2.1 ≠ x := fun a => by rw [e2, List.mem_filter]; unfold goneJ; simp
  have m3 : ∀ a, a ∈ lst y3 ↔ a ∈ lst w.cs ∧ a.1 ≠ x ∧ a.2.1 ≠ x := fun a => by rw [e3, List.mem_filter]; unfold goneC; simp
  have l1 := filter_le e1
  have l2 := filter_le e2
  have l3 := filter_le e3
  have hb := h.b
  have hj := h.j
  refine ⟨⟨h.fine.gx, h.fine.gy, fun a ha => h.fine.b a ((m1 a).1 ha).1, fun a ha => h.fine.j a ((m2 a).1 ha).1, by have := h.fine.nc; show y3.1 ≤ _; omega⟩, ?_⟩
  refine ⟨R.t0, R.t1, R.nb1, R.nj1, by show (lst y1).length ≤ _; rw [lst_len]; omega, by show (lst y2).length ≤ _; rw [lst_len]; omega, R.gr, R.nb0, R.nj0, fun a ha => R.pb a ((m1 a).1 ha).1, fun a ha => R.pj a ((m2 a).1 ha).1,
    by show (lst y1).Pairwise _; rw [e1]; exact R.ab.filter _, by show (lst y2).Pairwise _; rw [e2]; exact R.aj.filter _, fun a ha => R.rb a ((m1 a).1 ha).1, fun j hj => ?_, fun c hc => ?_, by show (lst y3).Pairwise _; rw [e3]; exact R.ac.filter _⟩
  · obtain ⟨k1, k2, k3⟩ := (m2 j).1 hj
    obtain ⟨q1, ⟨b1, q2, q3⟩, b2, q4, q5⟩ := R.rj j k1
    exact ⟨q1, ⟨b1, (m1 b1).2 ⟨q2, by rw [q3]; exact k2⟩, q3⟩, b2, (m1 b2).2 ⟨q4, by rw [q5]; exact k3⟩, q5⟩
  · obtain ⟨k1, k2, k3⟩ := (m3 c).1 hc
    obtain ⟨q0, q1, q6, ⟨b1, q2, q3⟩, b2, q4, q5⟩ := R.rc c k1
    exact ⟨q0, q1, q6, ⟨b1, (m1 b1).2 ⟨q2, by rw [q3]; exact k2⟩, q3⟩, b2, (m1 b2).2 ⟨q4, by rw [q5]; exact k3⟩, q5⟩
theorem good_removeJ (h : Good w) (x : Int) {y2 : Nat × (Nat → JT)} (e2 : lst y2 = (lst w.js).filter (fun b => !goneJ_v1 x b)) : Good { w with js := y2 } := by
  have R := h.right
  have m2 : ∀ a, a ∈ lst y2 ↔ a ∈ lst w.js ∧ a.1 ≠ x := fun a => by rw [e2, List.mem_filter]; unfold goneJ_v1; simp
  have l2 := filter_le e2
  have hj := h.j
  refine ⟨⟨h.fine.gx, h.fine.gy, h.fine.b, fun a ha => h.fine.j a ((m2 a).1 ha).1, h.fine.nc⟩, ?_⟩
  exact ⟨R.t0, R.t1, R.nb1, R.nj1, R.lb, by show (lst y2).length ≤ _; rw [lst_len]; omega, R.gr, R.nb0, R.nj0, R.pb, fun a ha => R.pj a ((m2 a).1 ha).1,
    R.ab, by show (lst y2).Pairwise _; rw [e2]; exact R.aj.filter _, R.rb, fun j hj => R.rj j ((m2 j).1 hj).1, R.rc, R.ac⟩
end
end Go.Proofs.Ytbcnifnmccaleaa.Y
