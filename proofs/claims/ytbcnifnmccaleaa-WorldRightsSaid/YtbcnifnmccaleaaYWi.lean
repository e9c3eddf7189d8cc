/- Worlds: Right accepts just the worlds, bodies and joints that may be. -/
import Derived.Test.YtbcnifnmccaleaaYWg
import Derived.Test.YtbcnifnmccaleaaYWh
namespace Go.Proofs.Ytbcnifnmccaleaa.Y
open Go Go.RowKit Go.Proofs.Ytbcnifnmccaleaa.E Go.Proofs.Ytbcnifnmccaleaa.Ma Go.Proofs.Ytbcnifnmccaleaa.Fw
set_option linter.unusedVariables false
set_option linter.unusedSimpArgs false
set_option maxRecDepth 10000

theorem abs_le {x m : Int} (h : I64 x) (h1 : 0 ≤ m) (h2 : m < 9223372036854775807) : Ma.abs x ≤ m ↔ (x ≤ m ∧ -m ≤ x) := by
  unfold Ma.abs Ma.neg Ma.wh; unfold I64 at h; repeat' split
  all_goals omega
theorem in_eq {x m : Int} (h : I64 x) (h1 : 0 ≤ m) (h2 : m < 9223372036854775807) : law09.«in».f (x, m) = some (decide (Ma.abs x ≤ m)) := by
  have e : IntKind.i64.wrap (0 - m) = -m := by rw [IntKind.wrap_i64]; omega
  rw [law09.«in».eq, e, and_some]
  congr 1
  rw [Bool.eq_iff_iff, Bool.and_eq_true, decide_eq_true_eq, decide_eq_true_eq, decide_eq_true_eq, abs_le h h1 h2]
theorem may_eq {b : BT} (h : FineB b) : law09.may.f b = world.RightBody.f b := by
  obtain ⟨id, px, py, vx, vy, an, sp, de, sk, sr, n, G⟩ := b
  obtain ⟨h1, h2, h3, h4, h5, g, hG, hg⟩ := h
  dsimp only at h1 h2 h3 h4 h5 hG hg
  subst hG
  rw [law09.may.eq, world.RightBody.eq, Right_eq sk sr n g hg, in_eq h1 (by omega) (by omega), in_eq h2 (by omega) (by omega), in_eq h3 (by omega) (by omega), in_eq h4 (by omega) (by omega), in_eq h5 (by omega) (by omega),
    wwithin h1 h2, wwithin h3 h4, abs_eq h5]
  simp only [Option.bind_some]
  have hs : decide (Ma.abs sp > 1099511627776) = !decide (Ma.abs sp ≤ 1099511627776) := by
    rw [Bool.eq_iff_iff]; simp
  rw [hs]
  generalize decide (RightP sk sr n g) = c1
  generalize decide (Ma.abs px ≤ 4503599627370496) = c2
  generalize decide (Ma.abs py ≤ 4503599627370496) = c3
  generalize decide (Ma.abs vx ≤ 17592186044416) = c4
  generalize decide (Ma.abs vy ≤ 17592186044416) = c5
  generalize decide (Ma.abs sp ≤ 1099511627776) = c6
  cases c1 <;> cases c2 <;> cases c3 <;> cases c4 <;> cases c5 <;> cases c6 <;> simp only [cond_true, cond_false, Bool.cond_self, Bool.not_true, Bool.not_false, Bool.and_true, Bool.true_and, Bool.and_false, Bool.false_and]
  simp only [Bool.cond_eq_ite]
  have e1 : (de != 0) = decide (de ≠ 0) := by rw [Bool.eq_iff_iff]; simp
  have e2 : ∀ x : Int, (x == 0) = decide (x = 0) := fun x => by rw [Bool.eq_iff_iff]; simp
  simp only [e1, e2, decide_eq_true_eq, Bool.and_eq_true]
  repeat' split
  all_goals first | rfl | (congr 1; rw [Bool.eq_iff_iff]; simp; omega) | (exfalso; omega)
theorem joins_eq {j : JT} (h : FineJ j) : law09.joins.f j = world.RightJoint.f j := by
  obtain ⟨id, a, b, px, py, vx, vy, le⟩ := j
  obtain ⟨h1, h2, h3, h4⟩ := h
  dsimp only at h1 h2 h3 h4
  rw [law09.joins.eq, world.RightJoint.eq, in_eq h1 (by omega) (by omega), in_eq h2 (by omega) (by omega), in_eq h3 (by omega) (by omega), in_eq h4 (by omega) (by omega), wwithin h1 h2, wwithin h3 h4]
  have ha : ∀ x : Int, decide (x > 0) = decide (x ≥ 1) := fun x => by rw [Bool.eq_iff_iff]; simp; omega
  simp only [Option.bind_some, ha]
  generalize decide (Ma.abs px ≤ 274877906944) = c2
  generalize decide (Ma.abs py ≤ 274877906944) = c3
  generalize decide (Ma.abs vx ≤ 274877906944) = c4
  generalize decide (Ma.abs vy ≤ 274877906944) = c5
  cases c2 <;> cases c3 <;> cases c4 <;> cases c5 <;> simp only [cond_true, cond_false, Bool.and_true, Bool.true_and, Bool.and_false, Bool.false_and]

theorem spoilt {X Y : Option Bool} (h1 : X = some false) (h2 : Y = some true) : (X.bind fun r => bif (!r) then (Y.bind fun q => some q) else some false) = some true := by rw [h1, h2]; rfl
theorem Right_no {w : Wd} (hf : FineW w) (h : ¬ RightW w) : world.Right.f w.raw = some false := (Right_tells hf).f h
theorem clo_frz_upd {α : Type} {T : TyL α} (hC : ∀ x, cloL (T.enc x) = T.enc x) (o : Nat) (ob : Ob) (hZ : ∀ x, frzC o ob (T.enc x) = T.enc x) (g : Nat → α) (n : Nat) (v : α) : (fun i => cloL (frzC o ob (if i = n then T.enc v else T.enc (g i)))) = fun i => T.enc (upd1 g n v i) := by
  funext i
  unfold upd1
  split
  · rw [hZ, hC]
  · rw [hZ, hC]
theorem J_frz (o : Nat) (ob : Ob) (x : JT) : frzC o ob (Riiiiiiii.enc x) = Riiiiiiii.enc x := by kernel_rfl
theorem C_frz (o : Nat) (ob : Ob) (x : CT) : frzC o ob (Riiiii.enc x) = Riiiii.enc x := by kernel_rfl
theorem one_row {α : Type} {T : TyL α} (hC : ∀ x, cloL (T.enc x) = T.enc x) (hZ : ∀ o ob x, frzC o ob (T.enc x) = T.enc x) (z v : α) (o : Nat) (ob : Ob) (o' : Nat) (ob' : Ob) :
    (fun i => cloL (frzC o ob (frzC o' ob' (List.getD (List.map T.enc [v]) i (T.enc z))))) = fun i => T.enc (List.getD [v] i z) := by
  funext i
  cases i with
  | zero => show cloL (frzC o ob (frzC o' ob' (T.enc v))) = T.enc v; rw [hZ, hZ, hC]
  | succ i => show cloL (frzC o ob (frzC o' ob' (T.enc z))) = T.enc z; rw [hZ, hZ, hC]
theorem m3 (x : Int) : Go.bits .and .i64 x 7 = x % 8 := mask (m := 3) (by omega) x
theorem m12 (x : Int) : Go.bits .and .i64 x 4095 = x % 4096 := mask (m := 12) (by omega) x
/-- A list with one changed element. -/
def updL {α : Type} (x : Nat × (Nat → α)) (q : Nat) (v : α) : Nat × (Nat → α) := (x.1, upd1 x.2 q v)
theorem mem_updL {α : Type} {x : Nat × (Nat → α)} {q : Nat} {v a : α} (h : a ∈ lst (updL x q v)) : a = v ∨ a ∈ lst x := by
  obtain ⟨i, hi, rfl⟩ := mem_lst.1 h
  show upd1 x.2 q v i = v ∨ upd1 x.2 q v i ∈ lst x
  unfold upd1
  split
  · exact .inl rfl
  · exact .inr (mem_lst.2 ⟨i, hi, rfl⟩)
theorem updL_mem {α : Type} {x : Nat × (Nat → α)} {q : Nat} {v : α} (h : q < x.1) : v ∈ lst (updL x q v) := mem_lst.2 ⟨q, h, by show upd1 x.2 q v q = v; unfold upd1; rw [if_pos rfl]⟩
theorem FineW.withB {w : Wd} (h : FineW w) {q : Nat} {v : BT} (hv : FineB v) : FineW { w with bs := updL w.bs q v } :=
  ⟨h.gx, h.gy, fun a ha => (mem_updL ha).elim (fun e => e ▸ hv) (h.b a), h.j, h.nc⟩

section
variable {w : Wd}
theorem no_t (hg : Good w) : world.Right.f ({ w with t := -1 } : Wd).raw = some false := Right_no ⟨hg.fine.gx, hg.fine.gy, hg.fine.b, hg.fine.j, hg.fine.nc⟩ fun h => by have := h.t0; simp at this
theorem no_nb (hg : Good w) : world.Right.f ({ w with nb := 0 } : Wd).raw = some false := Right_no ⟨hg.fine.gx, hg.fine.gy, hg.fine.b, hg.fine.j, hg.fine.nc⟩ fun h => by have := h.nb0; simp at this
theorem no_nj (hg : Good w) : world.Right.f ({ w with nj := -3 } : Wd).raw = some false := Right_no ⟨hg.fine.gx, hg.fine.gy, hg.fine.b, hg.fine.j, hg.fine.nc⟩ fun h => by have := h.nj0; simp at this
theorem no_gy (hg : Good w) : world.Right.f ({ w with gy := 17592186044417 } : Wd).raw = some false := Right_no ⟨hg.fine.gx, by show I64 17592186044417; unfold I64; omega, hg.fine.b, hg.fine.j, hg.fine.nc⟩ fun h => by
  have h1 := h.gr
  have h2 : world.within.f ((w.gx, 17592186044417), 17592186044416) = some true := h1
  rw [wwithin hg.fine.gx (by unfold I64; omega), show decide (Ma.abs 17592186044417 ≤ 17592186044416) = false by decide, Bool.and_false] at h2
  cases h2
theorem no_join (hg : Good w) (x : Int) : world.Right.f ({ w with js := (w.js.1 + 1, upd1 w.js.2 w.js.1 (x, w.nb, 1, 0, 0, 0, 0, 1)) } : Wd).raw = some false := by
  have e : lst (w.js.1 + 1, upd1 w.js.2 w.js.1 (x, w.nb, 1, 0, 0, 0, 0, 1)) = lst w.js ++ [(x, w.nb, 1, 0, 0, 0, 0, 1)] := lst_push w.js _
  refine Right_no ⟨hg.fine.gx, hg.fine.gy, hg.fine.b, fun a ha => ?_, hg.fine.nc⟩ fun h => ?_
  · have ha' : a ∈ lst (w.js.1 + 1, upd1 w.js.2 w.js.1 (x, w.nb, 1, 0, 0, 0, 0, 1)) := ha
    rw [e, List.mem_append, List.mem_singleton] at ha'
    rcases ha' with ha | rfl
    · exact hg.fine.j a ha
    · exact ⟨i0, i0, i0, i0⟩
  · obtain ⟨_, ⟨b, hb, h1⟩, _⟩ := h.rj (x, w.nb, 1, 0, 0, 0, 0, 1) (by show _ ∈ lst (w.js.1 + 1, _); rw [e]; simp)
    have := (hg.right.pb b hb).2
    have h1' : b.1 = w.nb := h1
    omega
theorem no_cont (hg : Good w) (g : Nat → CT) (h0 : g 0 = (1, 1, 0, 0, 0)) : world.Right.f ({ w with cs := (1, g) } : Wd).raw = some false :=
  Right_no ⟨hg.fine.gx, hg.fine.gy, hg.fine.b, hg.fine.j, by show 1 ≤ 900000; omega⟩ fun h => by
    have h1 := (h.rc (g 0) (mem_lst.2 ⟨0, by show 0 < 1; omega, rfl⟩)).1
    rw [h0] at h1
    simp at h1
theorem no_body (hg : Good w) {q : Nat} (hq : q < w.bs.1) {v : BT} (hv : FineB v) (hno : RightB v → v.1 < w.nb → False) : world.Right.f ({ w with bs := updL w.bs q v } : Wd).raw = some false :=
  Right_no (hg.fine.withB hv) fun h => hno (h.rb v (updL_mem hq)) (h.pb v (updL_mem hq)).2
end
theorem body_row {w : Wd} (hg : Good w) {q : Nat} (hq : q < w.bs.1) : FineB (w.bs.2 q) := hg.fine.b _ (mem_lst.2 ⟨q, hq, rfl⟩)
attribute [local irreducible] world.Right.f world.Copy.f law09.Made.f world.RightBody.f world.RightJoint.f law09.may.f law09.joins.f law09.fit.f
theorem wrong_an {b : BT} (hr : RightB b) (h : FineB b) (ha : b.2.2.2.2.2.1 = 4294967296) : False := by
  revert hr
  show ¬ RightB b
  unfold RightB
  obtain ⟨id, px, py, vx, vy, an, sp, de, sk, sr, n, G⟩ := b
  obtain ⟨h1, h2, h3, h4, h5, g, hG, hg⟩ := h
  dsimp only at h1 h2 h3 h4 h5 hG hg ha
  subst hG; subst ha
  rw [world.RightBody.eq, Right_eq sk sr n g hg, Option.bind_some, wwithin h1 h2, Option.bind_some, wwithin h3 h4, Option.bind_some, abs_eq h5, Option.bind_some]
  generalize decide (RightP sk sr n g) = c1
  generalize (decide (Ma.abs px ≤ 4503599627370496) && decide (Ma.abs py ≤ 4503599627370496)) = c2
  generalize (decide (Ma.abs vx ≤ 17592186044416) && decide (Ma.abs vy ≤ 17592186044416)) = c3
  generalize decide (Ma.abs sp > 1099511627776) = c4
  cases c1 <;> cases c2 <;> cases c3 <;> cases c4 <;> simp
theorem wrong_de {b : BT} (hr : RightB b) (h : FineB b) (ha : b.2.2.2.2.2.2.2.1 = -1) : False := by
  revert hr
  show ¬ RightB b
  unfold RightB
  obtain ⟨id, px, py, vx, vy, an, sp, de, sk, sr, n, G⟩ := b
  obtain ⟨h1, h2, h3, h4, h5, g, hG, hg⟩ := h
  dsimp only at h1 h2 h3 h4 h5 hG hg ha
  subst hG; subst ha
  rw [world.RightBody.eq, Right_eq sk sr n g hg, Option.bind_some, wwithin h1 h2, Option.bind_some, wwithin h3 h4, Option.bind_some, abs_eq h5, Option.bind_some]
  generalize decide (RightP sk sr n g) = c1
  generalize (decide (Ma.abs px ≤ 4503599627370496) && decide (Ma.abs py ≤ 4503599627370496)) = c2
  generalize (decide (Ma.abs vx ≤ 17592186044416) && decide (Ma.abs vy ≤ 17592186044416)) = c3
  generalize decide (Ma.abs sp > 1099511627776) = c4
  generalize decide (an < 0) = c5
  generalize decide (an ≥ 4294967296) = c6
  cases c1 <;> cases c2 <;> cases c3 <;> cases c4 <;> cases c5 <;> cases c6 <;> simp
theorem wrong_kind {b : BT} (hr : RightB b) (h : FineB b) (ha : b.2.2.2.2.2.2.2.2.1 = 3) : False := by
  revert hr
  show ¬ RightB b
  unfold RightB
  obtain ⟨id, px, py, vx, vy, an, sp, de, sk, sr, n, G⟩ := b
  obtain ⟨h1, h2, h3, h4, h5, g, hG, hg⟩ := h
  dsimp only at h1 h2 h3 h4 h5 hG hg ha
  subst hG; subst ha
  have e : decide (RightP 3 sr n g) = false := by
    rw [decide_eq_false_iff_not]
    unfold RightP
    rw [if_neg (by omega)]
    omega
  rw [world.RightBody.eq, Right_eq 3 sr n g hg, Option.bind_some, e]
  simp
theorem Rights_eq {n : Nat} {ds : Nat → DT} (hd : ∀ i, i < n → FineD (ds i)) (id px py vx vy an sp de sk sr : Int) (m : Nat) (G : Nat → P2) (hb : FineB (id, px, py, vx, vy, an, sp, de, sk, sr, (m, fun i => Rii.enc (G i)))) (h0 h1 : Int) :
    law09.WorldRights.f ((n, fun i => RiiiiiiiiiiiiiiiiiiiiiiiiiiiiiL2.enc (ds i)), (id, px, py, vx, vy, an, sp, de, sk, sr, (m, fun i => Rii.enc (G i))), (h0, h1)) = some true := by
  rw [law09.WorldRights.eq]
  refine bind_to fit_true ?_
  refine cond_f rfl ?_
  by_cases hm : ((m : Nat) : Int) > 12
  · rw [decide_eq_true hm]; rfl
  rw [decide_eq_false hm, cond_false]
  obtain ⟨w, hw, hM⟩ := Made_eq hd 12 (by omega)
  have hg := hw.good
  refine bind_to hM ?_
  obtain ⟨v, hv⟩ := rightB_some hb
  refine bind_to hv ?_
  refine bind_to ((may_eq hb).trans hv) ?_
  refine cond_f (by simp) ?_
  have hj : FineJ (0, id, an, px, py, vx, vy, sp) := ⟨hb.1, hb.2.1, hb.2.2.1, hb.2.2.2.1⟩
  obtain ⟨u, hu⟩ := rightJ_some hj
  refine bind_to hu ?_
  refine bind_to ((joins_eq hj).trans hu) ?_
  refine cond_f (by simp) ?_
  have ht : world.Right.f w.raw = some true := hg.tells
  refine bind_to ht ?_
  refine cond_f rfl ?_
  refine bind_to (Copy_eq hg) ?_
  cases c0 : (Go.bits .and .i64 h0 7 == 0) with
  | true => exact spoilt (no_t hg) ht
  | false =>
  rw [cond_false]
  cases c1 : (Go.bits .and .i64 h0 7 == 1) with
  | true => exact spoilt (no_nb hg) ht
  | false =>
  rw [cond_false]
  cases c2 : (Go.bits .and .i64 h0 7 == 2) with
  | true => exact spoilt (no_gy hg) ht
  | false =>
  rw [cond_false]
  cases c3 : (Go.bits .and .i64 h0 7 == 3) with
  | true =>
    rw [cond_true]
    have hj2 := hg.j
    refine cond_t (by show decide ((w.js.1 + 1) * 64 ≤ 140737488355328) = true; simp; omega) ?_
    rw [clo_frz_upd Riiiiiiii_clo _ _ (J_frz _ _)]
    exact spoilt (no_join hg _) ht
  | false =>
  rw [cond_false]
  cases c4 : (Go.bits .and .i64 h0 7 == 4) with
  | true =>
    rw [cond_true, one_row Riiiii_clo C_frz]
    exact spoilt (no_cont hg _ rfl) ht
  | false =>
  rw [cond_false]
  cases c5 : (Go.bits .and .i64 h0 7 == 5) with
  | true => exact spoilt (no_nj hg) ht
  | false =>
  rw [cond_false]
  have f1 : w.own.2.1 = w.bs := rfl
  rw [f1]
  by_cases hz : w.bs.1 = 0
  · rw [hz]; rfl
  refine cond_f (by simp; exact hz) ?_
  refine cond_t (by simp; exact hz) ?_
  obtain ⟨q, hq, hql⟩ : ∃ q : Nat, Int.tmod (Go.bits .and .i64 h1 4095) ((w.bs.1 : Nat) : Int) = (q : Int) ∧ q < w.bs.1 := by
    rw [m12]
    have e1 := Int.tmod_nonneg (w.bs.1 : Int) (show 0 ≤ h1 % 4096 by omega)
    have e2 := Int.tmod_lt_of_pos (h1 % 4096) (show 0 < (w.bs.1 : Int) by omega)
    exact ⟨(Int.tmod (h1 % 4096) (w.bs.1 : Int)).toNat, by omega, by omega⟩
  rw [hq, in_nat q _ hql, cond_true]
  simp only [Int.toNat_natCast]
  have fq := body_row hg hql
  obtain ⟨k1, k2, k3, k4, k5, k6⟩ := fq
  cases c6 : (Go.bits .and .i64 (Int.fdiv h1 (2 ^ 12)) 3 == 0) with
  | true =>
    rw [cond_true, row_upd_clo RiiiiiiiiiiL2_clo]
    exact spoilt (no_body hg hql ⟨k1, k2, k3, k4, k5, k6⟩ fun _ h => by have h' : w.nb < w.nb := h; omega) ht
  | false =>
  rw [cond_false]
  cases c7 : (Go.bits .and .i64 (Int.fdiv h1 (2 ^ 12)) 3 == 1) with
  | true =>
    rw [cond_true, row_upd_clo RiiiiiiiiiiL2_clo]
    exact spoilt (no_body hg hql ⟨k1, k2, k3, k4, k5, k6⟩ fun h _ => wrong_an h ⟨k1, k2, k3, k4, k5, k6⟩ rfl) ht
  | false =>
  rw [cond_false]
  cases c8 : (Go.bits .and .i64 (Int.fdiv h1 (2 ^ 12)) 3 == 2) with
  | true =>
    rw [cond_true, row_upd_clo RiiiiiiiiiiL2_clo]
    exact spoilt (no_body hg hql ⟨k1, k2, k3, k4, k5, k6⟩ fun h _ => wrong_de h ⟨k1, k2, k3, k4, k5, k6⟩ rfl) ht
  | false =>
  rw [cond_false, row_upd_clo RiiiiiiiiiiL2_clo]
  exact spoilt (no_body hg hql ⟨k1, k2, k3, k4, k5, k6⟩ fun h _ => wrong_kind h ⟨k1, k2, k3, k4, k5, k6⟩ rfl) ht
theorem WorldRights_true (n : Nat) (ds : Nat → DT) (id px py vx vy an sp de sk sr : Int) (m : Nat) (G : Nat → P2) (h0 h1 : Int) (wn : n ≤ maxLen) (w0 : ∀ i, i < n → DeedWf (ds i))
    (a0 : (Lit.int .i64 id).wf = true) (a1 : (Lit.int .i64 px).wf = true) (a2 : (Lit.int .i64 py).wf = true) (a3 : (Lit.int .i64 vx).wf = true) (a4 : (Lit.int .i64 vy).wf = true) (a5 : (Lit.int .i64 an).wf = true) (a6 : (Lit.int .i64 sp).wf = true) (a7 : (Lit.int .i64 de).wf = true) (a8 : (Lit.int .i64 sk).wf = true) (a9 : (Lit.int .i64 sr).wf = true)
    (wm : m ≤ maxLen) (wG : ∀ i, i < m → (Lit.int .i64 (G i).1).wf = true ∧ (Lit.int .i64 (G i).2).wf = true) (b0 : (Lit.int .i64 h0).wf = true) (b1 : (Lit.int .i64 h1).wf = true) :
    law09.WorldRights.f ((n, fun i => RiiiiiiiiiiiiiiiiiiiiiiiiiiiiiL2.enc (ds i)), (id, px, py, vx, vy, an, sp, de, sk, sr, (m, fun i => Rii.enc (G i))), (h0, h1)) = some true :=
  Rights_eq (fun i hi => (w0 i hi).fine) id px py vx vy an sp de sk sr m G ⟨wf_i a1, wf_i a2, wf_i a3, wf_i a4, wf_i a6, G, rfl, fun i hi => ⟨wf_i (wG i hi).1, wf_i (wG i hi).2⟩⟩ h0 h1
end Go.Proofs.Ytbcnifnmccaleaa.Y
