/- Worlds: what may be, and what comes and goes. -/
import Derived.Test.YtbcnifnmccaleaaYWb
namespace Go.Proofs.Ytbcnifnmccaleaa.Y
open Go Go.RowKit Go.Proofs.Ytbcnifnmccaleaa.E Go.Proofs.Ytbcnifnmccaleaa.Ma Go.Proofs.Ytbcnifnmccaleaa.Fw
set_option linter.unusedVariables false
set_option linter.unusedSimpArgs false
set_option maxRecDepth 10000

theorem and_some (c y : Bool) : (bif c then some y else some false) = some (c && y) := by cases c <;> rfl
theorem wf_i {n : Int} (h : (Lit.int .i64 n).wf = true) : I64 n := by
  simp [Lit.wf, Lit.int] at h
  unfold I64
  first | exact h | (have := h; omega)
structure Wd where
  t : Int
  nb : Int
  nj : Int
  gx : Int
  gy : Int
  bs : Nat × (Nat → BT)
  js : Nat × (Nat → JT)
  cs : Nat × (Nat → CT)
abbrev RWT := Int × Int × Int × Int × Int × (Nat × (Nat → List AV)) × (Nat × (Nat → List AV)) × (Nat × (Nat → List AV))
abbrev TWT := Int × Int × Int × Int × Int × (Nat × (Nat → BT)) × (Nat × (Nat → JT)) × (Nat × (Nat → CT))
def Wd.raw (w : Wd) : RWT := (w.t, w.nb, w.nj, w.gx, w.gy, (w.bs.1, fun i => RiiiiiiiiiiL2.enc (w.bs.2 i)), (w.js.1, fun i => Riiiiiiii.enc (w.js.2 i)), (w.cs.1, fun i => Riiiii.enc (w.cs.2 i)))
def Wd.tup (w : Wd) : TWT := (w.t, w.nb, w.nj, w.gx, w.gy, w.bs, w.js, w.cs)
def ofT (x : TWT) : Wd := ⟨x.1, x.2.1, x.2.2.1, x.2.2.2.1, x.2.2.2.2.1, x.2.2.2.2.2.1, x.2.2.2.2.2.2.1, x.2.2.2.2.2.2.2⟩
abbrev zB : BT := (0, 0, 0, 0, 0, 0, 0, 0, 0, 0, (0, fun _ => []))
abbrev zJ : JT := (0, 0, 0, 0, 0, 0, 0, 0)
abbrev zC : CT := (0, 0, 0, 0, 0)
noncomputable abbrev WTy : TyL TWT := (tCons (tI .i64) (tCons (tI .i64) (tCons (tI .i64) (tCons (tI .i64) (tCons (tI .i64) (tCons (tTL RiiiiiiiiiiL2 11 zB) (tCons (tTL Riiiiiiii 8 zJ) (tOne (tTL Riiiii 5 zC)))))))))
theorem outD_w {β : Type} {U : Ty β} {v : AV} {x : β} (hU : U.dec v = some x) (t nb nj gx gy : Int) (nB : Nat) (gB : Nat → BT) (nJ : Nat) (gJ : Nat → JT) (nC : Nat) (gC : Nat → CT) :
    outD U WTy v [.val (.int .i64 t), .val (.int .i64 nb), .val (.int .i64 nj), .val (.int .i64 gx), .val (.int .i64 gy), .lst 11 nB none (fun i => RiiiiiiiiiiL2.enc (gB i)), .lst 8 nJ none (fun i => Riiiiiiii.enc (gJ i)), .lst 5 nC none (fun i => Riiiii.enc (gC i))] = some (x, (t, nb, nj, gx, gy, (nB, gB), (nJ, gJ), (nC, gC))) := by
  unfold outD
  rw [hU]
  simp only [dec_tCons, dec_tOne, dec_tI, dec_tTL, decRows_enc RiiiiiiiiiiL2_dec, decRows_enc Riiiiiiii_dec, decRows_enc Riiiii_dec, Option.bind_some]

/-! ### What may be -/
def RightB (b : BT) : Prop := world.RightBody.f b = some true
def RightJ (j : JT) : Prop := world.RightJoint.f j = some true
def Inner (x : Nat × (Nat → List AV)) : Prop := ∃ h : Nat → P2, x.2 = (fun i => Rii.enc (h i)) ∧ ∀ i, i < x.1 → I2 (h i)
def FineB (b : BT) : Prop := I64 b.2.1 ∧ I64 b.2.2.1 ∧ I64 b.2.2.2.1 ∧ I64 b.2.2.2.2.1 ∧ I64 b.2.2.2.2.2.2.1 ∧ Inner b.2.2.2.2.2.2.2.2.2.2
def FineJ (j : JT) : Prop := I64 j.2.2.2.1 ∧ I64 j.2.2.2.2.1 ∧ I64 j.2.2.2.2.2.1 ∧ I64 j.2.2.2.2.2.2.1
theorem wwithin {x y m : Int} (hx : I64 x) (hy : I64 y) : world.within.f ((x, y), m) = some (decide (Ma.abs x ≤ m) && decide (Ma.abs y ≤ m)) := by
  rw [world.within.eq, abs_eq hx, Option.bind_some, abs_eq hy, Option.bind_some, and_some]
theorem rightB_some {b : BT} (h : FineB b) : ∃ v, world.RightBody.f b = some v := by
  obtain ⟨id, px, py, vx, vy, an, sp, de, sk, sr, n, G⟩ := b
  obtain ⟨h1, h2, h3, h4, h5, g, hG, hg⟩ := h
  dsimp only at h1 h2 h3 h4 h5 hG hg
  subst hG
  rw [world.RightBody.eq, Right_eq sk sr n g hg, Option.bind_some, wwithin h1 h2, Option.bind_some, wwithin h3 h4, Option.bind_some, abs_eq h5, Option.bind_some]
  generalize decide (RightP sk sr n g) = c1
  generalize (decide (Ma.abs px ≤ 4503599627370496) && decide (Ma.abs py ≤ 4503599627370496)) = c2
  generalize (decide (Ma.abs vx ≤ 17592186044416) && decide (Ma.abs vy ≤ 17592186044416)) = c3
  cases c1 <;> cases c2 <;> cases c3 <;> simp only [Bool.not_true, Bool.not_false, cond_true, cond_false, Bool.cond_decide, Option.some.injEq, exists_eq', exists_eq]
  simp only [Bool.cond_eq_ite]
  repeat' split
  all_goals exact ⟨_, rfl⟩
theorem rightB_id (b : BT) (x : Int) : world.RightBody.f (x, b.2) = world.RightBody.f b := by kernel_rfl
theorem rightJ_some {j : JT} (h : FineJ j) : ∃ v, world.RightJoint.f j = some v := by
  obtain ⟨id, a, b, px, py, vx, vy, le⟩ := j
  obtain ⟨h1, h2, h3, h4⟩ := h
  dsimp only at h1 h2 h3 h4
  rw [world.RightJoint.eq, wwithin h1 h2, Option.bind_some, wwithin h3 h4, Option.bind_some]
  simp only [and_some]
  exact ⟨_, rfl⟩
theorem rightJ_id (j : JT) (x : Int) : world.RightJoint.f (x, j.2) = world.RightJoint.f j := by kernel_rfl
/-- A body that may be has few corners. -/
theorem rightB_few {b : BT} (h : FineB b) (hr : RightB b) : b.2.2.2.2.2.2.2.2.2.2.1 ≤ 8 := by
  obtain ⟨id, px, py, vx, vy, an, sp, de, sk, sr, n, G⟩ := b
  obtain ⟨h1, h2, h3, h4, h5, g, hG, hg⟩ := h
  dsimp only at h1 h2 h3 h4 h5 hG hg
  subst hG
  unfold RightB at hr
  rw [world.RightBody.eq, Right_eq sk sr n g hg, Option.bind_some] at hr
  by_cases hp : RightP sk sr n g
  · show n ≤ 8
    unfold RightP at hp
    split at hp
    · omega
    · omega
  · rw [decide_eq_false hp] at hr
    cases hr
/-- The order of contacts. -/
def CLt (a b : CT) : Prop := a.1 < b.1 ∨ a.1 = b.1 ∧ (a.2.1 < b.2.1 ∨ a.2.1 = b.2.1 ∧ a.2.2.1 < b.2.2.1)
theorem CLt.trans {a b c : CT} (h : CLt a b) (h' : CLt b c) : CLt a c := by unfold CLt at *; omega
theorem Or_eq (a b c : Int) : cmp.Or_int.f (3, (fun i => cloL (List.getD (List.map Ri.enc [a, b, c]) i (Ri.enc 0)))) = some (if a ≠ 0 then a else if b ≠ 0 then b else c) := by
  have e : (fun i => cloL (List.getD (List.map Ri.enc [a, b, c]) i (Ri.enc 0))) = fun i => Ri.enc (List.getD [a, b, c] i 0) := lit_rows Ri_clo 0 [a, b, c]
  rw [e]
  have e2 : cmp.Or_int.f (3, fun i => Ri.enc (List.getD [a, b, c] i 0)) = cmp.Or_int.l0 1000000 1000000 3 (fun i => Ri.enc (List.getD [a, b, c] i 0)) 3 0 := cmp.Or_int.eq 1000000 3 fun i => List.getD [a, b, c] i 0
  rw [e2]
  have s : ∀ (k : Nat) (i : Nat), i < 3 → cmp.Or_int.l0 1000000 (k + 1) 3 (fun i => Ri.enc (List.getD [a, b, c] i 0)) 3 (i : Int) = bif (List.getD [a, b, c] i 0) != 0 then some (List.getD [a, b, c] i 0) else cmp.Or_int.l0 1000000 k 3 (fun i => Ri.enc (List.getD [a, b, c] i 0)) 3 ((i + 1 : Nat) : Int) := by
    intro k i hi
    have h1 : decide ((i : Int) < 3) = true := by simp; omega
    have h2 : (decide (0 ≤ (i : Int)) && decide ((i : Int) < ((3 : Nat) : Int))) = true := by simp; omega
    rw [cmp.Or_int.l0_eq, h1, cond_true, h2, cond_true, Int.toNat_natCast, wrap_nat i (by omega)]
  have z : cmp.Or_int.l0 1000000 999997 3 (fun i => Ri.enc (List.getD [a, b, c] i 0)) 3 ((3 : Nat) : Int) = some 0 := by
    rw [cmp.Or_int.l0_eq]; rfl
  have r0 := s 999999 0 (by omega)
  have r1 := s 999998 1 (by omega)
  have r2 := s 999997 2 (by omega)
  rw [z] at r2
  rw [r2] at r1
  rw [r1] at r0
  refine r0.trans ?_
  have g0 : List.getD [a, b, c] 0 0 = a := rfl
  have g1 : List.getD [a, b, c] 1 0 = b := rfl
  have g2 : List.getD [a, b, c] 2 0 = c := rfl
  rw [g0, g1, g2]
  by_cases ha : a = 0
  · by_cases hb : b = 0
    · by_cases hc : c = 0 <;> simp [ha, hb, hc, Bool.cond_eq_ite]
    · simp [ha, hb, Bool.cond_eq_ite]
  · simp [ha, Bool.cond_eq_ite]
theorem order_eq (a b : CT) : ∃ o, world.order.f (a, b) = some o ∧ (o < 0 ↔ CLt a b) := by
  have e : world.order.f (a, b) = (cmp.Compare_int.f (a.1, b.1)).bind fun r1 => (cmp.Compare_int.f (a.2.1, b.2.1)).bind fun r2 => (cmp.Compare_int.f (a.2.2.1, b.2.2.1)).bind fun r3 =>
      (cmp.Or_int.f (3, (fun i => cloL (List.getD (List.map Ri.enc [r1, r2, r3]) i (Ri.enc 0))))).bind fun r4 => some r4 := world.order.eq _ _ _ _ _ _ _ _ _ _
  rw [e, cmp_eq, Option.bind_some, cmp_eq, Option.bind_some, cmp_eq, Option.bind_some, Or_eq, Option.bind_some]
  refine ⟨_, rfl, ?_⟩
  unfold cmpI CLt
  repeat' split
  all_goals omega

/-- A world may be. -/
structure RightL (t nb nj gx gy : Int) (B : List BT) (J : List JT) (C : List CT) : Prop where
  t0 : 0 ≤ t
  t1 : t ≤ 4611686018427387904
  nb1 : nb ≤ 4611686018427387904
  nj1 : nj ≤ 4611686018427387904
  lb : B.length ≤ 1024
  lj : J.length ≤ 1024
  gr : world.within.f ((gx, gy), 17592186044416) = some true
  nb0 : 1 ≤ nb
  nj0 : 1 ≤ nj
  pb : ∀ b ∈ B, 0 < b.1 ∧ b.1 < nb
  pj : ∀ j ∈ J, 0 < j.1 ∧ j.1 < nj
  ab : B.Pairwise fun a b => a.1 < b.1
  aj : J.Pairwise fun a b => a.1 < b.1
  rb : ∀ b ∈ B, RightB b
  rj : ∀ j ∈ J, RightJ j ∧ (∃ b ∈ B, b.1 = j.2.1) ∧ ∃ b ∈ B, b.1 = j.2.2.1
  rc : ∀ c ∈ C, c.1 < c.2.1 ∧ 0 ≤ c.2.2.1 ∧ 0 ≤ c.2.2.2.1 ∧ (∃ b ∈ B, b.1 = c.1) ∧ ∃ b ∈ B, b.1 = c.2.1
  ac : C.Pairwise CLt
def RightW (w : Wd) : Prop := RightL w.t w.nb w.nj w.gx w.gy (lst w.bs) (lst w.js) (lst w.cs)
structure FineW (w : Wd) : Prop where
  gx : I64 w.gx
  gy : I64 w.gy
  b : ∀ a ∈ lst w.bs, FineB a
  j : ∀ a ∈ lst w.js, FineJ a
  nc : w.cs.1 ≤ 900000
theorem mem_lst {α : Type} {x : Nat × (Nat → α)} {a : α} : a ∈ lst x ↔ ∃ i, i < x.1 ∧ x.2 i = a := by simp [lst]
theorem pair_lst {α : Type} {x : Nat × (Nat → α)} {R : α → α → Prop} : (lst x).Pairwise R ↔ ∀ a b, a < b → b < x.1 → R (x.2 a) (x.2 b) := by
  rw [List.pairwise_iff_getElem]
  simp only [lst_len]
  constructor
  · intro h a b hab hb
    have := h a b (by omega) hb hab
    simpa [lst] using this
  · intro h a b ha hb hab
    have := h a b hab hb
    simpa [lst] using this
theorem riseB_iff {x : Nat × (Nat → BT)} {next : Int} : RiseB x.1 x.2 next ↔ (∀ b ∈ lst x, 0 < b.1 ∧ b.1 < next) ∧ ((lst x).Pairwise fun a b => a.1 < b.1) ∧ 1 ≤ next := by
  constructor
  · intro h
    refine ⟨fun b hb => ?_, pair_lst.2 fun a b hab hb => h.asc a b hab hb, h.2⟩
    obtain ⟨i, hi, rfl⟩ := mem_lst.1 hb
    exact h.pos i hi
  · intro ⟨h1, h2, h3⟩
    exact .of (fun t ht => h1 _ (mem_lst.2 ⟨t, ht, rfl⟩)) (pair_lst.1 h2) h3
theorem riseJ_iff {x : Nat × (Nat → JT)} {next : Int} : RiseJ x.1 x.2 next ↔ (∀ b ∈ lst x, 0 < b.1 ∧ b.1 < next) ∧ ((lst x).Pairwise fun a b => a.1 < b.1) ∧ 1 ≤ next := by
  constructor
  · intro h
    refine ⟨fun b hb => ?_, pair_lst.2 fun a b hab hb => h.asc a b hab hb, h.2⟩
    obtain ⟨i, hi, rfl⟩ := mem_lst.1 hb
    exact h.pos i hi
  · intro ⟨h1, h2, h3⟩
    exact .of (fun t ht => h1 _ (mem_lst.2 ⟨t, ht, rfl⟩)) (pair_lst.1 h2) h3

/-! ### Where a number stands -/
theorem Body_w (w : Wd) (hn : w.bs.1 ≤ 900000) (hs : (lst w.bs).Pairwise fun a b => a.1 < b.1) (x : Int) :
    (∃ p, p < w.bs.1 ∧ (w.bs.2 p).1 = x ∧ world.Body.f (w.raw, x) = some ((p : Int), true)) ∨ ((∀ b ∈ lst w.bs, b.1 ≠ x) ∧ world.Body.f (w.raw, x) = some (0, false)) := by
  have e : world.Body.f (w.raw, x) = (world.find_Body.f ((w.bs.1, (fun i => RiiiiiiiiiiL2.enc (w.bs.2 i))), x, ())).bind fun r1 => some (r1.1, r1.2) := world.Body.eq _ _ _ _ _ _ _ _ _ _ _ _
  rw [e]
  rcases findB w.bs.1 hn w.bs.2 (pair_lst.1 hs) x with ⟨p, h1, h2, h3⟩ | ⟨h1, h3⟩
  · rw [h3]; exact .inl ⟨p, h1, h2, rfl⟩
  · rw [h3]
    refine .inr ⟨fun b hb => ?_, rfl⟩
    obtain ⟨i, hi, rfl⟩ := mem_lst.1 hb
    exact h1 i hi
theorem Joint_w (w : Wd) (hn : w.js.1 ≤ 900000) (hs : (lst w.js).Pairwise fun a b => a.1 < b.1) (x : Int) :
    (∃ p, p < w.js.1 ∧ (w.js.2 p).1 = x ∧ world.Joint.f (w.raw, x) = some ((p : Int), true)) ∨ ((∀ b ∈ lst w.js, b.1 ≠ x) ∧ world.Joint.f (w.raw, x) = some (0, false)) := by
  have e : world.Joint.f (w.raw, x) = (world.find_Joint.f ((w.js.1, (fun i => Riiiiiiii.enc (w.js.2 i))), x, ())).bind fun r1 => some (r1.1, r1.2) := world.Joint.eq _ _ _ _ _ _ _ _ _ _ _ _
  rw [e]
  rcases findJ w.js.1 hn w.js.2 (pair_lst.1 hs) x with ⟨p, h1, h2, h3⟩ | ⟨h1, h3⟩
  · rw [h3]; exact .inl ⟨p, h1, h2, rfl⟩
  · rw [h3]
    refine .inr ⟨fun b hb => ?_, rfl⟩
    obtain ⟨i, hi, rfl⟩ := mem_lst.1 hb
    exact h1 i hi
theorem There_w (w : Wd) (hn : w.bs.1 ≤ 900000) (hs : (lst w.bs).Pairwise fun a b => a.1 < b.1) (x y : Int) :
    Tells (world.Right_3.f (x, y, w.raw)) ((∃ b ∈ lst w.bs, b.1 = x) ∧ ∃ b ∈ lst w.bs, b.1 = y) := by
  have e : world.Right_3.f (x, y, w.raw) = (world.Body.f (w.raw, x)).bind fun r1 => (world.Body.f (w.raw, y)).bind fun r2 => bif r1.2 then some r2.2 else some false := world.Right_3.eq _ _ _ _ _ _ _ _ _ _ _ _ _
  rw [e]
  rcases Body_w w hn hs x with ⟨p, h1, h2, h3⟩ | ⟨h1, h3⟩
  · rw [h3, Option.bind_some]
    rcases Body_w w hn hs y with ⟨q, g1, g2, g3⟩ | ⟨g1, g3⟩
    · rw [g3]
      exact ⟨true, rfl, by simp only [true_iff]; exact ⟨⟨_, mem_lst.2 ⟨p, h1, rfl⟩, h2⟩, _, mem_lst.2 ⟨q, g1, rfl⟩, g2⟩⟩
    · rw [g3]
      exact ⟨false, rfl, by simp only [Bool.false_eq_true, false_iff]; rintro ⟨_, b, hb, e⟩; exact g1 b hb e⟩
  · rw [h3, Option.bind_some]
    rcases Body_w w hn hs y with ⟨q, g1, g2, g3⟩ | ⟨g1, g3⟩
    · rw [g3]
      exact ⟨false, rfl, by simp only [Bool.false_eq_true, false_iff]; rintro ⟨⟨b, hb, e⟩, _⟩; exact h1 b hb e⟩
    · rw [g3]
      exact ⟨false, rfl, by simp only [Bool.false_eq_true, false_iff]; rintro ⟨⟨b, hb, e⟩, _⟩; exact h1 b hb e⟩
end Go.Proofs.Ytbcnifnmccaleaa.Y
