/- Worlds: a copy of which a corner is changed is not the same (the text of TD is printed by wip/tools/mkwp.py). -/
import Derived.Test.YtbcnifnmccaleaaYWs
namespace Go.Proofs.Ytbcnifnmccaleaa.Y
open Go Go.RowKit Go.Proofs.Ytbcnifnmccaleaa.E Go.Proofs.Ytbcnifnmccaleaa.Ma Go.Proofs.Ytbcnifnmccaleaa.Fw
set_option linter.unusedVariables false
set_option linter.unusedSimpArgs false
set_option maxRecDepth 10000

noncomputable def TD (w : Wd) (m : Nat) (y : Nat → BT) (z : Z10) (np : Nat) (gp : Nat → P2) (p2 : Int) : Option Bool :=
  (world.Same.f ((w.t, w.nb, w.nj, w.gx, w.gy, (w.bs.1, (fun i => RiiiiiiiiiiL2.enc (w.bs.2 i))), (w.js.1, (fun i => Riiiiiiii.enc (w.js.2 i))), (w.cs.1, (fun i => Riiiii.enc (w.cs.2 i)))), (w.t, w.nb, w.nj, w.gx, w.gy, ((m + 1), (fun i => cloL (frzC 17 ⟨true, 26, 2, np, (fun i => Rii.enc (gp i)), none⟩ (frzC 8 ⟨true, 69, 5, w.cs.1, (fun i => Riiiii.enc (w.cs.2 i)), none⟩ (frzC 7 ⟨true, 51, 8, w.js.1, (fun i => Riiiiiiii.enc (w.js.2 i)), none⟩ (frzC 6 ⟨true, 43, 11, (m + 1), (fun i => frzC 9 ⟨true, 26, 2, np, (fun i => Rii.enc (gp i)), none⟩ (renL (shF 6 4) (if i = m then Riiiiiiiiii.enc z ++ slcs 3 1 else RiiiiiiiiiiL2.enc (y i)))), none⟩ (frzC 9 ⟨true, 26, 2, np, (fun i => Rii.enc (gp i)), none⟩ (renL (shF 14 4) (if i = m then Riiiiiiiiii.enc z ++ slcs 3 1 else RiiiiiiiiiiL2.enc (y i)))))))))), (w.js.1, (fun i => Riiiiiiii.enc (w.js.2 i))), (w.cs.1, (fun i => Riiiii.enc (w.cs.2 i)))))).bind fun r9 =>
  bif (!r9) then
    some false
  else
  bif ((IntKind.i64.wrap (((w.bs.1 : Nat) : Int) + ((w.js.1 : Nat) : Int))) != (IntKind.i64.wrap (((w.bs.1 : Nat) : Int) + ((w.js.1 : Nat) : Int)))) then
    some false
  else
  bif ((Go.bits .and .i64 p2 3) == 0) then
    none
  else
  bif ((Go.bits .and .i64 p2 3) == 1) then
    none
  else
  bif ((((m + 1) : Nat) : Int) == 0) then
    none
  else
  bif ((Go.bits .and .i64 p2 4) == 0) then
    none
  else
  bif ((decide (0 ≤ (IntKind.i64.wrap ((((m + 1) : Nat) : Int) - 1)))) && (decide ((IntKind.i64.wrap ((((m + 1) : Nat) : Int) - 1)) < (((m + 1) : Nat) : Int)))) then
  bif (@decide (((fun i => frzC 8 ⟨true, 69, 5, w.cs.1, (fun i => Riiiii.enc (w.cs.2 i)), none⟩ (frzC 7 ⟨true, 51, 8, w.js.1, (fun i => Riiiiiiii.enc (w.js.2 i)), none⟩ (frzC 6 ⟨true, 43, 11, (m + 1), (fun i => frzC 9 ⟨true, 26, 2, np, (fun i => Rii.enc (gp i)), none⟩ (renL (shF 6 4) (if i = m then Riiiiiiiiii.enc z ++ slcs 3 1 else RiiiiiiiiiiL2.enc (y i)))), none⟩ (frzC 9 ⟨true, 26, 2, np, (fun i => Rii.enc (gp i)), none⟩ (renL (shF 14 4) (if i = m then Riiiiiiiiii.enc z ++ slcs 3 1 else RiiiiiiiiiiL2.enc (y i))))))) (Int.toNat (IntKind.i64.wrap ((((m + 1) : Nat) : Int) - 1))))[10]? = some (.slc 17 0 none none)) (Classical.propDecidable _)) then
  bif (((np : Nat) : Int) == 0) then
    none
  else
  bif (@decide (((fun i => frzC 8 ⟨true, 69, 5, w.cs.1, (fun i => Riiiii.enc (w.cs.2 i)), none⟩ (frzC 7 ⟨true, 51, 8, w.js.1, (fun i => Riiiiiiii.enc (w.js.2 i)), none⟩ (frzC 6 ⟨true, 43, 11, (m + 1), (fun i => frzC 9 ⟨true, 26, 2, np, (fun i => Rii.enc (gp i)), none⟩ (renL (shF 6 4) (if i = m then Riiiiiiiiii.enc z ++ slcs 3 1 else RiiiiiiiiiiL2.enc (y i)))), none⟩ (frzC 9 ⟨true, 26, 2, np, (fun i => Rii.enc (gp i)), none⟩ (renL (shF 14 4) (if i = m then Riiiiiiiiii.enc z ++ slcs 3 1 else RiiiiiiiiiiL2.enc (y i))))))) (Int.toNat (IntKind.i64.wrap ((((m + 1) : Nat) : Int) - 1))))[10]? = some (.slc 17 0 none none)) (Classical.propDecidable _)) then
  bif (decide (0 < ((np : Nat) : Int))) then
  bif (decide (0 < ((np : Nat) : Int))) then
  (world.Same.f ((w.t, w.nb, w.nj, w.gx, w.gy, (w.bs.1, (fun i => RiiiiiiiiiiL2.enc (w.bs.2 i))), (w.js.1, (fun i => Riiiiiiii.enc (w.js.2 i))), (w.cs.1, (fun i => Riiiii.enc (w.cs.2 i)))), (w.t, w.nb, w.nj, w.gx, w.gy, ((m + 1), (fun i => cloL (frzC 17 ⟨true, 26, 2, np, (fun i => if i = 0 then Rii.enc ((IntKind.i64.wrap ((gp 0).1 + 1)), (gp 0).2) else Rii.enc (gp i)), none⟩ (frzC 8 ⟨true, 69, 5, w.cs.1, (fun i => Riiiii.enc (w.cs.2 i)), none⟩ (frzC 7 ⟨true, 51, 8, w.js.1, (fun i => Riiiiiiii.enc (w.js.2 i)), none⟩ (frzC 6 ⟨true, 43, 11, (m + 1), (fun i => frzC 9 ⟨true, 26, 2, np, (fun i => Rii.enc (gp i)), none⟩ (renL (shF 6 4) (if i = m then Riiiiiiiiii.enc z ++ slcs 3 1 else RiiiiiiiiiiL2.enc (y i)))), none⟩ (frzC 9 ⟨true, 26, 2, np, (fun i => Rii.enc (gp i)), none⟩ (renL (shF 14 4) (if i = m then Riiiiiiiiii.enc z ++ slcs 3 1 else RiiiiiiiiiiL2.enc (y i)))))))))), (w.js.1, (fun i => Riiiiiiii.enc (w.js.2 i))), (w.cs.1, (fun i => Riiiii.enc (w.cs.2 i)))))).bind fun r10 =>
  bif (!r10) then
    (world.Right.f (w.t, w.nb, w.nj, w.gx, w.gy, (w.bs.1, (fun i => RiiiiiiiiiiL2.enc (w.bs.2 i))), (w.js.1, (fun i => Riiiiiiii.enc (w.js.2 i))), (w.cs.1, (fun i => Riiiii.enc (w.cs.2 i))))).bind fun r11 =>
    some r11
  else
  some false
  else none
  else none
  else none
  else none
  else none
def AR (w : Wd) (m : Nat) (y : Nat → BT) (z : Z10) (np : Nat) (gp : Nat → P2) : RWT :=
  (w.t, w.nb, w.nj, w.gx, w.gy, ((m + 1), (fun i => cloL (frzC 9 ⟨true, 26, 2, np, (fun i => Rii.enc (gp i)), none⟩ (renL (shF 6 4) (if i = m then Riiiiiiiiii.enc z ++ slcs 3 1 else RiiiiiiiiiiL2.enc (y i)))))), (w.js.1, (fun i => Riiiiiiii.enc (w.js.2 i))), (w.cs.1, (fun i => Riiiii.enc (w.cs.2 i))))
def BR (w : Wd) (m : Nat) (y : Nat → BT) (z : Z10) (np : Nat) (gp : Nat → P2) : RWT :=
  (w.t, w.nb, w.nj, w.gx, w.gy, ((m + 1), (fun i => cloL (frzC 17 ⟨true, 26, 2, np, (fun i => Rii.enc (gp i)), none⟩ (frzC 8 ⟨true, 69, 5, w.cs.1, (fun i => Riiiii.enc (w.cs.2 i)), none⟩ (frzC 7 ⟨true, 51, 8, w.js.1, (fun i => Riiiiiiii.enc (w.js.2 i)), none⟩ (frzC 6 ⟨true, 43, 11, (m + 1), (fun i => frzC 9 ⟨true, 26, 2, np, (fun i => Rii.enc (gp i)), none⟩ (renL (shF 6 4) (if i = m then Riiiiiiiiii.enc z ++ slcs 3 1 else RiiiiiiiiiiL2.enc (y i)))), none⟩ (frzC 9 ⟨true, 26, 2, np, (fun i => Rii.enc (gp i)), none⟩ (renL (shF 14 4) (if i = m then Riiiiiiiiii.enc z ++ slcs 3 1 else RiiiiiiiiiiL2.enc (y i)))))))))), (w.js.1, (fun i => Riiiiiiii.enc (w.js.2 i))), (w.cs.1, (fun i => Riiiii.enc (w.cs.2 i))))
/-! ### The rows, where the last one's corners are told by their own list -/
theorem named_a (np : Nat) (pg : Nat → List AV) (z : Z10) : cloL (frzC 9 ⟨true, 26, 2, np, pg, none⟩ (renL (shF 6 4) (Riiiiiiiiii.enc z ++ slcs 3 1))) = RiiiiiiiiiiL2.enc (bodyZ z (np, fun i => cloL (pg i))) := by kernel_rfl
theorem old_a (ob : Ob) (x : BT) : cloL (frzC 9 ob (renL (shF 6 4) (RiiiiiiiiiiL2.enc x))) = RiiiiiiiiiiL2.enc x := by kernel_rfl
theorem rows_a (np : Nat) (pg : Nat → List AV) (z : Z10) (m : Nat) (y : Nat → BT) : (fun i => cloL (frzC 9 ⟨true, 26, 2, np, pg, none⟩ (renL (shF 6 4) (if i = m then Riiiiiiiiii.enc z ++ slcs 3 1 else RiiiiiiiiiiL2.enc (y i))))) = fun i => RiiiiiiiiiiL2.enc (upd1 y m (bodyZ z (np, fun i => cloL (pg i))) i) := by
  funext i
  unfold upd1
  split
  · exact named_a np pg z
  · exact old_a _ _
theorem named_b (o8 o7 o6 o9 : Ob) (np : Nat) (pg : Nat → List AV) (z : Z10) : cloL (frzC 17 ⟨true, 26, 2, np, pg, none⟩ (frzC 8 o8 (frzC 7 o7 (frzC 6 o6 (frzC 9 o9 (renL (shF 14 4) (Riiiiiiiiii.enc z ++ slcs 3 1))))))) = RiiiiiiiiiiL2.enc (bodyZ z (np, fun i => cloL (pg i))) := by kernel_rfl
theorem old_b (o8 o7 o6 o9 ob : Ob) (x : BT) : cloL (frzC 17 ob (frzC 8 o8 (frzC 7 o7 (frzC 6 o6 (frzC 9 o9 (renL (shF 14 4) (RiiiiiiiiiiL2.enc x))))))) = RiiiiiiiiiiL2.enc x := by kernel_rfl
theorem rows_b (o8 o7 o6 o9 : Ob) (np : Nat) (pg : Nat → List AV) (z : Z10) (m : Nat) (y : Nat → BT) : (fun i => cloL (frzC 17 ⟨true, 26, 2, np, pg, none⟩ (frzC 8 o8 (frzC 7 o7 (frzC 6 o6 (frzC 9 o9 (renL (shF 14 4) (if i = m then Riiiiiiiiii.enc z ++ slcs 3 1 else RiiiiiiiiiiL2.enc (y i))))))))) = fun i => RiiiiiiiiiiL2.enc (upd1 y m (bodyZ z (np, fun i => cloL (pg i))) i) := by
  funext i
  unfold upd1
  split
  · exact named_b o8 o7 o6 o9 np pg z
  · exact old_b _ _ _ _ _ _
theorem told_b (o8 o7 o6 o9 : Ob) (z : Z10) (m : Nat) (y : Nat → BT) : ((fun i => frzC 8 o8 (frzC 7 o7 (frzC 6 o6 (frzC 9 o9 (renL (shF 14 4) (if i = m then Riiiiiiiiii.enc z ++ slcs 3 1 else RiiiiiiiiiiL2.enc (y i))))))) m)[10]? = some (.slc 17 0 none none) := by
  show (frzC 8 o8 (frzC 7 o7 (frzC 6 o6 (frzC 9 o9 (renL (shF 14 4) (if m = m then Riiiiiiiiii.enc z ++ slcs 3 1 else RiiiiiiiiiiL2.enc (y m)))))))[10]? = _
  rw [if_pos rfl]
  kernel_rfl
/-- The copy as a world. -/
def Wd.deep (w : Wd) (m : Nat) (y : Nat → BT) (b : BT) : Wd := { w with bs := (m + 1, upd1 y m b) }
theorem deep_at (w : Wd) {m : Nat} {y : Nat → BT} (hy : ∀ i, i < m → y i = w.bs.2 i) (b : BT) {i : Nat} (hi : i < m + 1) : (w.deep m y b).bs.2 i = if i = m then b else w.bs.2 i := by
  show upd1 y m b i = _
  unfold upd1
  split
  · rfl
  · exact hy i (by omega)
theorem deep_lst {w : Wd} {m : Nat} (hm : w.bs.1 = m + 1) {y : Nat → BT} (hy : ∀ i, i < m → y i = w.bs.2 i) : lst (w.deep m y (w.bs.2 m)).bs = lst w.bs := by
  unfold lst
  show (List.range (m + 1)).map (w.deep m y (w.bs.2 m)).bs.2 = _
  rw [hm]
  refine List.map_congr_left fun i hi => ?_
  rw [deep_at w hy _ (List.mem_range.1 hi)]
  split
  · rename_i e; rw [e]
  · rfl
theorem Good.deep {w : Wd} (h : Good w) {m : Nat} (hm : w.bs.1 = m + 1) {y : Nat → BT} (hy : ∀ i, i < m → y i = w.bs.2 i) : Good (w.deep m y (w.bs.2 m)) := by
  have e := deep_lst hm hy
  refine ⟨⟨h.fine.gx, h.fine.gy, fun a ha => h.fine.b a (by rw [e] at ha; exact ha), h.fine.j, h.fine.nc⟩, ?_⟩
  unfold RightW
  rw [e]
  exact h.right
theorem deep_same {w : Wd} {m : Nat} (hm : w.bs.1 = m + 1) {y : Nat → BT} (hy : ∀ i, i < m → y i = w.bs.2 i) : SameW w (w.deep m y (w.bs.2 m)) :=
  ⟨rfl, rfl, rfl, rfl, rfl, hm, fun i hi => by
    rw [deep_at w hy _ (by omega)]
    split
    · rename_i e; rw [e]; exact .refl _
    · exact .refl _, rfl, fun _ _ => rfl, rfl, fun _ _ => rfl⟩
theorem same_deep {w : Wd} {m : Nat} (hm : w.bs.1 = m + 1) {y : Nat → BT} (hy : ∀ i, i < m → y i = w.bs.2 i) : SameW (w.deep m y (w.bs.2 m)) (w.deep m y (w.bs.2 m)) := .refl _
theorem Seen.deep {w : Wd} (h : Seen w) {m : Nat} (hm : w.bs.1 = m + 1) {y : Nat → BT} (hy : ∀ i, i < m → y i = w.bs.2 i) {b : BT} (hb : Inner b.2.2.2.2.2.2.2.2.2.2 ∧ b.2.2.2.2.2.2.2.2.2.2.1 ≤ 900000) : Seen (w.deep m y b) := by
  refine ⟨by have := h.bn; show m + 1 ≤ 900000; omega, fun i hi => ?_, h.jn, h.cn⟩
  rw [deep_at w hy b hi]
  split
  · exact hb
  · exact h.b i (by have : i < m + 1 := hi; omega)
attribute [local irreducible] world.Right.f world.Same.f
theorem clo_typed (g : Nat → P2) : (fun i => cloL ((fun i => Rii.enc (g i)) i)) = fun i => Rii.enc (g i) := by
  funext i
  exact Rii_clo _
theorem dec_t {p : Prop} (i : Decidable p) (h : p) : @decide p i = true := decide_eq_true h
theorem TD_true {w : Wd} (hg : Good w) {m : Nat} (hm : w.bs.1 = m + 1) {y : Nat → BT} (hy : ∀ i, i < m → y i = w.bs.2 i) {z : Z10} {np : Nat} {gp : Nat → P2} (hl : w.bs.2 m = bodyZ z (np, fun i => Rii.enc (gp i))) (hI : ∀ i, i < np → I2 (gp i)) (hnp : np ≤ 1000) (h0 : np ≠ 0) (p2 : Int)
    (c0 : (Go.bits .and .i64 p2 3 == 0) = false) (c1 : (Go.bits .and .i64 p2 3 == 1) = false) (c2 : (Go.bits .and .i64 p2 4 == 0) = false) : TD w m y z np gp p2 = some true := by
  have ht := hg.tells
  have hs := hg.seen
  have hb := hg.b
  have hsd : Seen (w.deep m y (w.bs.2 m)) := (hg.deep hm hy).seen
  unfold TD
  rw [rows_b, clo_typed, ← hl]
  refine bind_to ((Same_tells hs hsd).t (deep_same hm hy)) ?_
  refine cond_f rfl ?_
  refine cond_f (by simp) ?_
  refine cond_f c0 ?_
  refine cond_f c1 ?_
  refine cond_f (by simp; omega) ?_
  refine cond_f c2 ?_
  rw [last_ix (m + 1) (by omega) (by omega)]
  have e1 : m + 1 - 1 = m := by omega
  rw [e1]
  refine cond_t (in_nat m (m + 1) (by omega)) ?_
  rw [Int.toNat_natCast]
  refine cond_t (dec_t _ (told_b _ _ _ _ z m y)) ?_
  refine cond_f (by simp; exact h0) ?_
  refine cond_t (dec_t _ (told_b _ _ _ _ z m y)) ?_
  refine cond_t (by simp; omega) ?_
  refine cond_t (by simp; omega) ?_
  rw [rows_b, row_upd_clo Rii_clo]
  have hin : Inner (np, fun i => Rii.enc (upd1 gp 0 (IntKind.i64.wrap ((gp 0).1 + 1), (gp 0).2) i)) := ⟨_, rfl, fun i hi => by
    unfold upd1
    split
    · exact ⟨w_i _, (hI 0 (by omega)).2⟩
    · exact hI i hi⟩
  refine spoilt (other hs (hs.deep hm hy (b := bodyZ z (np, fun i => Rii.enc (upd1 gp 0 (IntKind.i64.wrap ((gp 0).1 + 1), (gp 0).2) i))) ⟨hin, by show np ≤ 900000; omega⟩) fun e => ?_) ht
  have e2 := e.bb m (by omega)
  rw [deep_at w hy _ (by omega), if_pos rfl, hl] at e2
  have e3 := e2.2.2.2.2.2.2.2.2.2.2.2 0 (by show 0 < np; omega)
  have e4 : Rii.enc (gp 0) = Rii.enc (upd1 gp 0 (IntKind.i64.wrap ((gp 0).1 + 1), (gp 0).2) 0) := e3
  have e5 := Rii_inj e4
  unfold upd1 at e5
  rw [if_pos rfl] at e5
  exact wrap_ne _ (congrArg Prod.fst e5)
theorem AR_eq {w : Wd} {m : Nat} {y : Nat → BT} {z : Z10} {np : Nat} {gp : Nat → P2} (hl : w.bs.2 m = bodyZ z (np, fun i => Rii.enc (gp i))) : AR w m y z np gp = (w.deep m y (w.bs.2 m)).raw := by
  unfold AR
  rw [rows_a, clo_typed, ← hl]
  rfl
theorem BR_eq {w : Wd} {m : Nat} {y : Nat → BT} {z : Z10} {np : Nat} {gp : Nat → P2} (hl : w.bs.2 m = bodyZ z (np, fun i => Rii.enc (gp i))) : BR w m y z np gp = (w.deep m y (w.bs.2 m)).raw := by
  unfold BR
  rw [rows_b, clo_typed, ← hl]
  rfl
attribute [local irreducible] world.Copy_d.f law09.Made.f law09.fit.f law09.Deed.Joint.f law09.Deed.Body.f world.AddJoint.f world.AddBody.f world.RemoveBody.f world.RemoveJoint.f
/-- The law, where the change goes into the last body's corners. -/
theorem Deep_eq {n : Nat} {ds : Nat → DT} (d0 d1 d2 d3 d4 d5 d6 d7 d8 d9 d10 d11 d12 d13 d14 d15 d16 d17 d18 d19 d20 d21 d22 d23 d24 d25 d26 d27 d28 : Int) (m' : Nat) (G : Nat → P2) (p2 : Int) (hd : FineD (d0, d1, d2, d3, d4, d5, d6, d7, d8, d9, d10, d11, d12, d13, d14, d15, d16, d17, d18, d19, d20, d21, d22, d23, d24, d25, d26, d27, d28, (m', fun i => Rii.enc (G i)))) {w : Wd} {k : Nat} (hS : Small k w)
    (hM : law09.Made.f ((n, fun i => RiiiiiiiiiiiiiiiiiiiiiiiiiiiiiL2.enc (ds i)), 12) = some w.tup) (hp : ¬ Flat w p2) :
    law09.WorldCopies_d.f ((n, fun i => RiiiiiiiiiiiiiiiiiiiiiiiiiiiiiL2.enc (ds i)), (d0, d1, d2, d3, d4, d5, d6, d7, d8, d9, d10, d11, d12, d13, d14, d15, d16, d17, d18, d19, d20, d21, d22, d23, d24, d25, d26, d27, d28, (m', fun i => Rii.enc (G i))), p2) = some true := by
  have hg := hS.good
  have hb := hg.b
  unfold Flat at hp
  simp only [not_or, Bool.not_eq_true] at hp
  obtain ⟨c0, c1, hz, c2, hP⟩ := hp
  obtain ⟨m, hm⟩ : ∃ m, w.bs.1 = m + 1 := ⟨w.bs.1 - 1, by omega⟩
  have hix : w.bs.1 - 1 = m := by omega
  have hP' : (w.bs.2 m).2.2.2.2.2.2.2.2.2.2.1 ≠ 0 := by
    have : lastB w = w.bs.2 m := by show w.bs.2 (w.bs.1 - 1) = _; rw [hix]
    rw [← this]; exact hP
  have hmm : w.bs.2 m ∈ lst w.bs := mem_lst.2 ⟨m, by omega, rfl⟩
  have hfew := rightB_few (hg.fine.b _ hmm) (hg.right.rb _ hmm)
  obtain ⟨_, _, _, _, _, gp, hG, hI⟩ := hg.fine.b _ hmm
  obtain ⟨z, np, hl, hnp⟩ : ∃ (z : Z10) (np : Nat), w.bs.2 m = bodyZ z (np, fun i => Rii.enc (gp i)) ∧ np = (w.bs.2 m).2.2.2.2.2.2.2.2.2.2.1 := by
    generalize w.bs.2 m = b at hG
    obtain ⟨b0, b1, b2, b3, b4, b5, b6, b7, b8, b9, nb, GB⟩ := b
    dsimp only at hG
    subst hG
    exact ⟨(b0, b1, b2, b3, b4, b5, b6, b7, b8, b9), nb, rfl, rfl⟩
  rw [← hnp] at hI hP' hfew
  obtain ⟨y, hy, hC⟩ := CopyD_eq hg hm hl (by omega)
  have hgd := hg.deep hm hy
  have hX := TD_true hg hm hy hl hI (by omega) hP' p2 c0 c1 c2
  have hsd : Seen (w.deep m y (w.bs.2 m)) := hgd.seen
  rw [law09.WorldCopies_d.eq]
  refine bind_to fit_true ?_
  refine cond_f rfl ?_
  by_cases hm' : ((m' : Nat) : Int) > 12
  · rw [decide_eq_true hm']; rfl
  rw [decide_eq_false hm', cond_false]
  refine bind_to hM ?_
  refine bind_to hC ?_
  refine bind_to hC ?_
  have s1 : world.Same.f (w.raw, AR w m y z np gp) = some true := by rw [AR_eq hl]; exact (Same_tells hg.seen hsd).t (deep_same hm hy)
  have s2 : world.Same.f (AR w m y z np gp, BR w m y z np gp) = some true := by rw [AR_eq hl, BR_eq hl]; exact (Same_tells hsd hsd).t (.refl _)
  have qJ : ∃ j, law09.Deed.Joint.f (d0, d1, d2, d3, d4, d5, d6, d7, d8, d9, d10, d11, d12, d13, d14, d15, d16, d17, d18, d19, d20, d21, d22, d23, d24, d25, d26, d27, d28, (m', fun i => Rii.enc (G i))) = some j ∧ ∃ r, world.AddJoint.f (AR w m y z np gp, j) = some r := by rw [AR_eq hl]; exact doJ hgd hd
  have qB : ∃ j, law09.Deed.Body.f (d0, d1, d2, d3, d4, d5, d6, d7, d8, d9, d10, d11, d12, d13, d14, d15, d16, d17, d18, d19, d20, d21, d22, d23, d24, d25, d26, d27, d28, (m', fun i => Rii.enc (G i))) = some j ∧ ∃ r, world.AddBody.f (AR w m y z np gp, rawB j) = some r := by rw [AR_eq hl]; exact doB hgd hd
  have qRB : ∀ x, ∃ r, world.RemoveBody.f (AR w m y z np gp, x) = some r := by rw [AR_eq hl]; exact doRB hgd
  have qRJ : ∀ x, ∃ r, world.RemoveJoint.f (AR w m y z np gp, x) = some r := by rw [AR_eq hl]; exact doRJ hgd
  refine bind_to s1 ?_
  refine cond_f rfl ?_
  refine bind_to s2 ?_
  refine cond_f rfl ?_
  cases c4 : (Go.bits .and .i64 d0 7 == 4) with
  | true =>
    rw [cond_true, cond_true]
    exact do_bind qJ hX
  | false =>
  rw [cond_false]
  cases c5 : (Go.bits .and .i64 d0 7 == 5) with
  | true =>
    rw [cond_true]
    exact do_bind qJ hX
  | false =>
  rw [cond_false]
  cases c6 : (Go.bits .and .i64 d0 7 == 6) with
  | true =>
    rw [cond_true]
    exact do_bind1 (qRB _) hX
  | false =>
  rw [cond_false]
  cases c3 : (Go.bits .and .i64 d0 7 == 3) with
  | true =>
    rw [cond_true]
    exact do_bind1 (qRJ _) hX
  | false =>
  rw [cond_false]
  exact do_bind qB hX
end Go.Proofs.Ytbcnifnmccaleaa.Y
