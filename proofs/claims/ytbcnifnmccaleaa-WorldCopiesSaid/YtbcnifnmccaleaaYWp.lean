/- Worlds: a changed copy is not the same (the text of TA is printed by wip/tools/mkwp.py). -/
import Derived.Test.YtbcnifnmccaleaaYWh
import Derived.Test.YtbcnifnmccaleaaYXs
import Derived.Test.YtbcnifnmccaleaaYWn
namespace Go.Proofs.Ytbcnifnmccaleaa.Y
open Go Go.RowKit Go.Proofs.Ytbcnifnmccaleaa.E Go.Proofs.Ytbcnifnmccaleaa.Ma Go.Proofs.Ytbcnifnmccaleaa.Fw
set_option linter.unusedVariables false
set_option linter.unusedSimpArgs false
set_option maxRecDepth 10000

theorem spoilt {X Y : Option Bool} (h1 : X = some false) (h2 : Y = some true) : (X.bind fun r => bif (!r) then (Y.bind fun q => some q) else some false) = some true := by rw [h1, h2]; rfl
theorem same_self {w : Wd} (h : Good w) : world.Same.f (w.raw, w.raw) = some true := (Same_tells h.seen h.seen).t (.refl w)
theorem other {a b : Wd} (ha : Seen a) (hb : Seen b) (h : ¬ SameW a b) : world.Same.f (a.raw, b.raw) = some false := (Same_tells ha hb).f h
theorem C_frz (o : Nat) (ob : Ob) (x : CT) : frzC o ob (Riiiii.enc x) = Riiiii.enc x := by kernel_rfl
theorem clo_frz2 {α : Type} {T : TyL α} (hC : ∀ x, cloL (T.enc x) = T.enc x) (hZ : ∀ o ob x, frzC o ob (T.enc x) = T.enc x) (o : Nat) (ob : Ob) (o' : Nat) (ob' : Ob) (g : Nat → α) (n : Nat) (v : α) :
    (fun i => cloL (frzC o ob (frzC o' ob' (if i = n then T.enc v else T.enc (g i))))) = fun i => T.enc (upd1 g n v i) := by
  funext i
  unfold upd1
  split
  · rw [hZ, hZ, hC]
  · rw [hZ, hZ, hC]
/-- A list with one changed element. -/
def updL {α : Type} (x : Nat × (Nat → α)) (q : Nat) (v : α) : Nat × (Nat → α) := (x.1, upd1 x.2 q v)
/-- The last body's number. -/
theorem last_ix (n : Nat) (h : n ≠ 0) (h2 : n ≤ 1024) : IntKind.i64.wrap (((n : Nat) : Int) - 1) = ((n - 1 : Nat) : Int) := by rw [IntKind.wrap_i64]; omega
theorem wrap_ne (x : Int) : x ≠ IntKind.i64.wrap (x + 1) := by rw [IntKind.wrap_i64]; omega
theorem wrap_ne' (x : Int) : x ≠ IntKind.i64.wrap (x - 1) := by rw [IntKind.wrap_i64]; omega
abbrev lastB (w : Wd) : BT := w.bs.2 (w.bs.1 - 1)
theorem Seen.upd {w : Wd} (h : Seen w) {q : Nat} {v : BT} (hv : Inner v.2.2.2.2.2.2.2.2.2.2 ∧ v.2.2.2.2.2.2.2.2.2.2.1 ≤ 900000) : Seen { w with bs := updL w.bs q v } := by
  refine ⟨h.bn, fun i hi => ?_, h.jn, h.cn⟩
  show Inner (upd1 w.bs.2 q v i).2.2.2.2.2.2.2.2.2.2 ∧ (upd1 w.bs.2 q v i).2.2.2.2.2.2.2.2.2.2.1 ≤ 900000
  unfold upd1
  split
  · exact hv
  · exact h.b i hi
theorem not_upd {w : Wd} {q : Nat} (hq : q < w.bs.1) {v : BT} (h : ¬ SameB (w.bs.2 q) v) : ¬ SameW w { w with bs := updL w.bs q v } := fun e => h (by
  have := e.bb q hq
  have h2 : (updL w.bs q v).2 q = v := by show upd1 w.bs.2 q v q = v; unfold upd1; rw [if_pos rfl]
  show SameB (w.bs.2 q) v
  rw [← h2]; exact this)
noncomputable def TA (w : Wd) (p2 : Int) : Option Bool :=
  (world.Same.f ((w.t, w.nb, w.nj, w.gx, w.gy, (w.bs.1, (fun i => RiiiiiiiiiiL2.enc (w.bs.2 i))), (w.js.1, (fun i => Riiiiiiii.enc (w.js.2 i))), (w.cs.1, (fun i => Riiiii.enc (w.cs.2 i)))), (w.t, w.nb, w.nj, w.gx, w.gy, (w.bs.1, (fun i => RiiiiiiiiiiL2.enc (w.bs.2 i))), (w.js.1, (fun i => Riiiiiiii.enc (w.js.2 i))), (w.cs.1, (fun i => Riiiii.enc (w.cs.2 i)))))).bind fun r9 =>
  bif (!r9) then
    some false
  else
  bif ((IntKind.i64.wrap (((w.bs.1 : Nat) : Int) + ((w.js.1 : Nat) : Int))) != (IntKind.i64.wrap (((w.bs.1 : Nat) : Int) + ((w.js.1 : Nat) : Int)))) then
    some false
  else
  bif ((Go.bits .and .i64 p2 3) == 0) then
    (world.Same.f ((w.t, w.nb, w.nj, w.gx, w.gy, (w.bs.1, (fun i => RiiiiiiiiiiL2.enc (w.bs.2 i))), (w.js.1, (fun i => Riiiiiiii.enc (w.js.2 i))), (w.cs.1, (fun i => Riiiii.enc (w.cs.2 i)))), ((IntKind.i64.wrap (w.t + 1)), w.nb, w.nj, w.gx, w.gy, (w.bs.1, (fun i => RiiiiiiiiiiL2.enc (w.bs.2 i))), (w.js.1, (fun i => Riiiiiiii.enc (w.js.2 i))), (w.cs.1, (fun i => Riiiii.enc (w.cs.2 i)))))).bind fun r10 =>
    bif (!r10) then
      (world.Right.f (w.t, w.nb, w.nj, w.gx, w.gy, (w.bs.1, (fun i => RiiiiiiiiiiL2.enc (w.bs.2 i))), (w.js.1, (fun i => Riiiiiiii.enc (w.js.2 i))), (w.cs.1, (fun i => Riiiii.enc (w.cs.2 i))))).bind fun r11 =>
      some r11
    else
    some false
  else
  bif ((Go.bits .and .i64 p2 3) == 1) then
    bif (decide ((w.cs.1 + 1) * 40 ≤ 140737488355328)) then
    (world.Same.f ((w.t, w.nb, w.nj, w.gx, w.gy, (w.bs.1, (fun i => RiiiiiiiiiiL2.enc (w.bs.2 i))), (w.js.1, (fun i => Riiiiiiii.enc (w.js.2 i))), (w.cs.1, (fun i => Riiiii.enc (w.cs.2 i)))), (w.t, w.nb, w.nj, w.gx, w.gy, (w.bs.1, (fun i => RiiiiiiiiiiL2.enc (w.bs.2 i))), (w.js.1, (fun i => Riiiiiiii.enc (w.js.2 i))), ((w.cs.1 + 1), (fun i => cloL (frzC 15 ⟨true, 51, 8, w.js.1, (fun i => Riiiiiiii.enc (w.js.2 i)), none⟩ (frzC 14 ⟨true, 43, 11, w.bs.1, (fun i => RiiiiiiiiiiL2.enc (w.bs.2 i)), none⟩ (if i = w.cs.1 then Riiiii.enc (0, 0, 0, 0, 0) else Riiiii.enc (w.cs.2 i))))))))).bind fun r12 =>
    bif (!r12) then
      (world.Right.f (w.t, w.nb, w.nj, w.gx, w.gy, (w.bs.1, (fun i => RiiiiiiiiiiL2.enc (w.bs.2 i))), (w.js.1, (fun i => Riiiiiiii.enc (w.js.2 i))), (w.cs.1, (fun i => Riiiii.enc (w.cs.2 i))))).bind fun r13 =>
      some r13
    else
    some false
    else none
  else
  bif (((w.bs.1 : Nat) : Int) == 0) then
    (world.Same.f ((w.t, w.nb, w.nj, w.gx, w.gy, (w.bs.1, (fun i => RiiiiiiiiiiL2.enc (w.bs.2 i))), (w.js.1, (fun i => Riiiiiiii.enc (w.js.2 i))), (w.cs.1, (fun i => Riiiii.enc (w.cs.2 i)))), (w.t, w.nb, w.nj, (IntKind.i64.wrap (w.gx - 1)), w.gy, (w.bs.1, (fun i => RiiiiiiiiiiL2.enc (w.bs.2 i))), (w.js.1, (fun i => Riiiiiiii.enc (w.js.2 i))), (w.cs.1, (fun i => Riiiii.enc (w.cs.2 i)))))).bind fun r14 =>
    bif (!r14) then
      (world.Right.f (w.t, w.nb, w.nj, w.gx, w.gy, (w.bs.1, (fun i => RiiiiiiiiiiL2.enc (w.bs.2 i))), (w.js.1, (fun i => Riiiiiiii.enc (w.js.2 i))), (w.cs.1, (fun i => Riiiii.enc (w.cs.2 i))))).bind fun r15 =>
      some r15
    else
    some false
  else
  bif ((Go.bits .and .i64 p2 4) == 0) then
    bif ((decide (0 ≤ (IntKind.i64.wrap (((w.bs.1 : Nat) : Int) - 1)))) && (decide ((IntKind.i64.wrap (((w.bs.1 : Nat) : Int) - 1)) < ((w.bs.1 : Nat) : Int)))) then
    bif ((decide (0 ≤ (IntKind.i64.wrap (((w.bs.1 : Nat) : Int) - 1)))) && (decide ((IntKind.i64.wrap (((w.bs.1 : Nat) : Int) - 1)) < ((w.bs.1 : Nat) : Int)))) then
    (world.Same.f ((w.t, w.nb, w.nj, w.gx, w.gy, (w.bs.1, (fun i => RiiiiiiiiiiL2.enc (w.bs.2 i))), (w.js.1, (fun i => Riiiiiiii.enc (w.js.2 i))), (w.cs.1, (fun i => Riiiii.enc (w.cs.2 i)))), (w.t, w.nb, w.nj, w.gx, w.gy, (w.bs.1, (fun i => cloL (if i = (Int.toNat (IntKind.i64.wrap (((w.bs.1 : Nat) : Int) - 1))) then RiiiiiiiiiiL2.enc ((w.bs.2 (Int.toNat (IntKind.i64.wrap (((w.bs.1 : Nat) : Int) - 1)))).1, (w.bs.2 (Int.toNat (IntKind.i64.wrap (((w.bs.1 : Nat) : Int) - 1)))).2.1, (w.bs.2 (Int.toNat (IntKind.i64.wrap (((w.bs.1 : Nat) : Int) - 1)))).2.2.1, (w.bs.2 (Int.toNat (IntKind.i64.wrap (((w.bs.1 : Nat) : Int) - 1)))).2.2.2.1, (IntKind.i64.wrap ((w.bs.2 (Int.toNat (IntKind.i64.wrap (((w.bs.1 : Nat) : Int) - 1)))).2.2.2.2.1 + 1)), (w.bs.2 (Int.toNat (IntKind.i64.wrap (((w.bs.1 : Nat) : Int) - 1)))).2.2.2.2.2.1, (w.bs.2 (Int.toNat (IntKind.i64.wrap (((w.bs.1 : Nat) : Int) - 1)))).2.2.2.2.2.2.1, (w.bs.2 (Int.toNat (IntKind.i64.wrap (((w.bs.1 : Nat) : Int) - 1)))).2.2.2.2.2.2.2.1, (w.bs.2 (Int.toNat (IntKind.i64.wrap (((w.bs.1 : Nat) : Int) - 1)))).2.2.2.2.2.2.2.2.1, (w.bs.2 (Int.toNat (IntKind.i64.wrap (((w.bs.1 : Nat) : Int) - 1)))).2.2.2.2.2.2.2.2.2.1, ((w.bs.2 (Int.toNat (IntKind.i64.wrap (((w.bs.1 : Nat) : Int) - 1)))).2.2.2.2.2.2.2.2.2.2.1, (w.bs.2 (Int.toNat (IntKind.i64.wrap (((w.bs.1 : Nat) : Int) - 1)))).2.2.2.2.2.2.2.2.2.2.2)) else RiiiiiiiiiiL2.enc (w.bs.2 i)))), (w.js.1, (fun i => Riiiiiiii.enc (w.js.2 i))), (w.cs.1, (fun i => Riiiii.enc (w.cs.2 i)))))).bind fun r16 =>
    bif (!r16) then
      (world.Right.f (w.t, w.nb, w.nj, w.gx, w.gy, (w.bs.1, (fun i => RiiiiiiiiiiL2.enc (w.bs.2 i))), (w.js.1, (fun i => Riiiiiiii.enc (w.js.2 i))), (w.cs.1, (fun i => Riiiii.enc (w.cs.2 i))))).bind fun r17 =>
      some r17
    else
    some false
    else none
    else none
  else
  bif ((decide (0 ≤ (IntKind.i64.wrap (((w.bs.1 : Nat) : Int) - 1)))) && (decide ((IntKind.i64.wrap (((w.bs.1 : Nat) : Int) - 1)) < ((w.bs.1 : Nat) : Int)))) then
  bif ((((w.bs.2 (Int.toNat (IntKind.i64.wrap (((w.bs.1 : Nat) : Int) - 1)))).2.2.2.2.2.2.2.2.2.2.1 : Nat) : Int) == 0) then
  (world.Same.f ((w.t, w.nb, w.nj, w.gx, w.gy, (w.bs.1, (fun i => RiiiiiiiiiiL2.enc (w.bs.2 i))), (w.js.1, (fun i => Riiiiiiii.enc (w.js.2 i))), (w.cs.1, (fun i => Riiiii.enc (w.cs.2 i)))), (w.t, w.nb, w.nj, w.gx, w.gy, (w.bs.1, (fun i => cloL (if i = (Int.toNat (IntKind.i64.wrap (((w.bs.1 : Nat) : Int) - 1))) then RiiiiiiiiiiL2.enc ((w.bs.2 (Int.toNat (IntKind.i64.wrap (((w.bs.1 : Nat) : Int) - 1)))).1, (w.bs.2 (Int.toNat (IntKind.i64.wrap (((w.bs.1 : Nat) : Int) - 1)))).2.1, (w.bs.2 (Int.toNat (IntKind.i64.wrap (((w.bs.1 : Nat) : Int) - 1)))).2.2.1, (w.bs.2 (Int.toNat (IntKind.i64.wrap (((w.bs.1 : Nat) : Int) - 1)))).2.2.2.1, (w.bs.2 (Int.toNat (IntKind.i64.wrap (((w.bs.1 : Nat) : Int) - 1)))).2.2.2.2.1, (w.bs.2 (Int.toNat (IntKind.i64.wrap (((w.bs.1 : Nat) : Int) - 1)))).2.2.2.2.2.1, (w.bs.2 (Int.toNat (IntKind.i64.wrap (((w.bs.1 : Nat) : Int) - 1)))).2.2.2.2.2.2.1, (w.bs.2 (Int.toNat (IntKind.i64.wrap (((w.bs.1 : Nat) : Int) - 1)))).2.2.2.2.2.2.2.1, (w.bs.2 (Int.toNat (IntKind.i64.wrap (((w.bs.1 : Nat) : Int) - 1)))).2.2.2.2.2.2.2.2.1, (IntKind.i64.wrap ((w.bs.2 (Int.toNat (IntKind.i64.wrap (((w.bs.1 : Nat) : Int) - 1)))).2.2.2.2.2.2.2.2.2.1 + 1)), ((w.bs.2 (Int.toNat (IntKind.i64.wrap (((w.bs.1 : Nat) : Int) - 1)))).2.2.2.2.2.2.2.2.2.2.1, (w.bs.2 (Int.toNat (IntKind.i64.wrap (((w.bs.1 : Nat) : Int) - 1)))).2.2.2.2.2.2.2.2.2.2.2)) else RiiiiiiiiiiL2.enc (w.bs.2 i)))), (w.js.1, (fun i => Riiiiiiii.enc (w.js.2 i))), (w.cs.1, (fun i => Riiiii.enc (w.cs.2 i)))))).bind fun r18 =>
  bif (!r18) then
    (world.Right.f (w.t, w.nb, w.nj, w.gx, w.gy, (w.bs.1, (fun i => RiiiiiiiiiiL2.enc (w.bs.2 i))), (w.js.1, (fun i => Riiiiiiii.enc (w.js.2 i))), (w.cs.1, (fun i => Riiiii.enc (w.cs.2 i))))).bind fun r19 =>
    some r19
  else
  some false
  else none
  else none
attribute [local irreducible] world.Right.f world.Same.f
/-- What is changed in the copy is no list within a list. -/
def Flat (w : Wd) (p2 : Int) : Prop := (Go.bits .and .i64 p2 3 == 0) = true ∨ (Go.bits .and .i64 p2 3 == 1) = true ∨ w.bs.1 = 0 ∨ (Go.bits .and .i64 p2 4 == 0) = true ∨ (lastB w).2.2.2.2.2.2.2.2.2.2.1 = 0
theorem TA_true {w : Wd} {k : Nat} (hS : Small k w) (p2 : Int) (hp : Flat w p2) : TA w p2 = some true := by
  have hg := hS.good
  have ht := hg.tells
  have hs := hg.seen
  have hb := hg.b
  unfold TA
  refine bind_to (same_self hg) ?_
  refine cond_f rfl ?_
  refine cond_f (by simp) ?_
  cases c0 : (Go.bits .and .i64 p2 3 == 0) with
  | true => exact spoilt (other (b := { w with t := IntKind.i64.wrap (w.t + 1) }) hs ⟨hs.bn, hs.b, hs.jn, hs.cn⟩ fun e => wrap_ne w.t e.t) ht
  | false =>
  rw [cond_false]
  cases c1 : (Go.bits .and .i64 p2 3 == 1) with
  | true =>
    rw [cond_true]
    have hc := hs.cn
    refine cond_t (by have := hg.fine.nc; simp; omega) ?_
    rw [clo_frz2 Riiiii_clo C_frz]
    exact spoilt (other (b := { w with cs := (w.cs.1 + 1, upd1 w.cs.2 w.cs.1 (0, 0, 0, 0, 0)) }) hs ⟨hs.bn, hs.b, hs.jn, by have := hS.c; show w.cs.1 + 1 ≤ 900000; omega⟩ fun e => by have h := e.cn; have h' : w.cs.1 = w.cs.1 + 1 := h; omega) ht
  | false =>
  rw [cond_false]
  by_cases hz : w.bs.1 = 0
  · refine cond_t (by rw [hz]; rfl) ?_
    exact spoilt (other (b := { w with gx := IntKind.i64.wrap (w.gx - 1) }) hs ⟨hs.bn, hs.b, hs.jn, hs.cn⟩ fun e => wrap_ne' w.gx e.gx) ht
  refine cond_f (by simp; exact hz) ?_
  rw [last_ix w.bs.1 hz hb]
  have hl : w.bs.1 - 1 < w.bs.1 := by omega
  have hin : (decide (0 ≤ ((w.bs.1 - 1 : Nat) : Int)) && decide (((w.bs.1 - 1 : Nat) : Int) < ((w.bs.1 : Nat) : Int))) = true := in_nat _ _ hl
  rw [hin]
  simp only [Int.toNat_natCast, cond_true]
  obtain ⟨k1, k2⟩ := hs.b (w.bs.1 - 1) hl
  cases c2 : (Go.bits .and .i64 p2 4 == 0) with
  | true =>
    rw [cond_true, row_upd_clo RiiiiiiiiiiL2_clo]
    exact spoilt (other (b := { w with bs := updL w.bs (w.bs.1 - 1) _ }) hs (hs.upd ⟨k1, k2⟩) (not_upd hl fun e => wrap_ne _ e.2.2.2.2.1)) ht
  | false =>
  rw [cond_false]
  have h0 : (lastB w).2.2.2.2.2.2.2.2.2.2.1 = 0 := by
    rcases hp with h | h | h | h | h
    · rw [c0] at h; cases h
    · rw [c1] at h; cases h
    · exact absurd h hz
    · rw [c2] at h; cases h
    · exact h
  refine cond_t (by rw [h0]; rfl) ?_
  rw [row_upd_clo RiiiiiiiiiiL2_clo]
  exact spoilt (other (b := { w with bs := updL w.bs (w.bs.1 - 1) _ }) hs (hs.upd ⟨k1, k2⟩) (not_upd hl fun e => wrap_ne _ e.2.2.2.2.2.2.2.2.2.1)) ht
/-- What a deed does to a: nothing is seen of it. -/
theorem do_bind {α β : Type} {x : Option α} {y : α → Option β} {z : Option Bool} {r : Option Bool} (hx : ∃ a, x = some a ∧ ∃ b, y a = some b) (hz : z = r) : (x.bind fun a => (y a).bind fun _ => z) = r := by
  obtain ⟨a, rfl, b, hb⟩ := hx
  rw [Option.bind_some, hb, Option.bind_some, hz]
theorem do_bind1 {β : Type} {y : Option β} {z : Option Bool} {r : Option Bool} (hy : ∃ b, y = some b) (hz : z = r) : (y.bind fun _ => z) = r := by
  obtain ⟨b, rfl⟩ := hy
  rw [Option.bind_some, hz]
section
variable {w : Wd}
theorem doJ (hg : Good w) {d : DT} (hd : FineD d) : ∃ j, law09.Deed.Joint.f d = some j ∧ ∃ r, world.AddJoint.f (w.raw, j) = some r := by
  obtain ⟨j, j1, j2⟩ := djoint_ok hd
  obtain ⟨r, w', e, _⟩ := doAddJ hg j2
  exact ⟨j, j1, _, e⟩
theorem doB (hg : Good w) {d : DT} (hd : FineD d) : ∃ j, law09.Deed.Body.f d = some j ∧ ∃ r, world.AddBody.f (w.raw, rawB j) = some r := by
  obtain ⟨j, j1, j2⟩ := dbody_ok hd
  obtain ⟨r, w', e, _⟩ := doAddB hg j2.fine
  exact ⟨j, j1, _, e⟩
theorem doRB (hg : Good w) (x : Int) : ∃ r, world.RemoveBody.f (w.raw, x) = some r := by
  obtain ⟨r, w', e, _⟩ := doRemB hg x
  exact ⟨_, e⟩
theorem doRJ (hg : Good w) (x : Int) : ∃ r, world.RemoveJoint.f (w.raw, x) = some r := by
  obtain ⟨r, w', e, _⟩ := doRemJ hg x
  exact ⟨_, e⟩
end
attribute [local irreducible] world.Copy.f law09.Made.f law09.fit.f law09.Deed.Joint.f law09.Deed.Body.f world.AddJoint.f world.AddBody.f world.RemoveBody.f world.RemoveJoint.f
/-- The law, where the change goes no deeper than a row. -/
theorem Flat_eq {n : Nat} {ds : Nat → DT} (d0 d1 d2 d3 d4 d5 d6 d7 d8 d9 d10 d11 d12 d13 d14 d15 d16 d17 d18 d19 d20 d21 d22 d23 d24 d25 d26 d27 d28 : Int) (m : Nat) (G : Nat → P2) (p2 : Int) (hd : FineD (d0, d1, d2, d3, d4, d5, d6, d7, d8, d9, d10, d11, d12, d13, d14, d15, d16, d17, d18, d19, d20, d21, d22, d23, d24, d25, d26, d27, d28, (m, fun i => Rii.enc (G i)))) {w : Wd} {k : Nat} (hS : Small k w)
    (hM : law09.Made.f ((n, fun i => RiiiiiiiiiiiiiiiiiiiiiiiiiiiiiL2.enc (ds i)), 12) = some w.tup) (hp : Flat w p2) :
    law09.WorldCopies.f ((n, fun i => RiiiiiiiiiiiiiiiiiiiiiiiiiiiiiL2.enc (ds i)), (d0, d1, d2, d3, d4, d5, d6, d7, d8, d9, d10, d11, d12, d13, d14, d15, d16, d17, d18, d19, d20, d21, d22, d23, d24, d25, d26, d27, d28, (m, fun i => Rii.enc (G i))), p2) = some true := by
  have hg := hS.good
  have hz := TA_true hS p2 hp
  rw [law09.WorldCopies.eq]
  refine bind_to fit_true ?_
  refine cond_f rfl ?_
  by_cases hm : ((m : Nat) : Int) > 12
  · rw [decide_eq_true hm]; rfl
  rw [decide_eq_false hm, cond_false]
  refine bind_to hM ?_
  refine bind_to (Copy_eq hg) ?_
  refine bind_to (Copy_eq hg) ?_
  refine bind_to (same_self hg) ?_
  refine cond_f rfl ?_
  refine bind_to (same_self hg) ?_
  refine cond_f rfl ?_
  cases c4 : (Go.bits .and .i64 d0 7 == 4) with
  | true =>
    rw [cond_true, cond_true]
    exact do_bind (doJ hg hd) hz
  | false =>
  rw [cond_false]
  cases c5 : (Go.bits .and .i64 d0 7 == 5) with
  | true =>
    rw [cond_true]
    exact do_bind (doJ hg hd) hz
  | false =>
  rw [cond_false]
  cases c6 : (Go.bits .and .i64 d0 7 == 6) with
  | true =>
    rw [cond_true]
    exact do_bind1 (doRB hg _) hz
  | false =>
  rw [cond_false]
  cases c3 : (Go.bits .and .i64 d0 7 == 3) with
  | true =>
    rw [cond_true]
    exact do_bind1 (doRJ hg _) hz
  | false =>
  rw [cond_false]
  exact do_bind (doB hg hd) hz
end Go.Proofs.Ytbcnifnmccaleaa.Y
