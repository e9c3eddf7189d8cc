/- A range over a function: its rounds, and what the evaluator says of them, are so. -/
import Derived.Test.YtghhecijpghfhaaGreatFwV
import Derived.RangeFuncIn
import Derived.RangeFuncRecord
import Derived.RangeFuncSeq
import Derived.RangeFuncLeaves
import Derived.RangeFuncCalls
import Derived.TacticsIn
import Derived.OrdersIn
namespace Go.Proofs.YtghhecijpghfhaaGreat.Fw
open Go Go.RowKit
set_option linter.unusedVariables false
set_option linter.unusedSimpArgs false

/-! ### An operation in a round is what it is anywhere -/
def isDefer : Op → Bool
  | .defer _ => true
  | _ => false
theorem not_defer {o : Op} (h : isDefer o = false) : ∀ c, o ≠ .defer c := by rintro c rfl; cases h

section
variable {P : Program} {o : Oper} {a : Act} {K : Act → World → Prop} {Q : Exit → Act → World → Prop} {w : World}

theorem upon_in (l n : Nat) {r : Result Next} (h : o.upon P a K Q r) : o.uponIn (Fence.wide.inRound l) n P a K Q r := by
  cases r with
  | ok x w' =>
    cases x with
    | enter f args => exact ⟨fun h => (by cases h), CallsIn.inRound l (callsIn_wide.2 h)⟩
    | row row args => exact ⟨fun h => (by cases h), fun c cs _ => let ⟨v, w', r, s⟩ := h c cs; ⟨v, w', r, stepsIn_wide.2 s⟩⟩
    | value v => exact h
    | skip => exact h
    | defer d => exact h
    | _ => exact h.elim
  | halt x w' => cases x <;> exact h

theorem oper_in (l n : Nat) (hd : isDefer o.op = false) (h : o.wp P a w K Q) : o.wpIn (Fence.wide.inRound l) n P a w K Q := by
  refine ⟨fun _ _ => trivial, ?_⟩
  rw [show (Fence.wide.inRound l).round = some l from rfl, Oper.semAt_some l _ _ (not_defer hd)]
  exact upon_in l n h

def noDefer (ops : List Oper) : Bool := ops.all fun o => !isDefer o.op

theorem list_in (l n : Nat) {ops : Array Oper} (hQ : ¬ LetsOut Q) : ∀ (r : List Oper) (a : Act) (w : World), noDefer r = true → wpList P ops Q r a w → wpListIn (Fence.wide.inRound l) n P ops Q r a w
  | [], a, w, _, h => h
  | o :: r, a, w, hd, h => by
    simp only [noDefer, List.all_cons, Bool.and_eq_true] at hd
    unfold wpList at h
    unfold wpListIn
    split at h
    · rename_i hw
      rw [if_pos hw]
      rcases h with h | h
      · exact Oper.wpIn_mono (fun a w h => list_in l n hQ r a w hd.2 h) (oper_in l n (by simpa using hd.1) h)
      · exact absurd h.2 hQ
    · rename_i hw
      rw [if_neg hw]
      exact ⟨fun _ _ => trivial, list_in l n hQ r _ _ hd.2 h⟩

theorem any_in (l n : Nat) {md : Region.Mode} {ops : Array Oper} (hQ : ¬ LetsOut Q) (hd : noDefer ops.toList = true) : ∀ (fuel : Nat) (listed : Array Bool) (a : Act) (w : World), wpAny P md ops Q fuel listed a w → wpAnyIn (Fence.wide.inRound l) n P md ops Q fuel listed a w
  | 0, listed, a, w, h => h
  | fuel + 1, listed, a, w, h => by
    unfold wpAny at h
    unfold wpAnyIn
    refine ⟨h.1, fun i hi => ?_⟩
    have h := h.2 i hi
    unfold wpOp at h
    unfold wpOpIn
    split
    · rename_i ho
      rw [ho] at h
      exact any_in l n hQ hd fuel _ _ _ h
    · rename_i o ho
      rw [ho] at h
      simp only at h
      have hdo : isDefer o.op = false := by
        have hm : o ∈ ops.toList := by
          obtain ⟨hlt, e⟩ := Array.getElem?_eq_some_iff.1 ho
          rw [← e]; exact Array.getElem_mem_toList hlt
        have := List.all_eq_true.1 hd o hm
        simpa using this
      split at h
      · rename_i hw
        rw [if_pos hw]
        rcases h with h | h
        · exact Oper.wpIn_mono (fun a w h => any_in l n hQ hd fuel _ a w h) (oper_in l n hdo h)
        · exact absurd h.2 hQ
      · rename_i hw
        rw [if_neg hw]
        exact ⟨fun _ _ => trivial, any_in l n hQ hd fuel _ _ _ h⟩
end

/-! ### Code without loops, in a round -/
def flatC : Code → Bool
  | .skip => true
  | .region _ ops _ => noDefer ops.toList
  | .seq a b => flatC a && flatC b
  | .cond _ a b => flatC a && flatC b
  | .block _ a => flatC a
  | .exit _ => true
  | .label _ => true
  | .ret => true
  | _ => false

section
variable {P : Program} {Γ : Ctx} {R : Type} {w0 w : World} {W : Nat → Prop} {F : RoMap} {ρ : Pm} {RO : RoMap} {s : St} {a : Act} {ds : List Deferred}

/-- Only 'normal' is let by. -/
def onlyN (Q : Act → World → Prop) : Exit → Act → World → Prop
  | .normal, a, w => Q a w
  | _, _, _ => False
theorem onlyN_out {Q : Act → World → Prop} : ¬ LetsOut (onlyN Q) := fun ⟨_, _, h⟩ => h

theorem evIn_sound (hΓ : ∀ g S, Γ.sums g = some S → S.Ok Γ.P g) (hm : Γ.P.follows .mixedOrders = true) (l n : Nat) {ρ0 : Pm} {RO0 : RoMap} {H0 : Hp} (k : Nat) {r : R} : ∀ (c : Code) (blk : Nat) {s : St} {ρ : Pm} {RO : RoMap} {a : Act} {w : World} {K : AExit → St → Option R} {Q : Exit → Act → World → Prop}, flatC c = true → ev Γ k c blk s K = some r → SS w0 W F ρ RO s a w → a.defers = ds → Ext ρ0 RO0 H0 ρ RO (hp s.H) →
    (∀ e s' ρ' RO' a' w', K e s' = some r → SS w0 W F ρ' RO' s' a' w' → a'.defers = ds → Ext ρ0 RO0 H0 ρ' RO' (hp s'.H) → Q e.real a' w') → c.wpIn (Fence.wide.inRound l) n Γ.P Q a w := by
  intro c
  induction c with
  | skip => intro blk s ρ RO a w K Q hc h hs hd hE hQ; exact wpIn_skip (hQ .normal s ρ RO a w h hs hd hE)
  | region id ops draw =>
    intro blk s ρ RO a w K Q hc h hs hd hE hQ
    have fin : ∀ (a' : Act) (w' : World), (∃ s' ρ' RO', K .normal s' = some r ∧ SS w0 W F ρ' RO' s' a' w' ∧ a'.defers = ds ∧ Ext ρ0 RO0 H0 ρ' RO' (hp s'.H)) → Q .normal a' w' := fun a' w' ⟨s', ρ', RO', h1, h2, h3, h4⟩ => hQ .normal s' ρ' RO' a' w' h1 h2 h3 h4
    refine wpIn_mono (Q := onlyN fun a' w' => ∃ s' ρ' RO', K .normal s' = some r ∧ SS w0 W F ρ' RO' s' a' w' ∧ a'.defers = ds ∧ Ext ρ0 RO0 H0 ρ' RO' (hp s'.H)) ?_ (fun e a' w' hq => by cases e <;> first | exact fin a' w' hq | exact hq.elim)
    cases draw with
    | false =>
      simp only [ev] at h
      exact wpIn_region_list (list_in l n onlyN_out _ _ _ hc (evL_sound hΓ _ h hs hd fun s' ρ' RO' a' w' h1 h2 h3 h4 => by obtain ⟨s2, g1, g2, g3⟩ := rtS_sound h1 h2; exact ⟨s2, ρ', RO', g1, g2, h3, (hE.trans h4).trans g3⟩))
    | true =>
      simp only [ev] at h
      split at h
      · rename_i hc'
        simp only [Bool.and_eq_true] at hc'
        exact wpIn_region_any hm (any_in l n onlyN_out hc _ _ _ _ (evD_any hΓ hc'.1.1 hc'.1.2 hc'.2 h hs hd fun s' ρ' RO' a' w' h1 h2 h3 h4 _ _ => by obtain ⟨s2, g1, g2, g3⟩ := rtS_sound h1 h2; exact ⟨s2, ρ', RO', g1, g2, h3, (hE.trans h4).trans g3⟩))
      · cases h
  | seq x y ihx ihy =>
    intro blk s ρ RO a w K Q hc h hs hd hE hQ
    simp only [flatC, Bool.and_eq_true] at hc
    simp only [ev] at h
    refine wpIn_seq (ihx blk hc.1 h hs hd hE fun e s' ρ' RO' a' w' hk h1 h2 h3 => ?_)
    cases e with
    | normal => exact ihy blk hc.2 hk h1 h2 h3 hQ
    | exit i => exact hQ (.exit i) s' ρ' RO' a' w' hk h1 h2 h3
    | ret => exact hQ .ret s' ρ' RO' a' w' hk h1 h2 h3
  | cond c x y ihx ihy =>
    intro blk s ρ RO a w K Q hc h hs hd hE hQ
    simp only [flatC, Bool.and_eq_true] at hc
    simp only [ev] at h
    split at h
    · rename_i b hcb
      have hv := op_sound hs.tr c
      rw [hcb] at hv
      refine wpIn_cond hv.val_eq ?_
      cases b with
      | true => exact ihx blk hc.1 h hs hd hE hQ
      | false => exact ihy blk hc.2 h hs hd hE hQ
    · cases h
  | block id x ihx =>
    intro blk s ρ RO a w K Q hc h hs hd hE hQ
    simp only [flatC] at hc
    simp only [ev] at h
    refine wpIn_block (ihx id hc h hs hd hE fun e s' ρ' RO' a' w' hk h1 h2 h3 => ?_)
    cases e with
    | normal => exact hQ .normal s' ρ' RO' a' w' hk h1 h2 h3
    | exit i =>
      simp only at hk
      simp only [AExit.real, Exit.inBlock]
      split at hk
      · rename_i hi
        rw [if_pos (Nat.eq_of_beq_eq_true hi)]
        exact hQ .normal s' ρ' RO' a' w' hk h1 h2 h3
      · rename_i hi
        rw [if_neg (Nat.ne_of_beq_eq_false hi)]
        exact hQ (.exit i) s' ρ' RO' a' w' hk h1 h2 h3
    | ret => exact hQ .ret s' ρ' RO' a' w' hk h1 h2 h3
  | exit id => intro blk s ρ RO a w K Q hc h hs hd hE hQ; exact wpIn_exit (hQ (.exit id) s ρ RO a w h hs hd hE)
  | label l => intro blk s ρ RO a w K Q hc h hs hd hE hQ; exact wpIn_label (hQ .normal s ρ RO a w h hs hd hE)
  | ret => intro blk s ρ RO a w K Q hc h hs hd hE hQ; exact wpIn_ret (hQ .ret s ρ RO a w h hs hd hE)
  | _ => intro blk s ρ RO a w K Q hc; cases hc

/-! ### Another beginning: what lay when the round began -/
def LiveB (ρ : Pm) (H : Hp) (b : Nat) : Prop := ∃ o ob m, H o = .live ob ∧ ρ o = some ⟨b, m⟩
theorem SR.liveB {H : Hp} (h : SR w0 W F ρ RO H w) {b : Nat} (hb : LiveB ρ H b) : (w0.heap.size ≤ b ∨ W b) ∧ ∃ arr t f, w.heap[b]? = some (.cells arr t f) := by
  obtain ⟨o, ob, m, h1, h2⟩ := hb
  rcases h.obj o ob h1 with ⟨g1, _⟩ | ⟨b', m', arr, g1, g2, g3, g4, _⟩
  · rw [h2] at g1; cases g1
  · rw [h2] at g1
    cases g1
    obtain ⟨f, _, g⟩ := g4
    exact ⟨g3, _, _, _, g⟩
theorem SR.base {H : Hp} (h : SR w0 W F ρ RO H w) : SR w (LiveB ρ H) RO ρ RO H w :=
  ⟨rfl, rfl, rfl, Nat.le_refl _, fun _ _ _ => rfl, fun o ob hl => by
    rcases h.obj o ob hl with g | ⟨b, m, arr, g1, g2, g3, g⟩
    · exact .inl g
    · exact .inr ⟨b, m, arr, g1, g2, .inr ⟨o, ob, m, hl, g1⟩, g⟩, h.inj, h.ro, fun b arr hb => .inl hb, fun _ _ h => h⟩
theorem SR.rebase {H H' : Hp} {ρ' : Pm} {RO' : RoMap} {w' : World} (h : SR w0 W F ρ RO H w) (k : SR w (LiveB ρ H) RO ρ' RO' H' w') : SR w0 W F ρ' RO' H' w' := by
  refine ⟨k.os.trans h.os, k.tape.trans h.tape, k.output.trans h.output, Nat.le_trans h.size k.size, fun b hb hW => ?_, fun o ob hl => ?_, k.inj, k.ro, fun b arr hb => ?_, fun b arr hb => k.fix b arr (h.fix b arr hb)⟩
  · rw [k.kept b (Nat.lt_of_lt_of_le hb h.size) (fun hL => ?_)]
    · exact h.kept b hb hW
    · rcases (h.liveB hL).1 with e | e
      · omega
      · exact hW e
  · rcases k.obj o ob hl with g | ⟨b, m, arr, g1, g2, g3, g⟩
    · exact .inl g
    · refine .inr ⟨b, m, arr, g1, g2, ?_, g⟩
      rcases g3 with e | e
      · exact .inl (Nat.le_trans h.size e)
      · exact (h.liveB e).1
  · rcases k.old b arr hb with e | e | e
    · exact h.old b arr e
    · exact .inr (.inl (Nat.le_trans h.size e))
    · exact .inr (h.liveB e).1
theorem SR.keeps {H H' : Hp} {ρ' : Pm} {RO' : RoMap} {w' : World} (h : SR w0 W F ρ RO H w) (k : SR w (LiveB ρ H) RO ρ' RO' H' w') {l : Nat} {o : Obj} (hl : w.heap[l]? = some o) (ho : o.isCells = false) : w'.heap[l]? = some o := by
  rw [k.kept l (Array.getElem?_eq_some_iff.1 hl).1 (fun hL => ?_)]
  · exact hl
  · obtain ⟨_, arr, t, f, e⟩ := h.liveB hL
    rw [hl] at e
    cases e
    cases ho
theorem SR.putObj {H : Hp} (h : SR w0 W F ρ RO H w) {l : Nat} {o : Obj} (o' : Obj) (hl : w.heap[l]? = some o) (ho : o.isCells = false) (hb : w0.heap.size ≤ l) : SR w0 W F ρ RO H (w.putObj l o') := by
  have other : ∀ {b : Nat} {arr : Array Value} {t : TypeId} {f : Nat × Nat}, w.heap[b]? = some (.cells arr t f) → (w.putObj l o').heap[b]? = some (.cells arr t f) := by
    intro b arr t f hx
    rw [World.putObj_heap_other (fun e => ?_)]
    · exact hx
    · subst e; rw [hl] at hx; cases hx; cases ho
  refine ⟨h.os, h.tape, h.output, by simpa using h.size, fun k hk hW => ?_, fun o ob hl' => ?_, h.inj, fun b arr hb => ?_, h.old, h.fix⟩
  · rw [World.putObj_heap_other (by omega)]; exact h.kept k hk hW
  · rcases h.obj o ob hl' with g | ⟨b, m, arr, g1, g2, g3, ⟨f, f1, f2⟩, g⟩
    · exact .inl g
    · exact .inr ⟨b, m, arr, g1, g2, g3, ⟨f, f1, other f2⟩, g⟩
  · obtain ⟨t, f, e⟩ := h.ro b arr hb
    exact ⟨t, f, other e⟩
theorem SR.more {H : Hp} {w' : World} (h : SR w0 W F ρ RO H w) (hb : Below w.heap.size w w') : SR w0 W F ρ RO H w' :=
  (h.below hb (fun _ _ h => h) (fun b arr h1 h2 => by rw [h1] at h2; cases h2) (fun b arr hr => by
    obtain ⟨t, f, e⟩ := h.ro b arr hr
    exact ⟨t, f, (hb.block b (Array.getElem?_eq_some_iff.1 e).1).trans e⟩)).1

/-! ### A round's temporaries -/
def setTmps : List AV → List Nat → List AV → List AV
  | t, p :: ps, x :: xs => setTmps (t.set p x) ps xs
  | t, _, _ => t
theorem setTmps_cr {H : Hp} : ∀ (ps : List Nat) (xs : List AV) (vs : List Value) {t : List AV} {u : Array Value}, CR ρ RO H t u.toList → CR ρ RO H xs vs → CR ρ RO H (setTmps t ps xs) ((ps.zip vs).foldl (fun t (p : Nat × Value) => t.setIfInBounds p.1 p.2) u).toList
  | [], xs, vs, t, u, h, hx => by simpa [setTmps] using h
  | p :: ps, [], vs, t, u, h, hx => by
    have : vs = [] := List.eq_nil_of_length_eq_zero hx.1.symm
    subst this
    simpa [setTmps] using h
  | p :: ps, x :: xs, [], t, u, h, hx => by have := hx.1; simp at this
  | p :: ps, x :: xs, v :: vs, t, u, h, hx => by
    simp only [setTmps, List.zip_cons_cons, List.foldl_cons]
    refine setTmps_cr ps xs vs ?_ ⟨by have := hx.1; simpa using this, fun k c y h1 h2 => hx.2 (k + 1) c y (by simpa using h1) (by simpa using h2)⟩
    refine ⟨by simpa using h.1, fun k c y h1 h2 => ?_⟩
    rw [List.getElem?_set] at h1
    simp only [Array.toList_setIfInBounds] at h2
    rw [List.getElem?_set] at h2
    have e := h.1
    split at h1
    · rename_i hk
      subst hk
      rw [if_pos rfl] at h2
      split at h1
      · rename_i hlt
        rw [if_pos (by omega)] at h2
        cases h1; cases h2
        exact hx.2 0 x v rfl rfl
      · cases h1
    · rename_i hk
      rw [if_neg hk] at h2
      exact h.2 k c y h1 h2

/-! ### The table as it stands at a round's head -/
def canonH (n0 : Nat) (H : List Ent) : List Ent := (List.range n0).map fun k => renEnt (lookF [] n0) (H.getD k .free)
theorem canonH_get (n0 : Nat) (H : List Ent) (k : Nat) : hp (canonH n0 H) k = if k < n0 then renEnt (lookF [] n0) (hp H k) else .free := by
  unfold canonH; rw [hp_range]; rfl
theorem canonH_live {n0 : Nat} {H : List Ent} {k : Nat} {x : Ob} (hx : hp (canonH n0 H) k = .live x) : k < n0 ∧ ∃ y, hp H k = .live y ∧ x = { y with get := fun i => renL (lookF [] n0) (y.get i), lit := none } := by
  rw [canonH_get] at hx
  split at hx
  · rename_i hk
    refine ⟨hk, ?_⟩
    generalize hp H k = e at hx
    cases e with
    | free => cases hx
    | dead => cases hx
    | live y => cases hx; exact ⟨y, rfl, rfl⟩
  · cases hx
theorem canonH_sound (n0 : Nat) {H : List Ent} (hs : SR w0 W F ρ RO (hp H) w) : SR w0 W F ρ RO (hp (canonH n0 H)) w := by
  have hf : ∀ o k, lookF [] n0 o = some k → hp (canonH n0 H) k = renEnt (lookF [] n0) (hp H o) ∧ ρ k = ρ o := by
    intro o k hk
    simp only [lookF] at hk
    split at hk
    · rename_i hlt
      cases hk
      exact ⟨by rw [canonH_get, if_pos hlt], rfl⟩
    · cases hk
  refine ⟨hs.os, hs.tape, hs.output, hs.size, hs.kept, fun k x hx => ?_, fun k k' x x' b m m' hx hx' p1 p2 => ?_, hs.ro, hs.old, hs.fix⟩
  · obtain ⟨hk, y, h1, rfl⟩ := canonH_live hx
    rcases hs.obj _ y h1 with hg | ⟨b, m, arr, g1, g2, g3, g4, g5, g6, g7, g8, g9⟩
    · exact .inl hg
    · refine .inr ⟨b, m, arr, g1, g2, g3, g4, g5, g6, fun i hi => by rw [renL_length]; exact g7 i hi, fun i kk c v hi e1 e2 => ?_, g9⟩
      have e1' : (renL (lookF [] n0) (y.get i))[kk]? = some c := e1
      rw [renL_get] at e1'
      cases hq : (y.get i)[kk]? with
      | none => simp [hq] at e1'
      | some d => simp [hq] at e1'; subst e1'; exact (g8 i kk d v hi hq e2).ren hf
  · obtain ⟨hk, y, h1, _⟩ := canonH_live hx
    obtain ⟨hk', y', h1', _⟩ := canonH_live hx'
    exact hs.inj _ _ y y' b m m' h1 h1' p1 p2
theorem canonH_ext {n0 : Nat} {H H' : List Ent} {ρ' : Pm} {RO' : RoMap} (hn : H.length ≤ n0) (E : Ext ρ RO (hp H) ρ' RO' (hp H')) : Ext ρ RO (hp H) ρ' RO' (hp (canonH n0 H')) := by
  refine ⟨E.1, fun o ho => ?_⟩
  have hlt : o < n0 := by
    rcases Nat.lt_or_ge o n0 with h | h
    · exact h
    · exact absurd (by simp [hp, List.getD_eq_getElem?_getD, List.getElem?_eq_none (Nat.le_trans hn h)]) ho
  obtain ⟨e1, e2⟩ := E.2 o ho
  refine ⟨?_, fun x hx => ?_⟩
  · rw [canonH_get, if_pos hlt]
    generalize hp H' o = e at e1
    cases e with
    | free => exact absurd rfl e1
    | dead => intro h; cases h
    | live y => intro h; cases h
  · obtain ⟨_, y, h1, rfl⟩ := canonH_live hx
    exact e2 y h1
end

/-! ### Iterators -/
/-- What an iterator hands over: how many rows, and what each holds; 'wd': how wide a row is; 'ok': whether it is known. -/
structure Iter where
  wd : Nat
  ok : List AV → Bool
  rows : List AV → Option (Nat × (Nat → List AV))
/-- What an iterator says is so: it asks for the rounds one after another, whatever they keep that abides new blocks. -/
def Iter.Ok (P : Program) (gf : FuncId) (I : Iter) : Prop :=
  Enters P gf ∧ ∀ lcaps n rows, I.ok lcaps = true → I.rows lcaps = some (n, rows) → ∀ (RO : RoMap) (w : World) (lb : Array Value), RoOk RO w → CR (fun _ => none) RO noHp lcaps lb.toList →
    ∃ encs : Nat → Array Value, (∀ i, (encs i).size = I.wd) ∧ (∀ i, i < n → CR (fun _ => none) RO noHp (rows i) (encs i).toList) ∧
      ∀ (l m : Nat) (J : Nat → World → Prop) (W : World), (∀ i A, J i A → RoOk RO A) → (∀ i A B, J i A → Below A.heap.size A B → J i B) →
        (∀ i A, i < n → J i A → ∀ m, YieldAt Fence.wide m P l (encs i) A fun e B => e = .returned (.bool true) ∧ J (i + 1) B) →
        J 0 W → CallsIn Fence.wide m P gf (#[.func (.yield l) #[] #[]] ++ lb) W fun e B => (∃ v, e = .returned v) ∧ J n B

/-- The rounds, one after another. -/
def evRange {R : Type} (b : St → (AExit → St → Option R) → Option R) (tmps : List AV) (ps : List Nat) (rows : Nat → List AV) (n0 : Nat) : Nat → Nat → List Ent → (List Ent → Option R) → Option R
  | 0, _, H, K => K H
  | d + 1, i, H, K => b ⟨setTmps tmps ps (rows i), H⟩ fun e s' => match e with
    | .normal => evRange b tmps ps rows n0 d (i + 1) (canonH n0 s'.H) K
    | _ => none
/-- A round: what the loop's left sides are given, and the body. -/
noncomputable def roundE (Γ : Ctx) {R : Type} (k : Nat) (assign body : Code) (blk : Nat) (s : St) (K : AExit → St → Option R) : Option R :=
  ev Γ k assign blk s fun e s => match e with
    | .normal => ev Γ k body blk s K
    | _ => none
def markOf (D : Nat) : Deferred := { target := .collected D, args := #[] }

section
variable {P : Program} {Γ : Ctx} {R : Type} {w0 w : World} {W : Nat → Prop} {F : RoMap} {ρ : Pm} {RO : RoMap} {s : St} {a : Act} {ds : List Deferred}

set_option maxHeartbeats 1000000 in
theorem range_sound (hΓ : ∀ g S, Γ.sums g = some S → S.Ok Γ.P g) (hm : Γ.P.follows .mixedOrders = true) {g : Operand} {ps : Array Tmp} {assign body : Code} {I : Iter} {gf : FuncId} {caps : List AV} {n : Nat} {rows : Nat → List AV} {k blk : Nat} {r : R} {K : List Ent → Option R} {Q : Exit → Act → World → Prop}
    (hI : I.Ok Γ.P gf) (hg : s.op g = .fn gf caps) (hok : I.ok (cloL caps) = true) (hrows : I.rows (cloL caps) = some (n, rows)) (hfa : flatC assign = true) (hfb : flatC body = true) (hwd : I.wd = ps.size)
    (he : evRange (roundE Γ k assign body blk) s.tmps ps.toList rows s.H.length n 0 s.H K = some r) (hs : SS w0 W F ρ RO s a w)
    (hQ : ∀ H' ρ' RO' w' D, K H' = some r → SS w0 W F ρ' RO' ⟨s.tmps, H'⟩ a w' → Ext ρ RO (hp s.H) ρ' RO' (hp H') → w'.heap[D]? = some (.deferred (some [])) → w0.heap.size ≤ D → Q .normal { a with defers := markOf D :: a.defers } w') :
    (Code.rangeFunc g ps assign body).wp Γ.P Q a w := by
  refine (wpIn_wide (n := 2)).1 (wpIn_rangeFunc fun fn hfn => ?_)
  have hvg := op_sound hs.tr g
  rw [hg] at hvg
  obtain ⟨lb, hlb, hcr⟩ := hvg.fnCR
  have hcl : CR (fun _ => none) RO noHp (cloL caps) lb.toList := (hcr.clo).closed _ _
  let rec0 : LoopState → Loop := fun st => { state := st, pending := none, fn, tmps := a.tmps, params := ps, assign, body, defers := w.heap.size }
  let W1 : World := (w.alloc (.deferred (some []))).alloc (.loop (rec0 .ready))
  have hsz : W1.heap.size = w.heap.size + 2 := by simp [W1]
  have hB1 : Below w.heap.size w W1 := ((Below.refl _ w).alloc (Nat.le_refl _) _).alloc (by simp) _
  have hL1 : W1.heap[w.heap.size + 1]? = some (.loop (rec0 .ready)) := by
    have := World.alloc_heap_new (w.alloc (.deferred (some []))) (.loop (rec0 .ready)); rwa [World.size_alloc] at this
  have hD1 : W1.heap[w.heap.size]? = some (.deferred (some [])) := (Below.heap_alloc _ _ _ (by simp)).trans (World.alloc_heap_new w _)
  have hS1 : SR w0 W F ρ RO (hp s.H) W1 := hs.sr.more hB1
  refine ⟨w.heap.size + 1, [markOf w.heap.size], W1, { target := .fn (.func gf) lb, args := #[.func (.yield (w.heap.size + 1)) #[] #[]] }, W1, gf,
    #[.func (.yield (w.heap.size + 1)) #[] #[]] ++ lb, W1, run_enterLoop_outer _ _ _ _ _, ?_, fun _ _ => trivial, ?_, fun h => (by cases h), ?_⟩
  · simp only [resolve, hlb]
    simp [Sem.run_bind, Deferred.ofValue, Act.eval]
  · simp only [invoke]
    exact run_callFunc hI.1 _ _
  obtain ⟨encs, hw, hrow, hcall⟩ := hI.2 _ _ _ hok hrows RO W1 lb hS1.ro hcl
  refine (hcall (w.heap.size + 1) _ (fun i A => i ≤ n ∧ ∃ ρ' RO' H', evRange (roundE Γ k assign body blk) s.tmps ps.toList rows s.H.length (n - i) i H' K = some r ∧ SR w0 W F ρ' RO' (hp H') A ∧ Ext ρ RO (hp s.H) ρ' RO' (hp H') ∧ H'.length = s.H.length ∧
      A.heap[w.heap.size + 1]? = some (.loop (rec0 .ready)) ∧ A.heap[w.heap.size]? = some (.deferred (some []))) W1 ?_ ?_ ?_ ?_).mono ?_
  · rintro i A ⟨_, ρ', RO', H', _, h2, h3, _⟩ b arr hb
    exact h2.ro b arr (h3.1 b arr hb)
  · rintro i A B ⟨h0, ρ', RO', H', h1, h2, h3, h4, h5, h6⟩ hB
    exact ⟨h0, ρ', RO', H', h1, h2.more hB, h3, h4, (hB.block _ (Array.getElem?_eq_some_iff.1 h5).1).trans h5, (hB.block _ (Array.getElem?_eq_some_iff.1 h6).1).trans h6⟩
  · rintro i A hi ⟨_, ρ1, RO1, H1, h1, h2, h3, h4, h5, h6⟩ m
    obtain ⟨d, hd⟩ : ∃ d, n - i = d + 1 := ⟨n - i - 1, by omega⟩
    rw [hd] at h1
    simp only [evRange, roundE] at h1
    have hy := run_yield (P := Γ.P) (args := encs i) h5 (by rw [hw, hwd])
    refine ⟨fn, _, assign, body, hy, roundIn_of_wpIn hfn ?_⟩
    have hcl1 : w0.heap.size ≤ w.heap.size := hs.sr.size
    -- the left sides
    have hT0 : CR ρ1 RO1 (hp H1) s.tmps a.tmps.toList := hs.tr.ext h3
    have hT : CR ρ1 RO1 (hp H1) (setTmps s.tmps ps.toList (rows i)) ((ps.toList.zip (encs i).toList).foldl (fun t (p : Nat × Value) => t.setIfInBounds p.1 p.2) a.tmps).toList :=
      setTmps_cr _ _ _ hT0 (((hrow i hi).ext (Ext.noHp (ρ' := fun _ => none) h3.1)).closed _ _)
    have eT : (ps.zip (encs i)).foldl (fun t (p, v) => t.setIfInBounds p v) a.tmps = (ps.toList.zip (encs i).toList).foldl (fun t (p : Nat × Value) => t.setIfInBounds p.1 p.2) a.tmps := by
      rw [← Array.foldl_toList, Array.toList_zip]
    have hs0 : SS A (LiveB ρ1 (hp H1)) RO1 ρ1 RO1 ⟨setTmps s.tmps ps.toList (rows i), H1⟩ { tmps := (ps.zip (encs i)).foldl (fun t (p, v) => t.setIfInBounds p v) a.tmps, defers := [] } A :=
      ⟨h2.base, by show CR _ _ _ _ _; rw [eT]; exact hT⟩
    refine evIn_sound (ρ0 := ρ1) (RO0 := RO1) (H0 := hp H1) hΓ hm (w.heap.size + 1) m k assign blk hfa h1 hs0 rfl (.refl _ _ _) ?_
    intro e s1 ρ2 RO2 a1 A1 hk1 k1 kd kE
    cases e with
    | exit _ => cases hk1
    | ret => cases hk1
    | normal =>
      simp only at hk1
      have S2 : SR w0 W F ρ2 RO2 (hp s1.H) A1 := h2.rebase k1.sr
      have l2 := h2.keeps k1.sr h5 rfl
      have d2 := h2.keeps k1.sr h6 rfl
      have l2lt := (Array.getElem?_eq_some_iff.1 l2).1
      refine ⟨_, run_beginRound l2 rfl, ?_⟩
      have S3 : SR w0 W F ρ2 RO2 (hp s1.H) (A1.putObj (w.heap.size + 1) (.loop (rec0 .busy))) := S2.putObj _ l2 rfl (by omega)
      have l3 : (A1.putObj (w.heap.size + 1) (.loop (rec0 .busy))).heap[w.heap.size + 1]? = some (.loop (rec0 .busy)) := World.putObj_heap_same l2lt
      have d3 : (A1.putObj (w.heap.size + 1) (.loop (rec0 .busy))).heap[w.heap.size]? = some (.deferred (some [])) := (World.putObj_heap_other (by omega)).trans d2
      refine evIn_sound (ρ0 := ρ1) (RO0 := RO1) (H0 := hp H1) hΓ hm (w.heap.size + 1) m k body blk hfb hk1 ⟨S3.base, k1.tr⟩ kd kE ?_
      intro e s2 ρ3 RO3 a2 A2 hk2 q1 qd qE
      cases e with
      | exit _ => cases hk2
      | ret => cases hk2
      | normal =>
        simp only at hk2
        have S4 : SR w0 W F ρ3 RO3 (hp s2.H) A2 := S3.rebase q1.sr
        have l4 := S3.keeps q1.sr l3 rfl
        have d4 := S3.keeps q1.sr d3 rfl
        have l4lt := (Array.getElem?_eq_some_iff.1 l4).1
        refine ⟨_, _, run_endRound none l4, rfl, by omega, ρ3, RO3, canonH s.H.length s2.H, ?_, ?_, ?_, ?_, ?_, ?_⟩
        · rw [show n - (i + 1) = d by omega]; exact hk2
        · exact canonH_sound _ (S4.putObj _ l4 rfl (by omega))
        · exact h3.trans (canonH_ext (by omega) qE)
        · simp [canonH]
        · exact World.putObj_heap_same l4lt
        · exact (World.putObj_heap_other (by omega)).trans d4
  · exact ⟨Nat.zero_le _, ρ, RO, s.H, he, hS1, .refl _ _ _, rfl, hL1, hD1⟩
  · rintro e B ⟨⟨v, rfl⟩, _, ρ', RO', H', h1, h2, h3, h4, h5, h6⟩
    rw [Nat.sub_self] at h1
    simp only [evRange] at h1
    refine ⟨none, _, run_endLoop h5 (by simp [rec0]), ?_⟩
    have := hs.sr.size
    refine hQ H' ρ' RO' _ w.heap.size h1 ⟨h2.putObj _ h5 rfl (by omega), hs.tr.ext h3⟩ h3 ?_ (by omega)
    exact (World.putObj_heap_other (by omega)).trans h6
end
end Go.Proofs.YtghhecijpghfhaaGreat.Fw
