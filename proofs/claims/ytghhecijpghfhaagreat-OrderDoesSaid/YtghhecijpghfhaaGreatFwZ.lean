/- A function that ranges over another one: what it gives. -/
import Derived.Test.YtghhecijpghfhaaGreatFwY
namespace Go.Proofs.YtghhecijpghfhaaGreat.Fw
open Go Go.RowKit
set_option linter.unusedVariables false
set_option linter.unusedSimpArgs false

/-- The objects that a function value has captured. -/
def ptrL : List AV → List Nat
  | [] => []
  | .ptr o _ _ :: r => o :: ptrL r
  | _ :: r => ptrL r
/-- Is there a range over a function, on the way that every run goes? -/
def hasR : Code → Bool
  | .rangeFunc _ _ _ _ => true
  | .seq a b => hasR a || hasR b
  | .block _ a => hasR a
  | _ => false

section
variable (Γ : Ctx) (it : Nat → Option Iter) {R : Type}
noncomputable def evX (k : Nat) : Code → Nat → St → (AExit → St → Option R) → Option R
  | .seq x y, blk, s, K => match hasR x with
    | true => evX k x blk s fun e s => match e with
      | .normal => ev Γ k y blk s K
      | .exit i => K (.exit i) s
      | .ret => K .ret s
    | false => ev Γ k x blk s fun e s => match e with
      | .normal => evX k y blk s K
      | .exit i => K (.exit i) s
      | .ret => K .ret s
  | .block id x, _, s, K => evX k x id s fun e s => match e with
    | .normal => K .normal s
    | .exit i => match Nat.beq i id with
      | true => K .normal s
      | false => K (.exit i) s
    | .ret => K .ret s
  | .rangeFunc g ps assign body, blk, s, K => match s.op g with
    | .fn _ caps0 => match (s.frzL (ptrL caps0)).op g with
      | .fn gf caps => match it gf with
        | some I => match I.ok (cloL caps) with
          | true => match I.rows (cloL caps) with
            | some (n, rows) => match flatC assign && flatC body && Nat.beq I.wd ps.size with
              | true => evRange (roundE Γ k assign body blk) (s.frzL (ptrL caps0)).tmps ps.toList rows (s.frzL (ptrL caps0)).H.length n 0 (s.frzL (ptrL caps0)).H fun H => K .normal ⟨(s.frzL (ptrL caps0)).tmps, H⟩
              | false => none
            | none => none
          | false => none
        | none => none
      | _ => none
    | _ => none
  | c, blk, s, K => ev Γ k c blk s K
noncomputable def evXF (k : Nat) (fn : Func) (args : List AV) (D : AV → Option R) : Option R :=
  match fn.body with
  | some c => evX Γ it k c 0 (initS fn args) fun e s => match e with
    | .exit _ => none
    | _ => match finish Γ.P fn s with
      | some v => D v
      | none => none
  | none => none
end

section
variable {P : Program} {Γ : Ctx} {it : Nat → Option Iter} {R : Type} {w0 w : World} {W : Nat → Prop} {F : RoMap} {ρ : Pm} {RO : RoMap} {s : St} {a : Act} {ds : List Deferred}

/-- Nothing is deferred but, it may be, the mark of a range over a function, whose block is as it was laid. -/
def MarkOk (w0 : World) (a : Act) (w : World) : Prop := a.defers = [] ∨ ∃ D, a.defers = [markOf D] ∧ w.heap[D]? = some (.deferred (some [])) ∧ w0.heap.size ≤ D

theorem evX_sound (hΓ : ∀ g S, Γ.sums g = some S → S.Ok Γ.P g) (hit : ∀ g I, it g = some I → I.Ok Γ.P g) (hm : Γ.P.follows .mixedOrders = true) (k : Nat) {r : R} : ∀ (c : Code) (blk : Nat) {s : St} {ρ : Pm} {RO : RoMap} {a : Act} {w : World} {K : AExit → St → Option R} {Q : Exit → Act → World → Prop}, evX Γ it k c blk s K = some r → SS w0 W F ρ RO s a w → a.defers = [] →
    (∀ e s' ρ' RO' a' w', K e s' = some r → SS w0 W F ρ' RO' s' a' w' → MarkOk w0 a' w' → Q e.real a' w') → c.wp Γ.P Q a w := by
  intro c
  induction c with
  | seq x y ihx ihy =>
    intro blk s ρ RO a w K Q h hs hd hQ
    simp only [evX] at h
    split at h
    · refine wp_seq (ihx blk h hs hd fun e s1 ρ1 RO1 a1 w1 hk h1 h2 => ?_)
      cases e with
      | normal =>
        rcases h2 with h2 | ⟨D, d1, d2, d3⟩
        · exact ev_sound hΓ hm k y blk hk h1 h2 fun e s' ρ' RO' a' w' q1 q2 q3 => hQ e s' ρ' RO' a' w' q1 q2 (.inl q3)
        · refine ev_sound (w0 := w1) (W := LiveB ρ1 (hp s1.H)) (F := RO1) hΓ hm k y blk hk ⟨h1.sr.base, h1.tr⟩ d1 fun e s' ρ' RO' a' w' q1 q2 q3 => ?_
          exact hQ e s' ρ' RO' a' w' q1 ⟨h1.sr.rebase q2.sr, q2.tr⟩ (.inr ⟨D, q3, h1.sr.keeps q2.sr d2 rfl, d3⟩)
      | exit i => exact hQ (.exit i) s1 ρ1 RO1 a1 w1 hk h1 h2
      | ret => exact hQ .ret s1 ρ1 RO1 a1 w1 hk h1 h2
    · refine wp_seq (ev_sound hΓ hm k x blk h hs hd fun e s1 ρ1 RO1 a1 w1 hk h1 h2 => ?_)
      cases e with
      | normal => exact ihy blk hk h1 h2 hQ
      | exit i => exact hQ (.exit i) s1 ρ1 RO1 a1 w1 hk h1 (.inl h2)
      | ret => exact hQ .ret s1 ρ1 RO1 a1 w1 hk h1 (.inl h2)
  | block id x ihx =>
    intro blk s ρ RO a w K Q h hs hd hQ
    simp only [evX] at h
    refine wp_block (ihx id h hs hd fun e s' ρ' RO' a' w' hk h1 h2 => ?_)
    cases e with
    | normal => exact hQ .normal s' ρ' RO' a' w' hk h1 h2
    | exit i =>
      simp only at hk
      simp only [AExit.real, Exit.inBlock]
      split at hk
      · rename_i hi
        rw [if_pos (Nat.eq_of_beq_eq_true hi)]
        exact hQ .normal s' ρ' RO' a' w' hk h1 h2
      · rename_i hi
        rw [if_neg (Nat.ne_of_beq_eq_false hi)]
        exact hQ (.exit i) s' ρ' RO' a' w' hk h1 h2
    | ret => exact hQ .ret s' ρ' RO' a' w' hk h1 h2
  | rangeFunc g ps assign body =>
    intro blk s ρ RO a w K Q h hs hd hQ
    simp only [evX] at h
    split at h
    · rename_i f0 caps0 hg0
      obtain ⟨R1, a1, a2, a3, a4⟩ := frzL_sound (ptrL caps0) hs.sr hs.tr
      generalize s.frzL (ptrL caps0) = s1 at h a1 a2 a3 a4
      split at h
      · rename_i gf caps hg
        split at h
        · rename_i I hI
          split at h
          · rename_i hok
            split at h
            · rename_i n rows hrows
              split at h
              · rename_i hc
                simp only [Bool.and_eq_true] at hc
                refine range_sound hΓ hm (hit _ _ hI) hg hok hrows hc.1.1 hc.1.2 (Nat.eq_of_beq_eq_true hc.2) h ⟨a1, a2⟩ fun H' ρ' RO' w' D q1 q2 q3 q4 q5 => ?_
                exact hQ .normal _ ρ' RO' _ w' q1 ⟨q2.sr, q2.tr⟩ (.inr ⟨D, by rw [hd], q4, q5⟩)
              · cases h
            · cases h
          · cases h
        · cases h
      · cases h
    · cases h
  | skip => intro blk s ρ RO a w K Q h hs hd hQ; exact ev_sound hΓ hm k _ blk (by simpa only [evX] using h) hs hd fun e s' ρ' RO' a' w' q1 q2 q3 => hQ e s' ρ' RO' a' w' q1 q2 (.inl q3)
  | _ => intro blk s ρ RO a w K Q h hs hd hQ; exact ev_sound hΓ hm k _ blk h hs hd fun e s' ρ' RO' a' w' q1 q2 q3 => hQ e s' ρ' RO' a' w' q1 q2 (.inl q3)

/-- A function that is called with values without objects, and ranges over another one. -/
theorem closedX_ok (hΓ : ∀ g S, Γ.sums g = some S → S.Ok Γ.P g) (hit : ∀ g I, it g = some I → I.Ok Γ.P g) (hm : Γ.P.follows .mixedOrders = true) {f : FuncId} {fn : Func} (hf : Γ.P.funcs[f]? = some fn) {k : Nat} {l : List AV} {D : AV → Option R} {r : R} (h : evXF Γ it k fn l D = some r)
    {w : World} {cargs : Array Value} (hro : RoOk RO w) (hcr : CR (fun _ => none) RO noHp l cargs.toList) :
    Calls Γ.P f cargs w fun e w' => ∃ v cv RO', e = .returned cv ∧ D v = some r ∧ VR (fun _ => none) RO' noHp v cv ∧ Below w.heap.size w w' ∧ (∀ b arr, RO b = some arr → RO' b = some arr) ∧ (∀ b arr, RO' b = some arr → RO b = none → w.heap.size ≤ b) ∧ RoOk RO' w' := by
  unfold evXF at h
  split at h
  · rename_i c hb
    have hsz : l.length = cargs.size := by simpa using hcr.1
    have hinit : SS w (fun _ => False) RO (fun _ => none) RO (initS fn l) { tmps := cargs ++ Array.replicate (fn.ntmps - cargs.size) undef, defers := [] } w := by
      refine ⟨⟨rfl, rfl, rfl, Nat.le_refl _, fun _ _ _ => rfl, fun o ob hl => ?_, fun o o' ob ob' b m m' hl => ?_, hro, fun b arr hb => .inl hb, fun _ _ h => h⟩, ?_⟩
      · simp [initS, hp] at hl
      · simp [initS, hp] at hl
      · show CR _ _ _ _ _
        simp only [initS, Array.toList_append, Array.toList_replicate, hsz]
        refine (hcr.closed _ _).append ?_
        refine ⟨by simp, fun k c v h1 h2 => ?_⟩
        rw [List.getElem?_replicate] at h1 h2
        split at h1 <;> simp_all
        obtain ⟨rfl, rfl⟩ := And.intro h1 h2
        exact .undefA
    refine (callsIn_wide (n := 2)).1 (callsIn_of_wp_marks hf hb trivial (wpIn_wide.2 (evX_sound hΓ hit hm k c 0 h hinit rfl fun e s' ρ' RO' a' w' hk h1 h2 => ?_)) rfl)
    have key : ∀ v, finish Γ.P fn s' = some v → D v = some r → LeavesInM Fence.wide 2 Γ.P fn a'.tmps (fun e w' => ∃ v cv RO', e = .returned cv ∧ D v = some r ∧ VR (fun _ => none) RO' noHp v cv ∧ Below w.heap.size w w' ∧ (∀ b arr, RO b = some arr → RO' b = some arr) ∧ (∀ b arr, RO' b = some arr → RO b = none → w.heap.size ≤ b) ∧ RoOk RO' w') a'.defers .returning w' := by
      intro v hv hD
      have fin : ∀ w'', SS w (fun _ => False) RO ρ' RO' s' a' w'' → ∃ cv, (results fn a'.tmps).run Γ.P w'' = .ok cv w'' ∧ ∃ v' cv' RO', Ending.returned cv = .returned cv' ∧ D v' = some r ∧ VR (fun _ => none) RO' noHp v' cv' ∧ Below w.heap.size w w'' ∧ (∀ b arr, RO b = some arr → RO' b = some arr) ∧ (∀ b arr, RO' b = some arr → RO b = none → w.heap.size ≤ b) ∧ RoOk RO' w'' := by
        intro w'' h1
        obtain ⟨cv, R2, g1, g2, g3, g4, g5⟩ := finish_sound hv h1
        refine ⟨cv, g1, v, cv, R2, rfl, hD, g2, ⟨h1.sr.os, h1.sr.tape, h1.sr.output, h1.sr.size, fun k hk => h1.sr.kept k hk (fun h => h)⟩, fun b arr hb => g3 b arr (h1.sr.fix b arr hb), fun b arr hb hn => ?_, g4⟩
        rcases g5 b arr hb with e | e | e
        · rw [hn] at e; cases e
        · exact e
        · exact e.elim
      rcases h2 with h2 | ⟨D, d1, d2, d3⟩
      · rw [h2]
        exact fin w' h1
      · rw [d1]
        exact ⟨by simp, .inl ⟨D, _, rfl, run_takeDeferred d2, fin _ ⟨h1.sr.putObj _ d2 rfl d3, h1.tr⟩⟩⟩
    cases e with
    | normal =>
      simp only at hk
      split at hk
      · rename_i v hv; exact key v hv hk
      · cases hk
    | exit i => cases hk
    | ret =>
      simp only at hk
      split at hk
      · rename_i v hv; exact key v hv hk
      · cases hk
  · cases h
end

/-- Iterators by numbers. -/
def itAt : List (Nat × Iter) → Nat → Option Iter
  | [], _ => none
  | (k, S) :: r, g => match Nat.beq k g with
    | true => some S
    | false => itAt r g
def ItsOk (P : Program) (l : List (Nat × Iter)) : Prop := ∀ p ∈ l, p.2.Ok P p.1
theorem ItsOk.nil {P : Program} : ItsOk P [] := fun p h => by cases h
theorem ItsOk.cons {P : Program} {k : Nat} {S : Iter} {l : List (Nat × Iter)} (h : S.Ok P k) (hl : ItsOk P l) : ItsOk P ((k, S) :: l) := fun p hp => by
  rcases List.mem_cons.1 hp with rfl | hp
  · exact h
  · exact hl p hp
theorem ItsOk.itAt {P : Program} {l : List (Nat × Iter)} (h : ItsOk P l) : ∀ g S, Fw.itAt l g = some S → S.Ok P g := by
  induction l with
  | nil => intro g S e; cases e
  | cons p r ih =>
    intro g S e
    obtain ⟨k, T⟩ := p
    simp only [Fw.itAt] at e
    split at e
    · rename_i hk
      cases e
      have := Nat.eq_of_beq_eq_true hk
      subst this
      exact h (k, S) (by simp)
    · exact ih (fun q hq => h q (List.mem_cons_of_mem _ hq)) g S e
theorem xsumm_ok {P : Program} {l : List (Nat × Summ)} {its : List (Nat × Iter)} {hint : Nat → LHint} {α β : Type} {T : TyL α} {U : Ty β} {f : α → Option β} {n : FuncId} {fn : Func} (k : α → Nat) (hl : SumsOk P l) (hi : ItsOk P its) (hm : P.follows .mixedOrders = true)
    (hf : P.funcs[n]? = some fn) (hn : (fn.name == "runtime.NumGoroutine") = false) (hb : fn.body.isNone = false) (hT : T.Ok) (hU : U.Ok)
    (he : ∀ x, f x = evXF ⟨P, sumAt l, hint⟩ (itAt its) (k x) fn (T.enc x) U.dec) : (Summ.mk' T U f).Ok P n := by
  refine ⟨⟨fn, hf, hn, hb⟩, ?_, (fun I h => nomatch (show (none : Option Inl) = some I from h)), fun T h => nomatch (show (none : Option Tk) = some T from h)⟩
  dsimp only [Summ.mk']
  intro as x r hd hr RO w cargs hro hcr
  have h1 : evXF ⟨P, sumAt l, hint⟩ (itAt its) (k x) fn (T.enc x) U.dec = some r := (he x).symm.trans hr
  have hcr' := hT.ok hd hcr
  refine (closedX_ok (Γ := ⟨P, sumAt l, hint⟩) hl.sumAt hi.itAt hm hf h1 hro hcr').mono fun e w' ⟨v, cv, RO', h2, h3, h4, h5, h6, h7, h8⟩ => ?_
  exact ⟨cv, RO', h2, hU.ok h3 h4, h5, h6, h7, h8⟩

def asgOf : Code → Code
  | .rangeFunc _ _ a _ => a
  | c => c
def bdyOf : Code → Code
  | .rangeFunc _ _ _ b => b
  | c => c
end Go.Proofs.YtghhecijpghfhaaGreat.Fw
