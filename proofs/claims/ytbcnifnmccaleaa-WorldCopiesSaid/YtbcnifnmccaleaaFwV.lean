/- Types: how values without addresses are read and written; summaries made of them; what a law's function gives. -/
import Derived.Test.YtbcnifnmccaleaaFwU
namespace Go.Proofs.Ytbcnifnmccaleaa.Fw
open Go Go.RowKit
set_option linter.unusedVariables false
set_option linter.unusedSimpArgs false

/-- A type: its values as Lean has them. -/
structure Ty (α : Type) where
  enc : α → AV
  dec : AV → Option α
structure Ty.Ok {α : Type} (T : Ty α) : Prop where
  ok : ∀ {a : AV} {x : α}, T.dec a = some x → ∀ {RO : RoMap} {v : Value}, VR (fun _ => none) RO noHp a v → VR (fun _ => none) RO noHp (T.enc x) v
/-- Several side by side. -/
structure TyL (α : Type) where
  enc : α → List AV
  dec : List AV → Option α
structure TyL.Ok {α : Type} (T : TyL α) : Prop where
  ok : ∀ {l : List AV} {x : α}, T.dec l = some x → ∀ {RO : RoMap} {vs : List Value}, CR (fun _ => none) RO noHp l vs → CR (fun _ => none) RO noHp (T.enc x) vs

def decI (k : IntKind) : AV → Option Int
  | .val (.int k' n) => match k' == k with
    | true => some n
    | false => none
  | _ => none
def tI (k : IntKind) : Ty Int := ⟨fun n => .val (.int k n), decI k⟩
def decB : AV → Option Bool
  | .val (.bool b) => some b
  | _ => none
def tB : Ty Bool := ⟨fun b => .val (.bool b), decB⟩
def decS : AV → Option ByteArray
  | .val (.string b) => some b
  | _ => none
def tS : Ty ByteArray := ⟨fun b => .val (.string b), decS⟩
def decNS : AV → Option Unit
  | .val (.slice none 0 0) => some ()
  | _ => none
/-- The nil slice. -/
def tNS : Ty Unit := ⟨fun _ => .val (.slice none 0 0), decNS⟩
def decL (sz : Nat) : AV → Option (Nat × (Nat → List AV))
  | .lst sz' n _ g => match Nat.beq sz' sz with
    | true => some (n, g)
    | false => none
  | .val (.slice none 0 0) => some (0, fun _ => [])
  | _ => none
/-- A list that may be read, of sz cells each. -/
def tL (sz : Nat) : Ty (Nat × (Nat → List AV)) := ⟨fun x => .lst sz x.1 none x.2, decL sz⟩
def decG {α : Type} (T : TyL α) : AV → Option α
  | .agg cs => T.dec cs
  | _ => none
/-- A struct, its cells in their order. -/
def tG {α : Type} (T : TyL α) : Ty α := ⟨fun x => .agg (T.enc x), decG T⟩
def decT {α : Type} (T : TyL α) : AV → Option α
  | .tup cs => T.dec cs
  | _ => none
/-- Several results. -/
def tT {α : Type} (T : TyL α) : Ty α := ⟨fun x => .tup (T.enc x), decT T⟩
def decN : List AV → Option Unit
  | [] => some ()
  | _ => none
def tNil : TyL Unit := ⟨fun _ => [], decN⟩
def decO {α : Type} (T : Ty α) : List AV → Option α
  | [a] => T.dec a
  | _ => none
def tOne {α : Type} (T : Ty α) : TyL α := ⟨fun x => [T.enc x], decO T⟩
def decC {α β : Type} (T : Ty α) (U : TyL β) : List AV → Option (α × β)
  | a :: r => match T.dec a with
    | some x => match U.dec r with
      | some y => some (x, y)
      | none => none
    | none => none
  | _ => none
def tCons {α β : Type} (T : Ty α) (U : TyL β) : TyL (α × β) := ⟨fun x => T.enc x.1 :: U.enc x.2, decC T U⟩
/-- No result. -/
def tU : Ty Unit := ⟨fun _ => .tup [], fun | .tup [] => some () | _ => none⟩

theorem tI_ok (k : IntKind) : (tI k).Ok := ⟨fun {a x} h RO v hv => by
  simp only [tI, decI] at h
  split at h
  · rename_i k' n
    split at h
    · rename_i he
      cases h
      have : k' = k := by simpa using he
      subst this
      exact hv
    · cases h
  · cases h⟩
theorem tB_ok : tB.Ok := ⟨fun {a x} h RO v hv => by
  simp only [tB, decB] at h
  split at h
  · cases h; exact hv
  · cases h⟩
theorem tS_ok : tS.Ok := ⟨fun {a x} h RO v hv => by
  simp only [tS, decS] at h
  split at h
  · cases h; exact hv
  · cases h⟩
theorem tNS_ok : tNS.Ok := ⟨fun {a x} h RO v hv => by
  simp only [tNS, decNS] at h
  split at h
  · cases h; exact hv
  · cases h⟩
theorem tL_ok (sz : Nat) : (tL sz).Ok := ⟨fun {a x} h RO v hv => by
  simp only [tL, decL] at h
  split at h
  · rename_i sz' n c g
    split at h
    · rename_i he
      cases h
      have := Nat.eq_of_beq_eq_true he
      subst this
      cases hv with
      | lst H _ _ cap get b off c arr hb hn hc hs hg h1 h => exact .lst _ _ _ _ _ b off c arr hb hn (fun x hx => by cases hx) hs hg h1 h
      | lst0 H _ cap get a hc => exact .lst0 _ _ _ _ a (fun x hx => by cases hx)
    · cases h
  · cases h
    have := hv.val_eq
    subst this
    exact .lst0 _ _ _ _ none (fun x hx => by cases hx)
  · cases h⟩
theorem tG_ok {α : Type} {T : TyL α} (hT : T.Ok) : (tG T).Ok := ⟨fun {a x} h RO v hv => by
  simp only [tG, decG] at h
  split at h
  · cases hv with
    | agg H cs vs hl hh =>
      have := hT.ok h (RO := RO) (vs := vs.toList) ⟨by simpa using hl, fun k c v e1 e2 => hh k c v e1 (by simpa using e2)⟩
      exact .agg _ _ _ (by simpa using this.1) fun k c v e1 e2 => this.2 k c v e1 (by simpa using e2)
  · cases h⟩
theorem tT_ok {α : Type} {T : TyL α} (hT : T.Ok) : (tT T).Ok := ⟨fun {a x} h RO v hv => by
  simp only [tT, decT] at h
  split at h
  · cases hv with
    | tup H cs vs hl hh =>
      have := hT.ok h (RO := RO) (vs := vs.toList) ⟨by simpa using hl, fun k c v e1 e2 => hh k c v e1 (by simpa using e2)⟩
      exact .tup _ _ _ (by simpa using this.1) fun k c v e1 e2 => this.2 k c v e1 (by simpa using e2)
  · cases h⟩
theorem tNil_ok : tNil.Ok := ⟨fun {l x} h RO vs hv => by
  simp only [tNil, decN] at h
  split at h
  · exact hv
  · cases h⟩
theorem tOne_ok {α : Type} {T : Ty α} (hT : T.Ok) : (tOne T).Ok := ⟨fun {l x} h RO vs hv => by
  simp only [tOne, decO] at h
  split at h
  · obtain ⟨h1, h2⟩ := hv
    match vs, h1 with
    | [v], _ =>
      have := hT.ok h (h2 0 _ v rfl rfl)
      exact .cons this .nil
  · cases h⟩
theorem tCons_ok {α β : Type} {T : Ty α} {U : TyL β} (hT : T.Ok) (hU : U.Ok) : (tCons T U).Ok := ⟨fun {l x} h RO vs hv => by
  simp only [tCons, decC] at h
  split at h
  · rename_i a r
    split at h
    · rename_i x hx
      split at h
      · rename_i y hy
        cases h
        obtain ⟨h1, h2⟩ := hv
        cases vs with
        | nil => cases h1
        | cons v q =>
          exact .cons (hT.ok hx (h2 0 _ v rfl rfl)) (hU.ok hy ⟨by simpa using h1, fun k c v e1 e2 => h2 (k + 1) c v e1 e2⟩)
      · cases h
    · cases h
  · cases h⟩
theorem tU_ok : tU.Ok := ⟨fun {a x} h RO v hv => by
  simp only [tU] at h
  split at h
  · exact hv
  · cases h⟩

def Summ.mk' {α β : Type} (T : TyL α) (U : Ty β) (f : α → Option β) : Summ := { A := α, R := β, dec := T.dec, f := f, enc := U.enc }

/-- Summaries by numbers. -/
def sumAt : List (Nat × Summ) → Nat → Option Summ
  | [], _ => none
  | (k, S) :: r, g => match Nat.beq k g with
    | true => some S
    | false => sumAt r g
def SumsOk (P : Program) (l : List (Nat × Summ)) : Prop := ∀ p ∈ l, p.2.Ok P p.1
theorem SumsOk.nil {P : Program} : SumsOk P [] := fun p h => by cases h
theorem SumsOk.cons {P : Program} {k : Nat} {S : Summ} {l : List (Nat × Summ)} (h : S.Ok P k) (hl : SumsOk P l) : SumsOk P ((k, S) :: l) := fun p hp => by
  rcases List.mem_cons.1 hp with rfl | hp
  · exact h
  · exact hl p hp
theorem SumsOk.sumAt {P : Program} {l : List (Nat × Summ)} (h : SumsOk P l) : ∀ g S, Fw.sumAt l g = some S → S.Ok P g := by
  induction l with
  | nil => intro g S e; cases e
  | cons p r ih =>
    intro g S e
    obtain ⟨k, T⟩ := p
    simp only [Fw.sumAt] at e
    split at e
    · rename_i hk
      cases e
      have := Nat.eq_of_beq_eq_true hk
      subst this
      exact h (k, S) (by simp)
    · exact ih (fun q hq => h q (List.mem_cons_of_mem _ hq)) g S e

/-- What of a function's code a summary says is so. -/
theorem summ_ok {P : Program} {l : List (Nat × Summ)} {hint : Nat → LHint} {α β : Type} {T : TyL α} {U : Ty β} {f : α → Option β} {n : FuncId} {fn : Func} (k : α → Nat) (hl : SumsOk P l) (hm : P.follows .mixedOrders = true)
    (hf : P.funcs[n]? = some fn) (hn : (fn.name == "runtime.NumGoroutine") = false) (hb : fn.body.isNone = false) (hT : T.Ok) (hU : U.Ok)
    (he : ∀ x, f x = evF ⟨P, sumAt l, hint, true⟩ (k x) fn (T.enc x) U.dec) : (Summ.mk' T U f).Ok P n := by
  refine ⟨⟨fn, hf, hn, hb⟩, ?_, (fun I h => nomatch (show (none : Option Inl) = some I from h)), (fun T h => nomatch (show (none : Option Tk) = some T from h)), fun M h => nomatch (show (none : Option Mo) = some M from h)⟩
  dsimp only [Summ.mk']
  intro as x r hd hr RO w cargs hro hcr
  have h1 : evF ⟨P, sumAt l, hint, true⟩ (k x) fn (T.enc x) U.dec = some r := (he x).symm.trans hr
  have hcr' := hT.ok hd hcr
  refine (closed_ok (Γ := ⟨P, sumAt l, hint, true⟩) hl.sumAt hm hf h1 hro hcr').mono fun e w' ⟨v, cv, RO', h2, h3, h4, h5, h6, h7, h8⟩ => ?_
  exact ⟨cv, RO', h2, hU.ok h3 h4, h5, h6, h7, h8⟩

/-! Functions that are gone into. -/
noncomputable def Summ.mkI (Γ : Ctx) (fn : Func) : Summ := { A := Empty, R := Empty, dec := fun _ => none, f := fun _ => none, enc := fun _ => .top, inl := some (inlRun Γ fn) }
theorem isumm_ok {P : Program} {l : List (Nat × Summ)} {n : FuncId} {fn : Func} (hl : SumsOk P l) (hm : P.follows .mixedOrders = true)
    (hf : P.funcs[n]? = some fn) (hn : (fn.name == "runtime.NumGoroutine") = false) (hb : fn.body.isNone = false) : (Summ.mkI ⟨P, sumAt l, fun _ => { unroll := true }, true⟩ fn).Ok P n := by
  refine ⟨⟨fn, hf, hn, hb⟩, ?_, fun I h => ?_, (fun T h => nomatch (show (none : Option Tk) = some T from h)), fun M h => nomatch (show (none : Option Mo) = some M from h)⟩
  · dsimp only [Summ.mkI]
    intro as x
    exact x.elim
  · have e : some (inlRun ⟨P, sumAt l, fun _ => { unroll := true }, true⟩ fn) = some I := h
    cases e
    intro R
    exact inl_ok (Γ := ⟨P, sumAt l, fun _ => { unroll := true }, true⟩) hl.sumAt hm (fun _ => rfl) hf (R := R)

/-! Functions that are handed an object's address. -/
def outD {α β : Type} (U : Ty β) (T : TyL α) (v : AV) (cs : List AV) : Option (β × α) := match U.dec v with
  | some a => match T.dec cs with
    | some c => some (a, c)
    | none => none
  | none => none
def Summ.mkO {α α' β : Type} (ty : TypeId) (T : TyL α) (T' : TyL α') (U : Ty β) (f : α × α' → Option (β × α)) : Summ := { A := α × α', R := β × α, dec := (tCons (tG T) T').dec, f := f, enc := fun x => U.enc x.1, op := true, ty := ty, new := fun x => T.enc x.2 }
theorem osumm_ok {P : Program} {l : List (Nat × Summ)} {α α' β : Type} {ty : TypeId} {T : TyL α} {T' : TyL α'} {U : Ty β} {f : α × α' → Option (β × α)} {n : FuncId} {fn : Func} (hl : SumsOk P l) (hm : P.follows .mixedOrders = true)
    (hf : P.funcs[n]? = some fn) (hn : (fn.name == "runtime.NumGoroutine") = false) (hb : fn.body.isNone = false) (hT : T.Ok) (hT' : T'.Ok) (hU : U.Ok)
    (he : ∀ x, f x = evG ⟨P, sumAt l, fun _ => { unroll := true }, true⟩ fn ty (T.enc x.1) (T'.enc x.2) (outD U T)) : (Summ.mkO ty T T' U f).Ok P n := by
  refine ⟨⟨fn, hf, hn, hb⟩, ?_, (fun I h => nomatch (show (none : Option Inl) = some I from h)), (fun T h => nomatch (show (none : Option Tk) = some T from h)), fun M h => nomatch (show (none : Option Mo) = some M from h)⟩
  dsimp only [Summ.mkO]
  intro cells rest x r hd hr RO w b arr cargs hro hb0 hbl hle hcc hone hcr
  have h1 : evG ⟨P, sumAt l, fun _ => { unroll := true }, true⟩ fn ty (T.enc x.1) (T'.enc x.2) (outD U T) = some r := (he x).symm.trans hr
  have hd1 : T.dec cells = some x.1 ∧ T'.dec rest = some x.2 := by
    have hd' : decC (tG T) T' (.agg cells :: rest) = some x := hd
    simp only [decC] at hd'
    split at hd'
    · rename_i y hy
      split at hd'
      · rename_i z hz
        cases hd'
        exact ⟨hy, hz⟩
      · cases hd'
    · cases hd'
  have hcc' := hT.ok hd1.1 hcc
  have hcr' := hT'.ok hd1.2 hcr
  have hlen : (T.enc x.1).length = cells.length := by have := hcc'.1; have := hcc.1; omega
  refine (open_ok (Γ := ⟨P, sumAt l, fun _ => { unroll := true }, true⟩) hl.sumAt hm (fun _ => rfl) hf h1 hro hb0 hbl (by rw [hlen]; exact hle) (by rw [hlen]; exact hcc') (by rw [hlen]; exact hone) hcr').mono fun e w' ⟨v, cs, cv, RO', h2, h3, h4, h5, h6⟩ => ?_
  unfold outD at h3
  split at h3
  · rename_i a ha
    split at h3
    · rename_i c hc
      cases h3
      obtain ⟨arr', b1, b2, b3, b4, b5⟩ := h6.block
      have q := hT.ok hc b4
      have hl2 : (T.enc c).length = cs.length := by have := q.1; have := b4.1; omega
      refine ⟨cv, RO', h2, hU.ok ha h4, ?_, ⟨h6.os, h6.tape, h6.output, h6.size, h6.kept, h6.more, h6.new, h6.ro, arr', b1, b2, ?_, ?_, ?_⟩⟩
      · show (T.enc c).length = _
        omega
      · show (T.enc c).length ≤ _
        omega
      · show CR _ _ _ (T.enc c) (arr'.toList.take (T.enc c).length)
        rw [hl2]; exact q
      · show ∀ v ∈ arr'.toList.take (T.enc c).length, _
        rw [hl2]; exact b5
    · cases h3
  · cases h3
def Summ.mkO2 {α0 α α' β : Type} (ty : TypeId) (T0 : TyL α0) (T : TyL α) (T' : TyL α') (U : Ty β) (f : α0 × α' → Option (β × α)) : Summ := { A := α0 × α', R := β × α, dec := (tCons (tG T0) T').dec, f := f, enc := fun x => U.enc x.1, op := true, ty := ty, new := fun x => T.enc x.2 }
theorem osumm2_ok {P : Program} {l : List (Nat × Summ)} {α0 α α' β : Type} {ty : TypeId} {T0 : TyL α0} {T : TyL α} {T' : TyL α'} {U : Ty β} {f : α0 × α' → Option (β × α)} {n : FuncId} {fn : Func} (hl : SumsOk P l) (hm : P.follows .mixedOrders = true)
    (hf : P.funcs[n]? = some fn) (hn : (fn.name == "runtime.NumGoroutine") = false) (hb : fn.body.isNone = false) (hT0 : T0.Ok) (hT : T.Ok) (hT' : T'.Ok) (hU : U.Ok)
    (he : ∀ x, f x = evG ⟨P, sumAt l, fun _ => { unroll := true }, true⟩ fn ty (T0.enc x.1) (T'.enc x.2) (outD U T)) : (Summ.mkO2 ty T0 T T' U f).Ok P n := by
  refine ⟨⟨fn, hf, hn, hb⟩, ?_, (fun I h => nomatch (show (none : Option Inl) = some I from h)), (fun T h => nomatch (show (none : Option Tk) = some T from h)), fun M h => nomatch (show (none : Option Mo) = some M from h)⟩
  dsimp only [Summ.mkO2]
  intro cells rest x r hd hr RO w b arr cargs hro hb0 hbl hle hcc hone hcr
  have h1 : evG ⟨P, sumAt l, fun _ => { unroll := true }, true⟩ fn ty (T0.enc x.1) (T'.enc x.2) (outD U T) = some r := (he x).symm.trans hr
  have hd1 : T0.dec cells = some x.1 ∧ T'.dec rest = some x.2 := by
    have hd' : decC (tG T0) T' (.agg cells :: rest) = some x := hd
    simp only [decC] at hd'
    split at hd'
    · rename_i y hy
      split at hd'
      · rename_i z hz
        cases hd'
        exact ⟨hy, hz⟩
      · cases hd'
    · cases hd'
  have hcc' := hT0.ok hd1.1 hcc
  have hcr' := hT'.ok hd1.2 hcr
  have hlen : (T0.enc x.1).length = cells.length := by have := hcc'.1; have := hcc.1; omega
  refine (open_ok (Γ := ⟨P, sumAt l, fun _ => { unroll := true }, true⟩) hl.sumAt hm (fun _ => rfl) hf h1 hro hb0 hbl (by rw [hlen]; exact hle) (by rw [hlen]; exact hcc') (by rw [hlen]; exact hone) hcr').mono fun e w' ⟨v, cs, cv, RO', h2, h3, h4, h5, h6⟩ => ?_
  unfold outD at h3
  split at h3
  · rename_i a ha
    split at h3
    · rename_i c hc
      cases h3
      obtain ⟨arr', b1, b2, b3, b4, b5⟩ := h6.block
      have q := hT.ok hc b4
      have hl2 : (T.enc c).length = cs.length := by have := q.1; have := b4.1; omega
      refine ⟨cv, RO', h2, hU.ok ha h4, ?_, ⟨h6.os, h6.tape, h6.output, h6.size, h6.kept, h6.more, h6.new, h6.ro, arr', b1, b2, ?_, ?_, ?_⟩⟩
      · show (T.enc c).length = _
        omega
      · show (T.enc c).length ≤ _
        omega
      · show CR _ _ _ (T.enc c) (arr'.toList.take (T.enc c).length)
        rw [hl2]; exact q
      · show ∀ v ∈ arr'.toList.take (T.enc c).length, _
        rw [hl2]; exact b5
    · cases h3
  · cases h3
/-! Functions whose result holds a list of its own: a struct whose last cell it is. -/
structure OwnT (α β : Type) where
  pre : TyL α
  row : TyL β
  e : TypeId
  sz : Nat
  z : β
def lastSlc : List AV → Option (List AV)
  | [] => none
  | [.slc 0 0 none none] => some []
  | a :: r => match lastSlc r with
    | some l => some (a :: l)
    | none => none
theorem lastSlc_spec : ∀ {l r : List AV}, lastSlc l = some r → l = r ++ [.slc 0 0 none none]
  | [], r, h => by cases h
  | a :: q, r, h => by
    unfold lastSlc at h
    split at h
    · rename_i heq; cases heq
    · rename_i heq; cases heq; cases h; rfl
    · rename_i heq
      cases heq
      split at h
      · rename_i l hl
        cases h
        rw [lastSlc_spec hl]; rfl
      · cases h
noncomputable def rowsDec {α : Type} (T : TyL α) (z : α) (n : Nat) (g : Nat → List AV) : Option (Nat × (Nat → α)) :=
  open Classical in if ∀ i, i < n → ∃ x, T.dec (g i) = some x then some (n, fun i => (T.dec (g i)).getD z) else none
noncomputable def OwnT.dec {α β : Type} (T : OwnT α β) (v : AV) (ob : Ob) : Option (α × (Nat × (Nat → β))) := match v with
  | .agg cs => match lastSlc cs with
    | some l => match T.pre.dec (cloL l) with
      | some x => match ob.row && Nat.beq ob.ty T.e && Nat.beq ob.sz T.sz with
        | true => match rowsDec T.row T.z ob.n ob.get with
          | some y => some (x, y)
          | none => none
        | false => none
      | none => none
    | none => none
  | _ => none
def OwnT.enc {α β : Type} (T : OwnT α β) (x : α × (Nat × (Nat → β))) : AV := .agg (T.pre.enc x.1 ++ [.slc 0 0 none none])
def OwnT.ob {α β : Type} (T : OwnT α β) (x : α × (Nat × (Nat → β))) : Ob := ⟨true, T.e, T.sz, x.2.1, fun i => T.row.enc (x.2.2 i), none⟩
structure OwnT.Ok {α β : Type} (T : OwnT α β) : Prop where
  pre : T.pre.Ok
  row : T.row.Ok
theorem OwnT.owned {α β : Type} {T : OwnT α β} (hT : T.Ok) {v : AV} {ob : Ob} {x : α × (Nat × (Nat → β))} (hd : T.dec v ob = some x) {w w' : World} {cv : Value} {RO : RoMap} (h : Owned w w' ob v cv RO) : Owned w w' (T.ob x) (T.enc x) cv RO := by
  unfold OwnT.dec at hd
  split at hd
  · rename_i cs
    split at hd
    · rename_i l hl
      split at hd
      · rename_i y hy
        split at hd
        · rename_i hc
          simp only [Bool.and_eq_true] at hc
          have hty := Nat.eq_of_beq_eq_true hc.1.2
          have hsz := Nat.eq_of_beq_eq_true hc.2
          split at hd
          · rename_i z hz
            cases hd
            unfold rowsDec at hz
            split at hz
            · rename_i hall
              cases hz
              obtain ⟨pl, hv, hpl⟩ := h
              have e := lastSlc_spec hl
              subst e
              cases hv with
              | agg _ _ vs hlen hh =>
                -- the last cell, the others
                have hlen' : l.length + 1 = vs.size := by simpa using hlen
                have hcr : CR (fun _ => pl) RO (hp [.live ob]) l (vs.toList.take l.length) := ⟨by simp; omega, fun k c v e1 e2 => by
                  have hk : k < l.length := (List.getElem?_eq_some_iff.1 e1).1
                  refine hh k c v (by rw [List.getElem?_append_left hk]; exact e1) ?_
                  rw [List.getElem?_take, if_pos hk] at e2
                  simpa using e2⟩
                have hpre := hT.pre.ok hy ((hcr.clo).closed (fun _ => none) noHp)
                have hlen2 : (T.pre.enc y).length = l.length := by have := hpre.1; simp at this; omega
                have hlast : VR (fun _ => pl) RO (hp [.live ob]) (.slc 0 0 none none) vs[l.length] := hh l.length _ _ (by simp) (by simp [show l.length < vs.size by omega])
                have hlast' : VR (fun _ => pl) RO (hp [.live (T.ob (y, ob.n, fun i => (T.row.dec (ob.get i)).getD T.z))]) (.slc 0 0 none none) vs[l.length] := by
                  generalize vs[l.length] = u at hlast
                  cases hlast with
                  | slc _ _ _ _ _ _ b off c h0 hn hk hcap hq =>
                    obtain ⟨q1, q2, q3, m, q4, q5⟩ := hq ob rfl
                    refine .slc _ _ _ _ _ _ b off c (fun e => by cases e) hn hk hcap fun ob2 h2 => ?_
                    cases h2
                    exact ⟨q1, q2, by show off = 0 * T.sz; rw [← hsz]; exact q3, m, q4, by show _ * T.sz ≤ m; rw [← hsz]; exact q5⟩
                  | slc0 _ _ _ _ a0 h0 hk hcap hq =>
                    obtain ⟨q1, q2⟩ := hq ob rfl
                    refine .slc0 _ _ _ _ a0 (fun e => by cases e) hk hcap fun ob2 h2 => ?_
                    cases h2
                    exact ⟨q1, q2⟩
                refine ⟨pl, ?_, ?_⟩
                · show VR _ _ _ (.agg (T.pre.enc y ++ [.slc 0 0 none none])) _
                  refine .agg _ _ vs (by simp [hlen2]; omega) fun k c v e1 e2 => ?_
                  by_cases hk : k < l.length
                  · rw [List.getElem?_append_left (by omega)] at e1
                    exact (hpre.2 k c v e1 (by rw [List.getElem?_take, if_pos hk]; simpa using e2)).closed _ _
                  · have hk2 : k = l.length := by
                      have := (List.getElem?_eq_some_iff.1 e1).1
                      simp [hlen2] at this
                      omega
                    subst hk2
                    rw [List.getElem?_append_right (by omega), hlen2] at e1
                    simp at e1
                    subst e1
                    have : v = vs[l.length] := by
                      rw [Array.getElem?_eq_getElem (by omega)] at e2
                      cases e2; rfl
                    rw [this]; exact hlast'
                · rcases hpl with ⟨h1, h2⟩ | ⟨b, arr, h1, h2, h3, h4, h5, h6, h7, h8⟩
                  · exact .inl ⟨h1, h2⟩
                  · have row : ∀ i, i < ob.n → CR (fun _ => none) RO noHp (T.row.enc ((T.row.dec (ob.get i)).getD T.z)) ((arr.toList.drop (i * ob.sz)).take ob.sz) := fun i hi => by
                      obtain ⟨x, hx⟩ := hall i hi
                      rw [hx]
                      exact hT.row.ok hx (ObR.row (ob := ob) ⟨h5, h6, h7, h8⟩ hi)
                    have hszs : ∀ i, i < ob.n → ((arr.toList.drop (i * ob.sz)).take ob.sz).length = ob.sz := fun i hi => by
                      have := row_le (s := ob.sz) hi
                      simp; omega
                    refine .inr ⟨b, arr, h1, h2, h3, by show CellsAt w' b arr T.e; rw [← hty]; exact h4, by show ob.n * T.sz ≤ _; rw [← hsz]; exact h5, fun i hi => ?_, fun i k a v hi e1 e2 => ?_, fun j v hj hv => h8 j v (by rw [hsz]; exact hj) hv⟩
                    · show (T.row.enc _).length = T.sz
                      have := (row i hi).1
                      rw [hszs i hi] at this
                      exact this.trans hsz
                    · have hlen3 : (T.row.enc ((T.row.dec (ob.get i)).getD T.z)).length = ob.sz := by have := (row i hi).1; rw [hszs i hi] at this; exact this
                      have hk : k < ob.sz := by
                        have := (List.getElem?_eq_some_iff.1 e1).1
                        exact Nat.lt_of_lt_of_eq this hlen3
                      refine (row i hi).2 k a v e1 ?_
                      have e2' : arr[i * T.sz + k]? = some v := e2
                      rw [List.getElem?_take, if_pos hk, List.getElem?_drop, hsz]
                      simpa using e2'
            · cases hz
          · cases hd
        · cases hd
      · cases hd
    · cases hd
  · cases hd
def Summ.mkW {α β γ : Type} (T : TyL α) (U : OwnT β γ) (f : α → Option (β × (Nat × (Nat → γ)))) : Summ := { A := α, R := β × (Nat × (Nat → γ)), dec := T.dec, f := f, enc := U.enc, own := true, ob := U.ob }
theorem wsumm_ok {P : Program} {l : List (Nat × Summ)} {hint : Nat → LHint} {α β γ : Type} {T : TyL α} {U : OwnT β γ} {f : α → Option (β × (Nat × (Nat → γ)))} {n : FuncId} {fn : Func} (k : α → Nat) (hl : SumsOk P l) (hm : P.follows .mixedOrders = true)
    (hf : P.funcs[n]? = some fn) (hn : (fn.name == "runtime.NumGoroutine") = false) (hb : fn.body.isNone = false) (hT : T.Ok) (hU : U.Ok)
    (he : ∀ x, f x = evW ⟨P, sumAt l, hint, true⟩ (k x) fn (T.enc x) U.dec) : (Summ.mkW T U f).Ok P n := by
  refine ⟨⟨fn, hf, hn, hb⟩, ?_, (fun I h => nomatch (show (none : Option Inl) = some I from h)), (fun T h => nomatch (show (none : Option Tk) = some T from h)), fun M h => nomatch (show (none : Option Mo) = some M from h)⟩
  dsimp only [Summ.mkW]
  intro as x r hd hr RO w cargs hro hcr
  have h1 : evW ⟨P, sumAt l, hint, true⟩ (k x) fn (T.enc x) U.dec = some r := (he x).symm.trans hr
  have hcr' := hT.ok hd hcr
  refine (own_ok (Γ := ⟨P, sumAt l, hint, true⟩) hl.sumAt hm hf h1 hro hcr').mono fun e w' ⟨v, ob, cv, RO', h2, h3, h4, h5, h6, h7, h8⟩ => ?_
  exact ⟨cv, RO', h2, OwnT.owned hU h3 h4, h5, h6, h7, h8⟩
/-- A function that is never to be called. -/
theorem nosumm_ok {P : Program} {α β : Type} {T : TyL α} {U : Ty β} {n : FuncId} {fn : Func} (hf : P.funcs[n]? = some fn) (hn : (fn.name == "runtime.NumGoroutine") = false) (hb : fn.body.isNone = false) : (Summ.mk' T U fun _ => none).Ok P n := by
  refine ⟨⟨fn, hf, hn, hb⟩, ?_, (fun I h => nomatch (show (none : Option Inl) = some I from h)), (fun T h => nomatch (show (none : Option Tk) = some T from h)), fun M h => nomatch (show (none : Option Mo) = some M from h)⟩
  dsimp only [Summ.mk']
  intro as x r hd hr
  cases hr

/-- All that lies in the heap, as it was when the call began. -/
def roAll (w : World) : RoMap := fun b => match w.heap[b]? with
  | some (.cells arr _ _) => some arr
  | _ => none
theorem roAll_ok (w : World) : RoOk (roAll w) w := by
  intro b arr h
  unfold roAll at h
  split at h
  · rename_i arr' t f hb
    cases h
    exact ⟨t, f, hb⟩
  · cases h

/-- A law's function that gives true. -/
theorem law_true {P : Program} {l : List (Nat × Summ)} {hint : Nat → LHint} {n : FuncId} {fn : Func} (hl : SumsOk P l) (hm : P.follows .mixedOrders = true) (hf : P.funcs[n]? = some fn) {k : Nat} {as : List AV} {w : World} {cargs : Array Value}
    (h : evF ⟨P, sumAt l, hint, true⟩ k fn as tB.dec = some true) (hcr : CR (fun _ => none) (roAll w) noHp as cargs.toList) :
    Calls P n cargs w fun e w' => e = .returned (.bool true) ∧ Below w.heap.size w w' := by
  refine (closed_ok (Γ := ⟨P, sumAt l, hint, true⟩) hl.sumAt hm hf h (roAll_ok w) hcr).mono fun e w' ⟨v, cv, RO', h2, h3, h4, h5, _⟩ => ?_
  have := (tB_ok.ok h3 h4).val_eq
  subst this
  exact ⟨h2, h5⟩
end Go.Proofs.Ytbcnifnmccaleaa.Fw
