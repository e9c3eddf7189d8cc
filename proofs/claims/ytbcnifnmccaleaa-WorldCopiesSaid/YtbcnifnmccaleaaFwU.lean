/- A function does what the evaluator says. -/
import Derived.Test.YtbcnifnmccaleaaFwT
namespace Go.Proofs.Ytbcnifnmccaleaa.Fw
open Go Go.RowKit
set_option linter.unusedVariables false
set_option linter.unusedSimpArgs false

section
variable {P : Program} {Γ : Ctx} {R : Type} {w0 w : World} {W : Nat → Prop} {F : RoMap} {ρ : Pm} {RO : RoMap} {s : St} {a : Act}

def resOne (tmps : Array Value) : ResultVar → Sem Value
  | .tmp t => pure (tmps.getD t undef)
  | .cell x t => do loadVar t (← asAddr (tmps.getD x undef))
theorem results_eq (fn : Func) (tmps : Array Value) : results fn tmps = (do let vs ← fn.results.mapM (resOne tmps); pure (if h : vs.size = 1 then vs[0] else .tuple vs)) := by
  unfold results
  congr 1

theorem results_run (hs : SS w0 W F ρ RO s a w) : ∀ (l : List ResultVar) {avs : List AV}, resultsOf P s l = some avs →
    ∃ vs, (l.mapM (resOne a.tmps)).run P w = Result.ok vs w ∧ CR ρ RO (hp s.H) avs vs
  | [], avs, h => by cases h; exact ⟨[], by simp [Sem.run], .nil⟩
  | .tmp t :: r, avs, h => by
    unfold resultsOf at h
    split at h
    · rename_i l hl
      cases h
      obtain ⟨vs, h1, h2⟩ := results_run hs r hl
      refine ⟨a.tmps.getD t undef :: vs, ?_, .cons (op_sound hs.tr (.tmp t)) h2⟩
      rw [List.mapM_cons]
      simp [Sem.run_bind, h1, resOne]
    · cases h
  | .cell x t :: r, avs, h => by
    unfold resultsOf at h
    split at h
    · rename_i e l he hl
      cases h
      obtain ⟨vs, h1, h2⟩ := results_run hs r hl
      have hv := op_sound hs.tr (.tmp x)
      obtain ⟨cv, g1, g2, _, _⟩ := load_val he hs.sr hv
      have hp : ∃ ad, a.tmps.getD x undef = .pointer (some ad) := by
        have hv' : VR ρ RO (hp s.H) (s.tmps.getD x undefA) (a.tmps.getD x undef) := hv
        unfold loadE at he
        split at he
        · rename_i heq
          rw [heq] at hv'
          generalize a.tmps.getD x undef = z at hv'
          cases hv'; exact ⟨_, rfl⟩
        · rename_i heq
          rw [heq] at hv'
          generalize a.tmps.getD x undef = z at hv'
          cases hv'; exact ⟨_, rfl⟩
        · cases he
      obtain ⟨ad, had⟩ := hp
      have g1' : (loadVar t ad).run P w = .ok cv w := by
        have e0 : a.eval (.tmp x) = .pointer (some ad) := had
        rw [e0] at g1
        simpa [Instr.loadAt, Instr.sureAddr, Sem.run_bind] using g1
      refine ⟨cv :: vs, ?_, .cons g2 h2⟩
      rw [List.mapM_cons]
      simp only [resOne, had, asAddr]
      simp [Sem.run_bind, g1', h1]
    · cases h

theorem finish_sound {fn : Func} {v : AV} (h : finish P fn s = some v) (hs : SS w0 W F ρ RO s a w) :
    ∃ cv RO', (results fn a.tmps).run P w = .ok cv w ∧ VR (fun _ => none) RO' noHp v cv ∧ (∀ b arr, RO b = some arr → RO' b = some arr) ∧ RoOk RO' w ∧ (∀ b arr, RO' b = some arr → F b = some arr ∨ w0.heap.size ≤ b ∨ W b) := by
  unfold finish at h
  split at h
  · rename_i l1 _
    split at h
    · rename_i l2 hl2
      cases h
      obtain ⟨RO', h1, h2, h3, _⟩ := frzL_sound (idsL l1) hs.sr hs.tr
      obtain ⟨vs, g1, g2⟩ := results_run (s := s.frzL (idsL l1)) ⟨h1, h2⟩ _ hl2
      have hrun : (results fn a.tmps).run P w = .ok (if h : vs.toArray.size = 1 then vs.toArray[0] else .tuple vs.toArray) w := by
        rw [results_eq, Array.mapM_eq_mapM_toList]
        simp [Sem.run_bind, g1]
      refine ⟨_, RO', hrun, ?_, h3.1, h1.ro, h1.old⟩
      refine VR.closed (ρ := ρ) (VR.clo (H := hp (s.frzL (idsL l1)).H) ?_) _ _
      cases l2 with
      | nil =>
        have : vs = [] := List.eq_nil_of_length_eq_zero g2.1.symm
        subst this
        exact g2.tup'
      | cons x r =>
        cases vs with
        | nil => have := g2.1; simp at this
        | cons y q =>
          cases r with
          | nil =>
            have : q = [] := by have := g2.1; simp at this; exact this.symm ▸ rfl
            subst this
            exact g2.2 0 x y rfl rfl
          | cons x2 r2 =>
            have hq : ¬ (y :: q).toArray.size = 1 := by have := g2.1; simp at this ⊢; intro e; subst e; simp at this
            rw [dif_neg hq]
            exact g2.tup'
    · cases h
  · cases h

theorem pack_vr {l : List AV} {vs : List Value} (g : CR ρ RO (hp s.H) l vs) : VR (fun _ => none) RO noHp (clo (packA l)) (if h : vs.toArray.size = 1 then vs.toArray[0] else .tuple vs.toArray) := by
  refine VR.closed (ρ := ρ) (VR.clo (H := hp s.H) ?_) _ _
  cases l with
  | nil =>
    have : vs = [] := List.eq_nil_of_length_eq_zero g.1.symm
    subst this
    exact g.tup'
  | cons x r =>
    cases vs with
    | nil => have := g.1; simp at this
    | cons y q =>
      cases r with
      | nil =>
        have : q = [] := by have := g.1; simp at this; exact this.symm ▸ rfl
        subst this
        exact g.2 0 x y rfl rfl
      | cons x2 r2 =>
        have hq : ¬ (y :: q).toArray.size = 1 := by have := g.1; simp at this ⊢; intro e; subst e; simp at this
        rw [dif_neg hq]
        exact g.tup'

/-- A function that is handed the address of block b, whose cells are these. -/
theorem open_ok (hΓ : ∀ g S, Γ.sums g = some S → S.Ok Γ.P g) (hm : Γ.P.follows .mixedOrders = true) (hU : ∀ blk, (Γ.hint blk).unroll = true) {f : FuncId} {fn : Func} (hf : Γ.P.funcs[f]? = some fn) {ty : TypeId} {cells rest : List AV} {D : AV → List AV → Option R} {r : R} (h : evG Γ fn ty cells rest D = some r)
    {w : World} {b : Nat} {arr : Array Value} {cargs : Array Value} (hro : RoOk RO w) (hb0 : RO b = none) (hb : CellsAt w b arr ty) (hle : cells.length ≤ arr.size)
    (hcc : CR (fun _ => none) RO noHp cells (arr.toList.take cells.length)) (hone : ∀ v ∈ arr.toList.take cells.length, v.oneCell' = true) (hcr : CR (fun _ => none) RO noHp rest cargs.toList) :
    Calls Γ.P f (#[.pointer (some ⟨b, 0, none⟩)] ++ cargs) w fun e w' => ∃ v cs cv RO', e = .returned cv ∧ D v cs = some r ∧ VR (fun _ => none) RO' noHp v cv ∧ cs.length = cells.length ∧ Opened w w' b ty arr.size cs RO RO' := by
  unfold evG at h
  split at h
  · rename_i ob hnew
    split at h
    · rename_i c hbody
      have hsz : rest.length = cargs.size := by simpa using hcr.1
      obtain ⟨n1, n2, n3⟩ := newOb_rel hnew (hcc.closed (fun o => if o = 0 then some ⟨b, arr.size⟩ else none) (hp [.live ob])) hone
      have n2' : ob.n * ob.sz = cells.length := by rw [n2]; simp; omega
      have n3' := ObR.first n3 (by omega) hle
      have hobj : ∀ o x, hp [Ent.live ob] o = .live x → o = 0 ∧ x = ob := fun o x hx => by
        cases o with
        | zero => simp [hp] at hx; exact ⟨rfl, hx.symm⟩
        | succ o => simp [hp] at hx
      have hinit : SS w (fun k => k = b) RO (fun o => if o = 0 then some ⟨b, arr.size⟩ else none) RO ⟨.ptr 0 0 0 :: rest ++ List.replicate (fn.ntmps - (rest.length + 1)) undefA, [.live ob]⟩
          { tmps := (#[Value.pointer (some ⟨b, 0, none⟩)] ++ cargs) ++ Array.replicate (fn.ntmps - (#[Value.pointer (some ⟨b, 0, none⟩)] ++ cargs).size) undef, defers := [] } w := by
        refine ⟨⟨rfl, rfl, rfl, Nat.le_refl _, fun _ _ _ => rfl, fun o x hl => ?_, fun o o' x x' b m m' hl hl' _ _ => ?_, hro, fun b arr hb => .inl hb, fun _ _ h => h, .none fun o => (by cases o with | zero => rfl | succ o => simp [hp, Ent.kind])⟩, ?_⟩
        · obtain ⟨rfl, rfl⟩ := hobj o x hl
          exact .inr ⟨b, arr.size, arr, rfl, hb0, .inr rfl, by rw [n1]; exact hb, rfl, n3'.1, n3'.2.1, n3'.2.2.1, n3'.2.2.2⟩
        · rw [(hobj o x hl).1, (hobj o' x' hl').1]
        · show CR _ _ _ _ _
          simp only [Array.toList_append, Array.toList_replicate, List.cons_append]
          have hs2 : (#[Value.pointer (some ⟨b, 0, none⟩)] ++ cargs).size = rest.length + 1 := by simp; omega
          rw [hs2]
          have h0 : (0 : Nat) < ob.n := newOb_pos hnew
          refine .cons (.ptr _ _ _ _ b 0 (by simp [hp]) fun x hx => ?_) ((hcr.closed _ _).append ?_)
          · obtain ⟨_, rfl⟩ := hobj 0 x hx
            exact ⟨h0, by simp, arr.size, rfl⟩
          · refine ⟨by simp, fun k c v h1 h2 => ?_⟩
            rw [List.getElem?_replicate] at h1 h2
            split at h1
            · cases h1
              split at h2
              · cases h2; exact .undefA
              · rename_i g1 g2; exact absurd g1 g2
            · cases h1
      refine calls_of_wp hf hbody (ev_ext hΓ hU hm 0 c 0 h hinit rfl (.refl _ _ _) fun e s' ρ' RO' a' w' hk h1 h2 hE => ?_)
      have key : ∀ (s1 : St) (RO1 : RoMap), SS w (fun k => k = b) RO ρ' RO1 s1 a' w' → Ext (fun o => if o = 0 then some ⟨b, arr.size⟩ else none) RO (hp [.live ob]) ρ' RO1 (hp s1.H) → ∀ l ob' , resultsOf Γ.P s1 fn.results.toList = some l → hp s1.H 0 = .live ob' → ob'.ty = ty → (flatO ob').length = ob'.n * ob'.sz → D (clo (packA l)) (cloL (flatO ob')) = some r →
          a'.defers = [] ∧ ∃ cv, (results fn a'.tmps).run Γ.P w' = .ok cv w' ∧ (∃ v cs cv' RO', Ending.returned cv = .returned cv' ∧ D v cs = some r ∧ VR (fun _ => none) RO' noHp v cv' ∧ cs.length = cells.length ∧ Opened w w' b ty arr.size cs RO RO') := by
        intro s1 RO1 h1 hE l ob' hl hob hty hlen hD
        obtain ⟨vs, g1, g2⟩ := results_run h1 _ hl
        have hrun : (results fn a'.tmps).run Γ.P w' = .ok (if h : vs.toArray.size = 1 then vs.toArray[0] else .tuple vs.toArray) w' := by
          rw [results_eq, Array.mapM_eq_mapM_toList]
          simp [Sem.run_bind, g1]
        obtain ⟨_, hE2⟩ := hE.2.1 0 (by simp [hp])
        obtain ⟨e1, ob1, e2, e3, e4⟩ := hE2 ob' hob
        obtain ⟨_, rfl⟩ := hobj 0 ob1 e2
        have e1' : ρ' 0 = some ⟨b, arr.size⟩ := e1
        rcases h1.sr.obj 0 ob' hob with ⟨q1, _⟩ | ⟨b', m', arr', q1, q2, q3, q4, q5, q6, q7, q8, q9⟩
        · rw [q1] at e1'; cases e1'
        rw [q1] at e1'; cases e1'
        have hR : ObR ρ' RO1 (hp s1.H) ob' arr' := ⟨by rw [q5]; exact q6, q7, q8, q9⟩
        have hflat := flatO_cr hR hlen
        have hcl : (cloL (flatO ob')).length = cells.length := by have := hflat.clo.1; have := hflat.1; rw [← n2', ← e3, ← e4]; omega
        have hnN : ob'.n * ob'.sz = cells.length := by rw [e3, e4]; exact n2'
        refine ⟨h2, _, hrun, _, _, _, RO1, rfl, hD, pack_vr g2, hcl, ⟨h1.sr.os, h1.sr.tape, h1.sr.output, h1.sr.size, fun k hk hkb => h1.sr.kept k hk hkb, fun c z hc => h1.sr.fix c z hc, fun c z hc hn => ?_, h1.sr.ro, arr', by rw [← hty]; exact q4, q5, by rw [hcl]; omega, ?_, fun v hv => ?_⟩⟩
        · rcases h1.sr.old c z hc with e | e | e
          · rw [hn] at e; cases e
          · exact e
          · have e' : c = b := e
            rw [e', q2] at hc; cases hc
        · rw [hcl, ← hnN]
          exact (hflat.clo).closed _ _
        · rw [hcl, ← hnN] at hv
          obtain ⟨j, hj⟩ := List.mem_iff_getElem?.1 hv
          rw [List.getElem?_take] at hj
          split at hj
          · exact q9 j v (by assumption) (by simpa using hj)
          · cases hj
      have key2 : (match hp s'.H 0 with
        | .live ob0 =>
          match resultsOf Γ.P (s'.frzL (idsL (flatO ob0))) fn.results.toList with
          | some l => match hp (s'.frzL (idsL (flatO ob0))).H 0 with
            | .live ob' => match Nat.beq ob'.ty ty && Nat.beq (flatO ob').length (ob'.n * ob'.sz) with
              | true => D (clo (packA l)) (cloL (flatO ob'))
              | false => none
            | _ => none
          | none => none
        | _ => none) = some r → a'.defers = [] ∧ ∃ cv, (results fn a'.tmps).run Γ.P w' = .ok cv w' ∧ (∃ v cs cv' RO', Ending.returned cv = .returned cv' ∧ D v cs = some r ∧ VR (fun _ => none) RO' noHp v cv' ∧ cs.length = cells.length ∧ Opened w w' b ty arr.size cs RO RO') := by
        intro hk
        split at hk
        · rename_i ob0 hob0
          obtain ⟨R2, b1, b2, b3, _⟩ := frzL_sound (idsL (flatO ob0)) h1.sr h1.tr
          split at hk
          · rename_i l hl
            split at hk
            · rename_i ob' hob
              split at hk
              · rename_i hc
                rw [Bool.and_eq_true] at hc
                exact key _ R2 ⟨b1, b2⟩ (hE.trans b3) l ob' hl hob (Nat.eq_of_beq_eq_true hc.1) (Nat.eq_of_beq_eq_true hc.2) hk
              · cases hk
            · cases hk
          · cases hk
        · cases hk
      cases e with
      | normal => exact key2 hk
      | exit i => cases hk
      | ret => exact key2 hk
    · cases h
  · cases h

/-- A function that is gone into, with values that may name objects. -/
theorem inl_ok (hΓ : ∀ g S, Γ.sums g = some S → S.Ok Γ.P g) (hm : Γ.P.follows .mixedOrders = true) (hU : ∀ blk, (Γ.hint blk).unroll = true) {f : FuncId} {fn : Func} (hf : Γ.P.funcs[f]? = some fn) : (inlRun Γ fn).Ok Γ.P f := by
  intro R l H K r h w0 w W F ρ RO cargs hS hcr
  unfold inlRun at h
  simp only at h
  split at h
  · rename_i c hb
    have hsz : l.length = cargs.size := by simpa using hcr.1
    have hinit : SS w0 W F ρ RO ⟨l ++ List.replicate (fn.ntmps - l.length) undefA, H⟩ { tmps := cargs ++ Array.replicate (fn.ntmps - cargs.size) undef, defers := [] } w := by
      refine ⟨hS, ?_⟩
      show CR _ _ _ _ _
      simp only [Array.toList_append, Array.toList_replicate, hsz]
      refine hcr.append ?_
      refine ⟨by simp, fun k c v h1 h2 => ?_⟩
      rw [List.getElem?_replicate] at h1 h2
      split at h1 <;> simp_all
      obtain ⟨rfl, rfl⟩ := And.intro h1 h2
      exact .undefA
    refine calls_of_wp hf hb (ev_ext hΓ hU hm 0 c 0 h hinit rfl (.refl _ _ _) fun e s' ρ' RO' a' w' hk h1 h2 hE => ?_)
    have key : (match resultsOf Γ.P s' fn.results.toList with | some l => K (packA l) s'.H | none => none) = some r → a'.defers = [] ∧ ∃ cv, (results fn a'.tmps).run Γ.P w' = .ok cv w' ∧ (∃ v H' cv' ρ' RO', Ending.returned cv = .returned cv' ∧ K v H' = some r ∧ VR ρ' RO' (hp H') v cv' ∧ SR w0 W F ρ' RO' (hp H') w' ∧ Ext ρ RO (hp H) ρ' RO' (hp H')) := by
      intro hk
      split at hk
      · rename_i l2 hl
        obtain ⟨vs, g1, g2⟩ := results_run h1 _ hl
        have hrun : (results fn a'.tmps).run Γ.P w' = .ok (if h : vs.toArray.size = 1 then vs.toArray[0] else .tuple vs.toArray) w' := by
          rw [results_eq, Array.mapM_eq_mapM_toList]
          simp [Sem.run_bind, g1]
        have hv : VR ρ' RO' (hp s'.H) (packA l2) (if h : vs.toArray.size = 1 then vs.toArray[0] else .tuple vs.toArray) := by
          cases l2 with
          | nil =>
            have : vs = [] := List.eq_nil_of_length_eq_zero g2.1.symm
            subst this
            exact g2.tup'
          | cons x r =>
            cases vs with
            | nil => have := g2.1; simp at this
            | cons y q =>
              cases r with
              | nil =>
                have : q = [] := by have := g2.1; simp at this; exact this.symm ▸ rfl
                subst this
                exact g2.2 0 x y rfl rfl
              | cons x2 r2 =>
                have hq : ¬ (y :: q).toArray.size = 1 := by have := g2.1; simp at this ⊢; intro e; subst e; simp at this
                rw [dif_neg hq]
                exact g2.tup'
        exact ⟨h2, _, hrun, _, s'.H, _, ρ', RO', rfl, hk, hv, h1.sr, hE⟩
      · cases hk
    cases e with
    | normal => exact key hk
    | exit i => cases hk
    | ret => exact key hk
  · cases h

/-- A function that is called with values without objects. -/
theorem closed_ok (hΓ : ∀ g S, Γ.sums g = some S → S.Ok Γ.P g) (hm : Γ.P.follows .mixedOrders = true) {f : FuncId} {fn : Func} (hf : Γ.P.funcs[f]? = some fn) {k : Nat} {l : List AV} {D : AV → Option R} {r : R} (h : evF Γ k fn l D = some r)
    {w : World} {cargs : Array Value} (hro : RoOk RO w) (hcr : CR (fun _ => none) RO noHp l cargs.toList) :
    Calls Γ.P f cargs w fun e w' => ∃ v cv RO', e = .returned cv ∧ D v = some r ∧ VR (fun _ => none) RO' noHp v cv ∧ Below w.heap.size w w' ∧ (∀ b arr, RO b = some arr → RO' b = some arr) ∧ (∀ b arr, RO' b = some arr → RO b = none → w.heap.size ≤ b) ∧ RoOk RO' w' := by
  unfold evF at h
  split at h
  · rename_i c hb
    have hsz : l.length = cargs.size := by simpa using hcr.1
    have hinit : SS w (fun _ => False) RO (fun _ => none) RO (initS fn l) { tmps := cargs ++ Array.replicate (fn.ntmps - cargs.size) undef, defers := [] } w := by
      refine ⟨⟨rfl, rfl, rfl, Nat.le_refl _, fun _ _ _ => rfl, fun o ob hl => ?_, fun o o' ob ob' b m m' hl => ?_, hro, fun b arr hb => .inl hb, fun _ _ h => h, .none fun o => by simp [initS, hp, Ent.kind]⟩, ?_⟩
      · simp [initS, hp] at hl
      · simp [initS, hp] at hl
      · show CR _ _ _ _ _
        simp only [initS, Array.toList_append, Array.toList_replicate, hsz]
        refine (hcr.closed _ _).append ?_
        refine ⟨by simp, fun k c v h1 h2 => ?_⟩
        rw [List.getElem?_replicate] at h1 h2
        split at h1 <;> simp_all
        obtain ⟨rfl, rfl⟩ := And.intro h1 h2
        exact .undefA
    refine calls_of_wp hf hb (ev_sound hΓ hm k c 0 h hinit rfl fun e s' ρ' RO' a' w' hk h1 h2 => ?_)
    have key : ∀ v, finish Γ.P fn s' = some v → D v = some r → a'.defers = [] ∧ ∃ cv, (results fn a'.tmps).run Γ.P w' = .ok cv w' ∧ (∃ v' cv' RO', Ending.returned cv = .returned cv' ∧ D v' = some r ∧ VR (fun _ => none) RO' noHp v' cv' ∧ Below w.heap.size w w' ∧ (∀ b arr, RO b = some arr → RO' b = some arr) ∧ (∀ b arr, RO' b = some arr → RO b = none → w.heap.size ≤ b) ∧ RoOk RO' w') := by
      intro v hv hD
      obtain ⟨cv, R2, g1, g2, g3, g4, g5⟩ := finish_sound hv h1
      refine ⟨h2, cv, g1, v, cv, R2, rfl, hD, g2, ⟨h1.sr.os, h1.sr.tape, h1.sr.output, h1.sr.size, fun k hk => h1.sr.kept k hk (fun h => h)⟩, fun b arr hb => g3 b arr (h1.sr.fix b arr hb), fun b arr hb hn => ?_, g4⟩
      rcases g5 b arr hb with e | e | e
      · rw [hn] at e; cases e
      · exact e
      · exact e.elim
    cases e with
    | normal =>
      simp only at hk
      split at hk
      · rename_i v hv; exact key v hv hk
      · cases hk
    | exit i => cases hk
    | ret =>
      simp only at hk
      split at hk
      · rename_i v hv; exact key v hv hk
      · cases hk
  · cases h
/-- A function whose result holds a list of its own. -/
theorem own_ok (hΓ : ∀ g S, Γ.sums g = some S → S.Ok Γ.P g) (hm : Γ.P.follows .mixedOrders = true) {f : FuncId} {fn : Func} (hf : Γ.P.funcs[f]? = some fn) {k : Nat} {l : List AV} {D : AV → Ob → Option R} {r : R} (h : evW Γ k fn l D = some r)
    {w : World} {cargs : Array Value} (hro : RoOk RO w) (hcr : CR (fun _ => none) RO noHp l cargs.toList) :
    Calls Γ.P f cargs w fun e w' => ∃ v ob cv RO', e = .returned cv ∧ D v ob = some r ∧ Owned w w' ob v cv RO' ∧ Below w.heap.size w w' ∧ (∀ b arr, RO b = some arr → RO' b = some arr) ∧ (∀ b arr, RO' b = some arr → RO b = none → w.heap.size ≤ b) ∧ RoOk RO' w' := by
  unfold evW at h
  split at h
  · rename_i c hb
    have hsz : l.length = cargs.size := by simpa using hcr.1
    have hinit : SS w (fun _ => False) RO (fun _ => none) RO (initS fn l) { tmps := cargs ++ Array.replicate (fn.ntmps - cargs.size) undef, defers := [] } w := by
      refine ⟨⟨rfl, rfl, rfl, Nat.le_refl _, fun _ _ _ => rfl, fun o ob hl => ?_, fun o o' ob ob' b m m' hl => ?_, hro, fun b arr hb => .inl hb, fun _ _ h => h, .none fun o => by simp [initS, hp, Ent.kind]⟩, ?_⟩
      · simp [initS, hp] at hl
      · simp [initS, hp] at hl
      · show CR _ _ _ _ _
        simp only [initS, Array.toList_append, Array.toList_replicate, hsz]
        refine (hcr.closed _ _).append ?_
        refine ⟨by simp, fun k c v h1 h2 => ?_⟩
        rw [List.getElem?_replicate] at h1 h2
        split at h1 <;> simp_all
        obtain ⟨rfl, rfl⟩ := And.intro h1 h2
        exact .undefA
    refine calls_of_wp hf hb (ev_sound hΓ hm k c 0 h hinit rfl fun e s' ρ' RO' a' w' hk h1 h2 => ?_)
    have key : (match resultsOf Γ.P s' fn.results.toList with
      | some l => match idsL l with
        | [o] => match hp s'.H o with
          | .live ob => D (ren (pick0 o) (packA l)) { ob with get := fun i => cloL (ob.get i), lit := none }
          | _ => none
        | _ => none
      | none => none) = some r → a'.defers = [] ∧ ∃ cv, (results fn a'.tmps).run Γ.P w' = .ok cv w' ∧ (∃ v ob cv' RO', Ending.returned cv = .returned cv' ∧ D v ob = some r ∧ Owned w w' ob v cv' RO' ∧ Below w.heap.size w w' ∧ (∀ b arr, RO b = some arr → RO' b = some arr) ∧ (∀ b arr, RO' b = some arr → RO b = none → w.heap.size ≤ b) ∧ RoOk RO' w') := by
      intro hk
      split at hk
      · rename_i l2 hl2
        split at hk
        · rename_i o ho
          split at hk
          · rename_i ob hob
            obtain ⟨vs, g1, g2⟩ := results_run h1 _ hl2
            have hrun : (results fn a'.tmps).run Γ.P w' = .ok (if h : vs.toArray.size = 1 then vs.toArray[0] else .tuple vs.toArray) w' := by
              rw [results_eq, Array.mapM_eq_mapM_toList]
              simp [Sem.run_bind, g1]
            have hv : VR ρ' RO' (hp s'.H) (packA l2) (if h : vs.toArray.size = 1 then vs.toArray[0] else .tuple vs.toArray) := by
              cases l2 with
              | nil =>
                have : vs = [] := List.eq_nil_of_length_eq_zero g2.1.symm
                subst this
                exact g2.tup'
              | cons x r =>
                cases vs with
                | nil => have := g2.1; simp at this
                | cons y q =>
                  cases r with
                  | nil =>
                    have : q = [] := by have := g2.1; simp at this; exact this.symm ▸ rfl
                    subst this
                    exact g2.2 0 x y rfl rfl
                  | cons x2 r2 =>
                    have hq : ¬ (y :: q).toArray.size = 1 := by have := g2.1; simp at this ⊢; intro e; subst e; simp at this
                    rw [dif_neg hq]
                    exact g2.tup'
            have pk : ∀ {x k : Nat}, pick0 o x = some k → x = o ∧ k = 0 := fun {x k} e => by
              unfold pick0 at e
              split at e
              · rename_i hx; cases e; exact ⟨Nat.eq_of_beq_eq_true hx, rfl⟩
              · cases e
            have l0 : hp [Ent.live { ob with get := fun i => cloL (ob.get i), lit := none }] 0 = .live { ob with get := fun i => cloL (ob.get i), lit := none } := rfl
            have hren : VR (fun _ => ρ' o) RO' (hp [.live { ob with get := fun i => cloL (ob.get i), lit := none }]) (ren (pick0 o) (packA l2)) (if h : vs.toArray.size = 1 then vs.toArray[0] else .tuple vs.toArray) := by
              refine hv.renW (fun {x k ob'} e hl => ?_) (fun {x k} e _ => ?_) (fun x k e => ?_) fun {x k} e h3 => ?_
              · obtain ⟨rfl, rfl⟩ := pk e
                rw [l0] at hl
                cases hl
                exact ⟨ob, hob, rfl, rfl⟩
              · obtain ⟨rfl, rfl⟩ := pk e
                rw [l0]; exact fun e => by cases e
              · obtain ⟨rfl, rfl⟩ := pk e
                rfl
              · obtain ⟨rfl, rfl⟩ := pk e
                rw [l0] at h3; exact absurd rfl h3
            refine ⟨h2, _, hrun, _, _, _, RO', rfl, hk, ⟨ρ' o, hren, ?_⟩, ⟨h1.sr.os, h1.sr.tape, h1.sr.output, h1.sr.size, fun k hk => h1.sr.kept k hk (fun h => h)⟩, fun b arr hb => h1.sr.fix b arr hb, fun b arr hb hn => ?_, h1.sr.ro⟩
            · rcases h1.sr.obj o ob hob with ⟨q1, q2⟩ | ⟨b, m, arr, q1, q2, q3, q4, q5, q6, q7, q8, q9⟩
              · exact .inl ⟨q1, q2⟩
              · refine .inr ⟨b, arr, by rw [q1, q5], q2, ?_, q4, ⟨by rw [q5]; exact q6, fun i hi => ?_, fun i k a v hi e1 e2 => ?_, q9⟩⟩
                · rcases q3 with q3 | q3
                  · exact q3
                  · exact q3.elim
                · show (cloL (ob.get i)).length = ob.sz
                  rw [cloL_length]; exact q7 i hi
                · have e1' : (cloL (ob.get i))[k]? = some a := e1
                  rw [cloL_get] at e1'
                  cases hk' : (ob.get i)[k]? with
                  | none => rw [hk'] at e1'; cases e1'
                  | some c =>
                    rw [hk'] at e1'
                    cases e1'
                    exact (VR.clo (q8 i k c v hi hk' e2)).closed _ _
            · rcases h1.sr.old b arr hb with e | e | e
              · rw [hn] at e; cases e
              · exact e
              · exact e.elim
          · cases hk
        · cases hk
      · cases hk
    cases e with
    | normal => exact key hk
    | exit i => cases hk
    | ret => exact key hk
  · cases h
/-- A function that is handed a list of the caller's own. -/
theorem take_ok (hΓ : ∀ g S, Γ.sums g = some S → S.Ok Γ.P g) (hm : Γ.P.follows .mixedOrders = true) {f : FuncId} {fn : Func} (hf : Γ.P.funcs[f]? = some fn) {k : Nat} {ty : TypeId} {sz n : Nat} {g : Nat → List AV} {rest : List AV} {D : AV → Ob → Option R} {r : R} (h : evT Γ k fn ⟨true, ty, sz, n, g, none⟩ rest D = some r)
    {w : World} {pl : Option Pl} {v0 : Value} {cargs : Array Value} (hro : RoOk RO w) (hpl : (pl = none ∧ n = 0) ∨ ∃ b arr, pl = some ⟨b, arr.size⟩ ∧ RO b = none ∧ CellsAt w b arr ty ∧ ObR (fun _ => none) RO noHp ⟨true, ty, sz, n, g, none⟩ arr)
    (hv0 : VR (fun _ => pl) RO (hp [.live ⟨true, ty, sz, n, g, none⟩]) (.slc 0 0 none none) v0) (hcr : CR (fun _ => none) RO noHp rest cargs.toList) :
    Calls Γ.P f (#[v0] ++ cargs) w fun e w' => ∃ ob cv RO' pl', e = .returned cv ∧ D (.slc 0 0 none none) ob = some r ∧ VR (fun _ => pl') RO' (hp [.live ob]) (.slc 0 0 none none) cv ∧
      ((pl' = none ∧ ob.n = 0) ∨ ∃ b arr, pl' = some ⟨b, arr.size⟩ ∧ RO' b = none ∧ (w.heap.size ≤ b ∨ ∃ m, pl = some ⟨b, m⟩) ∧ CellsAt w' b arr ob.ty ∧ ObR (fun _ => none) RO' noHp ob arr) ∧ Moved w w' pl RO RO' := by
  unfold evT at h
  split at h
  · rename_i c hb
    have hsz : rest.length = cargs.size := by simpa using hcr.1
    have hobj : ∀ o x, hp [Ent.live (⟨true, ty, sz, n, g, none⟩ : Ob)] o = .live x → o = 0 ∧ x = ⟨true, ty, sz, n, g, none⟩ := fun o x hx => by
      cases o with
      | zero => simp [hp] at hx; exact ⟨rfl, hx.symm⟩
      | succ o => simp [hp] at hx
    have hinit : SS w (fun k => ∃ m, pl = some ⟨k, m⟩) RO (fun _ => pl) RO ⟨.slc 0 0 none none :: rest ++ List.replicate (fn.ntmps - (rest.length + 1)) undefA, [.live ⟨true, ty, sz, n, g, none⟩]⟩
        { tmps := (#[v0] ++ cargs) ++ Array.replicate (fn.ntmps - (#[v0] ++ cargs).size) undef, defers := [] } w := by
      refine ⟨⟨rfl, rfl, rfl, Nat.le_refl _, fun _ _ _ => rfl, fun o x hl => ?_, fun o o' x x' b m m' hl hl' _ _ => ?_, hro, fun b arr hb => .inl hb, fun _ _ h => h, .none fun o => (by cases o with | zero => rfl | succ o => simp [hp, Ent.kind])⟩, ?_⟩
      · obtain ⟨rfl, rfl⟩ := hobj o x hl
        rcases hpl with ⟨p1, p2⟩ | ⟨b, arr, p1, p2, p3, p4⟩
        · exact .inl ⟨p1, p2⟩
        · exact .inr ⟨b, arr.size, arr, p1, p2, .inr ⟨_, p1⟩, p3, rfl, p4.1, p4.2.1, fun i k c v hi e1 e2 => (p4.2.2.1 i k c v hi e1 e2).closed _ _, p4.2.2.2⟩
      · rw [(hobj o x hl).1, (hobj o' x' hl').1]
      · show CR _ _ _ _ _
        simp only [Array.toList_append, Array.toList_replicate, List.cons_append]
        have hs2 : (#[v0] ++ cargs).size = rest.length + 1 := by simp; omega
        rw [hs2]
        refine .cons hv0 ((hcr.closed _ _).append ?_)
        refine ⟨by simp, fun k c v h1 h2 => ?_⟩
        rw [List.getElem?_replicate] at h1 h2
        split at h1
        · cases h1
          split at h2
          · cases h2; exact .undefA
          · rename_i g1 g2; exact absurd g1 g2
        · cases h1
    refine calls_of_wp hf hb (ev_sound hΓ hm k c 0 h hinit rfl fun e s' ρ' RO' a' w' hk h1 h2 => ?_)
    have key : (match resultsOf Γ.P s' fn.results.toList with
        | some [.slc q 0 n' _] => match hp s'.H q with
          | .live ob' => D (.slc 0 0 none none) { ob' with n := slcLen n' ob'.n 0, get := fun i => cloL (ob'.get i), lit := none }
          | _ => none
        | _ => none) = some r → a'.defers = [] ∧ ∃ cv, (results fn a'.tmps).run Γ.P w' = .ok cv w' ∧ (∃ ob cv' RO' pl', Ending.returned cv = .returned cv' ∧ D (.slc 0 0 none none) ob = some r ∧ VR (fun _ => pl') RO' (hp [.live ob]) (.slc 0 0 none none) cv' ∧
          ((pl' = none ∧ ob.n = 0) ∨ ∃ b arr, pl' = some ⟨b, arr.size⟩ ∧ RO' b = none ∧ (w.heap.size ≤ b ∨ ∃ m, pl = some ⟨b, m⟩) ∧ CellsAt w' b arr ob.ty ∧ ObR (fun _ => none) RO' noHp ob arr) ∧ Moved w w' pl RO RO') := by
      intro hk
      split at hk
      · rename_i q n' cap' hl
        split at hk
        · rename_i ob' hq
          obtain ⟨vs, g1, g2⟩ := results_run h1 _ hl
          obtain ⟨cv, rfl⟩ : ∃ cv, vs = [cv] := by
            have := g2.1
            match vs, this with
            | [cv], _ => exact ⟨cv, rfl⟩
          have hrun : (results fn a'.tmps).run Γ.P w' = .ok cv w' := by
            rw [results_eq, Array.mapM_eq_mapM_toList]
            simp [Sem.run_bind, g1]
          have hvc := g2.2 0 _ cv rfl rfl
          have hM : Moved w w' pl RO RO' := ⟨h1.sr.os, h1.sr.tape, h1.sr.output, h1.sr.size, fun k hk hne => h1.sr.kept k hk (fun ⟨m, e⟩ => hne m e), h1.sr.fix, fun c z hc hn => by
            rcases h1.sr.old c z hc with e | e | e
            · rw [hn] at e; cases e
            · exact .inl e
            · exact .inr e, h1.sr.ro⟩
          have one : ∀ x, hp [Ent.live ({ ob' with n := slcLen n' ob'.n 0, get := fun i => cloL (ob'.get i), lit := none } : Ob)] 0 = .live x → x = { ob' with n := slcLen n' ob'.n 0, get := fun i => cloL (ob'.get i), lit := none } := fun x hx => by simp [hp] at hx; exact hx.symm
          refine ⟨h2, cv, hrun, { ob' with n := slcLen n' ob'.n 0, get := fun i => cloL (ob'.get i), lit := none }, cv, RO', ρ' q, rfl, hk, ?_, ?_, hM⟩
          · cases hvc with
            | slc _ _ _ m _ _ b off c g0 gn gk gc hq2 =>
              obtain ⟨q1, q2, q3, mm, q4, q5⟩ := hq2 ob' hq
              refine .slc _ 0 0 m none none b off c (by simp [hp]) gn (fun y hy => by cases hy) (fun y hy => by cases hy) fun x hx => ?_
              obtain rfl := one x hx
              have e1 : slcLen n' ob'.n 0 = m := slcLen_eq q2 gk
              exact ⟨by show 0 + m ≤ slcLen n' ob'.n 0; omega, fun _ => by show 0 + m = slcLen n' ob'.n 0; omega, q3, mm, q4, q5⟩
            | slc0 _ _ _ _ a0 g0 gk gc hq2 =>
              obtain ⟨q1, q2⟩ := hq2 ob' hq
              refine .slc0 _ 0 none none a0 (by simp [hp]) (fun y hy => by cases hy) (fun y hy => by cases hy) fun x hx => ?_
              obtain rfl := one x hx
              exact ⟨slcLen_eq (fun _ => by omega) (fun z hz => (gk z hz).symm), q2⟩
          · rcases h1.sr.obj q ob' hq with ⟨p1, p2⟩ | ⟨b, m, arr, p1, p2, p3, p4, p5, p6, p7, p8, p9⟩
            · refine .inl ⟨p1, ?_⟩
              show slcLen n' ob'.n 0 = 0
              cases hvc with
              | slc _ _ _ m _ _ b off c g0 gn gk gc hq2 =>
                obtain ⟨q1, q2, q3, mm, q4, q5⟩ := hq2 ob' hq
                rw [p1] at q4; cases q4
              | slc0 _ _ _ _ a0 g0 gk gc hq2 => exact slcLen_eq (fun _ => by omega) (fun z hz => (gk z hz).symm)
            · subst p5
              have hle : slcLen n' ob'.n 0 ≤ ob'.n := by
                cases hvc with
                | slc _ _ _ m _ _ b off c g0 gn gk gc hq2 =>
                  obtain ⟨q1, q2, q3, mm, q4, q5⟩ := hq2 ob' hq
                  rw [slcLen_eq q2 gk]; omega
                | slc0 _ _ _ _ a0 g0 gk gc hq2 =>
                  rw [slcLen_eq (n := 0) (fun _ => by have := (hq2 ob' hq).1; omega) (fun z hz => (gk z hz).symm)]; omega
              have hmul := Nat.mul_le_mul_right ob'.sz hle
              refine .inr ⟨b, arr, p1, p2, p3, p4, ?_, fun i hi => ?_, fun i k c v hi e1 e2 => ?_, fun j v hj hv => p9 j v (by show j < ob'.n * ob'.sz; have hj' : j < slcLen n' ob'.n 0 * ob'.sz := hj; omega) hv⟩
              · show slcLen n' ob'.n 0 * ob'.sz ≤ arr.size; omega
              · show (cloL (ob'.get i)).length = ob'.sz
                rw [cloL_length]; exact p7 i (Nat.lt_of_lt_of_le hi hle)
              · have e1' : (cloL (ob'.get i))[k]? = some c := e1
                rw [cloL_get] at e1'
                cases hq3 : (ob'.get i)[k]? with
                | none => simp [hq3] at e1'
                | some d => simp [hq3] at e1'; subst e1'; exact ((p8 i k d v (Nat.lt_of_lt_of_le hi hle) hq3 e2).clo).closed _ _
        · cases hk
      · cases hk
    cases e with
    | normal => exact key hk
    | exit i => cases hk
    | ret => exact key hk
  · cases h
end
end Go.Proofs.Ytbcnifnmccaleaa.Fw
