/- Functions whose result holds several lists of the caller's own; what is handed over as one goes into it. -/
import Derived.Test.YtbcnifnmccaleaaFwW
namespace Go.Proofs.Ytbcnifnmccaleaa.Fw
open Go Go.RowKit
set_option linter.unusedVariables false
set_option linter.unusedSimpArgs false

/-- Where a number stands in a list. -/
def posF : List Nat → Nat → Option Nat
  | [], _ => none
  | a :: r, x => match Nat.beq a x with
    | true => some 0
    | false => match posF r x with
      | some k => some (k + 1)
      | none => none
def memB : List Nat → Nat → Bool
  | [], _ => false
  | a :: r, x => Nat.beq a x || memB r x
def nodupB : List Nat → Bool
  | [] => true
  | a :: r => !(memB r a) && nodupB r
def liveObs (H : List Ent) : List Nat → Option (List Ob)
  | [] => some []
  | o :: r => match hp H o with
    | .live ob => match liveObs H r with
      | some l => some (ob :: l)
      | none => none
    | _ => none
section
variable (Γ : Ctx) {R : Type}
/-- What a function gives whose result holds lists of its own, and these lists, decoded. -/
noncomputable def evM (k : Nat) (fn : Func) (args : List AV) (ext : St → List Nat) (D : AV → List Ob → Option R) : Option R :=
  match fn.body with
  | some c => ev Γ k c 0 (initS fn args) fun e s => match e with
    | .exit _ => none
    | _ => match resultsOf Γ.P s fn.results.toList with
      | some l => match nodupB (idsL l ++ ext s) with
        | true => match liveObs s.H (idsL l ++ ext s) with
          | some obs => D (ren (posF (idsL l ++ ext s)) (packA l)) (obs.map (renOb (posF (idsL l ++ ext s))))
          | none => none
        | false => none
      | none => none
  | none => none
def kFinM (fn : Func) (ext : St → List Nat) (D : AV → List Ob → Option R) : AExit → St → Option R := fun e s =>
  match e with
  | .exit _ => none
  | _ => match resultsOf Γ.P s fn.results.toList with
    | some l => match nodupB (idsL l ++ ext s) with
      | true => match liveObs s.H (idsL l ++ ext s) with
        | some obs => D (ren (posF (idsL l ++ ext s)) (packA l)) (obs.map (renOb (posF (idsL l ++ ext s))))
        | none => none
      | false => none
    | none => none
end
theorem posF_get : ∀ {ids : List Nat} {x k : Nat}, posF ids x = some k → ids[k]? = some x
  | [], x, k, h => by cases h
  | a :: r, x, k, h => by
    unfold posF at h
    split at h
    · rename_i hb; cases h; rw [Nat.eq_of_beq_eq_true hb]; rfl
    · split at h
      · rename_i k' hk; cases h; have := posF_get hk; simpa using this
      · cases h
theorem liveObs_get {H : List Ent} : ∀ {ids : List Nat} {obs : List Ob}, liveObs H ids = some obs → obs.length = ids.length ∧ ∀ (k : Nat) o ob, ids[k]? = some o → obs[k]? = some ob → hp H o = .live ob
  | [], obs, h => by cases h; exact ⟨rfl, fun k o ob e => by cases e⟩
  | a :: r, obs, h => by
    unfold liveObs at h
    split at h
    · rename_i ob hob
      split at h
      · rename_i l hl
        cases h
        obtain ⟨h1, h2⟩ := liveObs_get hl
        refine ⟨by simp [h1], fun k o x e1 e2 => ?_⟩
        cases k with
        | zero => simp at e1 e2; subst e1; subst e2; exact hob
        | succ k => exact h2 k o x (by simpa using e1) (by simpa using e2)
      · cases h
    · cases h
theorem memB_of : ∀ {l : List Nat} {x : Nat}, x ∈ l → memB l x = true
  | a :: r, x, h => by
    unfold memB
    rcases List.mem_cons.1 h with rfl | h
    · simp
    · rw [memB_of h, Bool.or_true]
theorem nodupB_nodup : ∀ {l : List Nat}, nodupB l = true → l.Nodup
  | [], _ => .nil
  | a :: r, h => by
    unfold nodupB at h
    rw [Bool.and_eq_true] at h
    refine List.nodup_cons.2 ⟨fun hm => ?_, nodupB_nodup h.2⟩
    rw [memB_of hm] at h
    exact absurd h.1 (by simp)

theorem nodup_inj {l : List Nat} (h : l.Nodup) {i j : Nat} (hi : i < l.length) (hj : j < l.length) (e : l[i] = l[j]) : i = j := by
  have hp := List.pairwise_iff_getElem.1 h
  rcases Nat.lt_trichotomy i j with hlt | rfl | hlt
  · exact absurd e (hp i j hi hj hlt)
  · rfl
  · exact absurd e.symm (hp j i hj hi hlt)

section
variable {P : Program} {Γ : Ctx} {R : Type} {RO : RoMap}
/-- A function whose result holds lists of its own. -/
theorem mown_ok (hΓ : ∀ g S, Γ.sums g = some S → S.Ok Γ.P g) (hm : Γ.P.follows .mixedOrders = true) {f : FuncId} {fn : Func} (hf : Γ.P.funcs[f]? = some fn) {k : Nat} {l : List AV} {ext : St → List Nat} {D : AV → List Ob → Option R} {r : R} (h : evM Γ k fn l ext D = some r)
    {w : World} {cargs : Array Value} (hro : RoOk RO w) (hcr : CR (fun _ => none) RO noHp l cargs.toList) :
    Calls Γ.P f cargs w fun e w' => ∃ v obs cv RO', e = .returned cv ∧ D v obs = some r ∧ OwnedM w w' obs v cv RO' ∧ Below w.heap.size w w' ∧ (∀ b arr, RO b = some arr → RO' b = some arr) ∧ (∀ b arr, RO' b = some arr → RO b = none → w.heap.size ≤ b) ∧ RoOk RO' w' := by
  unfold evM at h
  split at h
  · rename_i c hb
    have hsz : l.length = cargs.size := by simpa using hcr.1
    have hinit : SS w (fun _ => False) RO (fun _ => none) RO (initS fn l) { tmps := cargs ++ Array.replicate (fn.ntmps - cargs.size) undef, defers := [] } w := by
      refine ⟨⟨rfl, rfl, rfl, Nat.le_refl _, fun _ _ _ => rfl, fun o ob hl => ?_, fun o o' ob ob' b m m' hl => ?_, hro, fun b arr hb => .inl hb, fun _ _ h => h, .none fun o => by simp [initS, hp, Ent.kind]⟩, ?_⟩
      · simp [initS, hp] at hl
      · simp [initS, hp] at hl
      · show CR _ _ _ _ _
        simp only [initS, Array.toList_append, Array.toList_replicate, hsz]
        refine (hcr.closed _ _).append ?_
        refine ⟨by simp, fun k c v h1 h2 => ?_⟩
        rw [List.getElem?_replicate] at h1 h2
        split at h1 <;> simp_all
        obtain ⟨rfl, rfl⟩ := And.intro h1 h2
        exact .undefA
    refine calls_of_wp hf hb (ev_sound hΓ hm k c 0 h hinit rfl fun e s' ρ' RO' a' w' hk h1 h2 => ?_)
    have key : (match resultsOf Γ.P s' fn.results.toList with
      | some l => match nodupB (idsL l ++ ext s') with
        | true => match liveObs s'.H (idsL l ++ ext s') with
          | some obs => D (ren (posF (idsL l ++ ext s')) (packA l)) (obs.map (renOb (posF (idsL l ++ ext s'))))
          | none => none
        | false => none
      | none => none) = some r → a'.defers = [] ∧ ∃ cv, (results fn a'.tmps).run Γ.P w' = .ok cv w' ∧ (∃ v obs cv' RO', Ending.returned cv = .returned cv' ∧ D v obs = some r ∧ OwnedM w w' obs v cv' RO' ∧ Below w.heap.size w w' ∧ (∀ b arr, RO b = some arr → RO' b = some arr) ∧ (∀ b arr, RO' b = some arr → RO b = none → w.heap.size ≤ b) ∧ RoOk RO' w') := by
      intro hk
      split at hk
      · rename_i l2 hl2
        generalize idsL l2 ++ ext s' = ids at hk
        split at hk
        · rename_i hnd
          split at hk
          · rename_i obs hobs
            obtain ⟨vs, g1, g2⟩ := results_run h1 _ hl2
            have hrun : (results fn a'.tmps).run Γ.P w' = .ok (if h : vs.toArray.size = 1 then vs.toArray[0] else .tuple vs.toArray) w' := by
              rw [results_eq, Array.mapM_eq_mapM_toList]
              simp [Sem.run_bind, g1]
            have hv : VR ρ' RO' (hp s'.H) (packA l2) (if h : vs.toArray.size = 1 then vs.toArray[0] else .tuple vs.toArray) := by
              cases l2 with
              | nil =>
                have : vs = [] := List.eq_nil_of_length_eq_zero g2.1.symm
                subst this
                exact g2.tup'
              | cons x r =>
                cases vs with
                | nil => have := g2.1; simp at this
                | cons y q =>
                  cases r with
                  | nil =>
                    have : q = [] := by have := g2.1; simp at this; exact this.symm ▸ rfl
                    subst this
                    exact g2.2 0 x y rfl rfl
                  | cons x2 r2 =>
                    have hq : ¬ (y :: q).toArray.size = 1 := by have := g2.1; simp at this ⊢; intro e; subst e; simp at this
                    rw [dif_neg hq]
                    exact g2.tup'
            obtain ⟨o1, o2⟩ := liveObs_get hobs
            have at' : ∀ {k : Nat} {x : Ob}, (obs.map (renOb (posF ids)))[k]? = some x → ∃ o y, ids[k]? = some o ∧ hp s'.H o = .live y ∧ x = renOb (posF ids) y := fun {k x} e => by
              rw [List.getElem?_map] at e
              cases hk : obs[k]? with
              | none => rw [hk] at e; cases e
              | some y =>
                rw [hk] at e
                cases e
                have hlt : k < ids.length := by rw [← o1]; exact (List.getElem?_eq_some_iff.1 hk).1
                exact ⟨ids[k], y, List.getElem?_eq_getElem hlt, o2 k _ y (List.getElem?_eq_getElem hlt) hk, rfl⟩
            have hpl : ∀ (x k : Nat), posF ids x = some k → (match ids[k]? with | some o => ρ' o | none => none) = ρ' x := fun x k e => by rw [posF_get e]
            have R1 : ∀ {c : AV} {v : Value}, VR ρ' RO' (hp s'.H) c v → VR (fun k => match ids[k]? with | some o => ρ' o | none => none) RO' (hp ((obs.map (renOb (posF ids))).map .live)) (ren (posF ids) c) v := fun {c v} hv => by
              refine hv.renW (fun {x k ob'} e hl => ?_) (fun {x k} e _ => ?_) hpl fun {x k} e h3 => absurd (kind_live _ k) h3
              · obtain ⟨o, y, e1, e2, rfl⟩ := at' (hp_obs hl)
                rw [posF_get e] at e1
                cases e1
                exact ⟨y, e2, rfl, rfl⟩
              · have hk := posF_get e
                have hlt : k < obs.length := by rw [o1]; exact (List.getElem?_eq_some_iff.1 hk).1
                have : (obs.map (renOb (posF ids)))[k]? = some (renOb (posF ids) obs[k]) := by rw [List.getElem?_map, List.getElem?_eq_getElem hlt]; rfl
                rw [hp_obs' this]
                exact fun e => by cases e
            refine ⟨h2, _, hrun, _, _, _, RO', rfl, hk, ⟨_, R1 hv, fun k x hx => ?_, fun k k' b m m' hk hk' e1 e2 => ?_⟩, ⟨h1.sr.os, h1.sr.tape, h1.sr.output, h1.sr.size, fun k hk => h1.sr.kept k hk (fun h => h)⟩, fun b arr hb => h1.sr.fix b arr hb, fun b arr hb hn => ?_, h1.sr.ro⟩
            · obtain ⟨o, y, e1, e2, rfl⟩ := at' hx
              simp only [e1]
              rcases h1.sr.obj o y e2 with ⟨q1, q2⟩ | ⟨b, m, arr, q1, q2, q3, q4, q5, q6, q7, q8, q9⟩
              · exact .inl ⟨q1, q2⟩
              · refine .inr ⟨b, arr, by rw [q1, q5], q2, ?_, q4, ⟨by rw [q5]; exact q6, fun i hi => ?_, fun i kk a v hi e3 e4 => ?_, q9⟩⟩
                · rcases q3 with q3 | q3
                  · exact q3
                  · exact q3.elim
                · show (renL (posF ids) (y.get i)).length = y.sz
                  rw [renL_length]; exact q7 i hi
                · have e3' : (renL (posF ids) (y.get i))[kk]? = some a := e3
                  rw [renL_get] at e3'
                  cases hk' : (y.get i)[kk]? with
                  | none => rw [hk'] at e3'; cases e3'
                  | some c =>
                    rw [hk'] at e3'
                    cases e3'
                    exact R1 (q8 i kk c v hi hk' e4)
            · have l1 : k < ids.length := by simpa [o1] using hk
              have l2 : k' < ids.length := by simpa [o1] using hk'
              rw [List.getElem?_eq_getElem l1] at e1
              rw [List.getElem?_eq_getElem l2] at e2
              simp only at e1 e2
              have lo : k < obs.length := by omega
              have lo' : k' < obs.length := by omega
              have a1 := o2 k _ _ (List.getElem?_eq_getElem l1) (List.getElem?_eq_getElem lo)
              have a2 := o2 k' _ _ (List.getElem?_eq_getElem l2) (List.getElem?_eq_getElem lo')
              have := h1.sr.inj _ _ _ _ b m m' a1 a2 e1 e2
              exact nodup_inj (nodupB_nodup hnd) l1 l2 this
            · rcases h1.sr.old b arr hb with e | e | e
              · rw [hn] at e; cases e
              · exact e
              · exact e.elim
          · cases hk
        · cases hk
      · cases hk
    cases e with
    | normal => exact key hk
    | exit i => cases hk
    | ret => exact key hk
  · cases h
end

/-- It is called with values without objects, and its lists are the caller's. -/
noncomputable def Mo.inl (M : Mo) : Inl := ⟨fun l H K => match idsL l with
  | [] => match M.dec (cloL l) with
    | some a => (M.f a).bind fun r => K (ren (shF H.length (M.obs r).length) (M.enc r)) (H ++ (M.obs r).map fun ob => .live (renOb (shF H.length (M.obs r).length) ob))
    | none => none
  | _ => none⟩
theorem hp_app (H L : List Ent) (o : Nat) : hp (H ++ L) o = if o < H.length then hp H o else hp L (o - H.length) := by
  unfold hp
  rw [List.getD_eq_getElem?_getD, List.getD_eq_getElem?_getD, List.getD_eq_getElem?_getD]
  split
  · rw [List.getElem?_append_left (by assumption)]
  · rw [List.getElem?_append_right (by omega)]
theorem Mo.inl_ok {P : Program} {f : FuncId} {M : Mo} (hM : M.Ok P f) : M.inl.Ok P f := by
  intro R l H K r h w0 w W F ρ RO cargs hS hcr
  unfold Mo.inl at h
  simp only at h
  split at h
  · split at h
    · rename_i x hx
      rw [Option.bind_eq_some_iff] at h
      obtain ⟨y, hy, hk⟩ := h
      refine (hM _ _ _ hx hy RO w cargs hS.ro ((hcr.clo).closed _ _)).mono fun e w' ⟨cv, RO', he, ⟨pl, hv, hob, hinj⟩, hb, g1, g2, g3⟩ => ?_
      obtain ⟨b1, b2⟩ := hS.below hb g1 g2 g3
      generalize M.obs y = obs at *
      generalize hf : shF H.length obs.length = f at *
      have fs : ∀ {o k : Nat}, f o = some k → o < obs.length ∧ k = H.length + o := fun {o k} e => by rw [← hf] at e; exact shF_some e
      have hat : ∀ o, o < H.length → hp (H ++ obs.map fun ob => .live (renOb f ob)) o = hp H o := fun o ho => by rw [hp_app, if_pos ho]
      have hnew : ∀ o, hp (H ++ obs.map fun ob => .live (renOb f ob)) (H.length + o) = match obs[o]? with | some ob => .live (renOb f ob) | none => .free := fun o => by
        rw [hp_app, if_neg (by omega), Nat.add_sub_cancel_left]
        unfold hp
        rw [List.getD_eq_getElem?_getD, List.getElem?_map]
        cases obs[o]? <;> rfl
      have hlive : ∀ {k x}, hp (H ++ obs.map fun ob => .live (renOb f ob)) k = .live x → (k < H.length ∧ hp H k = .live x) ∨ ∃ o ob, k = H.length + o ∧ obs[o]? = some ob ∧ x = renOb f ob := fun {k x} e => by
        by_cases hkl : k < H.length
        · exact .inl ⟨hkl, by rw [hat k hkl] at e; exact e⟩
        · have e2 : k = H.length + (k - H.length) := by omega
          rw [e2, hnew] at e
          cases ho : obs[k - H.length]? with
          | none => rw [ho] at e; cases e
          | some ob => rw [ho] at e; cases e; exact .inr ⟨_, ob, e2, ho, rfl⟩
      have E : Ext ρ RO' (hp H) (fun o => if o < H.length then ρ o else pl (o - H.length)) RO' (hp (H ++ obs.map fun ob => .live (renOb f ob))) := by
        have lt : ∀ o, hp H o ≠ .free → o < H.length := fun o ho => Classical.byContradiction fun hn => ho (by unfold hp; rw [List.getD_eq_getElem?_getD, List.getElem?_eq_none (by omega)]; rfl)
        refine ⟨fun _ _ h => h, fun o ho => ?_, fun o ho _ => ⟨by simp only [if_pos (lt o ho)], by rw [hat o (lt o ho)]⟩⟩
        have hlt := lt o ho
        rw [hat o hlt]
        exact ⟨ho, fun ob' hl => ⟨by simp only [if_pos hlt], ob', hl, rfl, rfl⟩⟩
      have R1 : ∀ {c : AV} {v : Value}, VR pl RO' (hp (obs.map .live)) c v → VR (fun o => if o < H.length then ρ o else pl (o - H.length)) RO' (hp (H ++ obs.map fun ob => .live (renOb f ob))) (ren f c) v := fun {c v} hv => by
        refine hv.renW (fun {o k ob'} e hl => ?_) (fun {o k} e _ => ?_) (fun o k e => ?_) fun {o k} e h3 => ?_
        · obtain ⟨e1, rfl⟩ := fs e
          rw [hnew, List.getElem?_eq_getElem e1] at hl
          cases hl
          exact ⟨obs[o], hp_obs' (List.getElem?_eq_getElem e1), rfl, rfl⟩
        · obtain ⟨e1, rfl⟩ := fs e
          rw [hnew, List.getElem?_eq_getElem e1]
          exact fun e => by cases e
        · obtain ⟨e1, rfl⟩ := fs e
          show (if _ then _ else _) = _
          rw [if_neg (by omega), Nat.add_sub_cancel_left]
        · obtain ⟨e1, rfl⟩ := fs e
          rw [hnew, List.getElem?_eq_getElem e1] at h3
          exact absurd rfl h3
      have hmk : ∀ k, (hp (H ++ obs.map fun ob => .live (renOb f ob)) k).kind ≠ 0 → k < H.length := fun k h3 => Classical.byContradiction fun hn => h3 (by
        have e2 : k = H.length + (k - H.length) := by omega
        rw [e2, hnew]
        cases obs[k - H.length]? <;> rfl)
      refine ⟨_, _, cv, _, RO', he, hk, R1 hv, ⟨b1.os, b1.tape, b1.output, b1.size, b1.kept, fun k x hx => ?_, fun k k' x x' b m m' hx hx' p1 p2 => ?_, b1.ro, b1.old, b1.fix, b1.mo.mono (fun _ _ h => h) (fun _ _ h _ => h) (fun k h3 => ⟨hat k (hmk k h3), by simp only [if_pos (hmk k h3)]⟩) fun _ q _ _ hq => (E.2.1 q hq).1⟩, b2.trans E⟩
      · rcases hlive hx with ⟨hkl, hx0⟩ | ⟨o, ob, rfl, ho, rfl⟩
        · rw [if_pos hkl]
          rcases b1.obj k x hx0 with q | ⟨b, m, arr, q1, q2, q3, q4, q5, q6, q7, q8, q9⟩
          · exact .inl q
          · exact .inr ⟨b, m, arr, q1, q2, q3, q4, q5, q6, q7, fun i kk c v hi e1 e2 => (q8 i kk c v hi e1 e2).ext (fun _ _ h => h) _ E, q9⟩
        · rw [if_neg (by omega), Nat.add_sub_cancel_left]
          rcases hob o ob ho with q | ⟨b, arr, q1, q2, q3, q4, q5, q6, q7, q8⟩
          · exact .inl q
          · refine .inr ⟨b, arr.size, arr, q1, q2, .inl (Nat.le_trans hS.size q3), q4, rfl, q5, fun i hi => ?_, fun i kk c v hi e1 e2 => ?_, q8⟩
            · show (renL f (ob.get i)).length = ob.sz
              rw [renL_length]; exact q6 i hi
            · have e1' : (renL f (ob.get i))[kk]? = some c := e1
              rw [renL_get] at e1'
              cases hq : (ob.get i)[kk]? with
              | none => rw [hq] at e1'; cases e1'
              | some d => rw [hq] at e1'; cases e1'; exact R1 (q7 i kk d v hi hq e2)
      · have cross : ∀ {k x o ob b m m'}, k < H.length → hp H k = .live x → ρ k = some ⟨b, m⟩ → obs[o]? = some ob → pl o = some ⟨b, m'⟩ → False := fun {k x o ob b m m'} hk hx p1 ho p2 => by
          rcases hS.obj k x hx with ⟨q, _⟩ | ⟨b', m1, arr, q1, q2, q3, q4, _⟩
          · rw [q] at p1; cases p1
          · rw [q1] at p1; cases p1
            have := q4.lt
            rcases hob o ob ho with ⟨q, _⟩ | ⟨b2, arr2, z1, z2, z3, _⟩
            · rw [q] at p2; cases p2
            · rw [z1] at p2; cases p2; omega
        rcases hlive hx with ⟨hkl, hx0⟩ | ⟨o, ob, rfl, ho, rfl⟩ <;> rcases hlive hx' with ⟨hkl', hx0'⟩ | ⟨o', ob', rfl, ho', rfl⟩
        · rw [if_pos hkl] at p1
          rw [if_pos hkl'] at p2
          exact b1.inj k k' x x' b m m' hx0 hx0' p1 p2
        · rw [if_pos hkl] at p1
          rw [if_neg (by omega), Nat.add_sub_cancel_left] at p2
          exact (cross hkl hx0 p1 ho' p2).elim
        · rw [if_neg (by omega), Nat.add_sub_cancel_left] at p1
          rw [if_pos hkl'] at p2
          exact (cross hkl' hx0' p2 ho p1).elim
        · rw [if_neg (by omega), Nat.add_sub_cancel_left] at p1 p2
          rw [hinj o o' b m m' (List.getElem?_eq_some_iff.1 ho).1 (List.getElem?_eq_some_iff.1 ho').1 p1 p2]
    · cases h
  · cases h

/-! ### A struct whose last cells are such lists -/
/-- The rows of a list, typed. -/
noncomputable def RowT.rows {β : Type} (T : RowT β) (ob : Ob) : Option (Nat × (Nat → β)) := match ob.row && Nat.beq ob.ty T.e && Nat.beq ob.sz T.sz with
  | true => rowsDec T.row T.z ob.n (fun i => cloL (ob.get i))
  | false => none
theorem RowT.rows_of {β : Type} {T : RowT β} (hT : T.row.Ok) {ob : Ob} {y : Nat × (Nat → β)} (h : T.rows ob = some y) : (T.ob y).ty = ob.ty ∧ (T.ob y).sz = ob.sz ∧ (T.ob y).n = ob.n ∧
    ∀ {pl pl' : Pm} {RO : RoMap} {H H' : Hp} {arr : Array Value}, ObR pl RO H ob arr → ObR pl' RO H' (T.ob y) arr := by
  unfold RowT.rows at h
  split at h
  · rename_i hc
    simp only [Bool.and_eq_true] at hc
    have hty := Nat.eq_of_beq_eq_true hc.1.2
    have hsz := Nat.eq_of_beq_eq_true hc.2
    unfold rowsDec at h
    split at h
    · rename_i hall
      cases h
      refine ⟨hty.symm, hsz.symm, rfl, fun {pl pl' RO H H' arr} ⟨h5, h6, h7, h8⟩ => ?_⟩
      have hC : ObR (fun _ => none) RO noHp { ob with get := fun i => cloL (ob.get i) } arr := ⟨h5, fun i hi => by
        show (cloL (ob.get i)).length = ob.sz
        rw [cloL_length]; exact h6 i hi, fun i k a v hi e1 e2 => by
        have e1' : (cloL (ob.get i))[k]? = some a := e1
        rw [cloL_get] at e1'
        cases hk : (ob.get i)[k]? with
        | none => rw [hk] at e1'; cases e1'
        | some c => rw [hk] at e1'; cases e1'; exact (VR.clo (h7 i k c v hi hk e2)).closed _ _, h8⟩
      have row : ∀ i, i < ob.n → CR (fun _ => none) RO noHp (T.row.enc ((T.row.dec (cloL (ob.get i))).getD T.z)) ((arr.toList.drop (i * ob.sz)).take ob.sz) := fun i hi => by
        obtain ⟨x, hx⟩ := hall i hi
        rw [hx]
        exact hT.ok hx (ObR.row hC hi)
      have hszs : ∀ i, i < ob.n → ((arr.toList.drop (i * ob.sz)).take ob.sz).length = ob.sz := fun i hi => by
        have := row_le (s := ob.sz) hi
        simp; omega
      refine ⟨by show ob.n * T.sz ≤ _; rw [← hsz]; exact h5, fun i hi => ?_, fun i k a v hi e1 e2 => ?_, fun j v hj hv => h8 j v (by rw [hsz]; exact hj) hv⟩
      · show (T.row.enc _).length = T.sz
        have := (row i hi).1
        rw [hszs i hi] at this
        exact this.trans hsz
      · have hlen3 : (T.row.enc ((T.row.dec (cloL (ob.get i))).getD T.z)).length = ob.sz := by have := (row i hi).1; rw [hszs i hi] at this; exact this
        have hk : k < ob.sz := by
          have := (List.getElem?_eq_some_iff.1 e1).1
          exact Nat.lt_of_lt_of_eq this hlen3
        refine ((row i hi).2 k a v e1 ?_).closed _ _
        have e2' : arr[i * T.sz + k]? = some v := e2
        rw [List.getElem?_take, if_pos hk, List.getElem?_drop, hsz]
        simpa using e2'
    · cases h
  · cases h
/-- Several lists. -/
structure ObsT (β : Type) where
  num : Nat
  dec : List Ob → Option β
  obs : β → List Ob
structure ObsT.Ok {β : Type} (T : ObsT β) : Prop where
  ok : ∀ {l : List Ob} {x : β}, T.dec l = some x → l.length = T.num ∧ (T.obs x).length = T.num ∧ ∀ (k : Nat) ob ob', l[k]? = some ob → (T.obs x)[k]? = some ob' → ob'.ty = ob.ty ∧ ob'.sz = ob.sz ∧ ob'.n = ob.n ∧
    ∀ {pl pl' : Pm} {RO : RoMap} {H H' : Hp} {arr : Array Value}, ObR pl RO H ob arr → ObR pl' RO H' ob' arr
noncomputable def oOne {β : Type} (U : RowT β) : ObsT (Nat × (Nat → β)) := ⟨1, fun | [ob] => U.rows ob | _ => none, fun x => [U.ob x]⟩
noncomputable def oCons {β γ : Type} (U : RowT β) (V : ObsT γ) : ObsT ((Nat × (Nat → β)) × γ) := ⟨V.num + 1, fun
  | ob :: r => match U.rows ob with
    | some y => match V.dec r with
      | some z => some (y, z)
      | none => none
    | none => none
  | _ => none, fun x => U.ob x.1 :: V.obs x.2⟩
theorem oOne_ok {β : Type} {U : RowT β} (hU : U.row.Ok) : (oOne U).Ok := ⟨fun {l x} h => by
  simp only [oOne] at h
  split at h
  · rename_i ob
    refine ⟨rfl, rfl, fun k ob1 ob2 e1 e2 => ?_⟩
    cases k with
    | zero => cases e1; cases e2; exact RowT.rows_of hU h
    | succ k => cases e1
  · cases h⟩
theorem oCons_ok {β γ : Type} {U : RowT β} {V : ObsT γ} (hU : U.row.Ok) (hV : V.Ok) : (oCons U V).Ok := ⟨fun {l x} h => by
  simp only [oCons] at h
  split at h
  · rename_i ob r
    split at h
    · rename_i y hy
      split at h
      · rename_i z hz
        cases h
        obtain ⟨h1, h2, h3⟩ := hV.ok hz
        refine ⟨by simp [oCons, h1], by simp [oCons, h2], fun k ob1 ob2 e1 e2 => ?_⟩
        cases k with
        | zero => cases e1; cases e2; exact RowT.rows_of hU hy
        | succ k => exact h3 k ob1 ob2 (by simpa using e1) (by simpa [oCons] using e2)
      · cases h
    · cases h
  · cases h⟩
def slcs : Nat → Nat → List AV
  | _, 0 => []
  | q, n + 1 => .slc q 0 none none :: slcs (q + 1) n
def slcsB : Nat → Nat → List AV → Bool
  | _, 0, [] => true
  | q, n + 1, .slc o 0 none none :: r => Nat.beq o q && slcsB (q + 1) n r
  | _, _, _ => false
theorem slcsB_eq : ∀ {q n : Nat} {l : List AV}, slcsB q n l = true → l = slcs q n
  | q, 0, [], _ => rfl
  | q, 0, a :: r, h => by simp [slcsB] at h
  | q, n + 1, [], h => by simp [slcsB] at h
  | q, n + 1, a :: r, h => by
    unfold slcsB at h
    split at h
    · rename_i heq; cases heq
    · rename_i heq1 heq2
      cases heq1
      cases heq2
      rw [Bool.and_eq_true] at h
      rw [Nat.eq_of_beq_eq_true h.1, slcsB_eq h.2]
      rfl
    · cases h
theorem slcs_len : ∀ (q n : Nat), (slcs q n).length = n
  | _, 0 => rfl
  | q, n + 1 => by simp [slcs, slcs_len]
theorem slcs_get : ∀ {q n k : Nat} {a : AV}, (slcs q n)[k]? = some a → k < n ∧ a = .slc (q + k) 0 none none
  | q, 0, k, a, h => by cases h
  | q, n + 1, 0, a, h => by cases h; exact ⟨by omega, rfl⟩
  | q, n + 1, k + 1, a, h => by
    obtain ⟨h1, h2⟩ := slcs_get (q := q + 1) (n := n) (k := k) (by simpa [slcs] using h)
    exact ⟨by omega, by rw [h2]; congr 1; omega⟩
structure WsT (α β : Type) where
  pre : TyL α
  os : ObsT β
noncomputable def WsT.dec {α β : Type} (T : WsT α β) (v : AV) (obs : List Ob) : Option (α × β) := match v with
  | .agg cs => match slcsB 0 T.os.num (cs.drop (cs.length - T.os.num)) with
    | true => match T.pre.dec (cloL (cs.take (cs.length - T.os.num))) with
      | some x => match T.os.dec obs with
        | some y => some (x, y)
        | none => none
      | none => none
    | false => none
  | _ => none
def WsT.enc {α β : Type} (T : WsT α β) (x : α × β) : AV := .agg (T.pre.enc x.1 ++ slcs 0 T.os.num)
def WsT.obs {α β : Type} (T : WsT α β) (x : α × β) : List Ob := T.os.obs x.2
structure WsT.Ok {α β : Type} (T : WsT α β) : Prop where
  pre : T.pre.Ok
  os : T.os.Ok
theorem WsT.owned {α β : Type} {T : WsT α β} (hT : T.Ok) {v : AV} {obs : List Ob} {x : α × β} (hd : T.dec v obs = some x) {w w' : World} {cv : Value} {RO : RoMap} (h : OwnedM w w' obs v cv RO) : OwnedM w w' (T.obs x) (T.enc x) cv RO := by
  unfold WsT.dec at hd
  split at hd
  · rename_i cs
    split at hd
    · rename_i hs
      split at hd
      · rename_i y hy
        split at hd
        · rename_i z hz
          cases hd
          obtain ⟨pl, hv, hob, hinj⟩ := h
          obtain ⟨n1, n2, n3⟩ := hT.os.ok hz
          have e1 := slcsB_eq hs
          have hlen : cs.length - T.os.num + T.os.num = cs.length := by
            have := congrArg List.length e1
            rw [slcs_len, List.length_drop] at this
            omega
          have hobs' : T.obs (y, z) = T.os.obs z := rfl
          refine ⟨pl, ?_, fun k ob' hk => ?_, fun o o' b m m' h1 h2 => hinj o o' b m m' (by rw [n1]; rw [hobs', n2] at h1; exact h1) (by rw [n1]; rw [hobs', n2] at h2; exact h2)⟩
          · cases hv with
            | agg _ _ vs hl hh =>
              have hcr : CR pl RO (hp (obs.map .live)) (cs.take (cs.length - T.os.num)) (vs.toList.take (cs.length - T.os.num)) := ⟨by simp; omega, fun k c v e1 e2 => by
                rw [List.getElem?_take] at e1 e2
                split at e1
                · rename_i hlt
                  rw [if_pos hlt] at e2
                  exact hh k c v e1 (by simpa using e2)
                · cases e1⟩
              have hpre := hT.pre.ok hy ((hcr.clo).closed (fun _ => none) noHp)
              have hlen2 : (T.pre.enc y).length = cs.length - T.os.num := by have := hpre.1; simp at this; omega
              refine .agg _ _ vs (by show (T.pre.enc y ++ slcs 0 T.os.num).length = _; rw [List.length_append, slcs_len, hlen2]; omega) fun k c v e2 e3 => ?_
              have e2' : (T.pre.enc y ++ slcs 0 T.os.num)[k]? = some c := e2
              by_cases hk : k < cs.length - T.os.num
              · rw [List.getElem?_append_left (by omega)] at e2'
                exact (hpre.2 k c v e2' (by rw [List.getElem?_take, if_pos hk]; simpa using e3)).closed _ _
              · rw [List.getElem?_append_right (by omega), hlen2] at e2'
                obtain ⟨q1, q2⟩ := slcs_get e2'
                have hold := hh k (.slc (0 + (k - (cs.length - T.os.num))) 0 none none) v (by
                  have := e2'
                  rw [← e1, List.getElem?_drop] at this
                  rw [q2] at this
                  rw [← this]; congr 1; omega) e3
                rw [q2]
                generalize 0 + (k - (cs.length - T.os.num)) = q at hold
                have ht : ∀ {ob2}, hp ((T.obs (y, z)).map .live) q = .live ob2 → ∃ ob, hp (obs.map .live) q = .live ob ∧ ob2.sz = ob.sz ∧ ob2.n = ob.n := fun {ob2} hl2 => by
                  have g2 := hp_obs hl2
                  have hlt : q < obs.length := by have := (List.getElem?_eq_some_iff.1 g2).1; rw [hobs', n2] at this; omega
                  have g1 : obs[q]? = some obs[q] := List.getElem?_eq_getElem hlt
                  obtain ⟨_, s2, s3, _⟩ := n3 q _ _ g1 g2
                  exact ⟨_, hp_obs' g1, s2, s3⟩
                have nf : hp (obs.map .live) q ≠ .free → hp ((T.obs (y, z)).map .live) q ≠ .free := fun h0 => by
                  have hlt : q < obs.length := Classical.byContradiction fun hn => h0 (by unfold hp; rw [List.getD_eq_getElem?_getD, List.getElem?_eq_none (by simp; omega)]; rfl)
                  have hlt2 : q < (T.obs (y, z)).length := by rw [hobs', n2]; omega
                  rw [hp_obs' (List.getElem?_eq_getElem hlt2)]
                  exact fun e => by cases e
                cases hold with
                | slc _ _ _ _ _ _ b off c h0 hn hk hcap hq =>
                  refine .slc _ _ _ _ _ _ b off c (nf h0) hn hk hcap fun ob2 h2 => ?_
                  obtain ⟨ob, f1, f2, f3⟩ := ht h2
                  obtain ⟨q1, q2, q3, m, q4, q5⟩ := hq ob f1
                  exact ⟨by omega, fun hh => by have := q2 hh; omega, by rw [f2]; exact q3, m, q4, by rw [f2]; exact q5⟩
                | slc0 _ _ _ _ a0 h0 hk hcap hq =>
                  refine .slc0 _ _ _ _ a0 (nf h0) hk hcap fun ob2 h2 => ?_
                  obtain ⟨ob, f1, f2, f3⟩ := ht h2
                  obtain ⟨q1, q2⟩ := hq ob f1
                  exact ⟨by omega, q2⟩
          · have hlt : k < obs.length := by have := (List.getElem?_eq_some_iff.1 hk).1; rw [hobs', n2] at this; omega
            have g1 : obs[k]? = some obs[k] := List.getElem?_eq_getElem hlt
            obtain ⟨s1, s2, s3, s4⟩ := n3 k _ _ g1 hk
            rcases hob k _ g1 with ⟨q1, q2⟩ | ⟨b, arr, q1, q2, q3, q4, q5⟩
            · exact .inl ⟨q1, by omega⟩
            · exact .inr ⟨b, arr, q1, q2, q3, by rw [s1]; exact q4, s4 q5⟩
        · cases hd
      · cases hd
    · cases hd
  · cases hd
/-- A function whose result is a struct, the last cells of which are lists of its own. -/
noncomputable def Summ.mkM (M : Mo) : Summ := { A := Empty, R := Empty, dec := fun _ => none, f := fun _ => none, enc := fun _ => .top, inl := some M.inl, mo := some M }
noncomputable def moW {α β γ : Type} (T : TyL α) (U : WsT β γ) (f : α → Option (β × γ)) : Mo := ⟨α, β × γ, T.dec, f, U.enc, U.obs⟩
theorem msumm_ok {P : Program} {l : List (Nat × Summ)} {hint : Nat → LHint} {α β γ : Type} {T : TyL α} {U : WsT β γ} {f : α → Option (β × γ)} {n : FuncId} {fn : Func} (k : α → Nat) (hl : SumsOk P l) (hm : P.follows .mixedOrders = true)
    (hf : P.funcs[n]? = some fn) (hn : (fn.name == "runtime.NumGoroutine") = false) (hb : fn.body.isNone = false) (hT : T.Ok) (hU : U.Ok)
    (he : ∀ x, f x = evM ⟨P, sumAt l, hint, true⟩ (k x) fn (T.enc x) (fun _ => []) U.dec) : (Summ.mkM (moW T U f)).Ok P n := by
  have hM : (moW T U f).Ok P n := fun as x r hd hr RO w cargs hro hcr => by
    have h1 : evM ⟨P, sumAt l, hint, true⟩ (k x) fn (T.enc x) (fun _ => []) U.dec = some r := (he x).symm.trans hr
    have hcr' := hT.ok hd hcr
    refine (mown_ok (Γ := ⟨P, sumAt l, hint, true⟩) hl.sumAt hm hf h1 hro hcr').mono fun e w' ⟨v, obs, cv, RO', h2, h3, h4, h5, h6, h7, h8⟩ => ?_
    exact ⟨cv, RO', h2, WsT.owned hU h3 h4, h5, h6, h7, h8⟩
  refine ⟨⟨fn, hf, hn, hb⟩, ?_, fun I h => ?_, (fun T h => nomatch (show (none : Option Tk) = some T from h)), fun M h => ?_⟩
  · dsimp only [Summ.mkM]
    intro as x
    exact x.elim
  · have e : some (moW T U f).inl = some I := h
    cases e
    intro R
    exact Mo.inl_ok hM (R := R)
  · have e : some (moW T U f) = some M := h
    cases e
    exact hM
/-! ### A struct whose last cells are such lists; the last row of the first one ends in a name of the last one -/
/-- A row but its end, if that names object q. -/
def lastS (q : Nat) (l : List AV) : Option (List AV) := match slcsB q 1 (l.drop (l.length - 1)) with
  | true => some (l.take (l.length - 1))
  | false => none
structure DeepT (α β γ δ : Type) where
  pre : TyL α
  U : RowT β
  L : TyL γ
  V : ObsT δ
noncomputable def DeepT.lastDec {α β γ δ : Type} (T : DeepT α β γ δ) (ob : Ob) : Option ((Nat × (Nat → β)) × γ) := match ob.row && Nat.beq ob.ty T.U.e && Nat.beq ob.sz T.U.sz with
  | true => match ob.n with
    | m + 1 => match rowsDec T.U.row T.U.z m (fun i => cloL (ob.get i)) with
      | some y => match lastS T.V.num (ob.get m) with
        | some l => match T.L.dec (cloL l) with
          | some z => some (y, z)
          | none => none
        | none => none
      | none => none
    | 0 => none
  | false => none
noncomputable def DeepT.dec {α β γ δ : Type} (T : DeepT α β γ δ) (v : AV) (obs : List Ob) : Option (α × ((Nat × (Nat → β)) × γ) × δ) := match v with
  | .agg cs => match slcsB 0 T.V.num (cs.drop (cs.length - T.V.num)) with
    | true => match T.pre.dec (cloL (cs.take (cs.length - T.V.num))) with
      | some x => match obs with
        | ob :: rest => match T.lastDec ob with
          | some b => match T.V.dec rest with
            | some d => some (x, b, d)
            | none => none
          | none => none
        | [] => none
      | none => none
    | false => none
  | _ => none
def DeepT.enc {α β γ δ : Type} (T : DeepT α β γ δ) (x : α × ((Nat × (Nat → β)) × γ) × δ) : AV := .agg (T.pre.enc x.1 ++ slcs 0 T.V.num)
def DeepT.ob {α β γ δ : Type} (T : DeepT α β γ δ) (b : (Nat × (Nat → β)) × γ) : Ob := ⟨true, T.U.e, T.U.sz, b.1.1 + 1, fun i => if i = b.1.1 then T.L.enc b.2 ++ slcs T.V.num 1 else T.U.row.enc (b.1.2 i), none⟩
def DeepT.obs {α β γ δ : Type} (T : DeepT α β γ δ) (x : α × ((Nat × (Nat → β)) × γ) × δ) : List Ob := T.ob x.2.1 :: T.V.obs x.2.2
structure DeepT.Ok {α β γ δ : Type} (T : DeepT α β γ δ) : Prop where
  pre : T.pre.Ok
  U : T.U.row.Ok
  L : T.L.Ok
  V : T.V.Ok
/-- The first cells of a row, and its end. -/
theorem row_ends {α : Type} {T : TyL α} (hT : T.Ok) {cs : List AV} {n q0 : Nat} {x : α} {vs : List Value} {pl : Pm} {RO : RoMap} {H H' : Hp} (hs : cs.drop (cs.length - n) = slcs q0 n) (hd : T.dec (cloL (cs.take (cs.length - n))) = some x)
    (h : CR pl RO H cs vs) (tr : ∀ q v, q0 ≤ q → q < q0 + n → VR pl RO H (.slc q 0 none none) v → VR pl RO H' (.slc q 0 none none) v) : CR pl RO H' (T.enc x ++ slcs q0 n) vs := by
  have hlen : cs.length - n + n = cs.length := by
    have := congrArg List.length hs
    rw [slcs_len, List.length_drop] at this
    omega
  have hcr : CR pl RO H (cs.take (cs.length - n)) (vs.take (cs.length - n)) := ⟨by have := h.1; simp; omega, fun k c v e1 e2 => by
    rw [List.getElem?_take] at e1 e2
    split at e1
    · rename_i hlt
      rw [if_pos hlt] at e2
      exact h.2 k c v e1 e2
    · cases e1⟩
  have hpre := hT.ok hd ((hcr.clo).closed (fun _ => none) noHp)
  have hvl := h.1
  have hlen2 : (T.enc x).length = cs.length - n := by have := hpre.1; simp at this; omega
  refine ⟨by rw [List.length_append, slcs_len, hlen2]; omega, fun k c v e2 e3 => ?_⟩
  by_cases hk : k < cs.length - n
  · rw [List.getElem?_append_left (by omega)] at e2
    exact (hpre.2 k c v e2 (by rw [List.getElem?_take, if_pos hk]; exact e3)).closed _ _
  · rw [List.getElem?_append_right (by omega), hlen2] at e2
    obtain ⟨q1, q2⟩ := slcs_get e2
    have hold := h.2 k (.slc (q0 + (k - (cs.length - n))) 0 none none) v (by
      have := e2
      rw [← hs, List.getElem?_drop] at this
      rw [q2] at this
      rw [← this]; congr 1; omega) e3
    rw [q2]
    exact tr _ v (by omega) (by omega) hold
theorem lastS_spec {q : Nat} {l l0 : List AV} (h : lastS q l = some l0) : l.drop (l.length - 1) = slcs q 1 ∧ l0 = l.take (l.length - 1) := by
  unfold lastS at h
  split at h
  · rename_i hb
    cases h
    exact ⟨slcsB_eq hb, rfl⟩
  · cases h
theorem DeepT.lastDec_spec {α β γ δ : Type} {T : DeepT α β γ δ} (hT : T.Ok) {ob : Ob} {b : (Nat × (Nat → β)) × γ} (h : T.lastDec ob = some b) : (T.ob b).ty = ob.ty ∧ (T.ob b).sz = ob.sz ∧ (T.ob b).n = ob.n ∧
    ∀ {pl : Pm} {RO : RoMap} {H H' : Hp} {arr : Array Value}, (∀ q v, T.V.num ≤ q → q < T.V.num + 1 → VR pl RO H (.slc q 0 none none) v → VR pl RO H' (.slc q 0 none none) v) → ObR pl RO H ob arr → ObR pl RO H' (T.ob b) arr := by
  unfold DeepT.lastDec at h
  split at h
  · rename_i hc
    simp only [Bool.and_eq_true] at hc
    have hty := Nat.eq_of_beq_eq_true hc.1.2
    have hsz := Nat.eq_of_beq_eq_true hc.2
    split at h
    · rename_i m hm
      split at h
      · rename_i y hy
        split at h
        · rename_i l hl
          split at h
          · rename_i z hz
            cases h
            unfold rowsDec at hy
            split at hy
            · rename_i hall
              cases hy
              obtain ⟨s1, rfl⟩ := lastS_spec hl
              refine ⟨hty.symm, hsz.symm, hm.symm, fun {pl RO H H' arr} tr hR => ?_⟩
              have hm' : ob.n = m + 1 := hm
              have hobn : (T.ob ((m, fun i => (T.U.row.dec (cloL (ob.get i))).getD T.U.z), z)).n = m + 1 := rfl
              have hlast : CR pl RO H' (T.L.enc z ++ slcs T.V.num 1) ((arr.toList.drop (m * ob.sz)).take ob.sz) := row_ends hT.L s1 hz (ObR.row hR (by omega)) tr
              have row : ∀ i, i < m → CR (fun _ => none) RO noHp (T.U.row.enc ((T.U.row.dec (cloL (ob.get i))).getD T.U.z)) ((arr.toList.drop (i * ob.sz)).take ob.sz) := fun i hi => by
                obtain ⟨x, hx⟩ := hall i hi
                rw [hx]
                exact hT.U.ok hx (((ObR.row hR (show i < ob.n by omega)).clo).closed _ _)
              have hszs : ∀ i, i < ob.n → ((arr.toList.drop (i * ob.sz)).take ob.sz).length = ob.sz := fun i hi => by
                have := row_le (s := ob.sz) hi
                have := hR.1
                simp; omega
              have cell : ∀ i, i < m + 1 → CR pl RO H' ((T.ob ((m, fun i => (T.U.row.dec (cloL (ob.get i))).getD T.U.z), z)).get i) ((arr.toList.drop (i * ob.sz)).take ob.sz) := fun i hi => by
                show CR pl RO H' (if i = m then _ else _) _
                split
                · rename_i e; subst e; exact hlast
                · exact (row i (by omega)).closed _ _
              have hlen : ∀ i, i < m + 1 → ((T.ob ((m, fun i => (T.U.row.dec (cloL (ob.get i))).getD T.U.z), z)).get i).length = ob.sz := fun i hi => (cell i hi).1.trans (hszs i (by omega))
              have hsz2 : (T.ob ((m, fun i => (T.U.row.dec (cloL (ob.get i))).getD T.U.z), z)).sz = ob.sz := hsz.symm
              refine ⟨by rw [hobn, hsz2, ← hm']; exact hR.1, fun i hi => by rw [hsz2]; exact hlen i hi, fun i k a v hi e1 e2 => ?_, fun j v hj hv => hR.2.2.2 j v (by rw [hobn, hsz2, ← hm'] at hj; exact hj) hv⟩
              have hk : k < ob.sz := by
                have := (List.getElem?_eq_some_iff.1 e1).1
                rw [hlen i hi] at this; exact this
              refine (cell i hi).2 k a v e1 ?_
              rw [hsz2] at e2
              rw [List.getElem?_take, if_pos hk, List.getElem?_drop]
              simpa using e2
            · cases hy
          · cases h
        · cases h
      · cases h
    · cases h
  · cases h
theorem DeepT.owned {α β γ δ : Type} {T : DeepT α β γ δ} (hT : T.Ok) {v : AV} {obs : List Ob} {x : α × ((Nat × (Nat → β)) × γ) × δ} (hd : T.dec v obs = some x) {w w' : World} {cv : Value} {RO : RoMap} (h : OwnedM w w' obs v cv RO) : OwnedM w w' (T.obs x) (T.enc x) cv RO := by
  unfold DeepT.dec at hd
  split at hd
  · rename_i cs
    split at hd
    · rename_i hs
      split at hd
      · rename_i y hy
        split at hd
        · rename_i ob rest
          split at hd
          · rename_i b hb
            split at hd
            · rename_i d hdV
              cases hd
              obtain ⟨pl, hv, hob, hinj⟩ := h
              obtain ⟨n1, n2, n3⟩ := hT.V.ok hdV
              obtain ⟨l1, l2, l3, l4⟩ := DeepT.lastDec_spec hT hb
              have e1 := slcsB_eq hs
              have hobs' : T.obs (y, b, d) = T.ob b :: T.V.obs d := rfl
              have hlen : (T.obs (y, b, d)).length = (ob :: rest).length := by rw [hobs']; simp [n1, n2]
              -- object by object
              have at' : ∀ (q : Nat) (ob2 : Ob), (T.obs (y, b, d))[q]? = some ob2 → ∃ o : Ob, (ob :: rest)[q]? = some o ∧ ob2.ty = o.ty ∧ ob2.sz = o.sz ∧ ob2.n = o.n := fun q ob2 h2 => by
                cases q with
                | zero => cases h2; exact ⟨ob, rfl, l1, l2, l3⟩
                | succ q =>
                  have h2' : (T.V.obs d)[q]? = some ob2 := by simpa [hobs'] using h2
                  have hlt : q < rest.length := by have := (List.getElem?_eq_some_iff.1 h2').1; omega
                  obtain ⟨s1, s2, s3, _⟩ := n3 q _ _ (List.getElem?_eq_getElem hlt) h2'
                  exact ⟨rest[q], by simp [List.getElem?_eq_getElem hlt], s1, s2, s3⟩
              have tr : ∀ q v, VR pl RO (hp ((ob :: rest).map .live)) (.slc q 0 none none) v → VR pl RO (hp ((T.obs (y, b, d)).map .live)) (.slc q 0 none none) v := fun q v h0 => by
                refine h0.renW (f := some) (fun {o k ob2} e hl => ?_) (fun {o k} e h1 => ?_) (fun o k e => by cases e; rfl) fun {o k} e h3 => absurd (kind_live _ k) h3
                · cases e
                  obtain ⟨o', g1, _, g2, g3⟩ := at' o ob2 (hp_obs hl)
                  exact ⟨o', hp_obs' g1, g2, g3⟩
                · cases e
                  have hlt : o < (T.obs (y, b, d)).length := by
                    rw [hlen]
                    exact Classical.byContradiction fun hn => h1 (by unfold hp; rw [List.getD_eq_getElem?_getD, List.getElem?_eq_none (by simp at hn ⊢; omega)]; rfl)
                  rw [hp_obs' (List.getElem?_eq_getElem hlt)]
                  exact fun e => by cases e
              refine ⟨pl, ?_, fun k ob' hk => ?_, fun o o' b2 m m' h1 h2 => hinj o o' b2 m m' (by rw [hlen] at h1; exact h1) (by rw [hlen] at h2; exact h2)⟩
              · cases hv with
                | agg _ _ vs hl hh =>
                  have := row_ends (H' := hp ((T.obs (y, b, d)).map .live)) hT.pre e1 hy (vs := vs.toList) ⟨by simpa using hl, fun k c v e1 e2 => hh k c v e1 (by simpa using e2)⟩ fun q v _ _ => tr q v
                  exact .agg _ _ vs (by simpa using this.1) fun k c v e1 e2 => this.2 k c v e1 (by simpa using e2)
              · cases k with
                | zero =>
                  have e : T.ob b = ob' := by simpa [hobs'] using hk
                  subst e
                  rcases hob 0 ob rfl with ⟨q1, q2⟩ | ⟨b2, arr, q1, q2, q3, q4, q5⟩
                  · exact .inl ⟨q1, by rw [l3]; exact q2⟩
                  · exact .inr ⟨b2, arr, q1, q2, q3, by rw [l1]; exact q4, l4 (fun q v _ _ => tr q v) q5⟩
                | succ k =>
                  have hk' : (T.V.obs d)[k]? = some ob' := by simpa [hobs'] using hk
                  have hlt : k < rest.length := by have := (List.getElem?_eq_some_iff.1 hk').1; omega
                  have g1 : rest[k]? = some rest[k] := List.getElem?_eq_getElem hlt
                  obtain ⟨s1, s2, s3, s4⟩ := n3 k _ _ g1 hk'
                  rcases hob (k + 1) rest[k] (by simp) with ⟨q1, q2⟩ | ⟨b2, arr, q1, q2, q3, q4, q5⟩
                  · exact .inl ⟨q1, by omega⟩
                  · exact .inr ⟨b2, arr, q1, q2, q3, by rw [s1]; exact q4, s4 q5⟩
            · cases hd
          · cases hd
        · cases hd
      · cases hd
    · cases hd
  · cases hd
noncomputable def moD {α α' β γ δ : Type} (T : TyL α) (U : DeepT α' β γ δ) (f : α → Option (α' × ((Nat × (Nat → β)) × γ) × δ)) : Mo := ⟨α, α' × ((Nat × (Nat → β)) × γ) × δ, T.dec, f, U.enc, U.obs⟩
theorem dsumm_ok {P : Program} {l : List (Nat × Summ)} {hint : Nat → LHint} {α α' β γ δ : Type} {T : TyL α} {U : DeepT α' β γ δ} {f : α → Option (α' × ((Nat × (Nat → β)) × γ) × δ)} {ext : St → List Nat} {n : FuncId} {fn : Func} (k : α → Nat) (hl : SumsOk P l) (hm : P.follows .mixedOrders = true)
    (hf : P.funcs[n]? = some fn) (hn : (fn.name == "runtime.NumGoroutine") = false) (hb : fn.body.isNone = false) (hT : T.Ok) (hU : U.Ok)
    (he : ∀ x, f x = evM ⟨P, sumAt l, hint, true⟩ (k x) fn (T.enc x) ext U.dec) : (Summ.mkM (moD T U f)).Ok P n := by
  have hM : (moD T U f).Ok P n := fun as x r hd hr RO w cargs hro hcr => by
    have h1 : evM ⟨P, sumAt l, hint, true⟩ (k x) fn (T.enc x) ext U.dec = some r := (he x).symm.trans hr
    have hcr' := hT.ok hd hcr
    refine (mown_ok (Γ := ⟨P, sumAt l, hint, true⟩) hl.sumAt hm hf h1 hro hcr').mono fun e w' ⟨v, obs, cv, RO', h2, h3, h4, h5, h6, h7, h8⟩ => ?_
    exact ⟨cv, RO', h2, DeepT.owned hU h3 h4, h5, h6, h7, h8⟩
  refine ⟨⟨fn, hf, hn, hb⟩, ?_, fun I h => ?_, (fun T h => nomatch (show (none : Option Tk) = some T from h)), fun M h => ?_⟩
  · dsimp only [Summ.mkM]
    intro as x
    exact x.elim
  · have e : some (moD T U f).inl = some I := h
    cases e
    intro R
    exact Mo.inl_ok hM (R := R)
  · have e : some (moD T U f) = some M := h
    cases e
    exact hM
/-! ### Functions that are handed an object's address, with other hints -/
theorem osumm2r_ok {P : Program} {l : List (Nat × Summ)} {hint : Nat → LHint} (hU0 : ∀ blk, (hint blk).unroll = true) {α0 α α' β : Type} {ty : TypeId} {T0 : TyL α0} {T : TyL α} {T' : TyL α'} {U : Ty β} {f : α0 × α' → Option (β × α)} {n : FuncId} {fn : Func} (hl : SumsOk P l) (hm : P.follows .mixedOrders = true)
    (hf : P.funcs[n]? = some fn) (hn : (fn.name == "runtime.NumGoroutine") = false) (hb : fn.body.isNone = false) (hT0 : T0.Ok) (hT : T.Ok) (hT' : T'.Ok) (hU : U.Ok)
    (he : ∀ x, f x = evG ⟨P, sumAt l, hint, true⟩ fn ty (T0.enc x.1) (T'.enc x.2) (outD U T)) : (Summ.mkO2 ty T0 T T' U f).Ok P n := by
  refine ⟨⟨fn, hf, hn, hb⟩, ?_, (fun I h => nomatch (show (none : Option Inl) = some I from h)), (fun T h => nomatch (show (none : Option Tk) = some T from h)), fun M h => nomatch (show (none : Option Mo) = some M from h)⟩
  dsimp only [Summ.mkO2]
  intro cells rest x r hd hr RO w b arr cargs hro hb0 hbl hle hcc hone hcr
  have h1 : evG ⟨P, sumAt l, hint, true⟩ fn ty (T0.enc x.1) (T'.enc x.2) (outD U T) = some r := (he x).symm.trans hr
  have hd1 : T0.dec cells = some x.1 ∧ T'.dec rest = some x.2 := by
    have hd' : decC (tG T0) T' (.agg cells :: rest) = some x := hd
    simp only [decC] at hd'
    split at hd'
    · rename_i y hy
      split at hd'
      · rename_i z hz
        cases hd'
        exact ⟨hy, hz⟩
      · cases hd'
    · cases hd'
  have hcc' := hT0.ok hd1.1 hcc
  have hcr' := hT'.ok hd1.2 hcr
  have hlen : (T0.enc x.1).length = cells.length := by have := hcc'.1; have := hcc.1; omega
  refine (open_ok (Γ := ⟨P, sumAt l, hint, true⟩) hl.sumAt hm hU0 hf h1 hro hb0 hbl (by rw [hlen]; exact hle) (by rw [hlen]; exact hcc') (by rw [hlen]; exact hone) hcr').mono fun e w' ⟨v, cs, cv, RO', h2, h3, h4, h5, h6⟩ => ?_
  unfold outD at h3
  split at h3
  · rename_i a ha
    split at h3
    · rename_i c hc
      cases h3
      obtain ⟨arr', b1, b2, b3, b4, b5⟩ := h6.block
      have q := hT.ok hc b4
      have hl2 : (T.enc c).length = cs.length := by have := q.1; have := b4.1; omega
      refine ⟨cv, RO', h2, hU.ok ha h4, ?_, ⟨h6.os, h6.tape, h6.output, h6.size, h6.kept, h6.more, h6.new, h6.ro, arr', b1, b2, ?_, ?_, ?_⟩⟩
      · show (T.enc c).length = _
        omega
      · show (T.enc c).length ≤ _
        omega
      · show CR _ _ _ (T.enc c) (arr'.toList.take (T.enc c).length)
        rw [hl2]; exact q
      · show ∀ v ∈ arr'.toList.take (T.enc c).length, _
        rw [hl2]; exact b5
    · cases h3
  · cases h3

/-! ### Typed rows -/
theorem RowT.rows_typed {β : Type} {T : RowT β} (hC : ∀ x, cloL (T.row.enc x) = T.row.enc x) (hT : ∀ x, T.row.dec (T.row.enc x) = some x) (n : Nat) (g : Nat → β) : T.rows ⟨true, T.e, T.sz, n, fun i => T.row.enc (g i), none⟩ = some (n, g) := by
  unfold RowT.rows
  simp only [Nat.beq_refl, Bool.and_self, hC, rowsDec_enc hT]
theorem oOne_dec {β : Type} {U : RowT β} {ob : Ob} {y : Nat × (Nat → β)} (h : U.rows ob = some y) : (oOne U).dec [ob] = some y := h
theorem oCons_dec {β γ : Type} {U : RowT β} {V : ObsT γ} {ob : Ob} {r : List Ob} {y : Nat × (Nat → β)} {z : γ} (h : U.rows ob = some y) (h2 : V.dec r = some z) : (oCons U V).dec (ob :: r) = some (y, z) := by
  simp only [oCons, h, h2]
theorem ws_dec {α β : Type} {T : WsT α β} {cs : List AV} {obs : List Ob} {x : α} {y : β} (h1 : slcsB 0 T.os.num (cs.drop (cs.length - T.os.num)) = true) (h2 : T.pre.dec (cloL (cs.take (cs.length - T.os.num))) = some x) (h3 : T.os.dec obs = some y) : T.dec (.agg cs) obs = some (x, y) := by
  unfold WsT.dec
  simp only [h1, h2, h3]
/-! ### Lists that may be read; a nil one has rows of zeros -/
def decLz (sz : Nat) (zr : List AV) : AV → Option (Nat × (Nat → List AV))
  | .lst sz' n _ g => match Nat.beq sz' sz with
    | true => some (n, g)
    | false => none
  | .val (.slice none 0 0) => some (0, fun _ => zr)
  | _ => none
def tLz (sz : Nat) (zr : List AV) : Ty (Nat × (Nat → List AV)) := ⟨fun x => .lst sz x.1 none x.2, decLz sz zr⟩
theorem tLz_ok (sz : Nat) (zr : List AV) : (tLz sz zr).Ok := ⟨fun {a x} h RO v hv => by
  simp only [tLz, decLz] at h
  split at h
  · rename_i sz' n c g
    split at h
    · rename_i he
      cases h
      have := Nat.eq_of_beq_eq_true he
      subst this
      cases hv with
      | lst H _ _ cap get b off c arr hb hn hc hs hg h1 h => exact .lst _ _ _ _ _ b off c arr hb hn (fun x hx => by cases hx) hs hg h1 h
      | lst0 H _ cap get a hc => exact .lst0 _ _ _ _ a (fun x hx => by cases hx)
    · cases h
  · cases h
    have := hv.val_eq
    subst this
    exact .lst0 _ _ _ _ none (fun x hx => by cases hx)
  · cases h⟩
theorem dec_tLz (sz : Nat) (zr : List AV) (n : Nat) (c : Option Nat) (g : Nat → List AV) : (tLz sz zr).dec (.lst sz n c g) = some (n, g) := by
  show decLz sz zr (.lst sz n c g) = _
  simp only [decLz, Nat.beq_refl]
theorem dec_tLz0 (sz : Nat) (zr : List AV) : (tLz sz zr).dec (.val (.slice none 0 0)) = some (0, fun _ => zr) := rfl
/-! A result that holds a list of its own, the others being closed ahead. -/
section
variable (Γ : Ctx) {R : Type}
noncomputable def evP (k : Nat) (fn : Func) (args : List AV) (sel : List AV → List Nat) (D : AV → Ob → Option R) : Option R :=
  match fn.body with
  | some c => ev Γ k c 0 (initS fn args) fun e s => match e with
    | .exit _ => none
    | _ => match resultsOf Γ.P s fn.results.toList with
      | some l0 => match resultsOf Γ.P (s.frzL (sel l0)) fn.results.toList with
        | some l => match idsL l with
          | [o] => match hp (s.frzL (sel l0)).H o with
            | .live ob => D (ren (pick0 o) (packA l)) { ob with get := fun i => cloL (ob.get i), lit := none }
            | _ => none
          | _ => none
        | none => none
      | none => none
  | none => none
def kFinP (fn : Func) (sel : List AV → List Nat) (D : AV → Ob → Option R) : AExit → St → Option R := fun e s =>
  match e with
  | .exit _ => none
  | _ => match resultsOf Γ.P s fn.results.toList with
    | some l0 => match resultsOf Γ.P (s.frzL (sel l0)) fn.results.toList with
      | some l => match idsL l with
        | [o] => match hp (s.frzL (sel l0)).H o with
          | .live ob => D (ren (pick0 o) (packA l)) { ob with get := fun i => cloL (ob.get i), lit := none }
          | _ => none
        | _ => none
      | none => none
    | none => none
end
/-- All lists of a struct but that in cell k. -/
def selK (k : Nat) : List AV → List Nat
  | [.agg cs] => idsL (cs.take k) ++ idsL (cs.drop (k + 1))
  | _ => []
section
variable {Γ : Ctx} {R : Type} {RO : RoMap}
theorem pown_ok (hΓ : ∀ g S, Γ.sums g = some S → S.Ok Γ.P g) (hm : Γ.P.follows .mixedOrders = true) {f : FuncId} {fn : Func} (hf : Γ.P.funcs[f]? = some fn) {k : Nat} {l : List AV} {sel : List AV → List Nat} {D : AV → Ob → Option R} {r : R} (h : evP Γ k fn l sel D = some r)
    {w : World} {cargs : Array Value} (hro : RoOk RO w) (hcr : CR (fun _ => none) RO noHp l cargs.toList) :
    Calls Γ.P f cargs w fun e w' => ∃ v ob cv RO', e = .returned cv ∧ D v ob = some r ∧ Owned w w' ob v cv RO' ∧ Below w.heap.size w w' ∧ (∀ b arr, RO b = some arr → RO' b = some arr) ∧ (∀ b arr, RO' b = some arr → RO b = none → w.heap.size ≤ b) ∧ RoOk RO' w' := by
  unfold evP at h
  split at h
  · rename_i c hb
    have hsz : l.length = cargs.size := by simpa using hcr.1
    have hinit : SS w (fun _ => False) RO (fun _ => none) RO (initS fn l) { tmps := cargs ++ Array.replicate (fn.ntmps - cargs.size) undef, defers := [] } w := by
      refine ⟨⟨rfl, rfl, rfl, Nat.le_refl _, fun _ _ _ => rfl, fun o ob hl => ?_, fun o o' ob ob' b m m' hl => ?_, hro, fun b arr hb => .inl hb, fun _ _ h => h, .none fun o => by simp [initS, hp, Ent.kind]⟩, ?_⟩
      · simp [initS, hp] at hl
      · simp [initS, hp] at hl
      · show CR _ _ _ _ _
        simp only [initS, Array.toList_append, Array.toList_replicate, hsz]
        refine (hcr.closed _ _).append ?_
        refine ⟨by simp, fun k c v h1 h2 => ?_⟩
        rw [List.getElem?_replicate] at h1 h2
        split at h1 <;> simp_all
        obtain ⟨rfl, rfl⟩ := And.intro h1 h2
        exact .undefA
    refine calls_of_wp hf hb (ev_sound hΓ hm k c 0 h hinit rfl fun e s' ρ' RO' a' w' hk h1 h2 => ?_)
    have key : ∀ (s1 : St) (RO' : RoMap), SS w (fun _ => False) RO ρ' RO' s1 a' w' → (match resultsOf Γ.P s1 fn.results.toList with
      | some l => match idsL l with
        | [o] => match hp s1.H o with
          | .live ob => D (ren (pick0 o) (packA l)) { ob with get := fun i => cloL (ob.get i), lit := none }
          | _ => none
        | _ => none
      | none => none) = some r → a'.defers = [] ∧ ∃ cv, (results fn a'.tmps).run Γ.P w' = .ok cv w' ∧ (∃ v ob cv' RO', Ending.returned cv = .returned cv' ∧ D v ob = some r ∧ Owned w w' ob v cv' RO' ∧ Below w.heap.size w w' ∧ (∀ b arr, RO b = some arr → RO' b = some arr) ∧ (∀ b arr, RO' b = some arr → RO b = none → w.heap.size ≤ b) ∧ RoOk RO' w') := by
      intro s1 RO' h1 hk
      split at hk
      · rename_i l2 hl2
        split at hk
        · rename_i o ho
          split at hk
          · rename_i ob hob
            obtain ⟨vs, g1, g2⟩ := results_run h1 _ hl2
            have hrun : (results fn a'.tmps).run Γ.P w' = .ok (if h : vs.toArray.size = 1 then vs.toArray[0] else .tuple vs.toArray) w' := by
              rw [results_eq, Array.mapM_eq_mapM_toList]
              simp [Sem.run_bind, g1]
            have hv : VR ρ' RO' (hp s1.H) (packA l2) (if h : vs.toArray.size = 1 then vs.toArray[0] else .tuple vs.toArray) := by
              cases l2 with
              | nil =>
                have : vs = [] := List.eq_nil_of_length_eq_zero g2.1.symm
                subst this
                exact g2.tup'
              | cons x r =>
                cases vs with
                | nil => have := g2.1; simp at this
                | cons y q =>
                  cases r with
                  | nil =>
                    have : q = [] := by have := g2.1; simp at this; exact this.symm ▸ rfl
                    subst this
                    exact g2.2 0 x y rfl rfl
                  | cons x2 r2 =>
                    have hq : ¬ (y :: q).toArray.size = 1 := by have := g2.1; simp at this ⊢; intro e; subst e; simp at this
                    rw [dif_neg hq]
                    exact g2.tup'
            have pk : ∀ {x k : Nat}, pick0 o x = some k → x = o ∧ k = 0 := fun {x k} e => by
              unfold pick0 at e
              split at e
              · rename_i hx; cases e; exact ⟨Nat.eq_of_beq_eq_true hx, rfl⟩
              · cases e
            have l0 : hp [Ent.live { ob with get := fun i => cloL (ob.get i), lit := none }] 0 = .live { ob with get := fun i => cloL (ob.get i), lit := none } := rfl
            have hren : VR (fun _ => ρ' o) RO' (hp [.live { ob with get := fun i => cloL (ob.get i), lit := none }]) (ren (pick0 o) (packA l2)) (if h : vs.toArray.size = 1 then vs.toArray[0] else .tuple vs.toArray) := by
              refine hv.renW (fun {x k ob'} e hl => ?_) (fun {x k} e _ => ?_) (fun x k e => ?_) fun {x k} e h3 => ?_
              · obtain ⟨rfl, rfl⟩ := pk e
                rw [l0] at hl
                cases hl
                exact ⟨ob, hob, rfl, rfl⟩
              · obtain ⟨rfl, rfl⟩ := pk e
                rw [l0]; exact fun e => by cases e
              · obtain ⟨rfl, rfl⟩ := pk e
                rfl
              · obtain ⟨rfl, rfl⟩ := pk e
                rw [l0] at h3; exact absurd rfl h3
            refine ⟨h2, _, hrun, _, _, _, RO', rfl, hk, ⟨ρ' o, hren, ?_⟩, ⟨h1.sr.os, h1.sr.tape, h1.sr.output, h1.sr.size, fun k hk => h1.sr.kept k hk (fun h => h)⟩, fun b arr hb => h1.sr.fix b arr hb, fun b arr hb hn => ?_, h1.sr.ro⟩
            · rcases h1.sr.obj o ob hob with ⟨q1, q2⟩ | ⟨b, m, arr, q1, q2, q3, q4, q5, q6, q7, q8, q9⟩
              · exact .inl ⟨q1, q2⟩
              · refine .inr ⟨b, arr, by rw [q1, q5], q2, ?_, q4, ⟨by rw [q5]; exact q6, fun i hi => ?_, fun i k a v hi e1 e2 => ?_, q9⟩⟩
                · rcases q3 with q3 | q3
                  · exact q3
                  · exact q3.elim
                · show (cloL (ob.get i)).length = ob.sz
                  rw [cloL_length]; exact q7 i hi
                · have e1' : (cloL (ob.get i))[k]? = some a := e1
                  rw [cloL_get] at e1'
                  cases hk' : (ob.get i)[k]? with
                  | none => rw [hk'] at e1'; cases e1'
                  | some c =>
                    rw [hk'] at e1'
                    cases e1'
                    exact (VR.clo (q8 i k c v hi hk' e2)).closed _ _
            · rcases h1.sr.old b arr hb with e | e | e
              · rw [hn] at e; cases e
              · exact e
              · exact e.elim
          · cases hk
        · cases hk
      · cases hk
    have key2 : (match resultsOf Γ.P s' fn.results.toList with
      | some l0 => match resultsOf Γ.P (s'.frzL (sel l0)) fn.results.toList with
        | some l => match idsL l with
          | [o] => match hp (s'.frzL (sel l0)).H o with
            | .live ob => D (ren (pick0 o) (packA l)) { ob with get := fun i => cloL (ob.get i), lit := none }
            | _ => none
          | _ => none
        | none => none
      | none => none) = some r → a'.defers = [] ∧ ∃ cv, (results fn a'.tmps).run Γ.P w' = .ok cv w' ∧ (∃ v ob cv' RO', Ending.returned cv = .returned cv' ∧ D v ob = some r ∧ Owned w w' ob v cv' RO' ∧ Below w.heap.size w w' ∧ (∀ b arr, RO b = some arr → RO' b = some arr) ∧ (∀ b arr, RO' b = some arr → RO b = none → w.heap.size ≤ b) ∧ RoOk RO' w') := fun hk => by
      split at hk
      · rename_i l0 _
        obtain ⟨RO1, f1, f2, f3, f4⟩ := frzL_sound (sel l0) h1.sr h1.tr
        exact key _ RO1 ⟨f1, f2⟩ hk
      · cases hk
    cases e with
    | normal => exact key2 hk
    | exit i => cases hk
    | ret => exact key2 hk
  · cases h
end
/-! Functions whose result holds a list of its own, anywhere among its cells. -/
structure OwnP (α γ β : Type) where
  pre : TyL α
  post : TyL γ
  k : Nat
  row : TyL β
  e : TypeId
  sz : Nat
  z : β
noncomputable def OwnP.dec {α γ β : Type} (T : OwnP α γ β) (v : AV) (ob : Ob) : Option ((α × γ) × (Nat × (Nat → β))) := match v with
  | .agg cs => match cs.drop T.k with
    | .slc 0 0 none none :: r => match T.pre.dec (cloL (cs.take T.k)) with
      | some x => match T.post.dec (cloL r) with
        | some y => match ob.row && Nat.beq ob.ty T.e && Nat.beq ob.sz T.sz with
          | true => match rowsDec T.row T.z ob.n ob.get with
            | some q => some ((x, y), q)
            | none => none
          | false => none
        | none => none
      | none => none
    | _ => none
  | _ => none
def OwnP.enc {α γ β : Type} (T : OwnP α γ β) (x : (α × γ) × (Nat × (Nat → β))) : AV := .agg (T.pre.enc x.1.1 ++ .slc 0 0 none none :: T.post.enc x.1.2)
def OwnP.ob {α γ β : Type} (T : OwnP α γ β) (x : (α × γ) × (Nat × (Nat → β))) : Ob := ⟨true, T.e, T.sz, x.2.1, fun i => T.row.enc (x.2.2 i), none⟩
structure OwnP.Ok {α γ β : Type} (T : OwnP α γ β) : Prop where
  pre : T.pre.Ok
  post : T.post.Ok
  row : T.row.Ok
theorem OwnP.owned {α γ β : Type} {T : OwnP α γ β} (hT : T.Ok) {v : AV} {ob : Ob} {x : (α × γ) × (Nat × (Nat → β))} (hd : T.dec v ob = some x) {w w' : World} {cv : Value} {RO : RoMap} (h : Owned w w' ob v cv RO) : Owned w w' (T.ob x) (T.enc x) cv RO := by
  unfold OwnP.dec at hd
  split at hd
  · rename_i cs
    split at hd
    · rename_i r hr
      split at hd
      · rename_i y hy
        split at hd
        · rename_i y2 hy2
          split at hd
          · rename_i hc
            simp only [Bool.and_eq_true] at hc
            have hty := Nat.eq_of_beq_eq_true hc.1.2
            have hsz := Nat.eq_of_beq_eq_true hc.2
            split at hd
            · rename_i z hz
              cases hd
              unfold rowsDec at hz
              split at hz
              · rename_i hall
                cases hz
                obtain ⟨pl, hv, hpl⟩ := h
                have e : cs = cs.take T.k ++ .slc 0 0 none none :: r := by rw [← hr, List.take_append_drop]
                generalize cs.take T.k = l at e hy
                subst e
                cases hv with
                | agg _ _ vs hlen hh =>
                  have hlen' : l.length + (r.length + 1) = vs.size := by simpa using hlen
                  have hcr : CR (fun _ => pl) RO (hp [.live ob]) l (vs.toList.take l.length) := ⟨by simp; omega, fun k c v e1 e2 => by
                    have hk : k < l.length := (List.getElem?_eq_some_iff.1 e1).1
                    refine hh k c v (by rw [List.getElem?_append_left hk]; exact e1) ?_
                    rw [List.getElem?_take, if_pos hk] at e2
                    simpa using e2⟩
                  have hcr2 : CR (fun _ => pl) RO (hp [.live ob]) r (vs.toList.drop (l.length + 1)) := ⟨by simp; omega, fun k c v e1 e2 => by
                    refine hh (l.length + 1 + k) c v (by rw [List.getElem?_append_right (by omega), show l.length + 1 + k - l.length = k + 1 by omega]; simpa using e1) ?_
                    rw [List.getElem?_drop] at e2
                    simpa using e2⟩
                  have hpre := hT.pre.ok hy ((hcr.clo).closed (fun _ => none) noHp)
                  have hpost := hT.post.ok hy2 ((hcr2.clo).closed (fun _ => none) noHp)
                  have hlen2 : (T.pre.enc y).length = l.length := by have := hpre.1; simp at this; omega
                  have hlen4 : (T.post.enc y2).length = r.length := by have := hpost.1; simp at this; omega
                  have hlast : VR (fun _ => pl) RO (hp [.live ob]) (.slc 0 0 none none) vs[l.length] := hh l.length _ _ (by simp) (by simp [show l.length < vs.size by omega])
                  have hlast' : VR (fun _ => pl) RO (hp [.live (T.ob ((y, y2), ob.n, fun i => (T.row.dec (ob.get i)).getD T.z))]) (.slc 0 0 none none) vs[l.length] := by
                    generalize vs[l.length] = u at hlast
                    cases hlast with
                    | slc _ _ _ _ _ _ b off c h0 hn hk hcap hq =>
                      obtain ⟨q1, q2, q3, m, q4, q5⟩ := hq ob rfl
                      refine .slc _ _ _ _ _ _ b off c (fun e => by cases e) hn hk hcap fun ob2 h2 => ?_
                      cases h2
                      exact ⟨q1, q2, by show off = 0 * T.sz; rw [← hsz]; exact q3, m, q4, by show _ * T.sz ≤ m; rw [← hsz]; exact q5⟩
                    | slc0 _ _ _ _ a0 h0 hk hcap hq =>
                      obtain ⟨q1, q2⟩ := hq ob rfl
                      refine .slc0 _ _ _ _ a0 (fun e => by cases e) hk hcap fun ob2 h2 => ?_
                      cases h2
                      exact ⟨q1, q2⟩
                  refine ⟨pl, ?_, ?_⟩
                  · show VR _ _ _ (.agg (T.pre.enc y ++ .slc 0 0 none none :: T.post.enc y2)) _
                    refine .agg _ _ vs (by simp [hlen2, hlen4]; omega) fun k c v e1 e2 => ?_
                    by_cases hk : k < l.length
                    · rw [List.getElem?_append_left (by omega)] at e1
                      exact (hpre.2 k c v e1 (by rw [List.getElem?_take, if_pos hk]; simpa using e2)).closed _ _
                    · by_cases hk2 : k = l.length
                      · subst hk2
                        rw [List.getElem?_append_right (by omega), hlen2] at e1
                        simp at e1
                        subst e1
                        have : v = vs[l.length] := by
                          rw [Array.getElem?_eq_getElem (by omega)] at e2
                          cases e2; rfl
                        rw [this]; exact hlast'
                      · rw [List.getElem?_append_right (by omega), hlen2, show k - l.length = (k - (l.length + 1)) + 1 by omega] at e1
                        exact (hpost.2 (k - (l.length + 1)) c v (by simpa using e1) (by rw [List.getElem?_drop, show l.length + 1 + (k - (l.length + 1)) = k by omega]; simpa using e2)).closed _ _
                  · rcases hpl with ⟨h1, h2⟩ | ⟨b, arr, h1, h2, h3, h4, h5, h6, h7, h8⟩
                    · exact .inl ⟨h1, h2⟩
                    · have row : ∀ i, i < ob.n → CR (fun _ => none) RO noHp (T.row.enc ((T.row.dec (ob.get i)).getD T.z)) ((arr.toList.drop (i * ob.sz)).take ob.sz) := fun i hi => by
                        obtain ⟨x, hx⟩ := hall i hi
                        rw [hx]
                        exact hT.row.ok hx (ObR.row (ob := ob) ⟨h5, h6, h7, h8⟩ hi)
                      have hszs : ∀ i, i < ob.n → ((arr.toList.drop (i * ob.sz)).take ob.sz).length = ob.sz := fun i hi => by
                        have := row_le (s := ob.sz) hi
                        simp; omega
                      refine .inr ⟨b, arr, h1, h2, h3, by show CellsAt w' b arr T.e; rw [← hty]; exact h4, by show ob.n * T.sz ≤ _; rw [← hsz]; exact h5, fun i hi => ?_, fun i k a v hi e1 e2 => ?_, fun j v hj hv => h8 j v (by rw [hsz]; exact hj) hv⟩
                      · show (T.row.enc _).length = T.sz
                        have := (row i hi).1
                        rw [hszs i hi] at this
                        exact this.trans hsz
                      · have hlen3 : (T.row.enc ((T.row.dec (ob.get i)).getD T.z)).length = ob.sz := by have := (row i hi).1; rw [hszs i hi] at this; exact this
                        have hk : k < ob.sz := by
                          have := (List.getElem?_eq_some_iff.1 e1).1
                          exact Nat.lt_of_lt_of_eq this hlen3
                        refine (row i hi).2 k a v e1 ?_
                        have e2' : arr[i * T.sz + k]? = some v := e2
                        rw [List.getElem?_take, if_pos hk, List.getElem?_drop, hsz]
                        simpa using e2'
              · cases hz
            · cases hd
          · cases hd
        · cases hd
      · cases hd
    · cases hd
  · cases hd
def Summ.mkP {α β γ δ : Type} (T : TyL α) (U : OwnP β δ γ) (f : α → Option ((β × δ) × (Nat × (Nat → γ)))) : Summ := { A := α, R := (β × δ) × (Nat × (Nat → γ)), dec := T.dec, f := f, enc := U.enc, own := true, ob := U.ob }
theorem psumm_ok {P : Program} {l : List (Nat × Summ)} {hint : Nat → LHint} {α β γ δ : Type} {T : TyL α} {U : OwnP β δ γ} {f : α → Option ((β × δ) × (Nat × (Nat → γ)))} {n : FuncId} {fn : Func} (k : α → Nat) (hl : SumsOk P l) (hm : P.follows .mixedOrders = true)
    (hf : P.funcs[n]? = some fn) (hn : (fn.name == "runtime.NumGoroutine") = false) (hb : fn.body.isNone = false) (hT : T.Ok) (hU : U.Ok)
    (he : ∀ x, f x = evP ⟨P, sumAt l, hint, true⟩ (k x) fn (T.enc x) (selK U.k) U.dec) : (Summ.mkP T U f).Ok P n := by
  refine ⟨⟨fn, hf, hn, hb⟩, ?_, (fun I h => nomatch (show (none : Option Inl) = some I from h)), (fun T h => nomatch (show (none : Option Tk) = some T from h)), fun M h => nomatch (show (none : Option Mo) = some M from h)⟩
  dsimp only [Summ.mkP]
  intro as x r hd hr RO w cargs hro hcr
  have h1 : evP ⟨P, sumAt l, hint, true⟩ (k x) fn (T.enc x) (selK U.k) U.dec = some r := (he x).symm.trans hr
  have hcr' := hT.ok hd hcr
  refine (pown_ok (Γ := ⟨P, sumAt l, hint, true⟩) hl.sumAt hm hf h1 hro hcr').mono fun e w' ⟨v, ob, cv, RO', h2, h3, h4, h5, h6, h7, h8⟩ => ?_
  exact ⟨cv, RO', h2, OwnP.owned hU h3 h4, h5, h6, h7, h8⟩
/-- Such a result, its rows typed. -/
theorem ownp_dec {α β γ : Type} {T : OwnP α γ β} {cs r : List AV} {x : α} {y : γ} (h1 : cs.drop T.k = .slc 0 0 none none :: r) (h2 : T.pre.dec (cloL (cs.take T.k)) = some x) (h3 : T.post.dec (cloL r) = some y) (hT : ∀ x, T.row.dec (T.row.enc x) = some x) (n : Nat) (g : Nat → β) :
    T.dec (.agg cs) ⟨true, T.e, T.sz, n, fun i => T.row.enc (g i), none⟩ = some ((x, y), (n, g)) := by
  unfold OwnP.dec
  simp only [h1, h2, h3, Nat.beq_refl, Bool.and_self, rowsDec_enc hT]
end Go.Proofs.Ytbcnifnmccaleaa.Fw
