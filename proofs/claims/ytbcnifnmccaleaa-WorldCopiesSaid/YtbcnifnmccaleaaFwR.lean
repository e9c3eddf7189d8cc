/- A region that draws its order does what the evaluator says. -/
import Derived.Test.YtbcnifnmccaleaaFwQ
namespace Go.Proofs.Ytbcnifnmccaleaa.Fw
open Go Go.RowKit
set_option linter.unusedVariables false
set_option linter.unusedSimpArgs false

section
variable {P : Program} {Γ : Ctx} {R : Type} {w0 w : World} {W : Nat → Prop} {F : RoMap} {ρ : Pm} {RO : RoMap} {s : St} {a : Act} {ds : List Deferred}

theorem view_more {ops : List Oper} {bs : List Nat} {base i : Nat} {tmps : List AV} {H : List Ent} (h : base + 4 * i < H.length) : More (viewE ops bs base i tmps H) H (base + 4 * i) := by
  refine ⟨fun k ob hk => ?_, view_length, ?_, h⟩
  · simp only [hp, List.getD_eq_getElem?_getD] at hk ⊢
    rw [view_get] at hk
    cases hq : H[k]? with
    | none => rw [hq] at hk; cases hk
    | some e =>
      rw [hq] at hk
      simp only [Option.map_some, Option.getD_some] at hk ⊢
      split at hk
      · cases hk
      · split at hk
        · exact hk
        · cases hk
  · rw [List.getD_eq_getElem?_getD, List.getD_eq_getElem?_getD, view_get]
    cases hq : H[base + 4 * i]? with
    | none => rfl
    | some e =>
      have : ¬ base + 4 * i < base := by omega
      have h4 : (base + 4 * i - base) / 4 = i := by omega
      simp [this, h4]
/-- A store to an object that is seen. -/
theorem store_more {o : Oper} {t : List AV} {H H' : List Ent} {pos q : Nat} {ty : TypeId} {x y : Operand} {e : Eff} (ho : o.op = .store ty x y) (hx : ∃ a b, St.op ⟨t, H⟩ x = .ptr q a b) (hl : ∀ k ob, hp H k = .live ob → hp H' k = .live ob) (h : opf P ⟨t, H⟩ pos o = some e) :
    opf P ⟨t, H'⟩ pos o = some ⟨e.ok, e.v, H'.set q (e.H.getD q .free)⟩ := by
  unfold opf at h ⊢
  rw [ho] at h ⊢
  simp only at h ⊢
  rw [op_any t H' H x, op_any t H' H y]
  obtain ⟨a, b, hx⟩ := hx
  rw [hx] at h ⊢
  have get : ∀ z : Ent, q < H.length → (H.set q z).getD q .free = z := fun z hq => by simp [List.getD_eq_getElem?_getD, List.getElem?_set, hq]
  unfold storeE at h ⊢
  simp only at h ⊢
  split at h
  · rename_i ob hob
    have hql := live_lt hob
    rw [hl q ob hob]
    simp only
    split at h
    · rename_i n hn
      split at h
      · rename_i hc
        cases h
        rw [if_pos hc]
        simp only [get _ hql]
      · rename_i hc
        rw [if_neg hc]
        split at h
        · rename_i hc2
          rw [if_pos hc2]
          split at h
          · rename_i ob' hob'
            split at h
            · rename_i hcc
              cases h
              simp only [hcc, get _ hql]
            · cases h
          · cases h
        · cases h
    · cases h
  · cases h

/-- What an operation gives leads on. -/
theorem oAct_leads (hΓ : ∀ g S, Γ.sums g = some S → S.Ok Γ.P g) {o : Oper} {pos : Nat} {v : AV} {H' : List Ent} (hf : freezes s o = false) (h : oAct Γ o pos s = some (v, H')) (hs : SS w0 W F ρ RO s a w) (h1 : pos < s.H.length) (h2 : hp s.H pos = .free) :
    Leads Γ.P o w0 W F ρ RO s a w (s.put o.dst v H') ∧ H'.length = s.H.length ∧ ∀ k, k ≠ pos → hp s.H k = .free → hp H' k = .free := by
  unfold oAct at h
  cases hc : calleeOf s o with
  | some p =>
    obtain ⟨g, caps, args⟩ := p
    rw [hc] at h
    simp only at h
    unfold freezes at hf
    rw [hc] at hf
    have hids : idsL (args.map s.op ++ caps) = [] := by simp only [Bool.or_eq_false_iff] at hf; simpa using hf.1
    split at h
    · rename_i S hS
      split at h
      · rename_i hop
        split at h
        · rename_i x hx
          split at h
          · rename_i y hy
            split at h
            · rename_i how
              cases h
              have := own_leads (pos := pos) hc (hΓ g S hS) hop how (by rw [hids]; exact hx) hy (by omega) (by rw [hids]; exact h2) hs
              rw [hids] at this
              refine ⟨this, ?_, fun k hk hf' => ?_⟩
              · unfold fresh; rw [if_neg (by omega)]; simp
              · show hp (fresh s pos (S.ob y)) k = .free
                rw [hp_fresh (by omega)]
                simpa [upd, hk] using hf'
            · rename_i how
              cases h
              refine ⟨?_, rfl, fun _ _ h => h⟩
              have := call_leads (s' := s) hc (hΓ g S hS) hop how (by rw [hids]; exact hx) hy (.inl (by rw [hids]; rfl)) hs
              exact this
          · cases h
        · cases h
      · cases h
    · cases h
  | none =>
    rw [hc] at h
    simp only at h
    split at h
    · rename_i e he
      split at h
      · rename_i hok
        cases h
        obtain ⟨f1, f2⟩ := opf_frame he h1
        exact ⟨(opf_sound he hok hs.sr hs.tr (by omega) h2).leads hs, f1, f2⟩
      · cases h
    · cases h

theorem dAct_leads (hΓ : ∀ g S, Γ.sums g = some S → S.Ok Γ.P g) {ops : List Oper} {bs : List Nat} {base i : Nat} {o : Oper} {v : AV} {H' : List Ent} (h : dAct Γ ops bs base i o s = some (v, H')) (hs : SS w0 W F ρ RO s a w) (h1 : base + 4 * i + 4 ≤ s.H.length) (h2 : ∀ d, d < 4 → hp s.H (base + 4 * i + d) = .free) :
    Leads Γ.P o w0 W F ρ RO s a w (s.put o.dst v H') ∧ H'.length = s.H.length ∧ ∀ k, (k < base + 4 * i ∨ base + 4 * i + 4 ≤ k) → hp s.H k = .free → hp H' k = .free := by
  have old : (Leads Γ.P o w0 W F ρ RO s a w (s.put o.dst v H') ∧ H'.length = s.H.length ∧ ∀ k, k ≠ base + 4 * i → hp s.H k = .free → hp H' k = .free) →
      Leads Γ.P o w0 W F ρ RO s a w (s.put o.dst v H') ∧ H'.length = s.H.length ∧ ∀ k, (k < base + 4 * i ∨ base + 4 * i + 4 ≤ k) → hp s.H k = .free → hp H' k = .free := fun ⟨a, b, c⟩ => ⟨a, b, fun k hk => c k (by omega)⟩
  have h1' : base + 4 * i < s.H.length := by omega
  have h2' : hp s.H (base + 4 * i) = .free := h2 0 (by omega)
  unfold dAct at h
  split at h
  · rename_i M x hm
    split at h
    · rename_i y hy
      split at h
      · rename_i hl
        cases h
        have hl4 : (M.obs y).length ≤ 4 := by simpa using hl
        obtain ⟨_, g, caps, args, S, hc, hS, hM, hd⟩ := moOf_spec hm
        refine ⟨mo_leads hc (hΓ g S hS) hM hd hy (by omega) (fun d hd => h2 d (by omega)) hs, setL_length _ _ _, fun k hk hf => ?_⟩
        rw [setL_get _ _ _ _ (by simp; omega)]
        split
        · exact hf
        · rw [List.getElem?_eq_none (by simp; omega)]; exact hf
      · cases h
    · cases h
  refine old ?_
  split at h
  · rename_i ht
    exact oAct_leads hΓ (by unfold freezes; rw [not_call ht]) h hs h1' h2'
  · rename_i ht
    split at h
    · split at h
      · rename_i v' hv
        cases h
        have M := view_more (ops := ops) (bs := bs) (base := base) (i := i) (tmps := s.tmps) (H := s.H) h1'
        obtain ⟨g, caps, args, S, x, y, hc, hS, hop, how, hx, hy, hpl, rfl⟩ := evLent_more M.live hv
        exact ⟨call_leads (s' := s) hc (hΓ g S hS) hop how hx hy (.inr ⟨rfl, hpl⟩) hs, rfl, fun _ _ h => h⟩
      · cases h
    rename_i hf
    split at h
    · exact oAct_leads hΓ hf h hs h1' h2'
    · rename_i hw
      split at h
      · rename_i q hq
        split at h
        · rename_i v' Hm hm
          cases h
          have M := view_more (ops := ops) (bs := bs) (base := base) (i := i) (tmps := s.tmps) (H := s.H) h1'
          have : oAct Γ o (base + 4 * i) s = some (v, s.H.set q (Hm.getD q .free)) := by
            unfold oAct at hm ⊢
            have e1 : calleeOf ⟨s.tmps, viewE ops bs base i s.tmps s.H⟩ o = calleeOf s o := calleeOf_congr fun x _ => rfl
            rw [e1] at hm
            have hpl : (writes o.op = false ∧ q = base + 4 * i) ∨ (writes o.op = true ∧ ∃ t x v, o.op = .store t x v ∧ ∃ a b, s.op x = .ptr q a b) := by
              have := placeOf_spec (ops := ops.toArray) (by simpa using hq)
              rcases this with h | ⟨h, t, x, v, h3, h4, _⟩
              · exact .inl h
              · exact .inr ⟨h, t, x, v, h3, h4⟩
            cases hc : calleeOf s o with
            | some p =>
              obtain ⟨g, caps, args⟩ := p
              have hw' : q = base + 4 * i := by
                rcases hpl with ⟨_, e⟩ | ⟨_, t, x, v, ho, _⟩
                · exact e
                · obtain ⟨f, as, ts, ho', _⟩ := calleeOf_spec hc
                  rw [ho] at ho'; cases ho'
              subst hw'
              rw [hc] at hm
              simp only at hm ⊢
              split at hm
              · rename_i S hS
                split at hm
                · rename_i hop
                  split at hm
                  · rename_i x hx
                    split at hm
                    · rename_i y hy
                      have hx' : S.dec (cloL (args.map s.op ++ caps)) = some x := hx
                      split at hm
                      · rename_i how
                        cases hm
                        simp only [hS, hop, hx', hy, how]
                        have := M.fresh s.tmps (S.ob y)
                        rw [this]
                      · rename_i how
                        cases hm
                        simp only [hS, hop, hx', hy, how]
                        rw [M.same]
                    · cases hm
                  · cases hm
                · cases hm
              · cases hm
            | none =>
              rw [hc] at hm
              simp only at hm ⊢
              split at hm
              · rename_i e he
                split at hm
                · rename_i hok
                  cases hm
                  rcases hpl with ⟨hw0, rfl⟩ | ⟨_, ty, x, y, ho, hx⟩
                  · have := opf_more (P := Γ.P) (t := s.tmps) (H' := s.H) M ht hw0 he
                    have e2 : opf Γ.P s (base + 4 * i) o = _ := this
                    rw [e2]
                    simp only [hok]
                  · have := store_more (P := Γ.P) (t := s.tmps) (H := viewE ops bs base i s.tmps s.H) (H' := s.H) ho hx M.live he
                    have e2 : opf Γ.P s (base + 4 * i) o = _ := this
                    rw [e2]
                    simp only [hok]
                · cases hm
              · cases hm
          exact oAct_leads hΓ hf this hs h1' h2'
        · cases h
      · cases h

theorem gate_spec {ops : Array Oper} {o : Oper} {b : Bool} (h : gate s ops o = some b) (hT : TR ρ RO (hp s.H) s.tmps a) : Region.wanted o (yielded ops a.tmps) = b := by
  unfold gate at h
  split at h
  · rename_i hg; cases h; simp [Region.wanted, hg]
  · rename_i j want hg
    split at h
    · rename_i c hc
      cases h
      simp [Region.wanted, hg, (guard_some hc hT).1]
    · rename_i hc
      cases h
      simp [Region.wanted, hg, guard_none hc hT]
    · cases h

/-- A step, in the world. -/
theorem stp_sound (hΓ : ∀ g S, Γ.sums g = some S → S.Ok Γ.P g) {ops : Array Oper} {bs : List Nat} {base i : Nat} {s' : St} {K : Act → World → Prop} {Q : Exit → Act → World → Prop} (hi : i < ops.size) (h : stp Γ ops bs base i s = some s') (hs : SS w0 W F ρ RO s a w) (hd : a.defers = ds) (h1 : base + 4 * i + 4 ≤ s.H.length) (h2 : ∀ d, d < 4 → hp s.H (base + 4 * i + d) = .free)
    (hK : s'.H.length = s.H.length → (∀ k, (k < base + 4 * i ∨ base + 4 * i + 4 ≤ k) → hp s.H k = .free → hp s'.H k = .free) → ∀ ρ' RO' a' w', SS w0 W F ρ' RO' s' a' w' → a'.defers = ds → Ext ρ RO (hp s.H) ρ' RO' (hp s'.H) → w.heap.size ≤ w'.heap.size → K a' w') : wpOp Γ.P ops Q i K a w := by
  have ho : ops[i]? = some ops[i] := Array.getElem?_eq_getElem hi
  unfold wpOp
  simp only [ho]
  have hdp : ∀ cv, (a.put ops[i].dst cv).defers = ds := fun cv => by cases hq : ops[i].dst <;> simp [Act.put, hd]
  rcases stp_cases ho h with ⟨g, rfl⟩ | ⟨g, f, _, h3⟩ | ⟨g, f, v, H', h3, rfl⟩
  · rw [if_neg (by rw [gate_spec g hs.tr]; decide)]
    exact hK rfl (fun _ _ h => h) ρ RO _ w (hs.undef _) (hdp _) (.refl _ _ _) (Nat.le_refl _)
  · rw [if_pos (gate_spec g hs.tr)]
    refine .inl ?_
    obtain ⟨s'', h4, h5, h6⟩ := evO_sound hΓ h3 hs (by omega) (h2 0 (by omega))
    cases h4
    refine h6 K Q fun ρ' RO' cv w' k1 k2 k3 => ?_
    have hlen : s'.H.length = s.H.length ∧ ∀ k, k ≠ base + 4 * i → hp s.H k = .free → hp s'.H k = .free := by
      rcases evO_cases h3 with ⟨g', caps, args, S, x, y, s'', hc, hS, hop, how, hx, hy, hs'', hk⟩ | ⟨g', caps, args, S, x, y, hc, hS, hop, how, hx, hy, hk⟩ | ⟨g', caps, args, S, q, x, y, H', hc, hS, hop, hx, hy, hH, hk⟩ | ⟨hc, _⟩
      · cases hk
        rcases hs'' with rfl | ⟨rfl, _⟩
        · obtain ⟨_, _, _, _, e⟩ := frzL_sound (idsL (args.map s.op ++ caps)) hs.sr hs.tr
          exact ⟨e.symm, fun k _ h => frzL_free _ h⟩
        · exact ⟨rfl, fun k _ h => h⟩
      · cases hk
        obtain ⟨_, _, _, _, e⟩ := frzL_sound (idsL (args.map s.op ++ caps)) hs.sr hs.tr
        refine ⟨?_, fun k hk hf' => ?_⟩
        · show (fresh (s.frzL _) (base + 4 * i) (S.ob y)).length = _
          unfold fresh; rw [if_neg (by omega)]; simp; omega
        · show hp (fresh (s.frzL _) (base + 4 * i) (S.ob y)) k = .free
          rw [hp_fresh (by omega)]
          simpa [upd, hk] using frzL_free (idsL (args.map s.op ++ caps)) hf'
      · cases hk
        obtain ⟨ob, ob', hl, _, _, _, rfl⟩ := openH_spec hH
        refine ⟨by simp [St.put], fun k _ hf => ?_⟩
        show hp (s.H.set q _) k = .free
        rw [hp_set (live_lt hl)]
        have : k ≠ q := fun e => by rw [e, hl] at hf; cases hf
        simpa [upd, this] using hf
      · unfold freezes at f; rw [hc] at f; cases f
    exact hK hlen.1 (fun k hk => hlen.2 k (by omega)) ρ' RO' _ w' k1 (hdp _) k2 k3
  · rw [if_pos (gate_spec g hs.tr)]
    refine .inl ?_
    obtain ⟨l1, l2, l3⟩ := dAct_leads hΓ h3 hs h1 h2
    exact l1.2 K Q fun ρ' RO' cv w' k1 k2 k3 => hK l2 l3 ρ' RO' _ w' k1 (hdp _) k2 k3

theorem any_sound (hΓ : ∀ g S, Γ.sums g = some S → S.Ok Γ.P g) {ops : Array Oper} {bs : List Nat} {base : Nat} {A : St → Prop} {Q : Exit → Act → World → Prop} {ρ0 : Pm} {RO0 : RoMap} {H0 : List Ent} {n0 : Nat}
    (hQ : ∀ s' ρ' RO' a' w', A s' → SS w0 W F ρ' RO' s' a' w' → a'.defers = ds → Ext ρ0 RO0 (hp H0) ρ' RO' (hp s'.H) → H0.length ≤ s'.H.length → n0 ≤ w'.heap.size → Q .normal a' w') :
    ∀ (fuel : Nat) (listed : Array Bool) {s : St} {ρ : Pm} {RO : RoMap} {a : Act} {w : World}, wpAnyA Γ ops bs base A fuel listed s → base + 4 * ops.size ≤ s.H.length → (∀ j, j < ops.size → listed.getD j true = false → ∀ d, d < 4 → hp s.H (base + 4 * j + d) = .free) →
      SS w0 W F ρ RO s a w → a.defers = ds → Ext ρ0 RO0 (hp H0) ρ RO (hp s.H) → H0.length ≤ s.H.length → n0 ≤ w.heap.size → wpAny Γ.P .any ops Q fuel listed a w
  | 0, listed, s, ρ, RO, a, w, h, h1, h2, hs, hd, hE, hl, hn => ⟨h.1, hQ s ρ RO a w h.2 hs hd hE hl hn⟩
  | fuel + 1, listed, s, ρ, RO, a, w, h, h1, h2, hs, hd, hE, hl, hn => by
    refine ⟨fun h0 => hQ s ρ RO a w (h.1 h0) hs hd hE hl hn, fun i hi => ?_⟩
    obtain ⟨s', h3, h4⟩ := h.2 i hi
    obtain ⟨o, ho, hu, _⟩ := ready_spec hi
    have hin : i < ops.size := (Array.getElem?_eq_some_iff.1 ho).1
    refine stp_sound hΓ hin h3 hs hd (by omega) (h2 i hin hu) fun e1 e2 ρ' RO' a' w' k1 k2 k3 k4 => ?_
    refine any_sound hΓ hQ fuel _ h4 (by omega) (fun j hj hlj d hd => ?_) k1 k2 (hE.trans k3) (by omega) (Nat.le_trans hn k4)
    have hji : i ≠ j := by
      intro e
      subst e
      have := (ready_spec hi)
      rw [Array.getD_eq_getD_getElem?, Array.getElem?_setIfInBounds] at hlj
      rw [Array.getD_eq_getD_getElem?] at hu
      cases hq : listed[i]? with
      | none => rw [hq] at hu; cases hu
      | some b =>
        have : i < listed.size := (Array.getElem?_eq_some_iff.1 hq).1
        simp [this] at hlj
    refine e2 _ (by omega) (h2 j hj ?_ d hd)
    rw [getD_set_ne true hji] at hlj
    exact hlj

theorem hp_pad {H : List Ent} {n : Nat} : ∀ k, hp (H ++ List.replicate n .free) k = hp H k := by
  intro k
  simp only [hp, List.getD_eq_getElem?_getD, List.getElem?_append]
  by_cases h : k < H.length
  · simp [h]
  · rw [if_neg h, List.getElem?_replicate, List.getElem?_eq_none (l := H) (by omega)]
    split <;> rfl

/-- A region that draws its order, in each of them. -/
theorem evD_any (hΓ : ∀ g S, Γ.sums g = some S → S.Ok Γ.P g)  {ops : Array Oper} {bs : List Nat} {Q : Exit → Act → World → Prop} {K : St → Option R} {r : R}
    (hlex : lexOk ops.toList = true) (hbs : bsOk ops.toList bs = true) (hap : apartB ops bs = true) (h : evD Γ ops bs s.H.length 0 ops.toList ⟨s.tmps, s.H ++ List.replicate (4 * ops.size) .free⟩ K = some r) (hs : SS w0 W F ρ RO s a w) (hd : a.defers = ds)
    (hQ : ∀ s' ρ' RO' a' w', K s' = some r → SS w0 W F ρ' RO' s' a' w' → a'.defers = ds → Ext ρ RO (hp s.H) ρ' RO' (hp s'.H) → s.H.length ≤ s'.H.length → w.heap.size ≤ w'.heap.size → Q .normal a' w') : wpAny Γ.P .any ops Q ops.size (Array.replicate ops.size false) a { w with drawn := w.drawn + 1 } := by
  have eH : hp (s.H ++ List.replicate (4 * ops.size) .free) = hp s.H := funext hp_pad
  have hA := any_lex hlex hbs (bsOk_lt hbs) hap ops.toList 0 (Array.replicate ops.size false) _ (by simp) (by simp) (fun j hj => by simp [hj]) (fun j k hj hk => by
    rw [Array.getD_eq_getD_getElem?, Array.getElem?_replicate] at hj
    split at hj <;> cases hj) h
  simp only [Array.length_toList] at hA
  refine any_sound (s := ⟨s.tmps, s.H ++ List.replicate (4 * ops.size) .free⟩) (ρ := ρ) (RO := RO) (ρ0 := ρ) (RO0 := RO) (H0 := s.H) (n0 := w.heap.size) hΓ hQ _ _ hA (by simp) (fun j hj _ d hd4 => ?_) ⟨?_, ?_⟩ hd ?_ (by simp) (Nat.le_refl _)
  · show hp (s.H ++ List.replicate (4 * ops.size) .free) (s.H.length + 4 * j + d) = .free
    rw [eH]
    unfold hp
    rw [List.getD_eq_getElem?_getD, List.getElem?_eq_none (by omega)]
    rfl
  · show SR w0 W F ρ RO (hp (s.H ++ List.replicate (4 * ops.size) .free)) _
    rw [eH]; exact hs.sr.drew1
  · show TR ρ RO (hp (s.H ++ List.replicate (4 * ops.size) .free)) _ _
    rw [eH]; exact hs.tr
  · show Ext ρ RO (hp s.H) ρ RO (hp (s.H ++ List.replicate (4 * ops.size) .free))
    rw [eH]; exact .refl _ _ _
/-- A region that draws its order. -/
theorem evD_sound (hΓ : ∀ g S, Γ.sums g = some S → S.Ok Γ.P g) (hm : Γ.P.follows .mixedOrders = true) {id : Nat} {ops : Array Oper} {bs : List Nat} {Q : Exit → Act → World → Prop} {K : St → Option R} {r : R}
    (hlex : lexOk ops.toList = true) (hbs : bsOk ops.toList bs = true) (hap : apartB ops bs = true) (h : evD Γ ops bs s.H.length 0 ops.toList ⟨s.tmps, s.H ++ List.replicate (4 * ops.size) .free⟩ K = some r) (hs : SS w0 W F ρ RO s a w) (hd : a.defers = ds)
    (hQ : ∀ s' ρ' RO' a' w', K s' = some r → SS w0 W F ρ' RO' s' a' w' → a'.defers = ds → Ext ρ RO (hp s.H) ρ' RO' (hp s'.H) → s.H.length ≤ s'.H.length → w.heap.size ≤ w'.heap.size → Q .normal a' w') : (Code.region id ops true).wp Γ.P Q a w :=
  wp_region_any hm (evD_any hΓ hlex hbs hap h hs hd hQ)
end
end Go.Proofs.Ytbcnifnmccaleaa.Fw
