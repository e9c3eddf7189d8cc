/- A region that draws its order, at its end: one walk in the order of the text serves every order. -/
import Derived.Test.YtbcnifnmccaleaaFwN
namespace Go.Proofs.Ytbcnifnmccaleaa.Fw
open Go Go.RowKit
set_option linter.unusedVariables false
set_option linter.unusedSimpArgs false

section
variable {P : Program} {Γ : Ctx} {R : Type}

/-- What an operation gives, where nothing becomes fixed. -/
noncomputable def oAct (Γ : Ctx) (o : Oper) (pos : Nat) (s : St) : Option (AV × List Ent) :=
  match calleeOf s o with
  | some (g, caps, args) => match Γ.sums g with
    | some S => match S.op with
      | false => match S.dec (cloL (args.map s.op ++ caps)) with
        | some x => match S.f x with
          | some y => match S.own with
            | true => some (ren (toPos pos) (S.enc y), fresh s pos (S.ob y))
            | false => some (S.enc y, s.H)
          | none => none
        | none => none
      | true => none
    | none => none
  | none => match opf Γ.P s pos o with
    | some e => match e.ok with
      | true => some (e.v, e.H)
      | false => none
    | none => none

theorem no_ptr {s : St} {S : Summ} {caps l : List AV} {p : Nat × S.A} (h : openE s S caps l = some p) : hasPtr l = true := by
  obtain ⟨rest, ob, rfl, _⟩ := openE_spec (q := p.1) (x := p.2) h
  rfl
theorem evO_oAct {o : Oper} {pos : Nat} {s : St} {K : St → Option R} {r : R} (hf : freezes s o = false) (h : evO Γ o pos s K = some r) : ∃ v H', oAct Γ o pos s = some (v, H') ∧ K (s.put o.dst v H') = some r := by
  rcases evO_cases h with ⟨g, caps, args, S, x, y, s', hc, hS, hop, how, hx, hy, hs', hk⟩ | ⟨g, caps, args, S, x, y, hc, hS, hop, how, hx, hy, hk⟩ | ⟨g, caps, args, S, q, x, y, H', hc, hS, hop, hx, hy, hH, hk⟩ | ⟨hc, e, he, hok, hk⟩
  · unfold freezes at hf
    rw [hc] at hf
    have hids : idsL (args.map s.op ++ caps) = [] := by simp only [Bool.or_eq_false_iff] at hf; simpa using hf.1
    rw [hids] at hx hs'
    have e' : s' = s := by
      rcases hs' with h | ⟨h, _⟩
      · exact h
      · exact h
    subst e'
    refine ⟨S.enc y, s'.H, ?_, hk⟩
    unfold oAct
    rw [hc]
    simp only [hS, hop]
    have hx' : S.dec (cloL (args.map s'.op ++ caps)) = some x := hx
    rw [hx']
    simp only [hy, how]
  · unfold freezes at hf
    rw [hc] at hf
    have hids : idsL (args.map s.op ++ caps) = [] := by simp only [Bool.or_eq_false_iff] at hf; simpa using hf.1
    rw [hids] at hx hk
    refine ⟨_, _, ?_, hk⟩
    unfold oAct
    rw [hc]
    simp only [hS, hop]
    have hx' : S.dec (cloL (args.map s.op ++ caps)) = some x := hx
    rw [hx']
    simp only [hy, how]
    rfl
  · unfold freezes at hf
    rw [hc] at hf
    simp only [Bool.or_eq_false_iff] at hf
    rw [no_ptr hx] at hf
    cases hf.2
  · refine ⟨e.v, e.H, ?_, hk⟩
    unfold oAct
    rw [hc]
    simp only [he, hok]

theorem calleeOf_congr {o : Oper} {s s' : St} (h : ∀ x ∈ o.op.operands, s.op x = s'.op x) : calleeOf s o = calleeOf s' o := by
  unfold calleeOf
  split
  · rename_i f as ts ho
    simp only [ho, Op.operands, Call.operands] at h
    rw [h f (by simp)]
  · rfl

theorem evLent_bind {o : Oper} {s : St} {K : AV → Option R} {r : R} (h : evLent Γ o s K = some r) : ∃ v, evLent Γ o s some = some v ∧ K v = some r := by
  unfold evLent at h ⊢
  split at h
  · split at h
    · split at h
      · cases h
      · split at h
        · split at h
          · rw [Option.bind_eq_some_iff] at h
            obtain ⟨y, h1, h2⟩ := h
            split at h2
            · rename_i hp
              exact ⟨_, by rw [h1]; simp only [Option.bind_some, hp], h2⟩
            · cases h2
          · cases h
        · cases h
    · cases h
  · cases h
theorem evLent_of {o : Oper} {s : St} {K : AV → Option R} {v : AV} (h : evLent Γ o s some = some v) : evLent Γ o s K = K v := by
  unfold evLent at h ⊢
  split at h
  · split at h
    · split at h
      · cases h
      · rename_i how
        split at h
        · rename_i hl
          split at h
          · rename_i x hx
            rw [Option.bind_eq_some_iff] at h
            obtain ⟨y, h1, h2⟩ := h
            split at h2
            · rename_i hp
              cases h2
              simp only [h1, Option.bind_some, hp]
            · cases h2
          · cases h
        · cases h
    · cases h
  · cases h
theorem frz_undef (o : Nat) (ob : Ob) : frz o ob undefA = undefA := rfl
theorem frzC_getD (o : Nat) (ob : Ob) : ∀ (l : List AV) (a : Nat), (frzC o ob l).getD a undefA = frz o ob (l.getD a undefA)
  | [], a => by simp [frzC, frz_undef]
  | x :: r, 0 => by simp [frzC]
  | x :: r, a + 1 => by simpa [frzC] using frzC_getD o ob r a
theorem frz_op {t : List AV} {H : List Ent} {o : Nat} {ob : Ob} {x : Operand} (h : hp H o = .live ob) : (St.frz ⟨t, H⟩ o).op x = frz o ob (St.op ⟨t, H⟩ x) ∨ ((∀ a, x ≠ .tmp a) ∧ (St.frz ⟨t, H⟩ o).op x = St.op ⟨t, H⟩ x) := by
  unfold St.frz
  simp only [h]
  cases x with
  | tmp a => exact .inl (frzC_getD o ob t a)
  | _ => exact .inr ⟨fun a e => (by cases e), rfl⟩
theorem frzL_op : ∀ (ids : List Nat) {t t' : List AV} {H H' : List Ent} {x : Operand}, (∀ q ∈ ids, hp H q = hp H' q) → St.op ⟨t, H⟩ x = St.op ⟨t', H'⟩ x → (St.frzL ⟨t, H⟩ ids).op x = (St.frzL ⟨t', H'⟩ ids).op x
  | [], t, t', H, H', x, _, h => h
  | o :: r, t, t', H, H', x, hH, h => by
    simp only [St.frzL]
    have ho := hH o (List.mem_cons_self ..)
    unfold St.frz
    simp only [← ho]
    split
    · rename_i ob hl
      have hl' : hp H' o = .live ob := by rw [← ho]; exact hl
      refine frzL_op r (fun q hq => ?_) ?_
      · have e1 : ∀ (L : List Ent), hp (L.map (frzEnt o ob)) q = frzEnt o ob (hp L q) := fun L => by
          simp only [hp, List.getD_eq_getElem?_getD, List.getElem?_map]
          cases L[q]? <;> rfl
        rw [e1, e1, hp_set (live_lt hl), hp_set (live_lt hl')]
        have := hH q (List.mem_cons_of_mem _ hq)
        unfold upd
        split
        · rfl
        · rw [this]
      · cases x with
        | tmp a =>
          have h' : t.getD a undefA = t'.getD a undefA := h
          show (frzC o ob t).getD a undefA = (frzC o ob t').getD a undefA
          rw [frzC_getD, frzC_getD, h']
        | _ => exact h
    · exact frzL_op r (fun q hq => hH q (List.mem_cons_of_mem _ hq)) h
theorem liveAll_spec : ∀ {l : List Nat} {H : List Ent}, liveAll H l = true → ∀ q ∈ l, ∃ ob, hp H q = .live ob
  | q :: l, H, h, q', hq => by
    unfold liveAll at h
    split at h
    · rename_i ob hl
      rcases List.mem_cons.1 hq with rfl | hq
      · exact ⟨ob, hl⟩
      · exact liveAll_spec h q' hq
    · cases h
theorem dec_map {s s' : St} {args : List Operand} (h : ∀ x ∈ args, s.op x = s'.op x) : args.map s.op = args.map s'.op := List.map_congr_left h
theorem evLent_congr {o : Oper} {t t' : List AV} {H : List Ent} (h : ∀ x ∈ o.op.operands, St.op ⟨t, H⟩ x = St.op ⟨t', H⟩ x) : evLent Γ o ⟨t, H⟩ (some : AV → Option AV) = evLent Γ o ⟨t', H⟩ some := by
  unfold evLent
  rw [calleeOf_congr h]
  split
  · rename_i g caps args hc
    obtain ⟨f, as, ts, ho, hf, rfl⟩ := calleeOf_spec hc
    simp only [ho, Op.operands, Call.operands] at h
    have e1 : as.toList.map (St.op ⟨t, H⟩) = as.toList.map (St.op ⟨t', H⟩) := List.map_congr_left fun x hx => h x (by simp; exact .inr (by simpa using hx))
    have e2 : ∀ ids, as.toList.map (St.frzL ⟨t, H⟩ ids).op = as.toList.map (St.frzL ⟨t', H⟩ ids).op := fun ids => List.map_congr_left fun x hx => frzL_op ids (fun _ _ => rfl) (h x (by simp; exact .inr (by simpa using hx)))
    simp only [e1, e2]
  · rfl
/-- What a call gives that sees less, it gives. -/
theorem evLent_more {o : Oper} {t : List AV} {H H' : List Ent} {v : AV} (hl : ∀ k ob, hp H k = .live ob → hp H' k = .live ob) (h : evLent Γ o ⟨t, H⟩ some = some v) :
    ∃ g caps args S x y, calleeOf ⟨t, H'⟩ o = some (g, caps, args) ∧ Γ.sums g = some S ∧ S.op = false ∧ S.own = false ∧ S.dec (cloL (args.map (St.frzL ⟨t, H'⟩ (idsL (args.map (St.op ⟨t, H'⟩) ++ caps))).op ++ caps)) = some x ∧ S.f x = some y ∧ plainA (S.enc y) = true ∧ v = S.enc y := by
  unfold evLent at h
  split at h
  · rename_i g caps args hc
    split at h
    · rename_i S hS
      split at h
      · cases h
      · rename_i how
        rw [Bool.or_eq_false_iff] at how
        split at h
        · rename_i hlv
          split at h
          · rename_i x hx
            rw [Option.bind_eq_some_iff] at h
            obtain ⟨y, h1, h2⟩ := h
            split at h2
            · rename_i hpl
              cases h2
              refine ⟨g, caps, args, S, x, y, ?_, hS, how.1, how.2, ?_, h1, hpl, rfl⟩
              · rw [← hc]; exact calleeOf_congr fun _ _ => rfl
              · have e1 : args.map (St.op ⟨t, H'⟩) = args.map (St.op ⟨t, H⟩) := List.map_congr_left fun _ _ => rfl
                rw [e1, ← hx]
                congr 3
                refine List.map_congr_left fun z _ => frzL_op _ (fun q hq => ?_) rfl
                obtain ⟨ob, hob⟩ := liveAll_spec hlv q hq
                rw [hob, hl q ob hob]
            · cases h2
          · cases h
        · cases h
    · cases h
  · cases h

noncomputable def dAct (Γ : Ctx) (ops : List Oper) (bs : List Nat) (base i : Nat) (o : Oper) (s : St) : Option (AV × List Ent) :=
  match moOf Γ s o with
  | some ⟨M, x⟩ => match M.f x with
    | some r => match Nat.ble (M.obs r).length 4 with
      | true => some (ren (shF (base + 4 * i) (M.obs r).length) (M.enc r), setL (base + 4 * i) ((M.obs r).map (renOb (shF (base + 4 * i) (M.obs r).length))) s.H)
      | false => none
    | none => none
  | none => match touches o.op with
  | false => oAct Γ o (base + 4 * i) s
  | true => match freezes s o with
    | true => match evLent Γ o ⟨s.tmps, viewE ops bs base i s.tmps s.H⟩ some with
      | some v => some (v, s.H)
      | none => none
    | false => match writes o.op && serial ops bs i with
      | true => oAct Γ o (base + 4 * i) s
      | false => match placeOf ops bs base i o s with
        | some q => match oAct Γ o (base + 4 * i) ⟨s.tmps, viewE ops bs base i s.tmps s.H⟩ with
          | some (v, H') => some (v, s.H.set q (H'.getD q .free))
          | none => none
        | none => none

theorem not_call {o : Oper} {s : St} (h : touches o.op = false) : calleeOf s o = none := by
  unfold calleeOf
  split
  · rename_i ho; rw [ho] at h; cases h
  · rfl

theorem moOf_spec {s : St} {o : Oper} {M : Mo} {x : M.A} (h : moOf Γ s o = some ⟨M, x⟩) : freezes s o = false ∧ ∃ g caps args S, calleeOf s o = some (g, caps, args) ∧ Γ.sums g = some S ∧ S.mo = some M ∧ M.dec (cloL (args.map s.op ++ caps)) = some x := by
  unfold moOf at h
  split at h
  · cases h
  · rename_i hf
    split at h
    · rename_i g caps args hc
      split at h
      · rename_i S hS
        split at h
        · rename_i M' hM
          split at h
          · rename_i y hy
            cases h
            exact ⟨hf, g, caps, args, S, hc, hS, hM, hy⟩
          · cases h
        · cases h
      · cases h
    · cases h
theorem moOf_pure {s : St} {o : Oper} (h : touches o.op = false) : moOf Γ s o = none := by
  unfold moOf
  rw [not_call h]
  split <;> rfl
theorem evDO_cases {ops : List Oper} {bs : List Nat} {base i : Nat} {o : Oper} {s : St} {K : St → Option R} {r : R} (h : evDO Γ ops bs base i o s K = some r) :
    (freezes s o = true ∧ serialAll ops bs i = true ∧ evO Γ o (base + 4 * i) s K = some r) ∨ ((freezes s o && serialAll ops bs i) = false ∧ ∃ v H', dAct Γ ops bs base i o s = some (v, H') ∧ K (s.put o.dst v H') = some r) := by
  unfold evDO at h
  unfold dAct
  split at h
  · rename_i M x hm
    rw [Option.bind_eq_some_iff] at h
    obtain ⟨y, h1, h2⟩ := h
    split at h2
    · rename_i hl
      exact .inr ⟨by rw [(moOf_spec hm).1]; rfl, _, _, by simp only [hm, h1, hl], h2⟩
    · cases h2
  rename_i hmo
  simp only [hmo]
  split at h
  · rename_i ht
    have hf : freezes s o = false := by unfold freezes; rw [not_call ht]
    obtain ⟨v, H', h1, h2⟩ := evO_oAct hf h
    exact .inr ⟨by rw [hf]; rfl, v, H', by simp only [ht]; exact h1, h2⟩
  · rename_i ht
    split at h
    · rename_i hf
      split at h
      · rename_i hs; exact .inl ⟨hf, hs, h⟩
      · rename_i hs
        obtain ⟨v, h1, h2⟩ := evLent_bind h
        exact .inr ⟨by rw [hs, Bool.and_false], v, s.H, by simp only [ht, hf, h1], h2⟩
    · rename_i hf
      split at h
      · rename_i hw
        obtain ⟨v, H', h1, h2⟩ := evO_oAct hf h
        exact .inr ⟨by rw [hf]; rfl, v, H', by simp only [ht, hf, hw]; exact h1, h2⟩
      · rename_i hw
        split at h
        · rename_i q hq
          obtain ⟨v, H', h1, h2⟩ := evO_oAct (s := ⟨s.tmps, viewE ops bs base i s.tmps s.H⟩) hf h
          exact .inr ⟨by rw [hf]; rfl, v, _, by simp only [ht, hf, hw, hq, h1]; rfl, h2⟩
        · cases h

/-- Is an operation wanted? -/
def gate (s : St) (ops : Array Oper) (o : Oper) : Option Bool :=
  match o.guard with
  | none => some true
  | some (j, want) => match guardVal s ops j with
    | some (some b) => some (b == want)
    | some none => some false
    | none => none
noncomputable def stp (Γ : Ctx) (ops : Array Oper) (bs : List Nat) (base i : Nat) (s : St) : Option St :=
  match ops[i]? with
  | none => some s
  | some o => match gate s ops o with
    | some true => evDO Γ ops.toList bs base i o s some
    | some false => some (s.put o.dst undefA s.H)
    | none => none

theorem know_eq {s : St} {ops : Array Oper} {j : Nat} {b : Bool} (h : guardVal s ops j = some (some b)) : s.know ops j b = s := by
  unfold guardVal at h
  unfold St.know
  split at h
  · rename_i o ho
    split at h
    · rename_i d hd
      split at h
      · rename_i b' hv
        cases h
        rw [List.getD_eq_getElem?_getD] at hv
        cases h1 : s.tmps[d]? with
        | none => rw [h1] at hv; cases hv
        | some c =>
          rw [h1] at hv
          simp only [Option.getD_some] at hv
          subst hv
          try simp only [ho, hd]
          rw [set_same h1]
      · cases h
      · cases h
    · cases h
  · cases h

theorem evDO_bind {ops : List Oper} {bs : List Nat} {base i : Nat} {o : Oper} {s : St} {K : St → Option R} {r : R} (h : evDO Γ ops bs base i o s K = some r) : ∃ s', evDO Γ ops bs base i o s some = some s' ∧ K s' = some r := by
  have evOb : ∀ {pos : Nat} {s : St} {K : St → Option R} {f : St → St}, evO Γ o pos s (fun s => K (f s)) = some r → ∃ s', evO Γ o pos s (fun s => some (f s)) = some s' ∧ K s' = some r := by
    intro pos s K f h
    unfold evO at h ⊢
    split at h
    · (try simp only at h)
      (try simp only)
      split at h
      · split at h
        · split at h
          · rw [Option.bind_eq_some_iff] at h
            obtain ⟨y, h1, h2⟩ := h
            split at h2
            · rename_i how
              exact ⟨_, by rw [h1]; simp only [Option.bind_some], h2⟩
            · rename_i how
              split at h2
              · rename_i hpl
                exact ⟨_, by rw [h1]; simp only [Option.bind_some, hpl], h2⟩
              · rename_i hpl
                exact ⟨_, by rw [h1]; simp only [Option.bind_some, hpl], h2⟩
          · cases h
        · split at h
          · rw [Option.bind_eq_some_iff] at h
            obtain ⟨y, h1, h2⟩ := h
            split at h2
            · rename_i H' hH
              exact ⟨_, by rw [h1]; simp only [Option.bind_some, hH], h2⟩
            · cases h2
          · cases h
      · cases h
    · split at h
      · split at h
        · exact ⟨_, rfl, h⟩
        · cases h
      · cases h
  unfold evDO at h ⊢
  split at h
  · rename_i M x hm
    rw [Option.bind_eq_some_iff] at h
    obtain ⟨y, h1, h2⟩ := h
    split at h2
    · rename_i hl
      exact ⟨_, by simp only [h1, Option.bind_some, hl], h2⟩
    · cases h2
  split at h
  · exact evOb (f := id) h
  · split at h
    · split at h
      · exact evOb (f := id) h
      · obtain ⟨v, h1, h2⟩ := evLent_bind h
        exact ⟨_, evLent_of h1, h2⟩
    · split at h
      · exact evOb (f := id) h
      · split at h
        · exact evOb h
        · cases h

theorem evD_stp {ops : Array Oper} {bs : List Nat} {base i : Nat} {o : Oper} {rest : List Oper} {s : St} {K : St → Option R} {r : R} (hi : ops[i]? = some o) (h : evD Γ ops bs base i (o :: rest) s K = some r) :
    ∃ s', stp Γ ops bs base i s = some s' ∧ evD Γ ops bs base (i + 1) rest s' K = some r := by
  unfold evD at h
  unfold stp
  rw [hi]
  simp only
  unfold gate
  split at h
  · rename_i hg
    simp only [hg]
    exact evDO_bind h
  · rename_i j want hg
    simp only [hg]
    split at h
    · rename_i b hb
      have kn := know_eq hb
      simp only [hb]
      cases want <;> cases b <;> simp only at h <;> rw [kn] at h
      · exact evDO_bind h
      · exact ⟨_, rfl, h⟩
      · exact ⟨_, rfl, h⟩
      · exact evDO_bind h
    · rename_i hb
      simp only [hb]
      exact ⟨_, rfl, h⟩
    · cases h

/-! ### Two operations -/
theorem put_op {s : St} {d : Option Tmp} {v : AV} {H : List Ent} {x : Operand} (h : ∀ t, d = some t → x ≠ .tmp t) : (s.put d v H).op x = St.op ⟨s.tmps, H⟩ x := by
  cases d with
  | none => rfl
  | some t =>
    cases x <;> try rfl
    rename_i u
    have hne : t ≠ u := fun e => h t rfl (by rw [e])
    simp [St.op, St.put, List.getD_eq_getElem?_getD, List.getElem?_set, hne]

theorem looks_op {ops : Array Oper} {o : Oper} {d : Option Tmp} (h : ∀ t, d = some t → t ∉ o.looksAt ops) {x : Operand} (hx : x ∈ o.op.operands) : ∀ t, d = some t → x ≠ .tmp t := by
  intro t ht he
  subst he
  exact h t ht (List.mem_append_left _ (List.mem_filterMap.2 ⟨.tmp t, by simpa using hx, rfl⟩))

theorem put_gate {s : St} {d : Option Tmp} {v : AV} {H : List Ent} {ops : Array Oper} {o : Oper} (h : ∀ t, d = some t → t ∉ o.looksAt ops) : gate (s.put d v H) ops o = gate s ops o := by
  unfold gate
  split
  · rfl
  · rename_i j want hg
    have : guardVal (s.put d v H) ops j = guardVal s ops j := by
      unfold guardVal
      split
      · rename_i x hx
        split
        · rename_i t ht
          have hne : ∀ u, d = some u → u ≠ t := by
            intro u hu he
            subst he
            refine h u hu (List.mem_append_right _ ?_)
            simp [hg, hx, ht]
          have : (s.put d v H).tmps.getD t undefA = s.tmps.getD t undefA := by
            cases d with
            | none => rfl
            | some u => simp [St.put, List.getD_eq_getElem?_getD, List.getElem?_set, hne u rfl]
          rw [this]
        · rfl
      · rfl
    rw [this]

theorem freezes_congr {o : Oper} {s s' : St} (h : ∀ x ∈ o.op.operands, s.op x = s'.op x) : freezes s o = freezes s' o := by
  unfold freezes
  rw [calleeOf_congr h]
  split
  · rename_i g caps args hc
    obtain ⟨f, as, ts, ho, hf, rfl⟩ := calleeOf_spec hc
    simp only [ho, Op.operands, Call.operands] at h
    rw [List.map_congr_left fun x hx => h x (by simp; exact .inr (by simpa using hx))]
  · rfl

theorem oAct_congr {o : Oper} {t t' : List AV} {H : List Ent} {pos : Nat} (h : ∀ x ∈ o.op.operands, St.op ⟨t, H⟩ x = St.op ⟨t', H⟩ x) : oAct Γ o pos ⟨t, H⟩ = oAct Γ o pos ⟨t', H⟩ := by
  unfold oAct
  rw [calleeOf_congr h, opf_congr pos h]
  split
  · rename_i g caps args hc
    obtain ⟨f, as, ts, ho, hf, rfl⟩ := calleeOf_spec hc
    simp only [ho, Op.operands, Call.operands] at h
    rw [List.map_congr_left fun x hx => h x (by simp; exact .inr (by simpa using hx))]
    rfl
  · rfl

theorem moOf_congr {o : Oper} {s s' : St} (h : ∀ x ∈ o.op.operands, s.op x = s'.op x) : moOf Γ s o = moOf Γ s' o := by
  unfold moOf
  rw [freezes_congr h, calleeOf_congr h]
  split
  · rfl
  · split
    · rename_i g caps args hc
      obtain ⟨f, as, ts, ho, hf, rfl⟩ := calleeOf_spec hc
      simp only [ho, Op.operands, Call.operands] at h
      rw [List.map_congr_left fun x hx => h x (by simp; exact .inr (by simpa using hx))]
    · rfl
theorem rootT_ext {ops : List Oper} : ∀ (n : Nat) {x : Operand} {a : Tmp}, rootT ops n x = some a → extT ops a = true
  | 0, x, a, h => by cases h
  | n + 1, .tmp b, a, h => by
    simp only [rootT] at h
    split at h
    · rename_i he; cases h; exact he
    · split at h
      · split at h
        · exact rootT_ext n h
        · exact rootT_ext n h
        · exact rootT_ext n h
        · cases h
      · cases h
  | n + 1, .const _, a, h => by cases h
  | n + 1, .global _, a, h => by cases h
  | n + 1, .func _, a, h => by cases h
theorem killL_congr {ops : List Oper} {bs : List Nat} {t t' : List AV} (hk : ∀ a, extT ops a = true → t.getD a undefA = t'.getD a undefA) (j : Nat) : killL ops bs j t = killL ops bs j t' := by
  unfold killL
  congr 1
  funext p
  obtain ⟨o, j'⟩ := p
  simp only
  split
  · rfl
  · split
    · split
      · rename_i a ha
        rw [hk a (rootT_ext 4 ha)]
      · rfl
    · rfl
theorem dAct_congr {ops : List Oper} {bs : List Nat} {base i : Nat} {o : Oper} {t t' : List AV} {H : List Ent} (h : ∀ x ∈ o.op.operands, St.op ⟨t, H⟩ x = St.op ⟨t', H⟩ x) (hk : ∀ a, extT ops a = true → t.getD a undefA = t'.getD a undefA) : dAct Γ ops bs base i o ⟨t, H⟩ = dAct Γ ops bs base i o ⟨t', H⟩ := by
  have kl : ∀ j, killL ops bs j t = killL ops bs j t' := fun j => killL_congr hk j
  have vw : viewE ops bs base i t H = viewE ops bs base i t' H := by unfold viewE; rw [kl]
  have pl : placeOf ops bs base i o ⟨t, H⟩ = placeOf ops bs base i o ⟨t', H⟩ := by
    unfold placeOf
    split
    · rfl
    · split
      · rename_i x hx
        have hx' : x ∈ o.op.operands := by
          unfold storeTo at hx
          split at hx
          · rename_i ho; cases hx; rw [ho]; simp [Op.operands]
          · cases hx
        rw [h x hx']
        have ap : ∀ q, apartOk ops bs base i q t = apartOk ops bs base i q t' := fun q => by
          unfold apartOk
          congr 1
          funext p
          simp only [kl]
        simp only [ap]
      · rfl
  unfold dAct
  simp only [pl, vw]
  rw [oAct_congr (pos := base + 4 * i) h, freezes_congr (s := ⟨t, H⟩) (s' := ⟨t', H⟩) h, moOf_congr (s := ⟨t, H⟩) (s' := ⟨t', H⟩) h]
  split
  · rfl
  split
  · rfl
  · split
    · rw [evLent_congr (H := viewE ops bs base i t' H) (t := t) (t' := t') (fun x hx => h x hx)]
    · split
      · rfl
      · split
        · rw [oAct_congr (H := viewE ops bs base i t' H) (pos := base + 4 * i) (t := t) (t' := t') (fun x hx => h x hx)]
        · rfl

/-- An operation that doesn't look at the table. -/
theorem dAct_pure {ops : List Oper} {bs : List Nat} {base i : Nat} {o : Oper} {t : List AV} (ht : touches o.op = false) (H : List Ent) : dAct Γ ops bs base i o ⟨t, H⟩ = (dAct Γ ops bs base i o ⟨t, []⟩).map fun p => (p.1, H) := by
  unfold dAct oAct
  simp only [ht, not_call ht, moOf_pure ht]
  rw [opf_pure ht, opf_pure (pos := base + 4 * i) ht []]
  cases opf Γ.P ⟨t, []⟩ 0 o with
  | none => rfl
  | some e => obtain ⟨ok, v, H'⟩ := e; cases ok <;> rfl

theorem maskE_get {base bits own : Nat} : ∀ (H : List Ent) (k j : Nat), (maskE base bits own k H)[j]? = (H[j]?).map fun e => if decide (k + j < base) || bits.testBit ((k + j - base) / 4) || (k + j - base) / 4 == own then e else .dead
  | [], k, j => by simp [maskE]
  | e :: r, k, 0 => by simp [maskE]
  | e :: r, k, j + 1 => by
    simp only [maskE, List.getElem?_cons_succ]
    rw [maskE_get r (k + 1) j]
    have : k + 1 + j = k + (j + 1) := by omega
    rw [this]
theorem maskE_length {base bits own : Nat} : ∀ (H : List Ent) (k : Nat), (maskE base bits own k H).length = H.length
  | [], k => rfl
  | e :: r, k => by simp [maskE, maskE_length r (k + 1)]
theorem maskE_low {base bits own p : Nat} {e : Ent} {H : List Ent} (h : p < base) : maskE base bits own 0 (H.set p e) = (maskE base bits own 0 H).set p e := by
  refine List.ext_getElem? fun j => ?_
  rw [maskE_get, List.getElem?_set, List.getElem?_set, maskE_length, maskE_get]
  by_cases hj : p = j
  · subst hj
    by_cases hl : p < H.length
    · simp [hl, h]
    · simp [hl]
  · simp [hj]
theorem killE_length (base : Nat) : ∀ (l : List Nat) (H : List Ent), (killE base l H).length = H.length
  | [], H => rfl
  | q :: l, H => by
    unfold killE
    rw [killE_length base l]
    split <;> simp
theorem killE_get (base : Nat) : ∀ (l : List Nat) (H : List Ent) (k : Nat), (killE base l H)[k]? = (H[k]?).map fun e => if k < base ∧ k ∈ l then .dead else e
  | [], H, k => by simp [killE]
  | q :: l, H, k => by
    unfold killE
    rw [killE_get base l]
    by_cases hq : q < base
    · rw [if_pos hq, List.getElem?_set]
      by_cases hk : q = k
      · subst hk
        by_cases hl : q < H.length
        · simp [hl, hq]
        · simp [hl]
      · have hk' : ¬ k = q := fun e => hk e.symm
        simp [hk, hk']
    · rw [if_neg hq]
      cases H[k]? with
      | none => rfl
      | some e =>
        simp only [Option.map_some, Option.some.injEq, List.mem_cons]
        by_cases hk : k = q
        · subst hk; simp [hq]
        · simp [hk]
/-- Not to be seen by operation number j. -/
def Hid (ops : List Oper) (bs : List Nat) (base j : Nat) (tmps : List AV) (q : Nat) : Prop :=
  (q < base ∧ q ∈ killL ops bs j tmps) ∨ (base ≤ q ∧ (bs.getD j 0).testBit ((q - base) / 4) = false ∧ (q - base) / 4 ≠ j)
theorem view_get {ops : List Oper} {bs : List Nat} {base j : Nat} {tmps : List AV} {H : List Ent} (k : Nat) :
    (viewE ops bs base j tmps H)[k]? = (H[k]?).map fun e => if k < base ∧ k ∈ killL ops bs j tmps then .dead else if decide (k < base) || (bs.getD j 0).testBit ((k - base) / 4) || (k - base) / 4 == j then e else .dead := by
  unfold viewE
  rw [killE_get, maskE_get]
  cases H[k]? with
  | none => rfl
  | some e => simp
theorem view_length {ops : List Oper} {bs : List Nat} {base j : Nat} {tmps : List AV} {H : List Ent} : (viewE ops bs base j tmps H).length = H.length := by
  unfold viewE
  rw [killE_length, maskE_length]
theorem view_hid {ops : List Oper} {bs : List Nat} {base j : Nat} {tmps : List AV} {H : List Ent} {q : Nat} {e : Ent} (h : Hid ops bs base j tmps q) : viewE ops bs base j tmps (H.set q e) = viewE ops bs base j tmps H := by
  refine List.ext_getElem? fun k => ?_
  rw [view_get, view_get, List.getElem?_set]
  by_cases hk : q = k
  · subst hk
    by_cases hl : q < H.length
    · simp only [if_true, hl, List.getElem?_eq_getElem hl, Option.map_some]
      rcases h with ⟨h1, h2⟩ | ⟨h1, h2, h3⟩
      · simp [h1, h2]
      · have : ¬ q < base := by omega
        simp only [this, h2, false_and, if_false, decide_false, Bool.false_or, beq_eq_false_iff_ne.2 h3, Bool.false_eq_true]
    · have : H[q]? = none := List.getElem?_eq_none (by omega)
      simp [hl, this]
  · simp [hk]
theorem view_dead {ops : List Oper} {bs : List Nat} {base j : Nat} {tmps : List AV} {H : List Ent} {q : Nat} (h : Hid ops bs base j tmps q) (ob : Ob) : hp (viewE ops bs base j tmps H) q ≠ .live ob := by
  unfold hp
  rw [List.getD_eq_getElem?_getD, view_get]
  cases hq : H[q]? with
  | none => simp
  | some e =>
    simp only [Option.map_some, Option.getD_some]
    rcases h with ⟨h1, h2⟩ | ⟨h1, h2, h3⟩
    · simp [h1, h2]
    · have : ¬ q < base := by omega
      simp only [this, h2, false_and, if_false, decide_false, Bool.false_or, beq_eq_false_iff_ne.2 h3, Bool.false_eq_true]
      exact fun e => by cases e

theorem mem_zip {ops : Array Oper} {i : Nat} {o : Oper} (h : ops[i]? = some o) : (o, i) ∈ ops.toList.zipIdx := by
  rw [List.mem_iff_getElem?]
  refine ⟨i, ?_⟩
  simp [h]

theorem put_comm {s : St} {x y : Option Tmp} {v u : AV} {H1 H2 H3 H4 : List Ent} (h : ∀ d, x = some d → y ≠ some d) (hH : H2 = H4) : (s.put x v H1).put y u H2 = (s.put y u H3).put x v H4 := by
  subst hH
  cases x with
  | none => cases y <;> rfl
  | some d =>
    cases y with
    | none => rfl
    | some e =>
      have hne : d ≠ e := fun he => h d rfl (by rw [he])
      simp [St.put, List.set_comm _ _ hne]

/-- One step, in short. -/
theorem stp_cases {ops : Array Oper} {bs : List Nat} {base i : Nat} {o : Oper} {s s' : St} (hi : ops[i]? = some o) (h : stp Γ ops bs base i s = some s') :
    (gate s ops o = some false ∧ s' = s.put o.dst undefA s.H) ∨ (gate s ops o = some true ∧ freezes s o = true ∧ serialAll ops.toList bs i = true ∧ evO Γ o (base + 4 * i) s some = some s') ∨
    (gate s ops o = some true ∧ (freezes s o && serialAll ops.toList bs i) = false ∧ ∃ v H', dAct Γ ops.toList bs base i o s = some (v, H') ∧ s' = s.put o.dst v H') := by
  unfold stp at h
  rw [hi] at h
  simp only at h
  split at h
  · rename_i hg
    rcases evDO_cases h with ⟨a1, a2, a3⟩ | ⟨a1, v, H', a2, a3⟩
    · exact .inr (.inl ⟨hg, a1, a2, a3⟩)
    · exact .inr (.inr ⟨hg, a1, v, H', a2, (Option.some.inj a3).symm⟩)
  · rename_i hg
    exact .inl ⟨hg, (Option.some.inj h).symm⟩
  · cases h

theorem stp_of {ops : Array Oper} {bs : List Nat} {base i : Nat} {o : Oper} {s : St} {v : AV} {H' : List Ent} (hi : ops[i]? = some o) (hg : gate s ops o = some true) (hf : (freezes s o && serialAll ops.toList bs i) = false) (h : dAct Γ ops.toList bs base i o s = some (v, H')) :
    stp Γ ops bs base i s = some (s.put o.dst v H') := by
  have hO : ∀ {pos : Nat} {s : St}, freezes s o = false → ∀ {v H'}, oAct Γ o pos s = some (v, H') → ∀ f : St → St, evO Γ o pos s (fun s => some (f s)) = some (f (s.put o.dst v H')) := by
    intro pos s hf v H' h f
    unfold oAct at h
    unfold evO
    cases hc : calleeOf s o with
    | some p =>
      obtain ⟨g, caps, args⟩ := p
      rw [hc] at h
      unfold freezes at hf
      rw [hc] at hf
      have hids : idsL (args.map s.op ++ caps) = [] := by simp only [Bool.or_eq_false_iff] at hf; simpa using hf.1
      simp only [hids]
      simp only at h
      have e1 : s.frzL [] = s := rfl
      split at h
      · rename_i S hS
        split at h
        · rename_i hop
          split at h
          · rename_i x hx
            split at h
            · rename_i y hy
              split at h
              · rename_i how
                cases h
                simp only [hS, hop, e1, hx, hy, how]
                rfl
              · rename_i how
                cases h
                simp only [hS, hop, e1, hx, hy, how, Option.bind_some]
                split <;> rfl
            · cases h
          · cases h
        · cases h
      · cases h
    | none =>
      rw [hc] at h
      simp only at h ⊢
      split at h
      · rename_i e he
        split at h
        · rename_i hok; cases h; simp only [he, hok]
        · cases h
      · cases h
  unfold stp
  rw [hi]
  simp only [hg]
  unfold dAct at h
  unfold evDO
  split at h
  · rename_i M x hm
    split at h
    · rename_i y hy
      split at h
      · rename_i hl
        cases h
        simp only [hm, hy, Option.bind_some, hl]
      · cases h
    · cases h
  rename_i hmo
  simp only [hmo]
  split at h
  · rename_i ht
    have hf' : freezes s o = false := by unfold freezes; rw [not_call ht]
    simp only [ht]
    exact hO hf' h id
  · rename_i ht
    split at h
    · rename_i hf'
      rw [hf', Bool.true_and] at hf
      simp only [ht, hf', hf]
      split at h
      · rename_i v' hv
        cases h
        exact evLent_of hv
      · cases h
    · rename_i hf'
      simp only [ht, hf']
      split at h
      · rename_i hw
        simp only [hw]
        exact hO hf' h id
      · rename_i hw
        simp only [hw]
        split at h
        · rename_i q hq
          simp only [hq]
          split at h
          · rename_i v' H2 h2
            cases h
            exact hO (s := ⟨s.tmps, viewE ops.toList bs base i s.tmps s.H⟩) hf' h2 fun s' => ⟨s'.tmps, s.H.set q (s'.H.getD q .free)⟩
          · cases h
        · cases h
end
end Go.Proofs.Ytbcnifnmccaleaa.Fw
