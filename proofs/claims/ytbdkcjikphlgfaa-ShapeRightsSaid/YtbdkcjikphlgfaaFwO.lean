/- A region that draws its order, at its end: one walk in the order of the text serves every order. -/
import Derived.Test.YtbdkcjikphlgfaaFwN
namespace Go.Proofs.Ytbdkcjikphlgfaa.Fw
open Go Go.RowKit
set_option linter.unusedVariables false
set_option linter.unusedSimpArgs false

section
variable {P : Program} {Γ : Ctx} {R : Type}

/-- What an operation gives, where nothing becomes fixed. -/
def oAct (Γ : Ctx) (o : Oper) (pos : Nat) (s : St) : Option (AV × List Ent) :=
  match calleeOf s o with
  | some (g, caps, args) => match Γ.sums g with
    | some S => match S.dec (cloL (args.map s.op ++ caps)) with
      | some x => match S.f x with
        | some y => some (S.enc y, s.H)
        | none => none
      | none => none
    | none => none
  | none => match opf Γ.P s pos o with
    | some e => match e.ok with
      | true => some (e.v, e.H)
      | false => none
    | none => none

theorem evO_oAct {o : Oper} {pos : Nat} {s : St} {K : St → Option R} {r : R} (hf : freezes s o = false) (h : evO Γ o pos s K = some r) : ∃ v H', oAct Γ o pos s = some (v, H') ∧ K (s.put o.dst v H') = some r := by
  rcases evO_cases h with ⟨g, caps, args, S, x, y, hc, hS, hx, hy, hk⟩ | ⟨hc, e, he, hok, hk⟩
  · unfold freezes at hf
    rw [hc] at hf
    have hids : idsL (args.map s.op ++ caps) = [] := by simpa using hf
    rw [hids] at hx hk
    refine ⟨S.enc y, s.H, ?_, hk⟩
    unfold oAct
    rw [hc]
    simp only [hS]
    have hx' : S.dec (cloL (args.map s.op ++ caps)) = some x := hx
    rw [hx']
    simp only [hy]
  · refine ⟨e.v, e.H, ?_, hk⟩
    unfold oAct
    rw [hc]
    simp only [he, hok]

def dAct (Γ : Ctx) (ops : List Oper) (bs : List Nat) (base i : Nat) (o : Oper) (s : St) : Option (AV × List Ent) :=
  match touches o.op with
  | false => oAct Γ o (base + i) s
  | true => match writes o.op with
    | true => match serial ops bs i with
      | true => oAct Γ o (base + i) s
      | false => none
    | false => match oAct Γ o (base + i) ⟨s.tmps, maskE base (bs.getD i 0) (base + i) 0 s.H⟩ with
      | some (v, H') => some (v, s.H.set (base + i) (H'.getD (base + i) .free))
      | none => none

theorem not_call {o : Oper} {s : St} (h : touches o.op = false) : calleeOf s o = none := by
  unfold calleeOf
  split
  · rename_i ho; rw [ho] at h; cases h
  · rfl

theorem evDO_cases {ops : List Oper} {bs : List Nat} {base i : Nat} {o : Oper} {s : St} {K : St → Option R} {r : R} (h : evDO Γ ops bs base i o s K = some r) :
    (freezes s o = true ∧ serialAll ops bs i = true ∧ evO Γ o (base + i) s K = some r) ∨ (freezes s o = false ∧ ∃ v H', dAct Γ ops bs base i o s = some (v, H') ∧ K (s.put o.dst v H') = some r) := by
  unfold evDO at h
  unfold dAct
  split at h
  · rename_i ht
    have hf : freezes s o = false := by unfold freezes; rw [not_call ht]
    obtain ⟨v, H', h1, h2⟩ := evO_oAct hf h
    exact .inr ⟨hf, v, H', by simp only [ht]; exact h1, h2⟩
  · rename_i ht
    split at h
    · rename_i hf
      split at h
      · rename_i hs; exact .inl ⟨hf, hs, h⟩
      · cases h
    · rename_i hf
      split at h
      · rename_i hw
        split at h
        · rename_i hs
          obtain ⟨v, H', h1, h2⟩ := evO_oAct hf h
          exact .inr ⟨hf, v, H', by simp only [ht, hw, hs]; exact h1, h2⟩
        · cases h
      · rename_i hw
        obtain ⟨v, H', h1, h2⟩ := evO_oAct (s := ⟨s.tmps, maskE base (bs.getD i 0) (base + i) 0 s.H⟩) hf h
        exact .inr ⟨hf, v, _, by simp only [ht, hw, h1]; rfl, h2⟩

/-- Is an operation wanted? -/
def gate (s : St) (ops : Array Oper) (o : Oper) : Option Bool :=
  match o.guard with
  | none => some true
  | some (j, want) => match guardVal s ops j with
    | some (some b) => some (b == want)
    | some none => some false
    | none => none
def stp (Γ : Ctx) (ops : Array Oper) (bs : List Nat) (base i : Nat) (s : St) : Option St :=
  match ops[i]? with
  | none => some s
  | some o => match gate s ops o with
    | some true => evDO Γ ops.toList bs base i o s some
    | some false => some (s.put o.dst undefA s.H)
    | none => none

theorem know_eq {s : St} {ops : Array Oper} {j : Nat} {b : Bool} (h : guardVal s ops j = some (some b)) : s.know ops j b = s := by
  unfold guardVal at h
  unfold St.know
  split at h
  · rename_i o ho
    split at h
    · rename_i d hd
      split at h
      · rename_i b' hv
        cases h
        rw [List.getD_eq_getElem?_getD] at hv
        cases h1 : s.tmps[d]? with
        | none => rw [h1] at hv; cases hv
        | some c =>
          rw [h1] at hv
          simp only [Option.getD_some] at hv
          subst hv
          try simp only [ho, hd]
          rw [set_same h1]
      · cases h
      · cases h
    · cases h
  · cases h

theorem evDO_bind {ops : List Oper} {bs : List Nat} {base i : Nat} {o : Oper} {s : St} {K : St → Option R} {r : R} (h : evDO Γ ops bs base i o s K = some r) : ∃ s', evDO Γ ops bs base i o s some = some s' ∧ K s' = some r := by
  have evOb : ∀ {pos : Nat} {s : St} {K : St → Option R} {f : St → St}, evO Γ o pos s (fun s => K (f s)) = some r → ∃ s', evO Γ o pos s (fun s => some (f s)) = some s' ∧ K s' = some r := by
    intro pos s K f h
    unfold evO at h ⊢
    split at h
    · (try simp only at h)
      (try simp only)
      split at h
      · split at h
        · rw [Option.bind_eq_some_iff] at h
          obtain ⟨y, h1, h2⟩ := h
          exact ⟨_, by rw [h1]; rfl, h2⟩
        · cases h
      · cases h
    · split at h
      · split at h
        · exact ⟨_, rfl, h⟩
        · cases h
      · cases h
  unfold evDO at h ⊢
  split at h
  · exact evOb (f := id) h
  · split at h
    · split at h
      · exact evOb (f := id) h
      · cases h
    · split at h
      · split at h
        · exact evOb (f := id) h
        · cases h
      · exact evOb h

theorem evD_stp {ops : Array Oper} {bs : List Nat} {base i : Nat} {o : Oper} {rest : List Oper} {s : St} {K : St → Option R} {r : R} (hi : ops[i]? = some o) (h : evD Γ ops bs base i (o :: rest) s K = some r) :
    ∃ s', stp Γ ops bs base i s = some s' ∧ evD Γ ops bs base (i + 1) rest s' K = some r := by
  unfold evD at h
  unfold stp
  rw [hi]
  simp only
  unfold gate
  split at h
  · rename_i hg
    simp only [hg]
    exact evDO_bind h
  · rename_i j want hg
    simp only [hg]
    split at h
    · rename_i b hb
      have kn := know_eq hb
      simp only [hb]
      cases want <;> cases b <;> simp only at h <;> rw [kn] at h
      · exact evDO_bind h
      · exact ⟨_, rfl, h⟩
      · exact ⟨_, rfl, h⟩
      · exact evDO_bind h
    · rename_i hb
      simp only [hb]
      exact ⟨_, rfl, h⟩
    · cases h

/-! ### Two operations -/
theorem put_op {s : St} {d : Option Tmp} {v : AV} {H : List Ent} {x : Operand} (h : ∀ t, d = some t → x ≠ .tmp t) : (s.put d v H).op x = St.op ⟨s.tmps, H⟩ x := by
  cases d with
  | none => rfl
  | some t =>
    cases x <;> try rfl
    rename_i u
    have hne : t ≠ u := fun e => h t rfl (by rw [e])
    simp [St.op, St.put, List.getD_eq_getElem?_getD, List.getElem?_set, hne]

theorem looks_op {ops : Array Oper} {o : Oper} {d : Option Tmp} (h : ∀ t, d = some t → t ∉ o.looksAt ops) {x : Operand} (hx : x ∈ o.op.operands) : ∀ t, d = some t → x ≠ .tmp t := by
  intro t ht he
  subst he
  exact h t ht (List.mem_append_left _ (List.mem_filterMap.2 ⟨.tmp t, by simpa using hx, rfl⟩))

theorem put_gate {s : St} {d : Option Tmp} {v : AV} {H : List Ent} {ops : Array Oper} {o : Oper} (h : ∀ t, d = some t → t ∉ o.looksAt ops) : gate (s.put d v H) ops o = gate s ops o := by
  unfold gate
  split
  · rfl
  · rename_i j want hg
    have : guardVal (s.put d v H) ops j = guardVal s ops j := by
      unfold guardVal
      split
      · rename_i x hx
        split
        · rename_i t ht
          have hne : ∀ u, d = some u → u ≠ t := by
            intro u hu he
            subst he
            refine h u hu (List.mem_append_right _ ?_)
            simp [hg, hx, ht]
          have : (s.put d v H).tmps.getD t undefA = s.tmps.getD t undefA := by
            cases d with
            | none => rfl
            | some u => simp [St.put, List.getD_eq_getElem?_getD, List.getElem?_set, hne u rfl]
          rw [this]
        · rfl
      · rfl
    rw [this]

theorem calleeOf_congr {o : Oper} {s s' : St} (h : ∀ x ∈ o.op.operands, s.op x = s'.op x) : calleeOf s o = calleeOf s' o := by
  unfold calleeOf
  split
  · rename_i f as ts ho
    simp only [ho, Op.operands, Call.operands] at h
    rw [h f (by simp)]
  · rfl

theorem freezes_congr {o : Oper} {s s' : St} (h : ∀ x ∈ o.op.operands, s.op x = s'.op x) : freezes s o = freezes s' o := by
  unfold freezes
  rw [calleeOf_congr h]
  split
  · rename_i g caps args hc
    obtain ⟨f, as, ts, ho, hf, rfl⟩ := calleeOf_spec hc
    simp only [ho, Op.operands, Call.operands] at h
    rw [List.map_congr_left fun x hx => h x (by simp; exact .inr (by simpa using hx))]
  · rfl

theorem oAct_congr {o : Oper} {t t' : List AV} {H : List Ent} {pos : Nat} (h : ∀ x ∈ o.op.operands, St.op ⟨t, H⟩ x = St.op ⟨t', H⟩ x) : oAct Γ o pos ⟨t, H⟩ = oAct Γ o pos ⟨t', H⟩ := by
  unfold oAct
  rw [calleeOf_congr h, opf_congr pos h]
  split
  · rename_i g caps args hc
    obtain ⟨f, as, ts, ho, hf, rfl⟩ := calleeOf_spec hc
    simp only [ho, Op.operands, Call.operands] at h
    rw [List.map_congr_left fun x hx => h x (by simp; exact .inr (by simpa using hx))]
  · rfl

theorem dAct_congr {ops : List Oper} {bs : List Nat} {base i : Nat} {o : Oper} {t t' : List AV} {H : List Ent} (h : ∀ x ∈ o.op.operands, St.op ⟨t, H⟩ x = St.op ⟨t', H⟩ x) : dAct Γ ops bs base i o ⟨t, H⟩ = dAct Γ ops bs base i o ⟨t', H⟩ := by
  unfold dAct
  rw [oAct_congr (pos := base + i) h, oAct_congr (H := maskE base (bs.getD i 0) (base + i) 0 H) (pos := base + i) (t := t) (t' := t') (fun x hx => h x hx)]

/-- An operation that doesn't look at the table. -/
theorem dAct_pure {ops : List Oper} {bs : List Nat} {base i : Nat} {o : Oper} {t : List AV} (ht : touches o.op = false) (H : List Ent) : dAct Γ ops bs base i o ⟨t, H⟩ = (dAct Γ ops bs base i o ⟨t, []⟩).map fun p => (p.1, H) := by
  unfold dAct oAct
  simp only [ht, not_call ht]
  rw [opf_pure ht, opf_pure (pos := base + i) ht []]
  cases opf Γ.P ⟨t, []⟩ 0 o with
  | none => rfl
  | some e => obtain ⟨ok, v, H'⟩ := e; cases ok <;> rfl

theorem maskE_set {base bits own : Nat} : ∀ {H : List Ent} {k p : Nat} {e : Ent}, base ≤ k + p → bits.testBit (k + p - base) = false → k + p ≠ own → maskE base bits own k (H.set p e) = maskE base bits own k H
  | [], k, p, e, _, _, _ => rfl
  | x :: r, k, 0, e, h1, h2, h3 => by
    have h4 : (decide (k < base) || bits.testBit (k - base) || k == own) = false := by
      simp only [Nat.add_zero] at h1 h2 h3
      simp [h2, h3]; omega
    simp only [List.set_cons_zero, maskE, h4, Bool.false_eq_true, if_false]
  | x :: r, k, p + 1, e, h1, h2, h3 => by
    simp only [List.set_cons_succ, maskE]
    rw [maskE_set (H := r) (k := k + 1) (p := p) (by omega) (by rw [show k + 1 + p = k + (p + 1) by omega]; exact h2) (by omega)]

theorem mem_zip {ops : Array Oper} {i : Nat} {o : Oper} (h : ops[i]? = some o) : (o, i) ∈ ops.toList.zipIdx := by
  rw [List.mem_iff_getElem?]
  refine ⟨i, ?_⟩
  simp [h]

theorem put_comm {s : St} {x y : Option Tmp} {v u : AV} {H1 H2 H3 H4 : List Ent} (h : ∀ d, x = some d → y ≠ some d) (hH : H2 = H4) : (s.put x v H1).put y u H2 = (s.put y u H3).put x v H4 := by
  subst hH
  cases x with
  | none => cases y <;> rfl
  | some d =>
    cases y with
    | none => rfl
    | some e =>
      have hne : d ≠ e := fun he => h d rfl (by rw [he])
      simp [St.put, List.set_comm _ _ hne]

/-- One step, in short. -/
theorem stp_cases {ops : Array Oper} {bs : List Nat} {base i : Nat} {o : Oper} {s s' : St} (hi : ops[i]? = some o) (h : stp Γ ops bs base i s = some s') :
    (gate s ops o = some false ∧ s' = s.put o.dst undefA s.H) ∨ (gate s ops o = some true ∧ freezes s o = true ∧ serialAll ops.toList bs i = true ∧ evO Γ o (base + i) s some = some s') ∨
    (gate s ops o = some true ∧ freezes s o = false ∧ ∃ v H', dAct Γ ops.toList bs base i o s = some (v, H') ∧ s' = s.put o.dst v H') := by
  unfold stp at h
  rw [hi] at h
  simp only at h
  split at h
  · rename_i hg
    rcases evDO_cases h with ⟨a1, a2, a3⟩ | ⟨a1, v, H', a2, a3⟩
    · exact .inr (.inl ⟨hg, a1, a2, a3⟩)
    · exact .inr (.inr ⟨hg, a1, v, H', a2, (Option.some.inj a3).symm⟩)
  · rename_i hg
    exact .inl ⟨hg, (Option.some.inj h).symm⟩
  · cases h

theorem stp_of {ops : Array Oper} {bs : List Nat} {base i : Nat} {o : Oper} {s : St} {v : AV} {H' : List Ent} (hi : ops[i]? = some o) (hg : gate s ops o = some true) (hf : freezes s o = false) (h : dAct Γ ops.toList bs base i o s = some (v, H')) :
    stp Γ ops bs base i s = some (s.put o.dst v H') := by
  have hO : ∀ {pos : Nat} {s : St}, freezes s o = false → ∀ {v H'}, oAct Γ o pos s = some (v, H') → ∀ f : St → St, evO Γ o pos s (fun s => some (f s)) = some (f (s.put o.dst v H')) := by
    intro pos s hf v H' h f
    unfold oAct at h
    unfold evO
    cases hc : calleeOf s o with
    | some p =>
      obtain ⟨g, caps, args⟩ := p
      rw [hc] at h
      unfold freezes at hf
      rw [hc] at hf
      have hids : idsL (args.map s.op ++ caps) = [] := by simpa using hf
      simp only [hids]
      simp only at h
      have e1 : s.frzL [] = s := rfl
      split at h
      · rename_i S hS
        split at h
        · rename_i x hx
          split at h
          · rename_i y hy
            cases h
            simp only [hS, e1, hx, hy]
            rfl
          · cases h
        · cases h
      · cases h
    | none =>
      rw [hc] at h
      simp only at h ⊢
      split at h
      · rename_i e he
        split at h
        · rename_i hok; cases h; simp only [he, hok]
        · cases h
      · cases h
  unfold stp
  rw [hi]
  simp only [hg]
  unfold dAct at h
  unfold evDO
  split at h
  · rename_i ht
    simp only [ht]
    exact hO hf h id
  · rename_i ht
    simp only [ht, hf]
    split at h
    · rename_i hw
      split at h
      · rename_i hs
        simp only [hw, hs]
        exact hO hf h id
      · cases h
    · rename_i hw
      simp only [hw]
      split at h
      · rename_i v' H2 h2
        cases h
        exact hO (s := ⟨s.tmps, maskE base (bs.getD i 0) (base + i) 0 s.H⟩) hf h2 fun s' => ⟨s'.tmps, s.H.set (base + i) (s'.H.getD (base + i) .free)⟩
      · cases h
end
end Go.Proofs.Ytbdkcjikphlgfaa.Fw
