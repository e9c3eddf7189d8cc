/- A region that draws its order, at its end: one walk in the order of the text serves every order. -/
import Derived.Test.YtbcnifnmccaleaaFwO
namespace Go.Proofs.Ytbcnifnmccaleaa.Fw
open Go Go.RowKit
set_option linter.unusedVariables false
set_option linter.unusedSimpArgs false

section
variable {P : Program} {Γ : Ctx} {R : Type}

theorem serialAll_spec {ops : Array Oper} {bs : List Nat} {i j : Nat} {o : Oper} (h : serialAll ops.toList bs i = true) (hj : ops[j]? = some o) (hne : i ≠ j) : (bs.getD i 0).testBit j = true ∨ (bs.getD j 0).testBit i = true := by
  unfold serialAll at h
  rw [List.all_eq_true] at h
  have := h (o, j) (mem_zip hj)
  have hne' : ¬ j = i := fun e => hne e.symm
  simpa [hne'] using this
theorem serial_spec {ops : Array Oper} {bs : List Nat} {i j : Nat} {o : Oper} (h : serial ops.toList bs i = true) (hj : ops[j]? = some o) (hne : i ≠ j) (ht : touches o.op = true) : (bs.getD i 0).testBit j = true ∨ (bs.getD j 0).testBit i = true := by
  unfold serial at h
  rw [List.all_eq_true] at h
  have := h (o, j) (mem_zip hj)
  have hne' : ¬ j = i := fun e => hne e.symm
  simpa [hne', ht] using this
theorem apartOk_spec {ops : Array Oper} {bs : List Nat} {base i j q : Nat} {o : Oper} {tmps : List AV} (h : apartOk ops.toList bs base i q tmps = true) (hj : ops[j]? = some o) (hne : i ≠ j) (ht : touches o.op = true) (u1 : (bs.getD i 0).testBit j = false) (u2 : (bs.getD j 0).testBit i = false) : Hid ops.toList bs base j tmps q := by
  unfold apartOk at h
  rw [List.all_eq_true] at h
  have := h (o, j) (mem_zip hj)
  have hne' : ¬ j = i := fun e => hne e.symm
  simp only [ht, u1, u2, beq_eq_false_iff_ne.2 hne', Bool.not_true, Bool.or_false, Bool.false_or] at this
  split at this
  · rename_i hq
    exact .inl ⟨hq, by simpa using this⟩
  · rename_i hq
    simp only [Bool.and_eq_true, Bool.not_eq_true', beq_eq_false_iff_ne] at this
    exact .inr ⟨by omega, this.1, this.2⟩
theorem placeOf_spec {ops : Array Oper} {bs : List Nat} {base i q : Nat} {o : Oper} {s : St} (h : placeOf ops.toList bs base i o s = some q) : (writes o.op = false ∧ q = base + 4 * i) ∨ (writes o.op = true ∧ ∃ t x v, o.op = .store t x v ∧ (∃ a b, s.op x = .ptr q a b) ∧ apartOk ops.toList bs base i q s.tmps = true) := by
  unfold placeOf at h
  split at h
  · rename_i hw; cases h; exact .inl ⟨hw, rfl⟩
  · rename_i hw
    split at h
    · rename_i x hx
      split at h
      · rename_i q' a b hp
        split at h
        · rename_i hap
          cases h
          unfold storeTo at hx
          split at hx
          · rename_i t x' v ho
            cases hx
            exact .inr ⟨hw, t, _, v, ho, ⟨a, b, hp⟩, hap⟩
          · cases hx
        · cases h
      · cases h
    · cases h
/-- Its place is hidden from the other one. -/
theorem place_hid {ops : Array Oper} {bs : List Nat} {base i j q : Nat} {x y : Oper} {s : St} (h : placeOf ops.toList bs base i x s = some q) (hj : ops[j]? = some y) (hne : i ≠ j) (ht : touches y.op = true) (u1 : (bs.getD i 0).testBit j = false) (u2 : (bs.getD j 0).testBit i = false) : Hid ops.toList bs base j s.tmps q := by
  rcases placeOf_spec h with ⟨_, rfl⟩ | ⟨_, t, x, v, _, _, hap⟩
  · exact .inr ⟨by omega, by rw [show (base + 4 * i - base) / 4 = i by omega]; exact u2, by omega⟩
  · exact apartOk_spec hap hj hne ht u1 u2
/-- Who changes an object sees it. -/
theorem store_live {o : Oper} {pos q : Nat} {s s' : St} {t : TypeId} {x v : Operand} {r : AV × List Ent} (ho : o.op = .store t x v) (hx : ∃ a b, s.op x = .ptr q a b) (h : oAct Γ o pos s = some r) : ∃ ob, hp s.H q = .live ob := by
  have hc : calleeOf s o = none := by unfold calleeOf; rw [ho]
  unfold oAct at h
  rw [hc] at h
  simp only at h
  split at h
  · rename_i e he
    unfold opf at he
    rw [ho] at he
    simp only at he
    obtain ⟨a, b, hx⟩ := hx
    rw [hx] at he
    unfold storeE at he
    simp only at he
    split at he
    · rename_i ob hl; exact ⟨ob, hl⟩
    · cases he
  · cases h
theorem apartB_spec {ops : Array Oper} {bs : List Nat} {i j : Nat} {x y : Oper} (h : apartB ops bs = true) (hi : ops[i]? = some x) (hj : ops[j]? = some y) (hne : i ≠ j) (u1 : (bs.getD i 0).testBit j = false) (u2 : (bs.getD j 0).testBit i = false) : x.apart ops y = true := by
  unfold apartB at h
  rw [List.all_eq_true] at h
  have h1 := h (x, i) (mem_zip hi)
  simp only at h1
  rw [List.all_eq_true] at h1
  have := h1 (y, j) (mem_zip hj)
  simp only [Bool.or_eq_true, beq_iff_eq] at this
  rcases this with ((h | h) | h) | h
  · exact absurd h hne
  · rw [u1] at h; cases h
  · rw [u2] at h; cases h
  · exact h

/-- Several entries. -/
def setE : List (Nat × Ent) → List Ent → List Ent
  | [], H => H
  | (k, e) :: r, H => setE r (H.set k e)
theorem setE_set : ∀ (L : List (Nat × Ent)) (H : List Ent) (k : Nat) (e : Ent), (∀ p ∈ L, p.1 ≠ k) → setE L (H.set k e) = (setE L H).set k e
  | [], H, k, e, _ => rfl
  | (j, x) :: r, H, k, e, h => by
    have h1 : j ≠ k := h (j, x) (List.mem_cons_self ..)
    unfold setE
    rw [List.set_comm _ _ (Ne.symm h1), setE_set r _ k e fun p hp => h p (List.mem_cons_of_mem _ hp)]
theorem setE_comm : ∀ (L1 L2 : List (Nat × Ent)) (H : List Ent), (∀ p ∈ L1, ∀ q ∈ L2, p.1 ≠ q.1) → setE L1 (setE L2 H) = setE L2 (setE L1 H)
  | [], L2, H, _ => rfl
  | (j, x) :: r, L2, H, h => by
    show setE r ((setE L2 H).set j x) = setE L2 (setE r (H.set j x))
    rw [← setE_set L2 H j x fun q hq => (h (j, x) (List.mem_cons_self ..) q hq).symm, setE_comm r L2 _ fun p hp => h p (List.mem_cons_of_mem _ hp)]
theorem view_hidL {ops : List Oper} {bs : List Nat} {base j : Nat} {tmps : List AV} : ∀ {L : List (Nat × Ent)} {H : List Ent}, (∀ p ∈ L, Hid ops bs base j tmps p.1) → viewE ops bs base j tmps (setE L H) = viewE ops bs base j tmps H
  | [], H, _ => rfl
  | (k, e) :: r, H, h => by
    unfold setE
    rw [view_hidL (L := r) fun p hp => h p (List.mem_cons_of_mem _ hp)]
    exact view_hid (h (k, e) (List.mem_cons_self ..))
def entsL : Nat → List Ob → List (Nat × Ent)
  | _, [] => []
  | k, ob :: r => (k, .live ob) :: entsL (k + 1) r
theorem setL_setE : ∀ (obs : List Ob) (k : Nat) (H : List Ent), setL k obs H = setE (entsL k obs) H
  | [], k, H => rfl
  | ob :: r, k, H => by unfold setL entsL setE; rw [setL_setE r]
theorem entsL_mem : ∀ {obs : List Ob} {k : Nat} {p : Nat × Ent}, p ∈ entsL k obs → k ≤ p.1 ∧ p.1 < k + obs.length
  | [], k, p, h => by cases h
  | ob :: r, k, p, h => by
    rcases List.mem_cons.1 h with rfl | h
    · exact ⟨Nat.le_refl _, by simp⟩
    · have := entsL_mem h
      simp only [List.length_cons]
      omega

/-- Two operations that may come up in either order. -/
theorem stp_comm {ops : Array Oper} {bs : List Nat} {base i j : Nat} {x y : Oper} {s s1 s2 : St} (hi : ops[i]? = some x) (hj : ops[j]? = some y) (hne : i ≠ j) (u1 : (bs.getD i 0).testBit j = false) (u2 : (bs.getD j 0).testBit i = false) (hap : x.apart ops y = true)
    (h1 : stp Γ ops bs base i s = some s1) (h2 : stp Γ ops bs base j s1 = some s2) : ∃ s1', stp Γ ops bs base j s = some s1' ∧ stp Γ ops bs base i s1' = some s2 := by
  obtain ⟨a1, a2, a3⟩ := Oper.apart_spec hap
  have noAll : ∀ {i j : Nat} {o : Oper}, i ≠ j → ops[j]? = some o → (bs.getD i 0).testBit j = false → (bs.getD j 0).testBit i = false → serialAll ops.toList bs i = true → False := by
    intro i j o hne hj u1 u2 h
    rcases serialAll_spec h hj hne with h | h
    · rw [u1] at h; cases h
    · rw [u2] at h; cases h
  have noSer : ∀ {i j : Nat} {o : Oper}, i ≠ j → ops[j]? = some o → (bs.getD i 0).testBit j = false → (bs.getD j 0).testBit i = false → touches o.op = true → serial ops.toList bs i = true → False := by
    intro i j o hne hj u1 u2 ht h
    rcases serial_spec h hj hne ht with h | h
    · rw [u1] at h; cases h
    · rw [u2] at h; cases h
  -- what y sees is the same behind x, and the other way round
  have gy : ∀ {s : St} v H, gate (s.put x.dst v H) ops y = gate s ops y := fun v H => put_gate a1
  have gx : ∀ {s : St} v H, gate (s.put y.dst v H) ops x = gate s ops x := fun v H => put_gate a3
  have oy : ∀ {s : St} v H, ∀ z ∈ y.op.operands, (s.put x.dst v H).op z = St.op ⟨s.tmps, H⟩ z := fun v H z hz => put_op (looks_op a1 hz)
  have ox : ∀ {s : St} v H, ∀ z ∈ x.op.operands, (s.put y.dst v H).op z = St.op ⟨s.tmps, H⟩ z := fun v H z hz => put_op (looks_op a3 hz)
  have fy : ∀ {s : St} v H, freezes (s.put x.dst v H) y = freezes s y := fun v H => (freezes_congr (oy v H)).trans (freezes_congr fun z _ => rfl)
  have fx : ∀ {s : St} v H, freezes (s.put y.dst v H) x = freezes s x := fun v H => (freezes_congr (ox v H)).trans (freezes_congr fun z _ => rfl)
  have ext : ∀ {k : Nat} {o : Oper} {s : St} (v : AV) (H : List Ent), ops[k]? = some o → ∀ a, extT ops.toList a = true → (s.put o.dst v H).tmps.getD a undefA = s.tmps.getD a undefA := by
    intro k o s v H hk a ha
    unfold extT at ha
    rw [List.all_eq_true] at ha
    have := ha o (List.mem_of_getElem? (by simpa using hk))
    cases hd : o.dst with
    | none => rfl
    | some d =>
      rw [hd] at this
      have hne : d ≠ a := Nat.ne_of_beq_eq_false (by simpa using this)
      simp [St.put, List.getD_eq_getElem?_getD, List.getElem?_set, hne]
  have dy : ∀ {s : St} v H, dAct Γ ops.toList bs base j y (s.put x.dst v H) = dAct Γ ops.toList bs base j y ⟨s.tmps, H⟩ := fun {s} v H => dAct_congr (t := (s.put x.dst v H).tmps) (t' := s.tmps) (H := H) (fun z hz => oy v H z hz) (ext v H hi)
  have dx : ∀ {s : St} v H, dAct Γ ops.toList bs base i x (s.put y.dst v H) = dAct Γ ops.toList bs base i x ⟨s.tmps, H⟩ := fun {s} v H => dAct_congr (t := (s.put y.dst v H).tmps) (t' := s.tmps) (H := H) (fun z hz => ox v H z hz) (ext v H hj)
  have skip : ∀ {s : St} {k : Nat} {o : Oper}, ops[k]? = some o → gate s ops o = some false → stp Γ ops bs base k s = some (s.put o.dst undefA s.H) := by
    intro s k o hk hg
    unfold stp
    rw [hk]
    simp only [hg]
  rcases stp_cases hi h1 with ⟨g1, rfl⟩ | ⟨g1, z1, z2, _⟩ | ⟨g1, f1, v, H1, e1, rfl⟩
  · -- x is not wanted
    rcases stp_cases hj h2 with ⟨g2, rfl⟩ | ⟨g2, z1, z2, _⟩ | ⟨g2, f2, u, H2, e2, rfl⟩
    · rw [gy] at g2
      refine ⟨_, skip hj g2, ?_⟩
      rw [skip hi (by rw [gx]; exact g1)]
      exact congrArg some (put_comm a2 rfl).symm
    · exact (noAll (Ne.symm hne) hi u2 u1 z2).elim
    · rw [gy] at g2
      rw [fy] at f2
      rw [dy] at e2
      refine ⟨_, stp_of hj g2 f2 e2, ?_⟩
      rw [skip hi (by rw [gx]; exact g1)]
      exact congrArg some (put_comm a2 rfl).symm
  · exact (noAll hne hj u1 u2 z2).elim
  · rcases stp_cases hj h2 with ⟨g2, rfl⟩ | ⟨g2, z1, z2, _⟩ | ⟨g2, f2, u, H2, e2, rfl⟩
    · -- y is not wanted
      rw [gy] at g2
      refine ⟨_, skip hj g2, ?_⟩
      rw [stp_of (v := v) (H' := H1) hi (by rw [gx]; exact g1) (by rw [fx]; exact f1) (by rw [dx]; exact e1)]
      exact congrArg some (put_comm a2 rfl).symm
    · exact (noAll (Ne.symm hne) hi u2 u1 z2).elim
    · rw [gy] at g2
      rw [fy] at f2
      rw [dy] at e2
      -- both are carried out
      have fin : ∀ {H3 : List Ent}, dAct Γ ops.toList bs base j y s = some (u, H3) → dAct Γ ops.toList bs base i x ⟨s.tmps, H3⟩ = some (v, H2) → ∃ s1', stp Γ ops bs base j s = some s1' ∧ stp Γ ops bs base i s1' = some ((s.put x.dst v H1).put y.dst u H2) := by
        intro H3 e3 e4
        refine ⟨_, stp_of hj g2 f2 e3, ?_⟩
        rw [stp_of (v := v) (H' := H2) hi (by rw [gx]; exact g1) (by rw [fx]; exact f1) (by rw [dx]; exact e4)]
        exact congrArg some (put_comm a2 rfl).symm
      obtain ⟨t, H⟩ := s
      simp only at e1 e2 fin ⊢
      cases tx : touches x.op with
      | false =>
        rw [dAct_pure tx] at e1
        cases hq : dAct Γ ops.toList bs base i x ⟨t, []⟩ with
        | none => rw [hq] at e1; cases e1
        | some q =>
          rw [hq] at e1
          cases e1
          exact fin e2 (by rw [dAct_pure tx, hq]; rfl)
      | true =>
        cases ty : touches y.op with
        | false =>
          rw [dAct_pure ty] at e2
          cases hq : dAct Γ ops.toList bs base j y ⟨t, []⟩ with
          | none => rw [hq] at e2; cases e2
          | some q =>
            rw [hq] at e2
            cases e2
            exact fin (H3 := H) (by rw [dAct_pure ty, hq]; rfl) e1
        | true =>
          have fz : ∀ {i j : Nat} {x : Oper} {H : List Ent}, i ≠ j → touches x.op = true → (bs.getD i 0).testBit j = false → (bs.getD j 0).testBit i = false → ∀ {r}, dAct Γ ops.toList bs base i x ⟨t, H⟩ = some r → (∃ y, ops[j]? = some y ∧ touches y.op = true) →
              ∃ v L, r = (v, setE L H) ∧ (∀ p ∈ L, Hid ops.toList bs base j t p.1) ∧ (∀ q, Hid ops.toList bs base i t q → ∀ p ∈ L, p.1 ≠ q) ∧
                ∀ H', viewE ops.toList bs base i t H' = viewE ops.toList bs base i t H → dAct Γ ops.toList bs base i x ⟨t, H'⟩ = some (v, setE L H') := by
            intro i j x H hne tx u1 u2 r h hy
            obtain ⟨y, hj, ty⟩ := hy
            have fzH : ∀ {H' : List Ent}, freezes ⟨t, H'⟩ x = freezes ⟨t, H⟩ x := freezes_congr fun _ _ => rfl
            have moH : ∀ {H' : List Ent}, moOf Γ ⟨t, H'⟩ x = moOf Γ ⟨t, H⟩ x := moOf_congr fun _ _ => rfl
            unfold dAct at h
            split at h
            · -- several lists
              rename_i M z hm
              split at h
              · rename_i y' hy'
                split at h
                · rename_i hl
                  cases h
                  have hl4 : (M.obs y').length ≤ 4 := by simpa using hl
                  refine ⟨_, entsL (base + 4 * i) ((M.obs y').map (renOb (shF (base + 4 * i) (M.obs y').length))), by rw [setL_setE], fun p hp => ?_, fun q hq p hp e => ?_, fun H' _ => ?_⟩
                  · have := entsL_mem hp
                    simp only [List.length_map] at this
                    exact .inr ⟨by omega, by rw [show (p.1 - base) / 4 = i by omega]; exact u2, by omega⟩
                  · have := entsL_mem hp
                    simp only [List.length_map] at this
                    rcases hq with ⟨h1, _⟩ | ⟨_, _, h1⟩
                    · omega
                    · exact h1 (by omega)
                  · unfold dAct
                    rw [moH, hm]
                    simp only [hy', hl]
                    rw [setL_setE]
                · cases h
              · cases h
            · rename_i hmo
              simp only [tx] at h
              split at h
              · rename_i hf
                split at h
                · rename_i v hv
                  cases h
                  refine ⟨v, [], rfl, fun _ hp => (nomatch hp), fun _ _ _ hp => (nomatch hp), fun H' hH' => ?_⟩
                  unfold dAct
                  rw [moH, hmo]
                  simp only [tx, fzH, hf, hH', hv]
                  rfl
                · cases h
              · rename_i hf
                split at h
                · rename_i hs
                  rw [Bool.and_eq_true] at hs
                  exact (noSer hne hj u1 u2 ty hs.2).elim
                · rename_i hs
                  split at h
                  · rename_i q hq
                    split at h
                    · rename_i v Hx hx
                      cases h
                      refine ⟨v, [(q, Hx.getD q .free)], rfl, fun p hp => ?_, fun q' hq' p hp e => ?_, fun H' hH' => ?_⟩
                      · rw [List.mem_singleton] at hp
                        subst hp
                        exact place_hid hq hj hne ty u1 u2
                      · rw [List.mem_singleton] at hp
                        subst hp
                        have e : q = q' := e
                        subst e
                        rcases placeOf_spec hq with ⟨_, e2⟩ | ⟨_, ty', x', v', ho, hx', _⟩
                        · rcases hq' with ⟨h1, _⟩ | ⟨_, _, h1⟩
                          · omega
                          · exact h1 (by omega)
                        · obtain ⟨ob, hl⟩ := store_live (s' := ⟨t, H⟩) (s := ⟨t, viewE ops.toList bs base i t H⟩) ho hx' hx
                          exact view_dead hq' ob hl
                      · unfold dAct
                        have hq1' : placeOf ops.toList bs base i x ⟨t, H'⟩ = some q := hq
                        rw [moH, hmo]
                        simp only [tx, fzH, hf, hs, hq1', hH', hx]
                        rfl
                    · cases h
                  · cases h
          obtain ⟨v', L1, r1, p1, p2, p3⟩ := fz hne tx u1 u2 e1 ⟨y, hj, ty⟩
          cases r1
          obtain ⟨u', L2, r2, q1, q2, q3⟩ := fz (Ne.symm hne) ty u2 u1 e2 ⟨x, hi, tx⟩
          cases r2
          have a1 := q3 H (view_hidL p1).symm
          have a2 := p3 (setE L2 H) (view_hidL q1)
          refine fin a1 ?_
          rw [a2, setE_comm L1 L2 H fun p hp q hq => (q2 p.1 (p1 p hp) q hq).symm]
end
end Go.Proofs.Ytbcnifnmccaleaa.Fw
