/- A region that draws its order, at its end: one walk in the order of the text serves every order. -/
import Derived.Test.YtejlappndcakeaaFwO
namespace Go.Proofs.Ytejlappndcakeaa.Fw
open Go Go.RowKit
set_option linter.unusedVariables false
set_option linter.unusedSimpArgs false

section
variable {P : Program} {Γ : Ctx} {R : Type}

theorem serialAll_spec {ops : Array Oper} {bs : List Nat} {i j : Nat} {o : Oper} (h : serialAll ops.toList bs i = true) (hj : ops[j]? = some o) (hne : i ≠ j) : (bs.getD i 0).testBit j = true ∨ (bs.getD j 0).testBit i = true := by
  unfold serialAll at h
  rw [List.all_eq_true] at h
  have := h (o, j) (mem_zip hj)
  have hne' : ¬ j = i := fun e => hne e.symm
  simpa [hne'] using this
theorem serial_spec {ops : Array Oper} {bs : List Nat} {i j : Nat} {o : Oper} (h : serial ops.toList bs i = true) (hj : ops[j]? = some o) (hne : i ≠ j) (ht : touches o.op = true) : (bs.getD i 0).testBit j = true ∨ (bs.getD j 0).testBit i = true := by
  unfold serial at h
  rw [List.all_eq_true] at h
  have := h (o, j) (mem_zip hj)
  have hne' : ¬ j = i := fun e => hne e.symm
  simpa [hne', ht] using this
theorem apartOk_spec {ops : Array Oper} {bs : List Nat} {base i j q : Nat} {o : Oper} {tmps : List AV} (h : apartOk ops.toList bs base i q tmps = true) (hj : ops[j]? = some o) (hne : i ≠ j) (ht : touches o.op = true) (u1 : (bs.getD i 0).testBit j = false) (u2 : (bs.getD j 0).testBit i = false) : Hid ops.toList bs base j tmps q := by
  unfold apartOk at h
  rw [List.all_eq_true] at h
  have := h (o, j) (mem_zip hj)
  have hne' : ¬ j = i := fun e => hne e.symm
  simp only [ht, u1, u2, beq_eq_false_iff_ne.2 hne', Bool.not_true, Bool.or_false, Bool.false_or] at this
  split at this
  · rename_i hq
    exact .inl ⟨hq, by simpa using this⟩
  · rename_i hq
    simp only [Bool.and_eq_true, Bool.not_eq_true', beq_eq_false_iff_ne] at this
    exact .inr ⟨by omega, this.1, fun e => this.2 (by omega)⟩
theorem placeOf_spec {ops : Array Oper} {bs : List Nat} {base i q : Nat} {o : Oper} {s : St} (h : placeOf ops.toList bs base i o s = some q) : (writes o.op = false ∧ q = base + i) ∨ (writes o.op = true ∧ ∃ t x v, o.op = .store t x v ∧ (∃ a b, s.op x = .ptr q a b) ∧ apartOk ops.toList bs base i q s.tmps = true) := by
  unfold placeOf at h
  split at h
  · rename_i hw; cases h; exact .inl ⟨hw, rfl⟩
  · rename_i hw
    split at h
    · rename_i x hx
      split at h
      · rename_i q' a b hp
        split at h
        · rename_i hap
          cases h
          unfold storeTo at hx
          split at hx
          · rename_i t x' v ho
            cases hx
            exact .inr ⟨hw, t, _, v, ho, ⟨a, b, hp⟩, hap⟩
          · cases hx
        · cases h
      · cases h
    · cases h
/-- Its place is hidden from the other one. -/
theorem place_hid {ops : Array Oper} {bs : List Nat} {base i j q : Nat} {x y : Oper} {s : St} (h : placeOf ops.toList bs base i x s = some q) (hj : ops[j]? = some y) (hne : i ≠ j) (ht : touches y.op = true) (u1 : (bs.getD i 0).testBit j = false) (u2 : (bs.getD j 0).testBit i = false) : Hid ops.toList bs base j s.tmps q := by
  rcases placeOf_spec h with ⟨_, rfl⟩ | ⟨_, t, x, v, _, _, hap⟩
  · exact .inr ⟨by omega, by rw [show base + i - base = i by omega]; exact u2, by omega⟩
  · exact apartOk_spec hap hj hne ht u1 u2
/-- Who changes an object sees it. -/
theorem store_live {o : Oper} {pos q : Nat} {s s' : St} {t : TypeId} {x v : Operand} {r : AV × List Ent} (ho : o.op = .store t x v) (hx : ∃ a b, s.op x = .ptr q a b) (h : oAct Γ o pos s = some r) : ∃ ob, hp s.H q = .live ob := by
  have hc : calleeOf s o = none := by unfold calleeOf; rw [ho]
  unfold oAct at h
  rw [hc] at h
  simp only at h
  split at h
  · rename_i e he
    unfold opf at he
    rw [ho] at he
    simp only at he
    obtain ⟨a, b, hx⟩ := hx
    rw [hx] at he
    unfold storeE at he
    simp only at he
    split at he
    · rename_i ob hl; exact ⟨ob, hl⟩
    · cases he
  · cases h
theorem apartB_spec {ops : Array Oper} {bs : List Nat} {i j : Nat} {x y : Oper} (h : apartB ops bs = true) (hi : ops[i]? = some x) (hj : ops[j]? = some y) (hne : i ≠ j) (u1 : (bs.getD i 0).testBit j = false) (u2 : (bs.getD j 0).testBit i = false) : x.apart ops y = true := by
  unfold apartB at h
  rw [List.all_eq_true] at h
  have h1 := h (x, i) (mem_zip hi)
  simp only at h1
  rw [List.all_eq_true] at h1
  have := h1 (y, j) (mem_zip hj)
  simp only [Bool.or_eq_true, beq_iff_eq] at this
  rcases this with ((h | h) | h) | h
  · exact absurd h hne
  · rw [u1] at h; cases h
  · rw [u2] at h; cases h
  · exact h

/-- Two operations that may come up in either order. -/
theorem stp_comm {ops : Array Oper} {bs : List Nat} {base i j : Nat} {x y : Oper} {s s1 s2 : St} (hi : ops[i]? = some x) (hj : ops[j]? = some y) (hne : i ≠ j) (u1 : (bs.getD i 0).testBit j = false) (u2 : (bs.getD j 0).testBit i = false) (hap : x.apart ops y = true)
    (h1 : stp Γ ops bs base i s = some s1) (h2 : stp Γ ops bs base j s1 = some s2) : ∃ s1', stp Γ ops bs base j s = some s1' ∧ stp Γ ops bs base i s1' = some s2 := by
  obtain ⟨a1, a2, a3⟩ := Oper.apart_spec hap
  have noAll : ∀ {i j : Nat} {o : Oper}, i ≠ j → ops[j]? = some o → (bs.getD i 0).testBit j = false → (bs.getD j 0).testBit i = false → serialAll ops.toList bs i = true → False := by
    intro i j o hne hj u1 u2 h
    rcases serialAll_spec h hj hne with h | h
    · rw [u1] at h; cases h
    · rw [u2] at h; cases h
  have noSer : ∀ {i j : Nat} {o : Oper}, i ≠ j → ops[j]? = some o → (bs.getD i 0).testBit j = false → (bs.getD j 0).testBit i = false → touches o.op = true → serial ops.toList bs i = true → False := by
    intro i j o hne hj u1 u2 ht h
    rcases serial_spec h hj hne ht with h | h
    · rw [u1] at h; cases h
    · rw [u2] at h; cases h
  -- what y sees is the same behind x, and the other way round
  have gy : ∀ {s : St} v H, gate (s.put x.dst v H) ops y = gate s ops y := fun v H => put_gate a1
  have gx : ∀ {s : St} v H, gate (s.put y.dst v H) ops x = gate s ops x := fun v H => put_gate a3
  have oy : ∀ {s : St} v H, ∀ z ∈ y.op.operands, (s.put x.dst v H).op z = St.op ⟨s.tmps, H⟩ z := fun v H z hz => put_op (looks_op a1 hz)
  have ox : ∀ {s : St} v H, ∀ z ∈ x.op.operands, (s.put y.dst v H).op z = St.op ⟨s.tmps, H⟩ z := fun v H z hz => put_op (looks_op a3 hz)
  have fy : ∀ {s : St} v H, freezes (s.put x.dst v H) y = freezes s y := fun v H => (freezes_congr (oy v H)).trans (freezes_congr fun z _ => rfl)
  have fx : ∀ {s : St} v H, freezes (s.put y.dst v H) x = freezes s x := fun v H => (freezes_congr (ox v H)).trans (freezes_congr fun z _ => rfl)
  have ext : ∀ {k : Nat} {o : Oper} {s : St} (v : AV) (H : List Ent), ops[k]? = some o → ∀ a, extT ops.toList a = true → (s.put o.dst v H).tmps.getD a undefA = s.tmps.getD a undefA := by
    intro k o s v H hk a ha
    unfold extT at ha
    rw [List.all_eq_true] at ha
    have := ha o (List.mem_of_getElem? (by simpa using hk))
    cases hd : o.dst with
    | none => rfl
    | some d =>
      rw [hd] at this
      have hne : d ≠ a := Nat.ne_of_beq_eq_false (by simpa using this)
      simp [St.put, List.getD_eq_getElem?_getD, List.getElem?_set, hne]
  have dy : ∀ {s : St} v H, dAct Γ ops.toList bs base j y (s.put x.dst v H) = dAct Γ ops.toList bs base j y ⟨s.tmps, H⟩ := fun {s} v H => dAct_congr (t := (s.put x.dst v H).tmps) (t' := s.tmps) (H := H) (fun z hz => oy v H z hz) (ext v H hi)
  have dx : ∀ {s : St} v H, dAct Γ ops.toList bs base i x (s.put y.dst v H) = dAct Γ ops.toList bs base i x ⟨s.tmps, H⟩ := fun {s} v H => dAct_congr (t := (s.put y.dst v H).tmps) (t' := s.tmps) (H := H) (fun z hz => ox v H z hz) (ext v H hj)
  have skip : ∀ {s : St} {k : Nat} {o : Oper}, ops[k]? = some o → gate s ops o = some false → stp Γ ops bs base k s = some (s.put o.dst undefA s.H) := by
    intro s k o hk hg
    unfold stp
    rw [hk]
    simp only [hg]
  rcases stp_cases hi h1 with ⟨g1, rfl⟩ | ⟨g1, z1, z2, _⟩ | ⟨g1, f1, v, H1, e1, rfl⟩
  · -- x is not wanted
    rcases stp_cases hj h2 with ⟨g2, rfl⟩ | ⟨g2, z1, z2, _⟩ | ⟨g2, f2, u, H2, e2, rfl⟩
    · rw [gy] at g2
      refine ⟨_, skip hj g2, ?_⟩
      rw [skip hi (by rw [gx]; exact g1)]
      exact congrArg some (put_comm a2 rfl).symm
    · exact (noAll (Ne.symm hne) hi u2 u1 z2).elim
    · rw [gy] at g2
      rw [fy] at f2
      rw [dy] at e2
      refine ⟨_, stp_of hj g2 f2 e2, ?_⟩
      rw [skip hi (by rw [gx]; exact g1)]
      exact congrArg some (put_comm a2 rfl).symm
  · exact (noAll hne hj u1 u2 z2).elim
  · rcases stp_cases hj h2 with ⟨g2, rfl⟩ | ⟨g2, z1, z2, _⟩ | ⟨g2, f2, u, H2, e2, rfl⟩
    · -- y is not wanted
      rw [gy] at g2
      refine ⟨_, skip hj g2, ?_⟩
      rw [stp_of (v := v) (H' := H1) hi (by rw [gx]; exact g1) (by rw [fx]; exact f1) (by rw [dx]; exact e1)]
      exact congrArg some (put_comm a2 rfl).symm
    · exact (noAll (Ne.symm hne) hi u2 u1 z2).elim
    · rw [gy] at g2
      rw [fy] at f2
      rw [dy] at e2
      -- both are carried out
      have fin : ∀ {H3 : List Ent}, dAct Γ ops.toList bs base j y s = some (u, H3) → dAct Γ ops.toList bs base i x ⟨s.tmps, H3⟩ = some (v, H2) → ∃ s1', stp Γ ops bs base j s = some s1' ∧ stp Γ ops bs base i s1' = some ((s.put x.dst v H1).put y.dst u H2) := by
        intro H3 e3 e4
        refine ⟨_, stp_of hj g2 f2 e3, ?_⟩
        rw [stp_of (v := v) (H' := H2) hi (by rw [gx]; exact g1) (by rw [fx]; exact f1) (by rw [dx]; exact e4)]
        exact congrArg some (put_comm a2 rfl).symm
      obtain ⟨t, H⟩ := s
      simp only at e1 e2 fin ⊢
      cases tx : touches x.op with
      | false =>
        rw [dAct_pure tx] at e1
        cases hq : dAct Γ ops.toList bs base i x ⟨t, []⟩ with
        | none => rw [hq] at e1; cases e1
        | some q =>
          rw [hq] at e1
          cases e1
          exact fin e2 (by rw [dAct_pure tx, hq]; rfl)
      | true =>
        cases ty : touches y.op with
        | false =>
          rw [dAct_pure ty] at e2
          cases hq : dAct Γ ops.toList bs base j y ⟨t, []⟩ with
          | none => rw [hq] at e2; cases e2
          | some q =>
            rw [hq] at e2
            cases e2
            exact fin (H3 := H) (by rw [dAct_pure ty, hq]; rfl) e1
        | true =>
          have fz : ∀ {i j : Nat} {x : Oper} {H : List Ent}, i ≠ j → touches x.op = true → (bs.getD i 0).testBit j = false → (bs.getD j 0).testBit i = false → ∀ {r}, dAct Γ ops.toList bs base i x ⟨t, H⟩ = some r → (∃ y, ops[j]? = some y ∧ touches y.op = true) →
              (freezes ⟨t, H⟩ x = true ∧ ∃ v, evLent Γ x ⟨t, viewE ops.toList bs base i t H⟩ some = some v ∧ r = (v, H)) ∨
              (freezes ⟨t, H⟩ x = false ∧ (writes x.op && serial ops.toList bs i) = false ∧ ∃ q v Hx, placeOf ops.toList bs base i x ⟨t, H⟩ = some q ∧ oAct Γ x (base + i) ⟨t, viewE ops.toList bs base i t H⟩ = some (v, Hx) ∧ r = (v, H.set q (Hx.getD q .free))) := by
            intro i j x H hne tx u1 u2 r h hy
            obtain ⟨y, hj, ty⟩ := hy
            unfold dAct at h
            simp only [tx] at h
            split at h
            · rename_i hf
              split at h
              · rename_i v hv; cases h; exact .inl ⟨hf, v, hv, rfl⟩
              · cases h
            · rename_i hf
              split at h
              · rename_i hs
                rw [Bool.and_eq_true] at hs
                exact (noSer hne hj u1 u2 ty hs.2).elim
              · rename_i hs
                split at h
                · rename_i q hq
                  split at h
                  · rename_i v Hx hx; cases h; exact .inr ⟨hf, hs, q, v, Hx, hq, hx, rfl⟩
                  · cases h
                · cases h
          have fzH : ∀ {x : Oper} {H H' : List Ent}, freezes ⟨t, H⟩ x = freezes ⟨t, H'⟩ x := freezes_congr fun _ _ => rfl
          rcases fz hne tx u1 u2 e1 ⟨y, hj, ty⟩ with ⟨z1, v', hv, e⟩ | ⟨z1, z2, q1, v', Hx, hq1, hx, e⟩
          · cases e
            rcases fz (Ne.symm hne) ty u2 u1 e2 ⟨x, hi, tx⟩ with ⟨z3, u', hu, e⟩ | ⟨z3, z4, q2, u', Hy, hq2, hy, e⟩
            · cases e
              exact fin e2 e1
            · cases e
              have d2 := place_hid hq2 hi (Ne.symm hne) tx u2 u1
              have m2 : viewE ops.toList bs base i t (H1.set q2 (Hy.getD q2 .free)) = viewE ops.toList bs base i t H1 := view_hid d2
              refine fin e2 ?_
              unfold dAct
              simp only [tx, fzH (x := x) (H' := H1), z1, m2, hv]
          · cases e
            rcases fz (Ne.symm hne) ty u2 u1 e2 ⟨x, hi, tx⟩ with ⟨z3, u', hu, e⟩ | ⟨z3, z4, q2, u', Hy, hq2, hy, e⟩
            · cases e
              have d1 := place_hid hq1 hj hne ty u1 u2
              have m1 : viewE ops.toList bs base j t (H.set q1 (Hx.getD q1 .free)) = viewE ops.toList bs base j t H := view_hid d1
              refine fin (H3 := H) ?_ e1
              unfold dAct
              rw [m1] at hu
              simp only [ty, fzH (x := y) (H := H) (H' := H.set q1 (Hx.getD q1 .free)), z3, hu]
            · cases e
              have z3' : freezes ⟨t, H⟩ y = false := by rw [← z3]; exact fzH
              have hq2' : placeOf ops.toList bs base j y ⟨t, H⟩ = some q2 := hq2
              have d1 := place_hid hq1 hj hne ty u1 u2
              have d2 := place_hid hq2' hi (Ne.symm hne) tx u2 u1
              have m1 : viewE ops.toList bs base j t (H.set q1 (Hx.getD q1 .free)) = viewE ops.toList bs base j t H := view_hid d1
              have m2 : viewE ops.toList bs base i t (H.set q2 (Hy.getD q2 .free)) = viewE ops.toList bs base i t H := view_hid d2
              have hy' : oAct Γ y (base + j) ⟨t, viewE ops.toList bs base j t H⟩ = some (u, Hy) := by rw [← m1]; exact hy
              have hne12 : q1 ≠ q2 := by
                intro e
                rcases placeOf_spec hq2' with ⟨_, e2⟩ | ⟨_, ty', x', v', ho, hx', _⟩
                · rcases d1 with ⟨h1, _⟩ | ⟨_, _, h1⟩
                  · omega
                  · exact h1 (e.trans e2)
                · obtain ⟨ob, hl⟩ := store_live (s' := ⟨t, H⟩) (s := ⟨t, viewE ops.toList bs base j t H⟩) ho hx' hy'
                  rw [← e] at hl
                  exact view_dead d1 ob hl
              refine fin (H3 := H.set q2 (Hy.getD q2 .free)) ?_ ?_
              · unfold dAct
                simp only [ty, z3', z4, hq2', hy']
              · unfold dAct
                have hq1' : placeOf ops.toList bs base i x ⟨t, H.set q2 (Hy.getD q2 .free)⟩ = some q1 := hq1
                have z1' : freezes ⟨t, H.set q2 (Hy.getD q2 .free)⟩ x = false := by rw [← z1]; exact fzH
                simp only [tx, z1', z2, hq1', m2, hx]
                rw [List.set_comm _ _ (Ne.symm hne12)]
end
end Go.Proofs.Ytejlappndcakeaa.Fw
