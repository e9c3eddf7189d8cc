/- A region that draws its order, continued: an operation sees what surely came before it. -/
import Derived.Test.YtbcnifnmccaleaaFwL
namespace Go.Proofs.Ytbcnifnmccaleaa.Fw
open Go Go.RowKit
set_option linter.unusedVariables false
set_option linter.unusedSimpArgs false

section
variable {P : Program}

/-- H' knows all objects that H knows. -/
structure More (H H' : List Ent) (pos : Nat) : Prop where
  live : ∀ k ob, hp H k = .live ob → hp H' k = .live ob
  len : H.length = H'.length
  slot : H.getD pos .free = H'.getD pos .free
  lt : pos < H'.length

theorem More.same {H H' : List Ent} {pos : Nat} (m : More H H' pos) : H'.set pos (H.getD pos .free) = H' := by
  rw [m.slot]
  apply set_same
  rw [List.getD_eq_getElem?_getD, List.getElem?_eq_getElem m.lt]
  rfl
theorem More.fresh {H H' : List Ent} {pos : Nat} (m : More H H' pos) (t : List AV) (ob : Ob) : H'.set pos ((Fw.fresh ⟨t, H⟩ pos ob).getD pos .free) = Fw.fresh ⟨t, H'⟩ pos ob := by
  have h1 := m.len
  have h2 := m.lt
  unfold Fw.fresh
  rw [if_neg (by simp only; omega), if_neg (by simp only; omega)]
  try simp only
  rw [List.getD_eq_getElem?_getD, List.getElem?_set, if_pos rfl, if_pos (by omega)]
  rfl

/-- An operation that makes, or reads, does the same where more is known. -/
theorem opf_more {o : Oper} {t : List AV} {H H' : List Ent} {pos : Nat} {e : Eff} (m : More H H' pos) (ht : touches o.op = true) (hw : writes o.op = false) (h : opf P ⟨t, H⟩ pos o = some e) :
    opf P ⟨t, H'⟩ pos o = some ⟨e.ok, e.v, H'.set pos (e.H.getD pos .free)⟩ := by
  unfold opf at h ⊢
  cases ho : o.op <;> simp only [ho] at h ht hw ⊢ <;> try (first | (cases ht; done) | (cases hw; done) | (cases h; done))
  case alloc ty =>
    unfold allocE at h ⊢
    split at h
    · split at h
      · cases h; simp only [m.fresh]
      · cases h
    · cases h
  case box ty x =>
    unfold boxE at h ⊢
    rw [op_any t H' H]
    split at h
    · split at h
      · rename_i hc
        split at h
        · cases h; simp only [m.fresh]; rw [if_pos hc]
        · cases h
      · cases h
    · cases h
  case buildSlice ty n ps =>
    unfold buildSliceE at h ⊢
    simp only [op_any t H' H]
    split at h
    · split at h
      · split at h
        · cases h
        · rename_i hc
          split at h
          · rename_i h0
            split at h
            · cases h; simp only [m.fresh]; rw [if_neg hc, if_pos h0]
            · cases h
          · rename_i h0
            split at h
            · cases h; simp only [m.fresh]; rw [if_neg hc, if_neg h0]
            · cases h
      · cases h
    · cases h
  case load ty x =>
    unfold loadE at h ⊢
    rw [op_any t H' H]
    split at h
    · rename_i o' i j hx
      try simp only
      split at h
      · rename_i ob hl
        rw [m.live _ _ hl]
        try simp only
        split at h
        · split at h
          · rename_i hc
            rw [if_pos hc]
            split at h
            · rename_i hc2; cases h; simp only [m.same]; rw [if_pos hc2]
            · cases h
          · rename_i hc
            rw [if_neg hc]
            split at h
            · rename_i hc2; cases h; simp only [m.same]; rw [if_pos hc2]
            · cases h
        · split at h
          · cases h; simp only [m.same]
          · cases h
        · cases h
      · cases h
    · split at h
      · split at h
        · rename_i hc2; cases h; simp only [m.same]; rw [if_pos hc2]
        · cases h
      · split at h
        · cases h; simp only [m.same]
        · cases h
      · cases h
    · cases h
  case indexAddr ty x y =>
    unfold indexAddrE at h ⊢
    rw [op_any t H' H x, op_any t H' H y]
    split at h
    · try simp only
      split at h
      · try simp only
        split at h
        · split at h
          · rename_i ob hl
            rw [m.live _ _ hl]
            try simp only
            split at h
            · rename_i hc; cases h; simp only [m.same]; rw [if_pos hc]
            · cases h
          · cases h
        · split at h
          · rename_i hc; cases h; simp only [m.same]; rw [if_pos hc]
          · cases h
        · cases h
      · try simp only
        split at h
        · split at h
          · rename_i ob hl
            rw [m.live _ _ hl]
            try simp only
            split at h
            · rename_i hc; cases h; simp only [m.same]; rw [if_pos hc]
            · cases h
          · cases h
        · cases h
      · cases h
    · cases h
  case convert src dst x =>
    unfold convE at h ⊢
    rw [op_any t H' H]
    have pu : ∀ {f : List Value → Sem Value} {l : List AV}, pureE P ⟨t, H⟩ f l = some e → pureE P ⟨t, H'⟩ f l = some ⟨e.ok, e.v, H'.set pos (e.H.getD pos .free)⟩ := by
      intro f l h
      unfold pureE at h ⊢
      split at h
      · split at h
        · cases h; simp only [mkE, m.same]
        · cases h
      · cases h
    have st : ∀ {a : AV}, strE P ⟨t, H⟩ src dst a = some e → strE P ⟨t, H'⟩ src dst a = some ⟨e.ok, e.v, H'.set pos (e.H.getD pos .free)⟩ := by
      intro a h
      unfold strE at h ⊢
      split at h
      · try simp only
        split at h
        · rename_i q1 q2 q3 q4 q5 he hr
          have : rowOf ⟨t, H'⟩ a = some (q1, q2, q3, q4, q5) := by
            unfold rowOf at hr ⊢
            split at hr
            · try simp only
              split at hr
              · rename_i ob hl
                rw [m.live _ _ hl]
                exact hr
              · cases hr
            · exact hr
            · cases hr
          rw [this, he]
          cases h
          simp only [m.same]
        · cases h
      · cases h
    split at h
    · try simp only
      split at h
      · try simp only
        split at h
        · cases h; simp only [m.fresh]
        · cases h
      · exact pu h
    · exact st h
    · exact st h
    · exact pu h
  case slice ty x lo hi mx =>
    have e1 : ∀ z : Option Operand, optI ⟨t, H'⟩ z = optI ⟨t, H⟩ z := fun z => rfl
    rw [e1, e1, e1, op_any t H' H]
    split at h
    · try simp only
      unfold sliceE at h ⊢
      split at h
      · try simp only
        split at h
        · split at h <;> (cases h; simp only [mkE, m.same])
        · cases h
      · try simp only
        split at h
        · split at h
          · rename_i hc
            rw [if_pos hc]
            split at h <;> first | (cases h; simp only [m.same]) | cases h
          · cases h
        · split at h
          · rename_i ob hl
            rw [m.live _ _ hl]
            try simp only
            split at h
            · rename_i hc
              rw [if_pos hc]
              split at h <;> first | (cases h; simp only [m.same]) | (split at h <;> first | (cases h; simp only [m.same]) | cases h) | cases h
            · cases h
          · cases h
        · cases h
      · try simp only
        split at h
        · split at h
          · rename_i ob hl
            rw [m.live _ _ hl]
            try simp only
            split at h
            · rename_i hc
              rw [if_pos hc]
              split at h <;> first | (cases h; simp only [mkE, m.same]) | cases h
            · cases h
          · cases h
        · cases h
      · cases h
    · cases h
  case call c =>
    obtain ⟨callee, args, ts⟩ := c
    cases callee <;> try (cases h; done)
    case builtin b =>
      cases b <;> try (first | (cases ht; done) | (cases hw; done))
      case len =>
        simp only at h ⊢
        split at h
        · rename_i x hb ha
          split at h
          · rename_i ty hty
            try simp only [hty]
            unfold lenE at h ⊢
            rw [op_any t H' H]
            split at h
            · split at h
              · cases h; simp only [mkE, m.same]
              · cases h
            · rename_i hnv
              split at h
              · try simp only
                split at h
                · rename_i q1 q2 q3 q4 q5 hr
                  have : rowOf ⟨t, H'⟩ (St.op ⟨t, H⟩ x) = some (q1, q2, q3, q4, q5) := by
                    unfold rowOf at hr ⊢
                    split at hr
                    · try simp only
                      split at hr
                      · rename_i ob hl
                        rw [m.live _ _ hl]
                        exact hr
                      · cases hr
                    · exact hr
                    · cases hr
                  rw [this]
                  cases h
                  simp only [mkE, m.same]
                · cases h
              · cases h; simp only [mkE, m.same]
              · cases h
          · cases h
        · rename_i hb _; cases hb
        · rename_i hb _; cases hb
        · rename_i hb; cases hb
        · rename_i hb; cases hb
        · cases h
end
end Go.Proofs.Ytbcnifnmccaleaa.Fw
