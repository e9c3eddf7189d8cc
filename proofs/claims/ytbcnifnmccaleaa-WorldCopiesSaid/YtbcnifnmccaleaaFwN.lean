/- A region that draws its order, continued: two operations that may come up in either order come to the same. -/
import Derived.Test.YtbcnifnmccaleaaFwM
namespace Go.Proofs.Ytbcnifnmccaleaa.Fw
open Go Go.RowKit
set_option linter.unusedVariables false
set_option linter.unusedSimpArgs false

section
variable {P : Program}
/-- Nobody writes free places but one's own. -/
theorem opf_frame {o : Oper} {s : St} {pos : Nat} {e : Eff} (h : opf P s pos o = some e) (hp1 : pos < s.H.length) : e.H.length = s.H.length ∧ ∀ k, k ≠ pos → hp s.H k = .free → hp e.H k = .free := by
  have same : ∀ {e : Eff}, e.H = s.H → e.H.length = s.H.length ∧ ∀ k, k ≠ pos → hp s.H k = .free → hp e.H k = .free := fun h => by rw [h]; exact ⟨rfl, fun _ _ h => h⟩
  have fr : ∀ ob, (fresh s pos ob).length = s.H.length ∧ ∀ k, k ≠ pos → hp s.H k = .free → hp (fresh s pos ob) k = .free := by
    intro ob
    refine ⟨by unfold fresh; rw [if_neg (by omega)]; simp, fun k hk hf => ?_⟩
    rw [hp_fresh (by omega)]
    simpa [upd, hk] using hf
  have pureC : touches o.op = false → e.H.length = s.H.length ∧ ∀ k, k ≠ pos → hp s.H k = .free → hp e.H k = .free := by
    intro ht
    obtain ⟨t, H⟩ := s
    rw [opf_pure ht] at h
    cases hq : opf P ⟨t, []⟩ 0 o with
    | none => rw [hq] at h; cases h
    | some q => rw [hq] at h; cases h; exact same rfl
  unfold opf at h
  split at h
  · cases h; exact same rfl
  · cases h; exact same rfl
  · rename_i ho; exact pureC (by rw [ho]; rfl)
  · unfold allocE at h
    split at h
    · split at h
      · cases h; exact fr _
      · cases h
    · cases h
  · unfold boxE at h
    split at h
    · split at h
      · split at h
        · cases h; exact fr _
        · cases h
      · cases h
    · cases h
  · rename_i ho; exact pureC (by rw [ho]; rfl)
  · unfold buildSliceE at h
    split at h
    · split at h
      · split at h
        · cases h
        · split at h
          · split at h
            · cases h; exact fr _
            · cases h
          · split at h
            · cases h; exact fr _
            · cases h
      · cases h
    · cases h
  · unfold loadE at h
    split at h
    · split at h
      · split at h
        · split at h
          · split at h
            · cases h; exact same rfl
            · cases h
          · split at h
            · cases h; exact same rfl
            · cases h
        · split at h
          · cases h; exact same rfl
          · cases h
        · cases h
      · cases h
    · split at h
      · split at h
        · cases h; exact same rfl
        · cases h
      · split at h
        · cases h; exact same rfl
        · cases h
      · cases h
    · cases h
  · unfold storeE at h
    split at h
    · split at h
      · rename_i ob hl
        split at h
        · split at h
          · cases h
            refine ⟨by simp, fun k hk hf => ?_⟩
            show hp (s.H.set _ _) k = .free
            rw [hp_set (live_lt hl)]
            have : k ≠ _ := fun e => by rw [e, hl] at hf; cases hf
            simpa [upd, this] using hf
          · split at h
            · split at h
              · split at h
                · cases h
                  refine ⟨by simp, fun k hk hf => ?_⟩
                  show hp (s.H.set _ _) k = .free
                  rw [hp_set (live_lt hl)]
                  have : k ≠ _ := fun e => by rw [e, hl] at hf; cases hf
                  simpa [upd, this] using hf
                · cases h
              · cases h
            · cases h
        · cases h
      · cases h
    · cases h
  · rename_i ho; exact pureC (by rw [ho]; rfl)
  · rename_i ho; exact pureC (by rw [ho]; rfl)
  · rename_i ho; exact pureC (by rw [ho]; rfl)
  · unfold convE at h
    have pu : ∀ {f : List Value → Sem Value} {l : List AV}, pureE P s f l = some e → e.H.length = s.H.length ∧ ∀ k, k ≠ pos → hp s.H k = .free → hp e.H k = .free := by
      intro f l h
      unfold pureE at h
      split at h
      · split at h
        · cases h; exact same rfl
        · cases h
      · cases h
    have st : ∀ {a : AV} {src dst : TypeId}, strE P s src dst a = some e → e.H.length = s.H.length ∧ ∀ k, k ≠ pos → hp s.H k = .free → hp e.H k = .free := by
      intro a src dst h
      unfold strE at h
      split at h
      · split at h
        · cases h; exact same rfl
        · cases h
      · cases h
    split at h
    · split at h
      · split at h
        · cases h; exact fr _
        · cases h
      · exact pu h
    · exact st h
    · exact st h
    · exact pu h
  · rename_i ho; exact pureC (by rw [ho]; rfl)
  · rename_i ho; exact pureC (by rw [ho]; rfl)
  · unfold indexAddrE at h
    split at h
    · split at h
      · split at h
        · split at h
          · split at h
            · cases h; exact same rfl
            · cases h
          · cases h
        · split at h
          · cases h; exact same rfl
          · cases h
        · cases h
      · split at h
        · split at h
          · split at h
            · cases h; exact same rfl
            · cases h
          · cases h
        · cases h
      · cases h
    · cases h
  · rename_i ho; exact pureC (by rw [ho]; rfl)
  · split at h
    · unfold sliceE at h
      split at h
      · split at h
        · split at h <;> (cases h; exact same rfl)
        · cases h
      · split at h
        · split at h
          · split at h <;> first | (cases h; exact same rfl) | cases h
          · cases h
        · split at h
          · split at h
            · split at h <;> first | (cases h; exact same rfl) | (split at h <;> first | (cases h; exact same rfl) | cases h) | cases h
            · cases h
          · cases h
        · cases h
      · split at h
        · split at h
          · split at h
            · split at h <;> first | (cases h; exact same rfl) | cases h
            · cases h
          · cases h
        · cases h
      · cases h
    · cases h
  · rename_i ho; exact pureC (by rw [ho]; rfl)
  · rename_i ho; exact pureC (by rw [ho]; rfl)
  · rename_i b args ts ho
    split at h
    · split at h
      · unfold lenE at h
        split at h
        · split at h
          · cases h; exact same rfl
          · cases h
        · split at h
          · split at h
            · cases h; exact same rfl
            · cases h
          · cases h; exact same rfl
          · cases h
      · cases h
    · unfold appendE at h
      split at h
      · split at h
        · split at h
          · split at h
            · split at h
              · cases h
              · split at h
                · split at h
                  · split at h
                    · cases h; exact fr _
                    · split at h
                      · rename_i ob hl
                        split at h
                        · cases h
                          refine ⟨?_, fun k hk hf => ?_⟩
                          · show (fresh _ _ _).length = _
                            unfold fresh
                            simp only [List.length_set]
                            rw [if_neg (by omega)]
                            simp
                          · show hp (fresh _ _ _) k = .free
                            rw [hp_fresh (s := ⟨s.tmps, s.H.set _ .dead⟩) (by simp; omega), hp_set (live_lt hl)]
                            have : k ≠ _ := fun e => by rw [e, hl] at hf; cases hf
                            simpa [upd, hk, this] using hf
                        · cases h
                      · cases h
                    · split at h
                      · cases h; exact fr _
                      · cases h
                    · cases h
                  · cases h
                · split at h
                  · split at h
                    · cases h; exact same rfl
                    · cases h; exact same rfl
                    · cases h
                  · cases h
            · cases h
          · cases h
        · cases h
      · cases h
    · split at h
      · unfold clearE at h
        split at h
        · split at h
          · split at h
            · rename_i ob hl
              split at h
              · cases h
                refine ⟨by simp, fun k hk hf => ?_⟩
                show hp (s.H.set _ _) k = .free
                rw [hp_set (live_lt hl)]
                have : k ≠ _ := fun e => by rw [e, hl] at hf; cases hf
                simpa [upd, hk, this] using hf
              · cases h
            · cases h
          · cases h
        · cases h
      · cases h
    · rename_i hb; exact pureC (by rw [ho]; rfl)
    · rename_i hb; exact pureC (by rw [ho]; rfl)
    · cases h
  · cases h
end
end Go.Proofs.Ytbcnifnmccaleaa.Fw
