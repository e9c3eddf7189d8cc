/- Regions: in the order of the text; in whatever order. -/
import Derived.Test.YtbcnifnmccaleaaFwJ
import Derived.Test.YtbcnifnmccaleaaFw2
namespace Go.Proofs.Ytbcnifnmccaleaa.Fw
open Go Go.RowKit
set_option linter.unusedVariables false
set_option linter.unusedSimpArgs false

section
variable {P : Program} {w0 w : World} {W : Nat → Prop} {F : RoMap} {ρ : Pm} {RO : RoMap} {s : St} {a : Act} {ds : List Deferred} {Γ : Ctx} {R : Type}

theorem set_same {α : Type} {l : List α} {i : Nat} {x : α} (h : l[i]? = some x) : l.set i x = l := by
  apply List.ext_getElem?
  intro k
  rw [List.getElem?_set]
  split
  · rename_i e
    subst e
    have := (List.getElem?_eq_some_iff.1 h).1
    rw [if_pos this, h]
  · rfl

theorem VR.bool {H : Hp} {c : AV} {b : Bool} (h : VR ρ RO H c (.bool b)) (ht : c ≠ .top) : c = .val (.bool b) := by
  cases h <;> first | rfl | exact absurd rfl ht

theorem guard_some {ops : Array Oper} {j : Nat} {b : Bool} (h : guardVal s ops j = some (some b)) (hT : TR ρ RO (hp s.H) s.tmps a) : yielded ops a.tmps j = some b ∧ ∀ c, s.know ops j c = s ∨ c ≠ b := by
  unfold guardVal at h
  split at h
  · rename_i o ho
    split at h
    · rename_i d hd
      split at h
      · rename_i b' hv
        cases h
        rw [List.getD_eq_getElem?_getD] at hv
        cases h1 : s.tmps[d]? with
        | none => rw [h1] at hv; cases hv
        | some c =>
          rw [h1] at hv
          simp only [Option.getD_some] at hv
          subst hv
          have hlt : d < a.tmps.size := by have := (List.getElem?_eq_some_iff.1 h1).1; rw [hT.1] at this; simpa using this
          have h2 := (hT.2 d _ a.tmps[d] h1 (by simp [hlt])).val_eq
          refine ⟨?_, fun c => ?_⟩
          · unfold yielded
            simp [ho, hd, hlt, h2]
          · by_cases hc : c = b
            · subst hc
              left
              unfold St.know
              simp only [ho, hd]
              rw [set_same h1]
            · exact .inr hc
      · cases h
      · cases h
    · cases h
  · cases h

theorem guard_none {ops : Array Oper} {j : Nat} (h : guardVal s ops j = some none) (hT : TR ρ RO (hp s.H) s.tmps a) : yielded ops a.tmps j = none := by
  unfold guardVal at h
  unfold yielded
  split at h
  · rename_i o ho
    split at h
    · rename_i d hd
      split at h
      · cases h
      · cases h
      · rename_i n1 n2
        simp only [ho, hd, Option.bind_some]
        cases h1 : a.tmps[d]? with
        | none => simp
        | some v =>
          cases v <;> try (simp; done)
          rename_i b
          exfalso
          have hlt : d < a.tmps.size := (Array.getElem?_eq_some_iff.1 h1).1
          have hlt' : d < s.tmps.length := by rw [hT.1]; simpa using hlt
          have h2 := hT.2 d _ _ (List.getElem?_eq_getElem hlt') (by simpa using h1)
          have h3 : s.tmps.getD d undefA = s.tmps[d] := by rw [List.getD_eq_getElem?_getD, List.getElem?_eq_getElem hlt']; rfl
          rw [h3] at n1 n2
          exact n1 b (h2.bool n2)
    · rename_i hd
      simp [ho, hd]
  · rename_i ho
    simp [ho]

theorem SS.undef (h : SS w0 W F ρ RO s a w) (d : Option Tmp) : SS w0 W F ρ RO (s.put d undefA s.H) (a.put d undef) w := h.put d h.sr (.refl _ _ _) .undefA

theorem splitOf_spec {o : Oper} {t : TypeId} {a' : AV} {x : Int} {n : Nat} (h : splitOf s o = some (t, a', x, n)) : ∃ ix a0, o.op = .indexAddr t a0 ix ∧ s.op ix = .val (.int .i64 x) ∧ s.op a0 = a' := by
  unfold splitOf at h
  split at h
  · rename_i t' a0 ix ho
    split at h
    · rename_i q ha
      split at h
      · rename_i x' hx
        split at h
        · split at h
          · cases h; exact ⟨ix, a0, ho, hx, rfl⟩
          · cases h
        · cases h
      · cases h
    · cases h
  · cases h
theorem splitK_spec {x : Int} {f : Nat → Option R} {r : R} : ∀ {n j : Nat}, splitK x f n j = some r → ∃ i : Nat, x = (i : Int) ∧ f i = some r
  | 0, _, h => by cases h
  | n + 1, j, h => by
    unfold splitK at h
    cases e : (x == (j : Int)) with
    | true => rw [e, cond_true] at h; exact ⟨j, by simpa using e, h⟩
    | false => rw [e, cond_false] at h; exact splitK_spec h
theorem evI0_sound (hΓ : ∀ g S, Γ.sums g = some S → S.Ok Γ.P g) {o : Oper} {K : St → Option R} {r : R} {Kk : Act → World → Prop} {Q : Exit → Act → World → Prop} (h : evI0 Γ o s K = some r) (hs : SS w0 W F ρ RO s a w)
    (hK : ∀ s' ρ' RO' cv w', K s' = some r → SS w0 W F ρ' RO' s' (a.put o.dst cv) w' → Ext ρ RO (hp s.H) ρ' RO' (hp s'.H) → Kk (a.put o.dst cv) w') : o.wp Γ.P a w Kk Q := by
  unfold evI0 at h
  split at h
  · rename_i I l hI
    unfold inlOf at hI
    split at hI
    · rename_i g caps args hc
      split at hI
      · rename_i S hS
        split at hI
        · rename_i I' hi
          cases hI
          have hOk := hΓ g S hS
          obtain ⟨cargs, hcr, hrun⟩ := call_run0 hc hOk.1 hs
          unfold Oper.wp
          rw [hrun, Oper.upon_enter]
          refine (hOk.2.2.1 _ hi _ _ _ _ h w0 w W F ρ RO cargs hs.sr hcr).mono fun e w' ⟨v, H', cv, ρ', RO', he, hk, hv, hS', hE⟩ => ?_
          subst he
          exact hK _ ρ' RO' cv w' hk ⟨hS', TR.put (s := ⟨s.tmps, H'⟩) (hs.tr.ext hE) o.dst hv⟩ hE
        · cases hI
      · cases hI
    · cases hI
  · split at h
    · rename_i T s2 x hx
      rw [Option.bind_eq_some_iff] at h
      obtain ⟨y, h1, h2⟩ := h
      obtain ⟨g, caps, args, S, hc, hS, hT, hd⟩ := takeOf_spec hx
      exact (take_leads hc (hΓ g S hS) hT hd h1 hs).2 _ _ fun ρ' RO' cv w' g1 g2 g3 => hK _ ρ' RO' cv w' h2 g1 g2
    · split at h
      · rename_i e he
        exact ((mapE_sound he hs.sr hs.tr).leads hs).2 _ _ fun ρ' RO' cv w' g1 g2 g3 => hK _ ρ' RO' cv w' h g1 g2
      · split at h
        · rename_i q m en left get hn
          rcases nextK_spec h with ⟨h1, h2⟩ | ⟨h1, h2⟩
          · exact next_leads hn hs (fun _ ρ' RO' cv w' g1 g2 => hK _ ρ' RO' cv w' h2 g1 g2) (fun k hk => by rw [h1] at hk; cases hk)
          · exact next_leads hn hs (fun h3 => absurd h3 h1) (fun k hk ρ' RO' cv w' g1 g2 => hK _ ρ' RO' cv w' (h2 k hk) g1 g2)
        split at h
        · rename_i t a' x n hn
          obtain ⟨ix, a0, ho, hx, ha⟩ := splitOf_spec hn
          obtain ⟨j, hj, h2⟩ := splitK_spec h
          subst hj; subst ha
          have hc : calleeOf s o = none := by unfold calleeOf; rw [ho]
          have h3 : evO Γ o s.H.length s K = some r := by
            unfold evO
            rw [hc]
            simp only [opf, ho]
            rw [hx]
            exact h2
          obtain ⟨s', h4, h5, h6⟩ := evO_sound hΓ h3 hs (Nat.le_refl _) (hp_length _)
          exact h6 _ _ fun ρ' RO' cv w' g1 g2 g3 => hK s' ρ' RO' cv w' h4 g1 g2
        obtain ⟨RO1, f1, f2, f3, f4⟩ := frzL_sound (preOf Γ s o) hs.sr hs.tr
        obtain ⟨s', h2, h3, h4⟩ := evO_sound hΓ h ⟨f1, f2⟩ (Nat.le_of_eq f4) (by rw [f4]; exact hp_length _)
        exact h4 _ _ fun ρ' RO' cv w' g1 g2 g3 => hK s' ρ' RO' cv w' h2 g1 (f3.trans g2)
theorem evLentD_spec {o : Oper} {s : St} {K : AV → Option R} {r : R} (h : evLentD Γ o s K = some r) :
    ∃ g caps args S x y, calleeOf s o = some (g, caps, args) ∧ Γ.sums g = some S ∧ S.op = false ∧ S.own = false ∧ S.dec (cloL (args.map (s.frzL (deepL (Γ.hint 1000000).deep (idsL (args.map s.op ++ caps)))).op ++ caps)) = some x ∧ S.f x = some y ∧ plainA (S.enc y) = true ∧ K (S.enc y) = some r := by
  unfold evLentD at h
  split at h
  · rename_i g caps args hc
    split at h
    · rename_i S hS
      split at h
      · cases h
      · rename_i how
        rw [Bool.or_eq_false_iff] at how
        split at h
        · rename_i x hx
          rw [Option.bind_eq_some_iff] at h
          obtain ⟨y, h1, h2⟩ := h
          split at h2
          · rename_i hpl
            exact ⟨g, caps, args, S, x, y, hc, hS, how.1, how.2, hx, h1, hpl, h2⟩
          · cases h2
        · cases h
    · cases h
  · cases h
theorem toldE_spec {o : Oper} {s : St} {e : Eff} (h : toldE Γ s o = some e) (hok : e.ok = true) : calleeOf s o = none ∧ opf Γ.P s s.H.length o = some e := by
  unfold toldE at h
  split at h
  · split at h
    · split at h
      · cases h; cases hok
      · rename_i c _
        split at h
        · rename_i t a ho
          split at h
          · rename_i q i j hx
            split at h
            · rename_i ob hl
              split at h
              · rename_i n h1 h2
                cases h
                have hc : (ob.get i)[j]? = some c := by simpa using hok
                refine ⟨by unfold calleeOf; rw [ho], ?_⟩
                unfold opf
                rw [ho]
                simp only [loadE, hx, hl, h1, h2, hc, decide_true]
              · cases h
            · cases h
          · cases h
        · cases h
    · cases h
  · cases h
theorem evI_sound (hΓ : ∀ g S, Γ.sums g = some S → S.Ok Γ.P g) {o : Oper} {K : St → Option R} {r : R} {Kk : Act → World → Prop} {Q : Exit → Act → World → Prop} (h : evI Γ o s K = some r) (hs : SS w0 W F ρ RO s a w)
    (hK : ∀ s' ρ' RO' cv w', K s' = some r → SS w0 W F ρ' RO' s' (a.put o.dst cv) w' → Ext ρ RO (hp s.H) ρ' RO' (hp s'.H) → Kk (a.put o.dst cv) w') : o.wp Γ.P a w Kk Q := by
  unfold evI at h
  split at h
  · exact evI0_sound hΓ h hs hK
  · split at h
    · cases h
    split at h
    · rename_i e he
      split at h
      · rename_i hok
        obtain ⟨h1, h2⟩ := toldE_spec he hok
        have h3 : evO Γ o s.H.length s K = some r := by
          unfold evO
          rw [h1]
          simp only [h2, hok]
          exact h
        obtain ⟨s', h4, h5, h6⟩ := evO_sound hΓ h3 hs (Nat.le_refl _) (hp_length _)
        exact h6 _ _ fun ρ' RO' cv w' g1 g2 g3 => hK s' ρ' RO' cv w' h4 g1 g2
      · cases h
    · split at h
      · obtain ⟨g, caps, args, S, x, y, hc, hS, hop, how, hx, hy, hpl, hk⟩ := evLentD_spec h
        exact (lent_leads hc (hΓ g S hS) hop how hx hy hpl hs).2 _ _ fun ρ' RO' cv w' g1 g2 g3 => hK _ ρ' RO' cv w' hk g1 g2
      · obtain ⟨RO1, f1, f2, f3, f4⟩ := frzL_sound (preH Γ o) hs.sr hs.tr
        exact evI0_sound hΓ h ⟨f1, f2⟩ fun s' ρ' RO' cv w' hk g1 g2 => hK s' ρ' RO' cv w' hk g1 (f3.trans g2)
/-- Operations in their order. -/
theorem evL_sound (hΓ : ∀ g S, Γ.sums g = some S → S.Ok Γ.P g) {ops : Array Oper} {Q : Exit → Act → World → Prop} {K : St → Option R} {r : R} : ∀ (l : List Oper) {s : St} {ρ : Pm} {RO : RoMap} {a : Act} {w : World}, evL Γ ops l s K = some r → SS w0 W F ρ RO s a w → a.defers = ds →
    (∀ s' ρ' RO' a' w', K s' = some r → SS w0 W F ρ' RO' s' a' w' → a'.defers = ds → Ext ρ RO (hp s.H) ρ' RO' (hp s'.H) → Q .normal a' w') → wpList Γ.P ops Q l a w
  | [], s, ρ, RO, a, w, h, hs, hd, hQ => hQ s ρ RO a w h hs hd (.refl _ _ _)
  | o :: rest, s, ρ, RO, a, w, h, hs, hd, hQ => by
    have skip : ∀ {s1 : St}, s1 = s → evL Γ ops rest (s1.put o.dst undefA s1.H) K = some r → wpList Γ.P ops Q rest (a.put o.dst undef) w := by
      intro s1 e1 h1
      subst e1
      refine evL_sound hΓ rest h1 (hs.undef o.dst) (by cases o.dst <;> exact hd) fun s' ρ' RO' a' w' k1 k2 k3 k4 => hQ s' ρ' RO' a' w' k1 k2 k3 k4
    have go : ∀ {s1 : St}, s1 = s → evI Γ o s1 (fun s => evL Γ ops rest s K) = some r → o.wp Γ.P a w (wpList Γ.P ops Q rest) Q := by
      intro s1 e1 h1
      subst e1
      refine evI_sound hΓ h1 hs fun s' ρ' RO' cv w' h2 g1 g2 => ?_
      refine evL_sound hΓ rest h2 g1 (by cases o.dst <;> exact hd) fun s'' ρ'' RO'' a'' w'' k1 k2 k3 k4 => hQ s'' ρ'' RO'' a'' w'' k1 k2 k3 (g2.trans k4)
    unfold evL at h
    unfold wpList
    split at h
    · rename_i hg
      rw [if_pos (by simp [Region.wanted, hg])]
      exact .inl (go rfl h)
    · rename_i j want hg
      split at h
      · rename_i b hb
        obtain ⟨y1, y2⟩ := guard_some hb hs.tr
        have kn : s.know ops j b = s := (y2 b).resolve_right (fun h => h rfl)
        have hw : Region.wanted o (yielded ops a.tmps) = (b == want) := by simp [Region.wanted, hg, y1]
        cases want <;> cases b <;> simp only at h
        · rw [if_pos (by rw [hw]; rfl)]; exact .inl (go kn h)
        · rw [if_neg (by rw [hw]; decide)]; rw [kn] at h; exact skip rfl h
        · rw [if_neg (by rw [hw]; decide)]; rw [kn] at h; exact skip rfl h
        · rw [if_pos (by rw [hw]; rfl)]; exact .inl (go kn h)
      · rename_i hn
        have y := guard_none hn hs.tr
        rw [if_neg (by simp [Region.wanted, hg, y])]
        exact skip rfl h
      · cases h
end
end Go.Proofs.Ytbcnifnmccaleaa.Fw
