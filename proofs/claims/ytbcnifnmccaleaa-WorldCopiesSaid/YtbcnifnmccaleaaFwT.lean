/- A function's code does what the evaluator says. -/
import Derived.Test.YtbcnifnmccaleaaFwS
namespace Go.Proofs.Ytbcnifnmccaleaa.Fw
open Go Go.RowKit
set_option linter.unusedVariables false
set_option linter.unusedSimpArgs false

section
variable {P : Program} {Γ : Ctx} {R : Type} {w0 w : World} {W : Nat → Prop} {F : RoMap} {ρ : Pm} {RO : RoMap} {s : St} {a : Act} {ds : List Deferred}

/-- A nil slice becomes an object. -/
theorem mat_one {l : Loc} {e : TypeId} {sz : Nat} {z : List AV} (hg : l.get s = some (.val (.slice none 0 0))) (hs : SS w0 W F ρ RO s a w) :
    ∃ ρ', SS w0 W F ρ' RO ⟨(Loc.put s (.slc s.H.length 0 none none) l).tmps, (Loc.put s (.slc s.H.length 0 none none) l).H ++ [.live ⟨true, e, sz, 0, fun _ => z, none⟩]⟩ a w := by
  have hfree := hp_length s.H
  have S1 := hs.sr.ghost (ob := ⟨true, e, sz, 0, fun _ => z, none⟩) hfree rfl
  have E1 : Ext ρ RO (hp s.H) (updP ρ s.H.length none) RO (upd (hp s.H) s.H.length (.live ⟨true, e, sz, 0, fun _ => z, none⟩)) := Ext.new hfree _ _
  have hv : VR (updP ρ s.H.length none) RO (upd (hp s.H) s.H.length (.live ⟨true, e, sz, 0, fun _ => z, none⟩)) (.slc s.H.length 0 none none) (.slice none 0 0) :=
    .slc0 _ _ _ _ none (by simp [upd]) (fun x hx => by cases hx) (fun x hx => by cases hx) fun ob hl => by
      have : (⟨true, e, sz, 0, fun _ => z, none⟩ : Ob) = ob := by simpa [upd] using hl
      subst this
      exact ⟨rfl, by simp [updP]⟩
  have plain : SS w0 W F (updP ρ s.H.length none) RO ⟨s.tmps, s.H ++ [.live ⟨true, e, sz, 0, fun _ => z, none⟩]⟩ a w := by
    refine ⟨?_, ?_⟩
    · show SR _ _ _ _ _ (hp (s.H ++ [_])) _
      rw [hp_snoc]; exact S1
    · show TR _ _ (hp (s.H ++ [_])) _ _
      rw [hp_snoc]; exact hs.tr.ext E1
  refine ⟨updP ρ s.H.length none, ?_⟩
  cases l with
  | tmp t =>
    simp only [Loc.get] at hg
    simp only [Loc.put]
    refine ⟨plain.sr, ⟨by simpa using hs.tr.1, fun k c v h1 h2 => ?_⟩⟩
    rw [List.getElem?_set] at h1
    split at h1
    · rename_i he
      subst he
      split at h1
      · cases h1
        have := (hs.tr.2 t _ v hg h2).val_eq
        subst this
        show VR _ _ (hp (s.H ++ [_])) _ _
        rw [hp_snoc]; exact hv
      · cases h1
    · exact plain.tr.2 k c v h1 h2
  | cell o i j =>
    simp only [Loc.get] at hg
    simp only [Loc.put]
    split at hg
    · rename_i ob2 hl
      split
      · rename_i hc
        obtain ⟨c1, c2⟩ := hc
        have hol := live_lt hl
        have hne : o ≠ s.H.length := by omega
        have hl' : upd (hp s.H) s.H.length (.live ⟨true, e, sz, 0, fun _ => z, none⟩) o = .live ob2 := by simp [upd, hne, hl]
        have hcell : ∀ arr, ObR (updP ρ s.H.length none) RO (upd (hp s.H) s.H.length (.live ⟨true, e, sz, 0, fun _ => z, none⟩)) ob2 arr → ObR (updP ρ s.H.length none) RO (upd (hp s.H) s.H.length (.live ⟨true, e, sz, 0, fun _ => z, none⟩)) (setRow ob2 i ((ob2.get i).set j (.slc s.H.length 0 none none))) arr := by
          intro arr hR
          have hrow : ∀ x, x < ob2.n → (setRow ob2 i ((ob2.get i).set j (.slc s.H.length 0 none none))).get x = if x = i then (ob2.get i).set j (.slc s.H.length 0 none none) else ob2.get x := by
            intro x hx
            unfold setRow
            cases hr : ob2.row with
            | true => simp
            | false =>
              rcases c1 with c1 | c1
              · rw [hr] at c1; cases c1
              · have : x = i := by omega
                subst this; simp
          refine ⟨hR.1, fun x hx => ?_, fun x kk c v hx h1 h2 => ?_, hR.2.2.2⟩
          · rw [hrow x hx]
            split
            · simp only [List.length_set]; exact hR.2.1 i c2
            · exact hR.2.1 x hx
          · rw [hrow x hx] at h1
            split at h1
            · rename_i he
              subst he
              rw [List.getElem?_set] at h1
              split at h1
              · rename_i hj
                subst hj
                split at h1
                · cases h1
                  have := (hR.2.2.1 x j _ v hx hg h2).val_eq
                  subst this
                  exact hv
                · cases h1
              · exact hR.2.2.1 x kk c v hx h1 h2
            · exact hR.2.2.1 x kk c v hx h1 h2
        have S2 := S1.same (ob' := setRow ob2 i ((ob2.get i).set j (.slc s.H.length 0 none none))) hl' rfl rfl rfl hcell
        have E2 := Ext.put (ρ := updP ρ s.H.length none) (RO := RO) (ob' := setRow ob2 i ((ob2.get i).set j (.slc s.H.length 0 none none))) hl' rfl rfl
        have eH : hp (s.H.set o (.live (setRow ob2 i ((ob2.get i).set j (.slc s.H.length 0 none none)))) ++ [.live ⟨true, e, sz, 0, fun _ => z, none⟩]) = upd (upd (hp s.H) s.H.length (.live ⟨true, e, sz, 0, fun _ => z, none⟩)) o (.live (setRow ob2 i ((ob2.get i).set j (.slc s.H.length 0 none none)))) := by
          rw [hp_snoc, hp_set hol]
          funext k
          simp only [upd, List.length_set]
          by_cases h1 : k = s.H.length
          · have h2 : k ≠ o := by omega
            simp [h1, h2]; omega
          · by_cases h2 : k = o <;> simp [h1, h2]
            omega
        refine ⟨?_, ?_⟩
        · show SR _ _ _ _ _ (hp (_ ++ [_])) _
          rw [eH]; exact S2
        · show TR _ _ (hp (_ ++ [_])) _ _
          rw [eH]; exact (hs.tr.ext E1).ext E2
      · exact plain
    · cases hg

/-- A nil slice is a list without elements. -/
theorem lst_one {l : Loc} {sz : Nat} {z : List AV} (hg : l.get s = some (.val (.slice none 0 0))) (hs : SS w0 W F ρ RO s a w) :
    SS w0 W F ρ RO (Loc.put s (.lst sz 0 none (fun _ => z)) l) a w := by
  have hv : ∀ H, VR ρ RO H (.lst sz 0 none (fun _ => z)) (.slice none 0 0) := fun H => .lst0 _ _ _ _ none (fun x hx => by cases hx)
  cases l with
  | tmp t =>
    simp only [Loc.get] at hg
    simp only [Loc.put]
    refine ⟨hs.sr, ⟨by simpa using hs.tr.1, fun k c v h1 h2 => ?_⟩⟩
    rw [List.getElem?_set] at h1
    split at h1
    · rename_i he
      subst he
      split at h1
      · cases h1
        have := (hs.tr.2 t _ v hg h2).val_eq
        subst this
        exact hv _
      · cases h1
    · exact hs.tr.2 k c v h1 h2
  | cell o i j =>
    simp only [Loc.get] at hg
    simp only [Loc.put]
    split at hg
    · rename_i ob2 hl
      split
      · rename_i hc
        obtain ⟨c1, c2⟩ := hc
        have hol := live_lt hl
        have hcell : ∀ arr, ObR ρ RO (hp s.H) ob2 arr → ObR ρ RO (hp s.H) (setRow ob2 i ((ob2.get i).set j (.lst sz 0 none (fun _ => z)))) arr := by
          intro arr hR
          have hrow : ∀ x, x < ob2.n → (setRow ob2 i ((ob2.get i).set j (.lst sz 0 none (fun _ => z)))).get x = if x = i then (ob2.get i).set j (.lst sz 0 none (fun _ => z)) else ob2.get x := by
            intro x hx
            unfold setRow
            cases hr : ob2.row with
            | true => simp
            | false =>
              rcases c1 with c1 | c1
              · rw [hr] at c1; cases c1
              · have : x = i := by omega
                subst this; simp
          refine ⟨hR.1, fun x hx => ?_, fun x kk c v hx h1 h2 => ?_, hR.2.2.2⟩
          · rw [hrow x hx]
            split
            · simp only [List.length_set]; exact hR.2.1 i c2
            · exact hR.2.1 x hx
          · rw [hrow x hx] at h1
            split at h1
            · rename_i he
              subst he
              rw [List.getElem?_set] at h1
              split at h1
              · rename_i hj
                subst hj
                split at h1
                · cases h1
                  have := (hR.2.2.1 x j _ v hx hg h2).val_eq
                  subst this
                  exact hv _
                · cases h1
              · exact hR.2.2.1 x kk c v hx h1 h2
            · exact hR.2.2.1 x kk c v hx h1 h2
        have S2 := hs.sr.same (ob' := setRow ob2 i ((ob2.get i).set j (.lst sz 0 none (fun _ => z)))) hl rfl rfl rfl hcell
        have E2 := Ext.put (ρ := ρ) (RO := RO) (ob' := setRow ob2 i ((ob2.get i).set j (.lst sz 0 none (fun _ => z)))) hl rfl rfl
        refine ⟨?_, ?_⟩
        · show SR _ _ _ _ _ (hp (_)) _
          rw [hp_set hol]; exact S2
        · show TR _ _ (hp (_)) _ _
          rw [hp_set hol]; exact hs.tr.ext E2
      · exact hs
    · cases hg
theorem lstS_sound : ∀ (l : List (Loc × TypeId)) {s s' : St}, lstS P s l = some s' → SS w0 W F ρ RO s a w → SS w0 W F ρ RO s' a w
  | [], s, s', h, hs => by cases h; exact hs
  | (l, e) :: r, s, s', h, hs => by
    unfold lstS at h
    split at h
    · rename_i sz z hg _ _
      exact lstS_sound r h (lst_one hg hs)
    · cases h
theorem matS_sound : ∀ (l : List (Loc × TypeId)) {s s' : St} {ρ : Pm}, matS P s l = some s' → SS w0 W F ρ RO s a w → ∃ ρ', SS w0 W F ρ' RO s' a w
  | [], s, s', ρ, h, hs => by cases h; exact ⟨ρ, hs⟩
  | (l, e) :: r, s, s', ρ, h, hs => by
    unfold matS at h
    split at h
    · rename_i sz z hg _ _
      split at h
      · cases h
      · obtain ⟨ρ1, h1⟩ := mat_one (e := e) (sz := sz) (z := z) hg hs
        exact matS_sound r h h1
    · cases h

def AExit.real : AExit → Exit
  | .normal => .normal
  | .exit i => .exit i
  | .ret => .ret

/-- A loop. -/
theorem evLoop_sound {h : LHint} {n0 : Nat} {body : Code} {b : St → (AExit → St → Option R) → Option R} {r : R}
    (hb : ∀ {s : St} {ρ : Pm} {RO : RoMap} {a : Act} {w : World} {K : AExit → St → Option R} {Q : Exit → Act → World → Prop}, b s K = some r → SS w0 W F ρ RO s a w → a.defers = ds →
      (∀ e s' ρ' RO' a' w', K e s' = some r → SS w0 W F ρ' RO' s' a' w' → a'.defers = ds → Q e.real a' w') → body.wp P Q a w)
    {n : Nat} {K : AExit → St → Option R} {Q : Exit → Act → World → Prop} (he : evLoop h n0 b n s K = some r) (hs : SS w0 W F ρ RO s a w) (hd : a.defers = ds)
    (hQ : ∀ e s' ρ' RO' a' w', K e s' = some r → SS w0 W F ρ' RO' s' a' w' → a'.defers = ds → Q e.real a' w') : (Code.loop body).wp P Q a w := by
  refine wp_loop_ghost (fun n a w => ∃ s ρ RO, (evLoop h n0 b (n - 3) s K = some r ∨ evTurns b n s K = some r) ∧ SS w0 W F ρ RO s a w ∧ a.defers = ds) (n + 3) ⟨s, ρ, RO, .inl (by simpa using he), hs, hd⟩ ?_
  rintro n a w ⟨s, ρ, RO, he, hs, hd⟩
  have turn : ∀ {m : Nat}, m ≤ n → evTurns b m s K = some r → body.wp P (Exit.then (fun a' w' => ∃ m, m < n ∧ ∃ s ρ RO, (evLoop h n0 b (m - 3) s K = some r ∨ evTurns b m s K = some r) ∧ SS w0 W F ρ RO s a' w' ∧ a'.defers = ds) Q) a w := fun {m} hmn he => by
    cases m with
    | zero => cases he
    | succ m =>
      simp only [evTurns] at he
      refine hb he hs hd fun e s' ρ' RO' a' w' hk h1 h2 => ?_
      cases e with
      | normal => exact ⟨m, by omega, s', ρ', RO', .inr hk, h1, h2⟩
      | exit i => exact hQ (.exit i) s' ρ' RO' a' w' hk h1 h2
      | ret => exact hQ .ret s' ρ' RO' a' w' hk h1 h2
  rcases he with he | he
  · cases hn : n - 3 with
    | zero => rw [hn] at he; cases he
    | succ k =>
      rw [hn] at he
      simp only [evLoop] at he
      split at he
      · exact turn (by omega) he
      · refine hb he hs hd fun e s' ρ' RO' a' w' hk h1 h2 => ?_
        cases e with
        | normal =>
          simp only at hk
          split at hk
          · rename_i s'' hc
            obtain ⟨R1, f1, f2, _, _⟩ := frzL_sound h.cfr h1.sr h1.tr
            obtain ⟨ρ2, h3⟩ := canon_sound hc ⟨f1, f2⟩
            exact ⟨k + 3, by omega, s'', ρ2, R1, .inl (by simpa using hk), h3, h2⟩
          · cases hk
        | exit i => exact hQ (.exit i) s' ρ' RO' a' w' hk h1 h2
        | ret => exact hQ .ret s' ρ' RO' a' w' hk h1 h2
  · exact turn (Nat.le_refl _) he

/-- A loop that is gone through turn by turn. -/
theorem evTurns_sound (I : St → Pm → RoMap → Prop) {body : Code} {b : St → (AExit → St → Option R) → Option R} {r : R}
    (hb : ∀ {s : St} {ρ : Pm} {RO : RoMap} {a : Act} {w : World} {K : AExit → St → Option R} {Q : Exit → Act → World → Prop}, b s K = some r → SS w0 W F ρ RO s a w → a.defers = ds → I s ρ RO →
      (∀ e s' ρ' RO' a' w', K e s' = some r → SS w0 W F ρ' RO' s' a' w' → a'.defers = ds → I s' ρ' RO' → Q e.real a' w') → body.wp P Q a w)
    {n : Nat} {K : AExit → St → Option R} {Q : Exit → Act → World → Prop} (he : evTurns b n s K = some r) (hs : SS w0 W F ρ RO s a w) (hd : a.defers = ds) (hI : I s ρ RO)
    (hQ : ∀ e s' ρ' RO' a' w', K e s' = some r → SS w0 W F ρ' RO' s' a' w' → a'.defers = ds → I s' ρ' RO' → Q e.real a' w') : (Code.loop body).wp P Q a w := by
  refine wp_loop_ghost (fun n a w => ∃ s' ρ' RO', evTurns b n s' K = some r ∧ SS w0 W F ρ' RO' s' a w ∧ a.defers = ds ∧ I s' ρ' RO') n ⟨s, ρ, RO, he, hs, hd, hI⟩ ?_
  rintro n a w ⟨s1, ρ1, RO1, he, hs, hd, hE⟩
  cases n with
  | zero => cases he
  | succ n =>
    simp only [evTurns] at he
    refine hb he hs hd hE fun e s' ρ' RO' a' w' hk h1 h2 h3 => ?_
    cases e with
    | normal => exact ⟨n, Nat.lt_succ_self n, s', ρ', RO', hk, h1, h2, h3⟩
    | exit i => exact hQ (.exit i) s' ρ' RO' a' w' hk h1 h2 h3
    | ret => exact hQ .ret s' ρ' RO' a' w' hk h1 h2 h3

theorem rtE_spec {rt : Nat → Option RTy} : ∀ (H : List Ent) {K : List Ent → Option R} {r : R}, rtE rt H K = some r → ∃ H', K H' = some r ∧ H'.length = H.length ∧ ∀ o, hp H' o = hp H o ∨ ∃ ob ob', hp H o = .live ob ∧ hp H' o = .live ob' ∧ ob'.ty = ob.ty ∧ ob'.sz = ob.sz ∧ ob'.n = ob.n ∧
    ∀ {ρ ρ' : Pm} {RO : RoMap} {h h' : Hp} {arr : Array Value}, ObR ρ RO h ob arr → ObR ρ' RO h' ob' arr
  | [], K, r, h => ⟨[], h, rfl, fun o => .inl rfl⟩
  | e :: q, K, r, h => by
    have step : ∀ {e' : Ent}, rtE rt q (fun l => K (e' :: l)) = some r → (e' = e ∨ ∃ ob ob', e = .live ob ∧ e' = .live ob' ∧ ob'.ty = ob.ty ∧ ob'.sz = ob.sz ∧ ob'.n = ob.n ∧ ∀ {ρ ρ' : Pm} {RO : RoMap} {h h' : Hp} {arr : Array Value}, ObR ρ RO h ob arr → ObR ρ' RO h' ob' arr) →
        ∃ H', K H' = some r ∧ H'.length = (e :: q).length ∧ ∀ o, hp H' o = hp (e :: q) o ∨ ∃ ob ob', hp (e :: q) o = .live ob ∧ hp H' o = .live ob' ∧ ob'.ty = ob.ty ∧ ob'.sz = ob.sz ∧ ob'.n = ob.n ∧ ∀ {ρ ρ' : Pm} {RO : RoMap} {h h' : Hp} {arr : Array Value}, ObR ρ RO h ob arr → ObR ρ' RO h' ob' arr := by
      intro e' h1 h2
      obtain ⟨H', k1, k2, k3⟩ := rtE_spec q h1
      refine ⟨e' :: H', k1, by simp [k2], fun o => ?_⟩
      cases o with
      | zero =>
        rcases h2 with rfl | ⟨ob, ob', e1, e2, e3⟩
        · exact .inl rfl
        · exact .inr ⟨ob, ob', by simp [hp, e1], by simp [hp, e2], e3⟩
      | succ o => exact k3 o
    cases e with
    | free => exact step h (.inl rfl)
    | dead => exact step h (.inl rfl)
    | mapd => exact step h (.inl rfl)
    | iter => exact step h (.inl rfl)
    | live ob =>
      unfold rtE at h
      split at h
      · rename_i T hT
        split at h
        · rename_i hrow
          rw [Option.bind_eq_some_iff] at h
          obtain ⟨y, hy, h⟩ := h
          refine step h (.inr ⟨ob, _, rfl, rfl, rfl, rfl, rfl, ?_⟩)
          unfold rowsD at hy
          split at hy
          · rename_i hall
            cases hy
            intro ρ ρ' RO hh hh' arr ⟨h5, h6, h7, h8⟩
            have hC : ObR (fun _ => none) RO noHp { ob with get := fun i => cloL (ob.get i) } arr := ⟨h5, fun i hi => by
              show (cloL (ob.get i)).length = ob.sz
              rw [cloL_length]; exact h6 i hi, fun i k a v hi e1 e2 => by
              have e1' : (cloL (ob.get i))[k]? = some a := e1
              rw [cloL_get] at e1'
              cases hk : (ob.get i)[k]? with
              | none => rw [hk] at e1'; cases e1'
              | some c => rw [hk] at e1'; cases e1'; exact (VR.clo (h7 i k c v hi hk e2)).closed _ _, h8⟩
            have row : ∀ i, i < ob.n → CR (fun _ => none) RO noHp (T.enc ((T.dec (cloL (ob.get i))).getD T.z)) ((arr.toList.drop (i * ob.sz)).take ob.sz) := fun i hi => by
              obtain ⟨x, hx⟩ := hall i hi
              rw [hx]
              exact T.ok hx (ObR.row hC hi)
            have hszs : ∀ i, i < ob.n → ((arr.toList.drop (i * ob.sz)).take ob.sz).length = ob.sz := fun i hi => by
              have := row_le (s := ob.sz) hi
              simp; omega
            refine ⟨h5, fun i hi => ?_, fun i k a v hi e1 e2 => ?_, h8⟩
            · have := (row i hi).1
              rw [hszs i hi] at this
              exact this
            · have hlen3 : (T.enc ((T.dec (cloL (ob.get i))).getD T.z)).length = ob.sz := by have := (row i hi).1; rw [hszs i hi] at this; exact this
              have hk : k < ob.sz := by
                have := (List.getElem?_eq_some_iff.1 e1).1
                exact Nat.lt_of_lt_of_eq this hlen3
              refine ((row i hi).2 k a v e1 ?_).closed _ _
              have e2' : arr[i * ob.sz + k]? = some v := e2
              rw [List.getElem?_take, if_pos hk, List.getElem?_drop]
              simpa using e2'
          · cases hy
        · exact step h (.inl rfl)
      · exact step h (.inl rfl)
theorem rtS_sound {hh : LHint} {ops : List Oper} {s : St} {K : St → Option R} {r : R} {ρ : Pm} {RO : RoMap} {a : Act} {w : World} (h : rtS hh ops s K = some r) (hs : SS w0 W F ρ RO s a w) :
    ∃ s', K s' = some r ∧ SS w0 W F ρ RO s' a w ∧ Ext ρ RO (hp s.H) ρ RO (hp s'.H) := by
  unfold rtS at h
  split at h
  · exact ⟨s, h, hs, .refl _ _ _⟩
  · split at h
    · obtain ⟨H', k1, k2, k3⟩ := rtE_spec _ h
      have mk : ∀ o, (hp H' o).kind ≠ 0 → hp H' o = hp s.H o := fun o h3 => by
        rcases k3 o with e | ⟨ob, ob', e1, e2, _⟩
        · exact e
        · rw [e2] at h3; exact absurd rfl h3
      have E : Ext ρ RO (hp s.H) ρ RO (hp H') := ⟨fun _ _ h => h, fun o ho => by
        rcases k3 o with e | ⟨ob, ob', e1, e2, e3, e4, e5, _⟩
        · rw [e]; exact ⟨ho, fun ob' hl => ⟨rfl, ob', hl, rfl, rfl⟩⟩
        · refine ⟨(by rw [e2]; exact fun e => nomatch e), fun x hx => ?_⟩
          rw [e2] at hx
          cases hx
          exact ⟨rfl, ob, e1, e4, e5⟩, fun o _ h3 => ⟨rfl, by rw [mk o h3]⟩⟩
      have lv : ∀ {o x}, hp H' o = .live x → ∃ y, hp s.H o = .live y ∧ x.ty = y.ty ∧ x.sz = y.sz ∧ x.n = y.n ∧ (∀ {arr : Array Value}, ObR ρ RO (hp s.H) y arr → ObR ρ RO (hp H') x arr) := fun {o x} hx => by
        rcases k3 o with e | ⟨ob, ob', e1, e2, e3, e4, e5, e6⟩
        · rw [e] at hx
          exact ⟨x, hx, rfl, rfl, rfl, fun {arr} ⟨q1, q2, q3, q4⟩ => ⟨q1, q2, fun i k c v hi a1 a2 => (q3 i k c v hi a1 a2).ext (fun _ _ h => h) _ E, q4⟩⟩
        · rw [e2] at hx
          cases hx
          exact ⟨ob, e1, e3, e4, e5, fun q => e6 q⟩
      refine ⟨⟨s.tmps, H'⟩, k1, ⟨⟨hs.sr.os, hs.sr.tape, hs.sr.output, hs.sr.size, hs.sr.kept, fun o x hx => ?_, fun o o' x x' b m m' hx hx' p1 p2 => ?_, hs.sr.ro, hs.sr.old, hs.sr.fix, hs.sr.mo.mono (fun _ _ h => h) (fun _ _ h _ => h) (fun o h3 => ⟨mk o h3, rfl⟩) fun _ q _ _ hq => (E.2.1 q hq).1⟩, hs.tr.ext E⟩, E⟩
      · obtain ⟨y, hy, y1, y2, y3, y4⟩ := lv hx
        rcases hs.sr.obj o y hy with ⟨q1, q2⟩ | ⟨b, m, arr, q1, q2, q3, q4, q5, q6, q7, q8, q9⟩
        · exact .inl ⟨q1, by omega⟩
        · subst q5
          obtain ⟨z1, z2, z3, z4⟩ := y4 (arr := arr) ⟨q6, q7, q8, q9⟩
          exact .inr ⟨b, arr.size, arr, q1, q2, q3, by rw [y1]; exact q4, rfl, z1, z2, z3, z4⟩
      · obtain ⟨y, hy, _⟩ := lv hx
        obtain ⟨y', hy', _⟩ := lv hx'
        exact hs.sr.inj o o' y y' b m m' hy hy' p1 p2
    · exact ⟨s, h, hs, .refl _ _ _⟩

theorem gateE_some {g : Bool} {x : Option R} {r : R} (h : gateE g x = some r) : x = some r := by
  cases g
  · cases h
  · exact h
theorem jnS_sound {K : St → Option R} {r : R} {id : Nat} {g : Bool} {s : St} {ρ : Pm} {RO : RoMap} {a : Act} {w : World} : ∀ {l : List (Nat × Nat × List Nat × List Nat)}, jnS g l id s K = some r → SS w0 W F ρ RO s a w →
    ∃ s', K s' = some r ∧ SS w0 W F ρ RO s' a w ∧ Ext ρ RO (hp s.H) ρ RO (hp s'.H)
  | [], h, hs => ⟨s, h, hs, .refl _ _ _⟩
  | (j, n, keep, live) :: l, h, hs => by
    unfold jnS at h
    split at h
    · split at h
      · rename_i hn
        have hle : s.H.length ≤ n := Nat.le_of_ble_eq_true hn
        refine ⟨_, gateE_some h, ?_⟩
        have hg : ∀ k, hp ((List.range n).map fun k => match keep.contains k with | true => s.H.getD k .free | false => .dead) k = if k < n then (if keep.contains k = true then hp s.H k else .dead) else .free := fun k => by
          rw [hp_range]
          split
          · cases keep.contains k <;> rfl
          · rfl
        have lv : ∀ k, (hp ((List.range n).map fun k => match keep.contains k with | true => s.H.getD k .free | false => .dead) k).kind ≠ 0 ∨ (∃ ob, hp ((List.range n).map fun k => match keep.contains k with | true => s.H.getD k .free | false => .dead) k = .live ob) →
            hp ((List.range n).map fun k => match keep.contains k with | true => s.H.getD k .free | false => .dead) k = hp s.H k := fun k hk => by
          rw [hg] at hk ⊢
          by_cases h1 : k < n
          · rw [if_pos h1] at hk ⊢
            by_cases h2 : keep.contains k = true
            · rw [if_pos h2]
            · rw [if_neg h2] at hk
              rcases hk with hk | ⟨ob, hk⟩
              · exact absurd rfl hk
              · cases hk
          · rw [if_neg h1] at hk
            rcases hk with hk | ⟨ob, hk⟩
            · exact absurd rfl hk
            · cases hk
        have nf : ∀ k, hp s.H k ≠ .free → hp ((List.range n).map fun k => match keep.contains k with | true => s.H.getD k .free | false => .dead) k ≠ .free := fun k hk => by
          rw [hg]
          have h1 : k < n := by
            rcases Nat.lt_or_ge k s.H.length with h | h
            · omega
            · exact absurd (by simp [hp, List.getD_eq_getElem?_getD, List.getElem?_eq_none h]) hk
          rw [if_pos h1]
          split
          · exact hk
          · intro h; cases h
        have E : Ext ρ RO (hp s.H) ρ RO (hp ((List.range n).map fun k => match keep.contains k with | true => s.H.getD k .free | false => .dead)) :=
          ⟨fun _ _ h => h, fun o ho => ⟨nf o ho, fun ob hl => ⟨rfl, ob, by rw [← lv o (.inr ⟨ob, hl⟩)]; exact hl, rfl, rfl⟩⟩, fun o ho h3 => ⟨rfl, by rw [lv o (.inl h3)]⟩⟩
        refine ⟨⟨⟨hs.sr.os, hs.sr.tape, hs.sr.output, hs.sr.size, hs.sr.kept, fun o ob hl => ?_, fun o o' ob ob' b m m' h1 h2 p1 p2 => ?_, hs.sr.ro, hs.sr.old, hs.sr.fix, hs.sr.mo.mono (fun _ _ h => h) (fun _ _ h _ => h) (fun o ho => ⟨lv o (.inl ho), rfl⟩) fun o q left _ hq => nf q hq⟩, ?_⟩, E⟩
        · rcases hs.sr.obj o ob (by rw [← lv o (.inr ⟨ob, hl⟩)]; exact hl) with g | ⟨b, m, arr, h1, h2, h3, h4, h5, h6, h7, h8, h9⟩
          · exact .inl g
          · exact .inr ⟨b, m, arr, h1, h2, h3, h4, h5, h6, h7, fun i k a v hi e1 e2 => (h8 i k a v hi e1 e2).ext E.1 _ E, h9⟩
        · exact hs.sr.inj o o' ob ob' b m m' (by rw [← lv o (.inr ⟨ob, h1⟩)]; exact h1) (by rw [← lv o' (.inr ⟨ob', h2⟩)]; exact h2) p1 p2
        · have ht := hs.tr.ext E
          exact ⟨by rw [keepL_length]; exact ht.1, fun k c v h1 h2 => (keepL_get _ _ _ _ _ h1).elim (fun e => by subst e; exact .top _ _) fun h => ht.2 k c v h h2⟩
      · cases h
    · exact jnS_sound h hs
/-- A function's code. -/
theorem ev_sound (hΓ : ∀ g S, Γ.sums g = some S → S.Ok Γ.P g) (hm : Γ.P.follows .mixedOrders = true) (k : Nat) {r : R} : ∀ (c : Code) (blk : Nat) {s : St} {ρ : Pm} {RO : RoMap} {a : Act} {w : World} {K : AExit → St → Option R} {Q : Exit → Act → World → Prop}, ev Γ k c blk s K = some r → SS w0 W F ρ RO s a w → a.defers = ds →
    (∀ e s' ρ' RO' a' w', K e s' = some r → SS w0 W F ρ' RO' s' a' w' → a'.defers = ds → Q e.real a' w') → c.wp Γ.P Q a w := by
  intro c
  induction c with
  | skip => intro blk s ρ RO a w K Q h hs hd hQ; exact wp_skip (hQ .normal s ρ RO a w h hs hd)
  | region id ops draw =>
    intro blk s ρ RO a w K Q h hs hd hQ
    cases draw with
    | false =>
      simp only [ev] at h
      exact wp_region_list (evL_sound hΓ _ h hs hd fun s' ρ' RO' a' w' h1 h2 h3 _ => by obtain ⟨s1, g1', g2', _⟩ := rtS_sound h1 h2; obtain ⟨s2, g1, g2, _⟩ := jnS_sound g1' g2'; exact hQ .normal s2 ρ' RO' a' w' g1 g2 h3)
    | true =>
      simp only [ev] at h
      split at h
      · rename_i hc
        simp only [Bool.and_eq_true] at hc
        exact evD_sound hΓ hm hc.1.1 hc.1.2 hc.2 h hs hd fun s' ρ' RO' a' w' h1 h2 h3 _ _ _ => by obtain ⟨s1, g1', g2', _⟩ := rtS_sound h1 h2; obtain ⟨s2, g1, g2, _⟩ := jnS_sound g1' g2'; exact hQ .normal s2 ρ' RO' a' w' g1 g2 h3
      · cases h
  | seq x y ihx ihy =>
    intro blk s ρ RO a w K Q h hs hd hQ
    simp only [ev] at h
    refine wp_seq (ihx blk h hs hd fun e s' ρ' RO' a' w' hk h1 h2 => ?_)
    cases e with
    | normal => exact ihy blk hk h1 h2 hQ
    | exit i => exact hQ (.exit i) s' ρ' RO' a' w' hk h1 h2
    | ret => exact hQ .ret s' ρ' RO' a' w' hk h1 h2
  | cond c x y ihx ihy =>
    intro blk s ρ RO a w K Q h hs hd hQ
    simp only [ev] at h
    split at h
    · rename_i b hc
      have hv := op_sound hs.tr c
      rw [hc] at hv
      refine wp_cond hv.val_eq ?_
      cases b with
      | true => exact ihx blk h hs hd hQ
      | false => exact ihy blk h hs hd hQ
    · cases h
  | block id x ihx =>
    intro blk s ρ RO a w K Q h hs hd hQ
    simp only [ev] at h
    refine wp_block (ihx id h hs hd fun e s' ρ' RO' a' w' hk h1 h2 => ?_)
    cases e with
    | normal => obtain ⟨s2, g1, g2, _⟩ := jnS_sound hk h1; exact hQ .normal s2 ρ' RO' a' w' g1 g2 h2
    | exit i =>
      simp only at hk
      simp only [AExit.real, Exit.inBlock]
      split at hk
      · rename_i hi
        rw [if_pos (Nat.eq_of_beq_eq_true hi)]
        obtain ⟨s2, g1, g2, _⟩ := jnS_sound hk h1
        exact hQ .normal s2 ρ' RO' a' w' g1 g2 h2
      · rename_i hi
        rw [if_neg (Nat.ne_of_beq_eq_false hi)]
        exact hQ (.exit i) s' ρ' RO' a' w' hk h1 h2
    | ret => exact hQ .ret s' ρ' RO' a' w' hk h1 h2
  | loop x ihx =>
    intro blk s ρ RO a w K Q h hs hd hQ
    simp only [ev] at h
    split at h
    · exact evTurns_sound (fun _ _ _ => True) (b := ev Γ k x blk) (fun {s ρ RO a w K Q} q1 q2 q3 _ q4 => ihx blk q1 q2 q3 fun e s' ρ' RO' a' w' z1 z2 z3 => q4 e s' ρ' RO' a' w' z1 z2 z3 trivial) h hs hd trivial fun e s' ρ' RO' a' w' z1 z2 z3 _ => hQ e s' ρ' RO' a' w' z1 z2 z3
    split at h
    · rename_i s1 hs1
      rw [Option.bind_eq_some_iff] at hs1
      obtain ⟨s0, hs0, hs1⟩ := hs1
      obtain ⟨R1, a1, a2, _, _⟩ := frzL_sound (Γ.hint blk).frz hs.sr hs.tr
      obtain ⟨ρ1, h1⟩ := matS_sound _ hs1 (lstS_sound _ hs0 ⟨a1, a2⟩)
      split at h
      · rename_i s2 hs2
        obtain ⟨ρ2, h2⟩ := canon_sound hs2 h1
        exact evLoop_sound (b := ev Γ k x blk) (fun {s ρ RO a w K Q} q1 q2 q3 q4 => ihx blk q1 q2 q3 q4) h h2 hd hQ
      · cases h
    · cases h
  | exit id => intro blk s ρ RO a w K Q h hs hd hQ; exact wp_exit (hQ (.exit id) s ρ RO a w h hs hd)
  | scope x ihx =>
    intro blk s ρ RO a w K Q h hs hd hQ
    simp only [ev] at h
    refine wp_scope_straight (ihx blk h hs hd fun e s' ρ' RO' a' w' hk h1 h2 => ?_)
    cases e with
    | normal => exact hQ .normal s' ρ' RO' a' w' hk h1 h2
    | exit i => exact hQ (.exit i) s' ρ' RO' a' w' hk h1 h2
    | ret => exact hQ .ret s' ρ' RO' a' w' hk h1 h2
  | label l => intro blk s ρ RO a w K Q h hs hd hQ; exact wp_label (hQ .normal s ρ RO a w h hs hd)
  | ret => intro blk s ρ RO a w K Q h hs hd hQ; exact wp_ret (hQ .ret s ρ RO a w h hs hd)
  | _ => intro blk s ρ RO a w K Q h; cases h

/-- A function's code whose loops are all gone through turn by turn: what it was handed stays where it is. -/
theorem ev_ext (hΓ : ∀ g S, Γ.sums g = some S → S.Ok Γ.P g) (hU : ∀ blk, (Γ.hint blk).unroll = true) {ρ0 : Pm} {RO0 : RoMap} {H0 : Hp} (hm : Γ.P.follows .mixedOrders = true) (k : Nat) {r : R} : ∀ (c : Code) (blk : Nat) {s : St} {ρ : Pm} {RO : RoMap} {a : Act} {w : World} {K : AExit → St → Option R} {Q : Exit → Act → World → Prop}, ev Γ k c blk s K = some r → SS w0 W F ρ RO s a w → a.defers = ds → Ext ρ0 RO0 H0 ρ RO (hp s.H) →
    (∀ e s' ρ' RO' a' w', K e s' = some r → SS w0 W F ρ' RO' s' a' w' → a'.defers = ds → Ext ρ0 RO0 H0 ρ' RO' (hp s'.H) → Q e.real a' w') → c.wp Γ.P Q a w := by
  intro c
  induction c with
  | skip => intro blk s ρ RO a w K Q h hs hd hE hQ; exact wp_skip (hQ .normal s ρ RO a w h hs hd hE)
  | region id ops draw =>
    intro blk s ρ RO a w K Q h hs hd hE hQ
    cases draw with
    | false =>
      simp only [ev] at h
      exact wp_region_list (evL_sound hΓ _ h hs hd fun s' ρ' RO' a' w' h1 h2 h3 h4 => by obtain ⟨s1, g1', g2', g3'⟩ := rtS_sound h1 h2; obtain ⟨s2, g1, g2, g3⟩ := jnS_sound g1' g2'; exact hQ .normal s2 ρ' RO' a' w' g1 g2 h3 (((hE.trans h4).trans g3').trans g3))
    | true =>
      simp only [ev] at h
      split at h
      · rename_i hc
        simp only [Bool.and_eq_true] at hc
        exact evD_sound hΓ hm hc.1.1 hc.1.2 hc.2 h hs hd fun s' ρ' RO' a' w' h1 h2 h3 h4 _ _ => by obtain ⟨s1, g1', g2', g3'⟩ := rtS_sound h1 h2; obtain ⟨s2, g1, g2, g3⟩ := jnS_sound g1' g2'; exact hQ .normal s2 ρ' RO' a' w' g1 g2 h3 (((hE.trans h4).trans g3').trans g3)
      · cases h
  | seq x y ihx ihy =>
    intro blk s ρ RO a w K Q h hs hd hE hQ
    simp only [ev] at h
    refine wp_seq (ihx blk h hs hd hE fun e s' ρ' RO' a' w' hk h1 h2 h3 => ?_)
    cases e with
    | normal => exact ihy blk hk h1 h2 h3 hQ
    | exit i => exact hQ (.exit i) s' ρ' RO' a' w' hk h1 h2 h3
    | ret => exact hQ .ret s' ρ' RO' a' w' hk h1 h2 h3
  | cond c x y ihx ihy =>
    intro blk s ρ RO a w K Q h hs hd hE hQ
    simp only [ev] at h
    split at h
    · rename_i b hc
      have hv := op_sound hs.tr c
      rw [hc] at hv
      refine wp_cond hv.val_eq ?_
      cases b with
      | true => exact ihx blk h hs hd hE hQ
      | false => exact ihy blk h hs hd hE hQ
    · cases h
  | block id x ihx =>
    intro blk s ρ RO a w K Q h hs hd hE hQ
    simp only [ev] at h
    refine wp_block (ihx id h hs hd hE fun e s' ρ' RO' a' w' hk h1 h2 h3 => ?_)
    cases e with
    | normal => obtain ⟨s2, g1, g2, g3⟩ := jnS_sound hk h1; exact hQ .normal s2 ρ' RO' a' w' g1 g2 h2 (h3.trans g3)
    | exit i =>
      simp only at hk
      simp only [AExit.real, Exit.inBlock]
      split at hk
      · rename_i hi
        rw [if_pos (Nat.eq_of_beq_eq_true hi)]
        obtain ⟨s2, g1, g2, g3⟩ := jnS_sound hk h1
        exact hQ .normal s2 ρ' RO' a' w' g1 g2 h2 (h3.trans g3)
      · rename_i hi
        rw [if_neg (Nat.ne_of_beq_eq_false hi)]
        exact hQ (.exit i) s' ρ' RO' a' w' hk h1 h2 h3
    | ret => exact hQ .ret s' ρ' RO' a' w' hk h1 h2 h3
  | loop x ihx =>
    intro blk s ρ RO a w K Q h hs hd hE hQ
    simp only [ev] at h
    rw [hU blk] at h
    exact evTurns_sound (fun s ρ RO => Ext ρ0 RO0 H0 ρ RO (hp s.H)) (b := ev Γ k x blk) (fun {s ρ RO a w K Q} q1 q2 q3 q5 q4 => ihx blk q1 q2 q3 q5 q4) h hs hd hE hQ
  | exit id => intro blk s ρ RO a w K Q h hs hd hE hQ; exact wp_exit (hQ (.exit id) s ρ RO a w h hs hd hE)
  | scope x ihx =>
    intro blk s ρ RO a w K Q h hs hd hE hQ
    simp only [ev] at h
    refine wp_scope_straight (ihx blk h hs hd hE fun e s' ρ' RO' a' w' hk h1 h2 h3 => ?_)
    cases e with
    | normal => exact hQ .normal s' ρ' RO' a' w' hk h1 h2 h3
    | exit i => exact hQ (.exit i) s' ρ' RO' a' w' hk h1 h2 h3
    | ret => exact hQ .ret s' ρ' RO' a' w' hk h1 h2 h3
  | label l => intro blk s ρ RO a w K Q h hs hd hE hQ; exact wp_label (hQ .normal s ρ RO a w h hs hd hE)
  | ret => intro blk s ρ RO a w K Q h hs hd hE hQ; exact wp_ret (hQ .ret s ρ RO a w h hs hd hE)
  | _ => intro blk s ρ RO a w K Q h; cases h
end
end Go.Proofs.Ytbcnifnmccaleaa.Fw
