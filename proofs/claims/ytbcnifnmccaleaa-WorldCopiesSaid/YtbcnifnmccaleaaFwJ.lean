/- Objects become fixed; a call of a function of which a summary is known. -/
import Derived.Test.YtbcnifnmccaleaaFwI
namespace Go.Proofs.Ytbcnifnmccaleaa.Fw
open Go Go.RowKit
set_option linter.unusedVariables false
set_option linter.unusedSimpArgs false

theorem cloL_get : ∀ (l : List AV) (k : Nat), (cloL l)[k]? = (l[k]?).map clo
  | [], k => by simp [cloL]
  | a :: r, k => by
    cases k with
    | zero => simp [cloL]
    | succ k => simpa [cloL] using cloL_get r k
theorem cloL_length : ∀ l : List AV, (cloL l).length = l.length
  | [] => rfl
  | a :: r => by simp [cloL, cloL_length r]
theorem mapRows_get {f : Nat → Option Nat} {get : Nat → List AV} : ∀ {n : Nat}, mapRows f get n = true → ∀ i, i < n → mapRow f (get i) = true
  | n + 1, h, i, hi => by
    simp only [mapRows, Bool.and_eq_true] at h
    rcases Nat.lt_succ_iff_lt_or_eq.1 hi with h1 | rfl
    · exact mapRows_get h.2 i h1
    · exact h.1
theorem frzGet_eq {o : Nat} {ob x : Ob} {i : Nat} (hi : i < x.n) : frzGet o ob x i = frzC o ob (x.get i) := by
  unfold frzGet
  cases mapLit x.lit with
  | false => rfl
  | true =>
    cases h : mapRows some x.get x.n with
    | false => rfl
    | true =>
      have h1 := mapRows_get h i hi
      show x.get i = frzC o ob (x.get i)
      unfold mapRow at h1
      split at h1
      · rename_i q hq; rw [hq]; rfl
      · cases h1
theorem frzC_get (o : Nat) (ob : Ob) : ∀ (l : List AV) (k : Nat), (frzC o ob l)[k]? = (l[k]?).map (frz o ob)
  | [], k => by simp [frzC]
  | a :: r, k => by
    cases k with
    | zero => simp [frzC]
    | succ k => simpa [frzC] using frzC_get o ob r k
theorem frzC_length (o : Nat) (ob : Ob) : ∀ l : List AV, (frzC o ob l).length = l.length
  | [] => rfl
  | a :: r => by simp [frzC, frzC_length o ob r]

section
variable {P : Program} {w0 w : World} {W : Nat → Prop} {F : RoMap} {ρ : Pm} {RO : RoMap} {s : St} {a : Act}

/-- Without objects a value says less. -/
theorem VR.clo {H : Hp} {c : AV} {v : Value} (h : VR ρ RO H c v) : VR ρ RO noHp (clo c) v := by
  induction h with
  | val H v h => exact .val _ v h
  | top H v => exact .top _ v
  | agg H cs vs hl h ih =>
    refine .agg _ _ vs (by rw [cloL_length]; exact hl) fun k c v h1 h2 => ?_
    rw [cloL_get] at h1
    cases hk : cs[k]? with
    | none => simp [hk] at h1
    | some d => simp [hk] at h1; subst h1; exact ih k d v hk h2
  | tup H cs vs hl h ih =>
    refine .tup _ _ vs (by rw [cloL_length]; exact hl) fun k c v h1 h2 => ?_
    rw [cloL_get] at h1
    cases hk : cs[k]? with
    | none => simp [hk] at h1
    | some d => simp [hk] at h1; subst h1; exact ih k d v hk h2
  | fn H f cs vs hl h ih =>
    refine .fn _ f _ vs (by rw [cloL_length]; exact hl) fun k c v h1 h2 => ?_
    rw [cloL_get] at h1
    cases hk : cs[k]? with
    | none => simp [hk] at h1
    | some d => simp [hk] at h1; subst h1; exact ih k d v hk h2
  | ptr => exact .top _ _
  | rp H cs j b off arr hb hs h ih => exact .rp _ cs j b off arr hb hs h
  | slc => exact .top _ _
  | slc0 => exact .top _ _
  | mp => exact .top _ _
  | itr => exact .top _ _
  | lst H sz n cap get b off c arr hb hn hc hs hg h1 h ih => exact .lst _ sz n cap get b off c arr hb hn hc hs hg h1 h
  | lst0 H sz cap get a hc => exact .lst0 _ sz cap get a hc

theorem CR.clo {H : Hp} {cs : List AV} {vs : List Value} (h : CR ρ RO H cs vs) : CR ρ RO noHp (cloL cs) vs := by
  refine ⟨by rw [cloL_length]; exact h.1, fun k c v h1 h2 => ?_⟩
  rw [cloL_get] at h1
  cases hk : cs[k]? with
  | none => simp [hk] at h1
  | some d => simp [hk] at h1; subst h1; exact (h.2 k d v hk h2).clo

/-- A row of an object, fixed. -/
theorem lst_of_row {ob : Ob} {arr : Array Value} {H : Hp} {b lo n c off : Nat} {cap : Option Nat} (hb : RO b = some arr) (hR : ObR ρ RO H ob arr) (hlo : lo + n ≤ ob.n) (hoff' : off = lo * ob.sz) (hn : n ≤ c) (hc : ∀ x, cap = some x → c = x) (hs : off + n * ob.sz ≤ arr.size) :
    VR ρ RO noHp (.lst ob.sz n cap (fun i => cloL (ob.get (i + lo)))) (.slice (some ⟨b, off, none⟩) n c) := by
  rcases Nat.eq_zero_or_pos n with h0 | hpos
  · subst h0
    exact .lst _ ob.sz 0 cap _ b off c arr hb hn hc hs (fun i hi => by omega) (fun j v hj => by simp at hj) (fun i k a v hi => by omega)
  · have hm := Nat.mul_le_mul_right ob.sz hlo
    rw [Nat.add_mul] at hm
    refine .lst _ ob.sz n cap _ b off c arr hb hn hc hs (fun i hi => by rw [cloL_length]; exact hR.2.1 _ (by omega)) (fun j v hj hv => hR.2.2.2 (off + j) v (by omega) hv) (fun i k a v hi h1 h2 => ?_)
    rw [cloL_get] at h1
    cases hk : (ob.get (i + lo))[k]? with
    | none => simp [hk] at h1
    | some d =>
      simp [hk] at h1
      subst h1
      refine (hR.2.2.1 (i + lo) k d v (by omega) hk ?_).clo
      rw [Nat.add_mul, ← hoff', Nat.add_comm (i * ob.sz)]; exact h2

theorem VR.frz {RO' : RoMap} {H H' : Hp} {o : Nat} {ob : Ob} {c : AV} {v : Value} (hro : ∀ b arr, RO b = some arr → RO' b = some arr) (hl : H o = .live ob)
    (hob : ∀ b m, ρ o = some ⟨b, m⟩ → ∃ arr, RO' b = some arr ∧ m = arr.size ∧ ObR ρ RO' H' ob arr) (E : Ext ρ RO H ρ RO' H') (h : VR ρ RO H c v) : VR ρ RO' H' (frz o ob c) v := by
  induction h with
  | val _ v h => exact .val _ v h
  | top _ v => exact .top _ v
  | agg H cs vs hl' h ih =>
    refine .agg _ _ vs (by rw [frzC_length]; exact hl') fun k c v h1 h2 => ?_
    rw [frzC_get] at h1
    cases hk : cs[k]? with
    | none => simp [hk] at h1
    | some d => simp [hk] at h1; subst h1; exact ih k d v hk h2 hl E
  | tup H cs vs hl' h ih =>
    refine .tup _ _ vs (by rw [frzC_length]; exact hl') fun k c v h1 h2 => ?_
    rw [frzC_get] at h1
    cases hk : cs[k]? with
    | none => simp [hk] at h1
    | some d => simp [hk] at h1; subst h1; exact ih k d v hk h2 hl E
  | fn H f cs vs hl' h ih =>
    refine .fn _ f _ vs (by rw [frzC_length]; exact hl') fun k c v h1 h2 => ?_
    rw [frzC_get] at h1
    cases hk : cs[k]? with
    | none => simp [hk] at h1
    | some d => simp [hk] at h1; subst h1; exact ih k d v hk h2 hl E
  | ptr H o' i j b off h0 h =>
    simp only [Fw.frz]
    split
    · rename_i he
      subst he
      obtain ⟨q1, q2, m, q3⟩ := h ob hl
      obtain ⟨arr, r1, r2, r3⟩ := hob b m q3
      have hle := row_le (s := ob.sz) q1
      subst q2
      have := r3.row q1
      refine .rp _ (cloL (ob.get i)) j b (i * ob.sz) arr r1 (by rw [cloL_length, r3.2.1 i q1]; have := r3.1; omega) fun k c v h1 h2 => ?_
      rw [cloL_get] at h1
      cases hk : (ob.get i)[k]? with
      | none => simp [hk] at h1
      | some d => simp [hk] at h1; subst h1; exact (r3.2.2.1 i k d v q1 hk h2).clo
    · exact (VR.ptr H o' i j b off h0 h).ext hro _ E
  | rp H cs j b off arr hb hs h ih => exact (VR.rp H cs j b off arr hb hs h).ext hro _ E
  | slc H o' lo n n' cap b off c h0 hn hk hc h =>
    simp only [Fw.frz]
    split
    · rename_i he
      subst he
      obtain ⟨q1, q2, q3, m, q4, q5⟩ := h ob hl
      obtain ⟨arr, r1, r2, r3⟩ := hob b m q4
      rw [slcLen_eq q2 hk]
      refine (lst_of_row r1 r3 q1 q3 hn hc ?_).closed ρ H'
      have hm := Nat.mul_le_mul_right ob.sz q1
      have := r3.1
      rw [Nat.add_mul] at hm; omega
    · exact (VR.slc H o' lo n n' cap b off c h0 hn hk hc h).ext hro _ E
  | slc0 H o' n' cap a h0 hk hc h =>
    simp only [Fw.frz]
    split
    · rename_i he
      subst he
      obtain ⟨q1, q2⟩ := h ob hl
      rw [slcLen_eq (n := 0) (fun _ => by omega) (fun z hz => (hk z hz).symm)]
      exact .lst0 _ _ _ _ a hc
    · exact (VR.slc0 H o' n' cap a h0 hk hc h).ext hro _ E
  | lst H sz n cap get b off c arr hb hn hc hs hg h1 h ih => exact (VR.lst H sz n cap get b off c arr hb hn hc hs hg h1 h).ext hro _ E
  | lst0 H sz cap get a hc => exact .lst0 _ sz cap get a hc
  | mp H o' b h0 h => exact (VR.mp H o' b h0 h).ext hro _ E
  | itr H o' b h0 h => exact (VR.itr H o' b h0 h).ext hro _ E

/-- What is asked of the fixed blocks. -/
def RoOk (RO : RoMap) (w : World) : Prop := ∀ b arr, RO b = some arr → ∃ t f, w.heap[b]? = some (.cells arr t f)

theorem hp_map (f : Ent → Ent) (hf : f .free = .free) (H : List Ent) (o : Nat) : hp (H.map f) o = f (hp H o) := by
  simp only [hp, List.getD_eq_getElem?_getD, List.getElem?_map]
  cases H[o]? <;> simp [hf]

/-- An object becomes fixed. -/
theorem frz_sound (hS : SR w0 W F ρ RO (hp s.H) w) (hT : TR ρ RO (hp s.H) s.tmps a) (o : Nat) :
    ∃ RO', SR w0 W F ρ RO' (hp (s.frz o).H) w ∧ TR ρ RO' (hp (s.frz o).H) (s.frz o).tmps a ∧ Ext ρ RO (hp s.H) ρ RO' (hp (s.frz o).H) ∧ s.H.length = (s.frz o).H.length := by
  unfold St.frz
  split
  · rename_i ob hl
    have hol := live_lt hl
    have hHk : ∀ k, hp ((s.H.set o .dead).map (frzEnt o ob)) k = frzEnt o ob (upd (hp s.H) o .dead k) := fun k => by rw [hp_map _ rfl, hp_set hol]
    have live : ∀ k x, hp ((s.H.set o .dead).map (frzEnt o ob)) k = .live x → k ≠ o ∧ ∃ y, hp s.H k = .live y ∧ x = { y with get := frzGet o ob y } := by
      intro k x hx
      rw [hHk] at hx
      by_cases hk : k = o
      · subst hk; simp [upd, frzEnt] at hx
      · refine ⟨hk, ?_⟩
        simp only [upd, hk, if_false] at hx
        generalize hy : hp s.H k = y at hx
        cases y with
        | free => simp [frzEnt] at hx
        | dead => simp [frzEnt] at hx
        | live y => simp only [frzEnt, Ent.live.injEq] at hx; exact ⟨y, rfl, hx.symm⟩
        | mapd => simp [frzEnt] at hx
        | iter => simp [frzEnt] at hx
    have mapKept : ∀ k, (hp ((s.H.set o .dead).map (frzEnt o ob)) k).kind ≠ 0 → hp ((s.H.set o .dead).map (frzEnt o ob)) k = hp s.H k := by
      intro k hx
      rw [hHk] at hx ⊢
      by_cases hk : k = o
      · subst hk; simp [upd, frzEnt, Ent.kind] at hx
      · simp only [upd, hk, if_false] at hx ⊢
        generalize hy : hp s.H k = y at hx
        cases y <;> simp [frzEnt, Ent.kind] at hx ⊢
    -- the fixed blocks
    obtain ⟨RO', r1, r2, r3⟩ : ∃ RO' : RoMap, (∀ b arr, RO b = some arr → RO' b = some arr) ∧ (∀ b m, ρ o = some ⟨b, m⟩ → ∃ arr, RO' b = some arr ∧ m = arr.size ∧ (∃ t, CellsAt w b arr t) ∧ ObR ρ RO (hp s.H) ob arr) ∧ (∀ b arr, RO' b = some arr → RO b = some arr ∨ ∃ m, ρ o = some ⟨b, m⟩) := by
      rcases hS.obj o ob hl with ⟨g1, g2⟩ | ⟨b, m, arr, g1, g2, g3, g4, g5, g6, g7, g8, g9⟩
      · exact ⟨RO, fun _ _ h => h, (fun b m h => by rw [g1] at h; cases h), fun _ _ h => .inl h⟩
      · refine ⟨fun k => if k = b then some arr else RO k, fun k x h => ?_, fun b' m' h => ?_, fun k x h => ?_⟩
        · have : k ≠ b := fun e => by subst e; rw [g2] at h; cases h
          simp [this, h]
        · have e : b' = b ∧ m' = m := by rw [g1] at h; cases h; exact ⟨rfl, rfl⟩
          obtain ⟨rfl, rfl⟩ := e
          exact ⟨arr, by simp, g5.symm, ⟨_, g4⟩, by rw [g5]; exact g6, g7, g8, g9⟩
        · by_cases hk : k = b
          · subst hk; exact .inr ⟨m, g1⟩
          · simp [hk] at h; exact .inl h
    have E : Ext ρ RO (hp s.H) ρ RO' (hp ((s.H.set o .dead).map (frzEnt o ob))) := by
      refine ⟨r1, fun k hk => ?_, fun k _ h3 => ⟨rfl, by rw [mapKept k h3]⟩⟩
      refine ⟨?_, fun x hx => ?_⟩
      · rw [hHk]
        by_cases hko : k = o
        · subst hko; simp [upd, frzEnt]
        · simp only [upd, hko, if_false]
          generalize hy : hp s.H k = y at hk
          cases y with
          | free => exact absurd rfl hk
          | dead => simp [frzEnt]
          | live y => simp [frzEnt]
          | mapd => simp [frzEnt]
          | iter => simp [frzEnt]
      · obtain ⟨_, y, h1, h2⟩ := live k x hx
        exact ⟨rfl, y, h1, by rw [h2], by rw [h2]⟩
    have hob : ∀ b m, ρ o = some ⟨b, m⟩ → ∃ arr, RO' b = some arr ∧ m = arr.size ∧ ObR ρ RO' (hp ((s.H.set o .dead).map (frzEnt o ob))) ob arr := fun b m h => by
      obtain ⟨arr, q1, q2, _, q3⟩ := r2 b m h
      exact ⟨arr, q1, q2, q3.ext E⟩
    have F : ∀ {c v}, VR ρ RO (hp s.H) c v → VR ρ RO' (hp ((s.H.set o .dead).map (frzEnt o ob))) (frz o ob c) v := fun h => h.frz r1 hl hob E
    refine ⟨RO', ⟨hS.os, hS.tape, hS.output, hS.size, hS.kept, fun k x hx => ?_, fun k k' x x' b m m' hx hx' p1 p2 => ?_, fun b arr hb => ?_, fun b arr hb => ?_, fun b arr hb => r1 b arr (hS.fix b arr hb), hS.mo.mono r1 (fun _ _ h _ => h) (fun k hk => ⟨mapKept k hk, rfl⟩) fun _ q _ _ hq => (E.2.1 q hq).1⟩, ⟨by rw [frzC_length]; exact hT.1, fun k c v h1 h2 => ?_⟩, E, by simp⟩
    · obtain ⟨hko, y, h1, rfl⟩ := live k x hx
      rcases hS.obj k y h1 with hg | ⟨b, m, arr, g1, g2, g3, g4, g5, g6, g7, g8, g9⟩
      · exact .inl hg
      · refine .inr ⟨b, m, arr, g1, ?_, g3, g4, g5, g6, fun i hi => by show (frzGet o ob y i).length = _; rw [frzGet_eq (x := y) hi, frzC_length]; exact g7 i hi, fun i kk c v hi e1 e2 => ?_, g9⟩
        · cases hr : RO' b with
          | none => rfl
          | some z =>
            rcases r3 b z hr with e | ⟨m2, e⟩
            · rw [g2] at e; cases e
            · exact absurd (hS.inj k o y ob b m m2 h1 hl g1 e) hko
        · have e1' : (frzC o ob (y.get i))[kk]? = some c := by rw [← frzGet_eq (x := y) hi]; exact e1
          rw [frzC_get] at e1'
          cases hk : (y.get i)[kk]? with
          | none => simp [hk] at e1'
          | some d => simp [hk] at e1'; subst e1'; exact F (g8 i kk d v hi hk e2)
    · obtain ⟨_, y, h1, _⟩ := live k x hx
      obtain ⟨_, y', h1', _⟩ := live k' x' hx'
      exact hS.inj k k' y y' b m m' h1 h1' p1 p2
    · rcases r3 b arr hb with e | ⟨m, e⟩
      · exact hS.ro b arr e
      · obtain ⟨arr', q1, _, ⟨t, q2⟩, _⟩ := r2 b m e
        rw [hb] at q1
        cases q1
        obtain ⟨f, _, q2⟩ := q2
        exact ⟨t, _, q2⟩
    · rcases r3 b arr hb with e | ⟨m, e⟩
      · exact hS.old b arr e
      · rcases hS.obj o ob hl with ⟨g1, _⟩ | ⟨b', m', arr', g1, g2, g3, _⟩
        · rw [g1] at e; cases e
        · have eb : b' = b := by rw [g1] at e; cases e; rfl
          rw [← eb]; exact .inr g3
    · rw [frzC_get] at h1
      cases hk : s.tmps[k]? with
      | none => simp [hk] at h1
      | some d => simp [hk] at h1; subst h1; exact F (hT.2 k d v hk h2)
  · exact ⟨RO, hS, hT, .refl _ _ _, rfl⟩

theorem frzL_sound : ∀ (ids : List Nat) {s : St} {RO : RoMap}, SR w0 W F ρ RO (hp s.H) w → TR ρ RO (hp s.H) s.tmps a →
    ∃ RO', SR w0 W F ρ RO' (hp (s.frzL ids).H) w ∧ TR ρ RO' (hp (s.frzL ids).H) (s.frzL ids).tmps a ∧ Ext ρ RO (hp s.H) ρ RO' (hp (s.frzL ids).H) ∧ s.H.length = (s.frzL ids).H.length
  | [], s, RO, hS, hT => ⟨RO, hS, hT, .refl _ _ _, rfl⟩
  | o :: r, s, RO, hS, hT => by
    obtain ⟨R1, a1, a2, a3, a4⟩ := frz_sound hS hT o
    obtain ⟨R2, b1, b2, b3, b4⟩ := frzL_sound r a1 a2
    exact ⟨R2, b1, b2, a3.trans b3, a4.trans b4⟩

theorem renL_get (f : Nat → Option Nat) : ∀ (l : List AV) (k : Nat), (renL f l)[k]? = (l[k]?).map (ren f)
  | [], k => by simp [renL]
  | a :: r, k => by
    cases k with
    | zero => simp [renL]
    | succ k => simpa [renL] using renL_get f r k
theorem renL_length (f : Nat → Option Nat) : ∀ l : List AV, (renL f l).length = l.length
  | [] => rfl
  | a :: r => by simp [renL, renL_length f r]
theorem VR.renW {H H' : Hp} {f : Nat → Option Nat} {ρ' : Pm} {c : AV} {v : Value} (h : VR ρ RO H c v) (lv : ∀ {o k : Nat} {ob' : Ob}, f o = some k → H' k = .live ob' → ∃ ob, H o = .live ob ∧ ob'.sz = ob.sz ∧ ob'.n = ob.n)
    (nf : ∀ {o k : Nat}, f o = some k → H o ≠ .free → H' k ≠ .free) (hρ : ∀ o k, f o = some k → ρ' k = ρ o) (kd : ∀ {o k : Nat}, f o = some k → (H' k).kind ≠ 0 → (H o).kind = (H' k).kind) : VR ρ' RO H' (ren f c) v := by
  induction h with
  | val _ v h => exact .val _ v h
  | top _ v => exact .top _ v
  | agg H cs vs hl h ih =>
    refine .agg _ _ vs (by rw [renL_length]; exact hl) fun k c v h1 h2 => ?_
    rw [renL_get] at h1
    cases hk : cs[k]? with
    | none => simp [hk] at h1
    | some d => simp [hk] at h1; subst h1; exact ih k d v hk h2 lv nf kd
  | tup H cs vs hl h ih =>
    refine .tup _ _ vs (by rw [renL_length]; exact hl) fun k c v h1 h2 => ?_
    rw [renL_get] at h1
    cases hk : cs[k]? with
    | none => simp [hk] at h1
    | some d => simp [hk] at h1; subst h1; exact ih k d v hk h2 lv nf kd
  | fn H g cs vs hl h ih =>
    refine .fn _ g _ vs (by rw [renL_length]; exact hl) fun k c v h1 h2 => ?_
    rw [renL_get] at h1
    cases hk : cs[k]? with
    | none => simp [hk] at h1
    | some d => simp [hk] at h1; subst h1; exact ih k d v hk h2 lv nf kd
  | ptr H o i j b off h0 h =>
    simp only [Fw.ren]
    split
    · rename_i k hk
      refine .ptr _ k i j b off (nf hk h0) fun ob' hl => ?_
      obtain ⟨ob, h1, h2, h3⟩ := lv hk hl
      obtain ⟨q1, q2, m, q3⟩ := h ob h1
      exact ⟨by omega, by rw [h2]; exact q2, m, by rw [hρ o k hk]; exact q3⟩
    · exact .top _ _
  | rp H cs j b off arr hb hs h ih => exact .rp _ cs j b off arr hb hs fun k c v g1 g2 => (h k c v g1 g2).closed ρ' noHp
  | slc H o lo n n' cap b off c h0 hn hk' hc h =>
    simp only [Fw.ren]
    split
    · rename_i k hk
      refine .slc _ k lo n n' none b off c (nf hk h0) hn hk' (fun x hx => by cases hx) fun ob' hl => ?_
      obtain ⟨ob, h1, h2, h3⟩ := lv hk hl
      obtain ⟨q1, q5, q2, m, q3, q4⟩ := h ob h1
      exact ⟨by omega, fun z => by have := q5 z; omega, by rw [h2]; exact q2, m, by rw [hρ o k hk]; exact q3, by rw [h2]; exact q4⟩
    · exact .top _ _
  | slc0 H o n' cap a h0 hk' hc h =>
    simp only [Fw.ren]
    split
    · rename_i k hk
      refine .slc0 _ k n' none a (nf hk h0) hk' (fun x hx => by cases hx) fun ob' hl => ?_
      obtain ⟨ob, h1, h2, h3⟩ := lv hk hl
      obtain ⟨q1, q2⟩ := h ob h1
      exact ⟨by omega, by rw [hρ o k hk]; exact q2⟩
    · exact .top _ _
  | lst H sz n cap get b off c arr hb hn hc hs hg h1 h ih => exact .lst _ sz n cap get b off c arr hb hn hc hs hg h1 fun i k a v g0 g1 g2 => (h i k a v g0 g1 g2).closed ρ' noHp
  | lst0 H sz cap get a hc => exact .lst0 _ sz cap get a hc
  | mp H o b h0 h =>
    simp only [Fw.ren]
    split
    · rename_i k hk
      refine .mp _ k b (nf hk h0) fun h1 => ?_
      obtain ⟨m, hm⟩ := h ((kd hk (by rw [h1]; simp)).trans h1)
      exact ⟨m, by rw [hρ o k hk]; exact hm⟩
    · exact .top _ _
  | itr H o b h0 h =>
    simp only [Fw.ren]
    split
    · rename_i k hk
      refine .itr _ k b (nf hk h0) fun h1 => ?_
      obtain ⟨m, hm⟩ := h ((kd hk (by rw [h1]; simp)).trans h1)
      exact ⟨m, by rw [hρ o k hk]; exact hm⟩
    · exact .top _ _
mutual
theorem VR.plain : ∀ {c : AV} {RO RO' : RoMap} {ρ ρ' : Pm} {H H' : Hp} {v : Value}, plainA c = true → VR ρ RO H c v → VR ρ' RO' H' c v
  | .val _, RO, RO', ρ, ρ', H, H', v, _, h => by cases h; rename_i h; exact .val _ _ h
  | .agg cs, RO, RO', ρ, ρ', H, H', v, hp, h => by
    cases h with
    | agg _ _ vs hl hh => exact .agg _ _ vs hl fun k c v h1 h2 => VR.plainL (cs := cs) (by simpa [plainA] using hp) k c h1 (hh k c v h1 h2)
  | .tup cs, RO, RO', ρ, ρ', H, H', v, hp, h => by
    cases h with
    | tup _ _ vs hl hh => exact .tup _ _ vs hl fun k c v h1 h2 => VR.plainL (cs := cs) (by simpa [plainA] using hp) k c h1 (hh k c v h1 h2)
  | .top, _, _, _, _, _, _, _, hp, _ => by simp [plainA] at hp
  | .fn _ _, _, _, _, _, _, _, _, hp, _ => by simp [plainA] at hp
  | .ptr _ _ _, _, _, _, _, _, _, _, hp, _ => by simp [plainA] at hp
  | .rp _ _, _, _, _, _, _, _, _, hp, _ => by simp [plainA] at hp
  | .slc _ _ _ _, _, _, _, _, _, _, _, hp, _ => by simp [plainA] at hp
  | .lst _ _ _ _, _, _, _, _, _, _, _, hp, _ => by simp [plainA] at hp
  | .mp _, _, _, _, _, _, _, _, hp, _ => by simp [plainA] at hp
  | .itr _, _, _, _, _, _, _, _, hp, _ => by simp [plainA] at hp
theorem VR.plainL : ∀ {cs : List AV}, Fw.plainL cs = true → ∀ (k : Nat) (c : AV), cs[k]? = some c → ∀ {RO RO' : RoMap} {ρ ρ' : Pm} {H H' : Hp} {v : Value}, VR ρ RO H c v → VR ρ' RO' H' c v
  | [], _, k, c, h => by simp at h
  | a :: r, hp, 0, c, h => fun hv => by
    simp at h
    subst h
    exact VR.plain (by simp [Fw.plainL] at hp; exact hp.1) hv
  | a :: r, hp, k + 1, c, h => fun hv => VR.plainL (cs := r) (by simp [Fw.plainL] at hp; exact hp.2) k c (by simpa using h) hv
end
/-- A block that is there, as an object of one's own. -/
theorem SR.adopt {H : Hp} {pos : Nat} {ob : Ob} {b : Nat} {arr : Array Value} (h : SR w0 W F ρ RO H w) (hf : H pos = .free) (hRO : RO b = none) (hnew : ∀ o x m, H o = .live x → ρ o = some ⟨b, m⟩ → False) (hb : w0.heap.size ≤ b ∨ W b) (hw : CellsAt w b arr ob.ty) (hob : ObR (fun _ => none) RO noHp ob arr) :
    SR w0 W F (updP ρ pos (some ⟨b, arr.size⟩)) RO (upd H pos (.live ob)) w := by
  have E : Ext ρ RO H (updP ρ pos (some ⟨b, arr.size⟩)) RO (upd H pos (.live ob)) := Ext.new hf _ _
  have old : ∀ o ob', o ≠ pos → upd H pos (.live ob) o = .live ob' → H o = .live ob' := fun o ob' hne hl => by simpa [upd, hne] using hl
  refine ⟨h.os, h.tape, h.output, h.size, h.kept, ?_, ?_, h.ro, h.old, h.fix, h.mo.upd rfl (fun o ho => by simp [updP, ho]) (fun _ _ h _ => h)⟩
  · intro o ob' hl
    by_cases ho : o = pos
    · subst ho
      have : ob = ob' := by simpa [upd] using hl
      subst this
      exact .inr ⟨b, arr.size, arr, by simp [updP], hRO, hb, hw, rfl, hob.1, hob.2.1, fun i k a v hi e1 e2 => (hob.2.2.1 i k a v hi e1 e2).closed _ _, hob.2.2.2⟩
    · rcases h.obj o ob' (old o ob' ho hl) with ⟨g1, g2⟩ | ⟨b', m, arr', h1, h2, h3, h4, h5, h6, h7, h8, h9⟩
      · exact .inl ⟨by simp [updP, ho, g1], g2⟩
      · exact .inr ⟨b', m, arr', by simp [updP, ho, h1], h2, h3, h4, h5, h6, h7, fun i k a v hi e1 e2 => (h8 i k a v hi e1 e2).ext E.1 _ E, h9⟩
  · intro o o' ob1 ob2 b' m m' h1 h2 h3 h4
    by_cases ho : o = pos <;> by_cases ho' : o' = pos
    · rw [ho, ho']
    · subst ho
      have e3 : b = b' := by simp [updP] at h3; exact h3.1
      rw [show updP ρ o (some ⟨b, arr.size⟩) o' = ρ o' by simp [updP, ho']] at h4
      subst e3
      exact (hnew o' ob2 m' (old o' ob2 ho' h2) h4).elim
    · subst ho'
      have e4 : b = b' := by simp [updP] at h4; exact h4.1
      rw [show updP ρ o' (some ⟨b, arr.size⟩) o = ρ o by simp [updP, ho]] at h3
      subst e4
      exact (hnew o ob1 m (old o ob1 ho h1) h3).elim
    · exact h.inj o o' ob1 ob2 b' m m' (old o ob1 ho h1) (old o' ob2 ho' h2) (by simpa [updP, ho] using h3) (by simpa [updP, ho'] using h4)
/-- A result that holds object 0, a list of its own. -/
def Owned (w w' : World) (ob : Ob) (a : AV) (cv : Value) (RO' : RoMap) : Prop :=
  ∃ pl : Option Pl, VR (fun _ => pl) RO' (hp [.live ob]) a cv ∧ ((pl = none ∧ ob.n = 0) ∨ ∃ b arr, pl = some ⟨b, arr.size⟩ ∧ RO' b = none ∧ w.heap.size ≤ b ∧ CellsAt w' b arr ob.ty ∧ ObR (fun _ => none) RO' noHp ob arr)

/-- A function may be called. -/
def Enters (P : Program) (f : FuncId) : Prop := ∃ fn, P.funcs[f]? = some fn ∧ (fn.name == "runtime.NumGoroutine") = false ∧ fn.body.isNone = false
/-- Behind a call that is handed the address of block b. -/
structure Opened (w w' : World) (b : Nat) (ty : TypeId) (m : Nat) (cs : List AV) (RO RO' : RoMap) : Prop where
  os : w'.os = w.os
  tape : w'.tape = w.tape
  output : w'.output = w.output
  size : w.heap.size ≤ w'.heap.size
  kept : ∀ k, k < w.heap.size → k ≠ b → w'.heap[k]? = w.heap[k]?
  more : ∀ c arr, RO c = some arr → RO' c = some arr
  new : ∀ c arr, RO' c = some arr → RO c = none → w.heap.size ≤ c
  ro : RoOk RO' w'
  block : ∃ arr, CellsAt w' b arr ty ∧ arr.size = m ∧ cs.length ≤ m ∧ CR (fun _ => none) RO' noHp cs (arr.toList.take cs.length) ∧ ∀ v ∈ arr.toList.take cs.length, v.oneCell' = true
/-- What is gone into does what it says. -/
def Inl.Ok (P : Program) (f : FuncId) (I : Inl) : Prop := ∀ {R : Type} (l : List AV) (H : List Ent) (K : AV → List Ent → Option R) (r : R), I.run l H K = some r →
  ∀ (w0 w : World) (W : Nat → Prop) (F : RoMap) (ρ : Pm) (RO : RoMap) (cargs : Array Value), SR w0 W F ρ RO (hp H) w → CR ρ RO (hp H) l cargs.toList →
    Calls P f cargs w fun e w' => ∃ v H' cv ρ' RO', e = .returned cv ∧ K v H' = some r ∧ VR ρ' RO' (hp H') v cv ∧ SR w0 W F ρ' RO' (hp H') w' ∧ Ext ρ RO (hp H) ρ' RO' (hp H')
/-- Behind a call that was handed a list that lay at 'pl'. -/
structure Moved (w w' : World) (pl : Option Pl) (RO RO' : RoMap) : Prop where
  os : w'.os = w.os
  tape : w'.tape = w.tape
  output : w'.output = w.output
  size : w.heap.size ≤ w'.heap.size
  kept : ∀ k, k < w.heap.size → (∀ m, pl ≠ some ⟨k, m⟩) → w'.heap[k]? = w.heap[k]?
  more : ∀ c arr, RO c = some arr → RO' c = some arr
  new : ∀ c arr, RO' c = some arr → RO c = none → w.heap.size ≤ c ∨ ∃ m, pl = some ⟨c, m⟩
  ro : RoOk RO' w'
/-- What is handed a list does what it says. -/
def Tk.Ok (P : Program) (f : FuncId) (T : Tk) : Prop := ∀ sz n cap g rest x r, T.dec (.lst sz n cap g :: rest) = some x → T.f x = some r → ∀ (RO : RoMap) (w : World) (pl : Option Pl) (v0 : Value) (cargs : Array Value), RoOk RO w →
  ((pl = none ∧ n = 0) ∨ ∃ b arr, pl = some ⟨b, arr.size⟩ ∧ RO b = none ∧ CellsAt w b arr T.ty ∧ ObR (fun _ => none) RO noHp ⟨true, T.ty, sz, n, g, none⟩ arr) →
  VR (fun _ => pl) RO (hp [.live ⟨true, T.ty, sz, n, g, none⟩]) (.slc 0 0 none none) v0 → CR (fun _ => none) RO noHp rest cargs.toList →
    Calls P f (#[v0] ++ cargs) w fun e w' => ∃ cv RO' pl', e = .returned cv ∧ VR (fun _ => pl') RO' (hp [.live (T.ob r)]) (T.enc r) cv ∧
      ((pl' = none ∧ (T.ob r).n = 0) ∨ ∃ b arr, pl' = some ⟨b, arr.size⟩ ∧ RO' b = none ∧ (w.heap.size ≤ b ∨ ∃ m, pl = some ⟨b, m⟩) ∧ CellsAt w' b arr (T.ob r).ty ∧ ObR (fun _ => none) RO' noHp (T.ob r) arr) ∧ Moved w w' pl RO RO'
/-- A result that holds lists of its own: objects 0, 1, .. -/
def OwnedM (w w' : World) (obs : List Ob) (a : AV) (cv : Value) (RO' : RoMap) : Prop :=
  ∃ pl : Pm, VR pl RO' (hp (obs.map .live)) a cv ∧
    (∀ (o : Nat) ob, obs[o]? = some ob → (pl o = none ∧ ob.n = 0) ∨ ∃ b arr, pl o = some ⟨b, arr.size⟩ ∧ RO' b = none ∧ w.heap.size ≤ b ∧ CellsAt w' b arr ob.ty ∧ ObR pl RO' (hp (obs.map .live)) ob arr) ∧
    ∀ o o' b m m', o < obs.length → o' < obs.length → pl o = some ⟨b, m⟩ → pl o' = some ⟨b, m'⟩ → o = o'
def Mo.Ok (P : Program) (f : FuncId) (M : Mo) : Prop := ∀ (l : List AV) x r, M.dec l = some x → M.f x = some r → ∀ (RO : RoMap) (w : World) (cargs : Array Value), RoOk RO w → CR (fun _ => none) RO noHp l cargs.toList →
  Calls P f cargs w fun e w' => ∃ cv RO', e = .returned cv ∧ OwnedM w w' (M.obs r) (M.enc r) cv RO' ∧ Below w.heap.size w w' ∧ (∀ b arr, RO b = some arr → RO' b = some arr) ∧ (∀ b arr, RO' b = some arr → RO b = none → w.heap.size ≤ b) ∧ RoOk RO' w'
/-- What a summary says is so. -/
def Summ.Ok (P : Program) (f : FuncId) (S : Summ) : Prop :=
  Enters P f ∧ (match S.op with
  | false => match S.own with
    | true => ∀ (l : List AV) x r, S.dec l = some x → S.f x = some r → ∀ (RO : RoMap) (w : World) (cargs : Array Value), RoOk RO w → CR (fun _ => none) RO noHp l cargs.toList →
      Calls P f cargs w fun e w' => ∃ cv RO', e = .returned cv ∧ Owned w w' (S.ob r) (S.enc r) cv RO' ∧ Below w.heap.size w w' ∧ (∀ b arr, RO b = some arr → RO' b = some arr) ∧ (∀ b arr, RO' b = some arr → RO b = none → w.heap.size ≤ b) ∧ RoOk RO' w'
    | false => ∀ (l : List AV) x r, S.dec l = some x → S.f x = some r → ∀ (RO : RoMap) (w : World) (cargs : Array Value), RoOk RO w → CR (fun _ => none) RO noHp l cargs.toList →
    Calls P f cargs w fun e w' => ∃ cv RO', e = .returned cv ∧ VR (fun _ => none) RO' noHp (S.enc r) cv ∧ Below w.heap.size w w' ∧ (∀ b arr, RO b = some arr → RO' b = some arr) ∧ (∀ b arr, RO' b = some arr → RO b = none → w.heap.size ≤ b) ∧ RoOk RO' w'
  | true => ∀ (cells rest : List AV) x r, S.dec (.agg cells :: rest) = some x → S.f x = some r → ∀ (RO : RoMap) (w : World) (b : Nat) (arr : Array Value) (cargs : Array Value), RoOk RO w → RO b = none → CellsAt w b arr S.ty → cells.length ≤ arr.size →
    CR (fun _ => none) RO noHp cells (arr.toList.take cells.length) → (∀ v ∈ arr.toList.take cells.length, v.oneCell' = true) → CR (fun _ => none) RO noHp rest cargs.toList →
    Calls P f (#[.pointer (some ⟨b, 0, none⟩)] ++ cargs) w fun e w' => ∃ cv RO', e = .returned cv ∧ VR (fun _ => none) RO' noHp (S.enc r) cv ∧ (S.new r).length = cells.length ∧ Opened w w' b S.ty arr.size (S.new r) RO RO') ∧ (∀ I, S.inl = some I → I.Ok P f) ∧ (∀ T, S.tk = some T → T.Ok P f) ∧ ∀ M, S.mo = some M → M.Ok P f

theorem run_callFunc {f : FuncId} (h : Enters P f) (args : Array Value) (w : World) : (callFunc f args).run P w = .ok (.enter f args) w := by
  obtain ⟨fn, h1, h2, h3⟩ := h
  have h2' : ¬ fn.name = "runtime.NumGoroutine" := by simpa using h2
  have h3' : ¬ fn.body = none := fun e => by rw [e] at h3; cases h3
  unfold callFunc
  simp [program, h1, h2', h3', Sem.run]

theorem lt_get {w : World} {b : Nat} {o : Obj} (e : w.heap[b]? = some o) : b < w.heap.size := (Array.getElem?_eq_some_iff.1 e).1
/-- Behind a call, of which the table's objects are not touched. -/
theorem SR.below {H : Hp} {w' : World} {RO' : RoMap} (h : SR w0 W F ρ RO H w) (hb : Below w.heap.size w w') (h1 : ∀ b arr, RO b = some arr → RO' b = some arr) (h2 : ∀ b arr, RO' b = some arr → RO b = none → w.heap.size ≤ b) (h3 : RoOk RO' w') :
    SR w0 W F ρ RO' H w' ∧ Ext ρ RO H ρ RO' H := by
  have E : Ext ρ RO H ρ RO' H := ⟨h1, fun o ho => ⟨ho, fun ob hl => ⟨rfl, ob, hl, rfl, rfl⟩⟩, fun _ _ _ => ⟨rfl, rfl⟩⟩
  refine ⟨⟨hb.os.trans h.os, hb.tape.trans h.tape, hb.output.trans h.output, Nat.le_trans h.size hb.size, fun k hk hW => ?_, fun o ob hl => ?_, h.inj, h3, fun b arr hbr => ?_, fun b arr hb => h1 b arr (h.fix b arr hb), h.mo.mono h1 (fun b o e _ => (hb.block b (lt_get e)).trans e) fun _ _ => ⟨rfl, rfl⟩⟩, E⟩
  rotate_left 2
  · cases hr : RO b with
    | none => exact .inr (.inl (Nat.le_trans h.size (h2 b arr hbr hr)))
    | some z =>
      have := h1 b z hr
      rw [hbr] at this
      cases this
      exact h.old b arr hr
  · rw [hb.block k (Nat.lt_of_lt_of_le hk h.size)]; exact h.kept k hk hW
  · rcases h.obj o ob hl with hg | ⟨b, m, arr, g1, g2, g3, g4, g5, g6, g7, g8, g9⟩
    · exact .inl hg
    · have hlt : b < w.heap.size := g4.lt
      refine .inr ⟨b, m, arr, g1, ?_, g3, g4.at (hb.block b hlt), g5, g6, g7, fun i k c v hi e1 e2 => (g8 i k c v hi e1 e2).ext h1 _ E, g9⟩
      cases hr : RO' b with
      | none => rfl
      | some z => exact absurd (h2 b z hr g2) (by omega)

/-- Behind a call that was handed a list, which is the table's no more. -/
theorem SR.moved {H : Hp} {w' : World} {pl : Option Pl} {RO' : RoMap} (h : SR w0 W F ρ RO H w) (hm : Moved w w' pl RO RO') (hpl : ∀ b m, pl = some ⟨b, m⟩ → (w0.heap.size ≤ b ∨ W b) ∧ (∀ o x m', H o = .live x → ρ o = some ⟨b, m'⟩ → False) ∧ ∃ arr t, CellsAt w b arr t) :
    SR w0 W F ρ RO' H w' ∧ Ext ρ RO H ρ RO' H := by
  have E : Ext ρ RO H ρ RO' H := ⟨hm.more, fun o ho => ⟨ho, fun ob hl => ⟨rfl, ob, hl, rfl, rfl⟩⟩, fun _ _ _ => ⟨rfl, rfl⟩⟩
  refine ⟨⟨hm.os.trans h.os, hm.tape.trans h.tape, hm.output.trans h.output, Nat.le_trans h.size hm.size, fun k hk hW => ?_, fun o ob hl => ?_, h.inj, hm.ro, fun b arr hbr => ?_, fun b arr hb => hm.more b arr (h.fix b arr hb), h.mo.mono hm.more (fun b o e hc => (hm.kept b (lt_get e) fun m e2 => by
      obtain ⟨arr, t, f, _, e3⟩ := (hpl b m e2).2.2
      rw [e3] at e; cases e; cases hc).trans e) fun _ _ => ⟨rfl, rfl⟩⟩, E⟩
  · rw [hm.kept k (Nat.lt_of_lt_of_le hk h.size) (fun m e => ?_)]
    · exact h.kept k hk hW
    · rcases (hpl k m e).1 with g | g
      · omega
      · exact hW g
  · rcases h.obj o ob hl with hg | ⟨b, m, arr, g1, g2, g3, g4, g5, g6, g7, g8, g9⟩
    · exact .inl hg
    · have hlt : b < w.heap.size := g4.lt
      have hne : ∀ m', pl ≠ some ⟨b, m'⟩ := fun m' e => (hpl b m' e).2.1 o ob m hl g1
      refine .inr ⟨b, m, arr, g1, ?_, g3, g4.at (hm.kept b hlt hne), g5, g6, g7, fun i k c v hi e1 e2 => (g8 i k c v hi e1 e2).ext hm.more _ E, g9⟩
      cases hr : RO' b with
      | none => rfl
      | some z =>
        rcases hm.new b z hr g2 with e | ⟨m', e⟩
        · omega
        · exact absurd e (hne m')
  · cases hr : RO b with
    | none =>
      rcases hm.new b arr hbr hr with e | ⟨m', e⟩
      · exact .inr (.inl (Nat.le_trans h.size e))
      · exact .inr (hpl b m' e).1
    | some z =>
      have := hm.more b z hr
      rw [hbr] at this
      cases this
      exact h.old b arr hr

/-- The state bears the table, the frame its values. -/
structure SS (w0 : World) (W : Nat → Prop) (F : RoMap) (ρ : Pm) (RO : RoMap) (s : St) (a : Act) (w : World) : Prop where
  sr : SR w0 W F ρ RO (hp s.H) w
  tr : TR ρ RO (hp s.H) s.tmps a

/-- An operation leads on: to a state 's'' that bears what follows. -/
def Leads (P : Program) (o : Oper) (w0 : World) (W : Nat → Prop) (F : RoMap) (ρ : Pm) (RO : RoMap) (s : St) (a : Act) (w : World) (s' : St) : Prop :=
  s.H.length ≤ s'.H.length ∧ ∀ (K : Act → World → Prop) (Q : Exit → Act → World → Prop),
    (∀ ρ' RO' cv w', SS w0 W F ρ' RO' s' (a.put o.dst cv) w' → Ext ρ RO (hp s.H) ρ' RO' (hp s'.H) → w.heap.size ≤ w'.heap.size → K (a.put o.dst cv) w') → o.wp P a w K Q

theorem SS.put {H' : List Ent} {ρ' : Pm} {w' : World} {v : AV} {cv : Value} (h : SS w0 W F ρ RO s a w) (d : Option Tmp) (hS : SR w0 W F ρ' RO (hp H') w') (E : Ext ρ RO (hp s.H) ρ' RO (hp H')) (hv : VR ρ' RO (hp H') v cv) : SS w0 W F ρ' RO (s.put d v H') (a.put d cv) w' :=
  ⟨hS, TR.put (s := ⟨s.tmps, H'⟩) (h.tr.ext E) d hv⟩

theorem Good.leads {o : Oper} {e : Eff} (h : SS w0 W F ρ RO s a w) (hg : Good P (execOp a.eval o) w0 W F ρ RO s.H w e) : Leads P o w0 W F ρ RO s a w (s.put o.dst e.v e.H) := by
  obtain ⟨cv, w', ρ', hd, hv, hS, hE, hl, hs⟩ := hg
  refine ⟨hl, fun K Q hK => ?_⟩
  have hk := hK ρ' RO cv w' (h.put o.dst hS hE hv) hE hs
  unfold Oper.wp
  rcases hd with hd | ⟨hd, rfl⟩
  · rw [hd, Oper.upon_value]; exact hk
  · rw [hd, Oper.upon_skip]; exact hk

theorem calleeOf_spec {o : Oper} {g : FuncId} {caps : List AV} {args : List Operand} (h : calleeOf s o = some (g, caps, args)) : ∃ f as ts, o.op = .call { callee := .value f, args := as, argTypes := ts } ∧ s.op f = .fn g caps ∧ as.toList = args := by
  unfold calleeOf at h
  split at h
  · rename_i f as ts ho
    split at h
    · rename_i g' caps' hf
      cases h
      exact ⟨f, as, ts, ho, hf, rfl⟩
    · cases h
  · cases h

theorem call_run {o : Oper} {g : FuncId} {caps : List AV} {args : List Operand} {ids : List Nat} (hc : calleeOf s o = some (g, caps, args)) (hen : Enters P g) (h : SS w0 W F ρ RO s a w) :
    ∃ R1 cargs, SR w0 W F ρ R1 (hp (s.frzL ids).H) w ∧ TR ρ R1 (hp (s.frzL ids).H) (s.frzL ids).tmps a ∧ Ext ρ RO (hp s.H) ρ R1 (hp (s.frzL ids).H) ∧ s.H.length = (s.frzL ids).H.length ∧
      CR (fun _ => none) R1 noHp (cloL (args.map (s.frzL ids).op ++ caps)) cargs.toList ∧ (execOp a.eval o).run P w = .ok (.enter g cargs) w := by
  obtain ⟨f, as, ts, ho, hf, rfl⟩ := calleeOf_spec hc
  obtain ⟨R1, a1, a2, a3, a4⟩ := frzL_sound ids h.sr h.tr
  have hvf := op_sound h.tr f
  rw [hf] at hvf
  obtain ⟨vs, hce, hcr⟩ := hvf.fnCR
  have hargs := mem_cr (s := s.frzL ids) a2 as.toList
  have hall : CR ρ R1 (hp (s.frzL ids).H) (as.toList.map (s.frzL ids).op ++ caps) ((as.map a.eval) ++ vs).toList := by
    rw [Array.toList_append, Array.toList_map]
    exact hargs.append (hcr.ext a3)
  have hcl : CR (fun _ => none) R1 noHp (cloL (as.toList.map (s.frzL ids).op ++ caps)) ((as.map a.eval) ++ vs).toList := (hall.clo).closed _ _
  have hrun : (execOp a.eval o).run P w = .ok (.enter g ((as.map a.eval) ++ vs)) w := by
    unfold execOp
    simp only [ho, resolve, Sem.run_bind]
    rw [hce]
    simp only [Deferred.ofValue, Sem.run_pure, Result.andThen_ok, invoke]
    rw [Array.empty_append]
    exact run_callFunc hen _ w
  exact ⟨R1, _, a1, a2, a3, a4, hcl, hrun⟩
theorem call_run0 {o : Oper} {g : FuncId} {caps : List AV} {args : List Operand} (hc : calleeOf s o = some (g, caps, args)) (hen : Enters P g) (h : SS w0 W F ρ RO s a w) :
    ∃ cargs : Array Value, CR ρ RO (hp s.H) (args.map s.op ++ caps) cargs.toList ∧ (execOp a.eval o).run P w = .ok (.enter g cargs) w := by
  obtain ⟨f, as, ts, ho, hf, rfl⟩ := calleeOf_spec hc
  have hvf := op_sound h.tr f
  rw [hf] at hvf
  obtain ⟨vs, hce, hcr⟩ := hvf.fnCR
  have hargs := mem_cr (s := s) h.tr as.toList
  have hall : CR ρ RO (hp s.H) (as.toList.map s.op ++ caps) ((as.map a.eval) ++ vs).toList := by
    rw [Array.toList_append, Array.toList_map]
    exact hargs.append hcr
  refine ⟨_, hall, ?_⟩
  unfold execOp
  simp only [ho, resolve, Sem.run_bind]
  rw [hce]
  simp only [Deferred.ofValue, Sem.run_pure, Result.andThen_ok, invoke]
  rw [Array.empty_append]
  exact run_callFunc hen _ w
theorem call_leads {o : Oper} {g : FuncId} {caps : List AV} {args : List Operand} {S : Summ} {x : S.A} {r : S.R} {s' : St} (hc : calleeOf s o = some (g, caps, args)) (hOk : S.Ok P g) (hop : S.op = false) (how : S.own = false) (hd : S.dec (cloL (args.map (s.frzL (idsL (args.map s.op ++ caps))).op ++ caps)) = some x) (hr : S.f x = some r)
    (hs' : s' = s.frzL (idsL (args.map s.op ++ caps)) ∨ (s' = s ∧ plainA (S.enc r) = true)) (h : SS w0 W F ρ RO s a w) : Leads P o w0 W F ρ RO s a w (s'.put o.dst (S.enc r) s'.H) := by
  obtain ⟨R1, cargs, a1, a2, a3, a4, hcl, hrun⟩ := call_run (ids := idsL (args.map s.op ++ caps)) hc hOk.1 h
  generalize idsL (args.map s.op ++ caps) = ids at *
  have hlen : s'.H.length = s.H.length := by
    rcases hs' with rfl | ⟨rfl, _⟩
    · exact a4.symm
    · rfl
  refine ⟨by show s.H.length ≤ s'.H.length; omega, fun K Q hK => ?_⟩
  have hOk2 := hOk.2.1
  rw [hop] at hOk2
  simp only [how] at hOk2
  have hcall := hOk2 _ x r hd hr R1 w _ a1.ro hcl
  unfold Oper.wp
  rw [hrun, Oper.upon_enter]
  refine hcall.mono fun e w' ⟨cv, RO', he, hv, hb, h1, h2, h3⟩ => ?_
  subst he
  rcases hs' with rfl | ⟨rfl, hpl⟩
  · obtain ⟨b1, b2⟩ := a1.below hb h1 h2 h3
    refine hK ρ RO' cv w' ?_ (a3.trans b2) hb.size
    exact ⟨b1, TR.put (s := ⟨(s.frzL ids).tmps, (s.frzL ids).H⟩) (a2.ext b2) o.dst (hv.closed ρ _)⟩
  · have hro : RoOk RO w' := fun b arr hb => h3 b arr (h1 b arr (a3.1 b arr hb))
    obtain ⟨b1, b2⟩ := h.sr.below hb (fun _ _ h => h) (fun b arr e1 e2 => by rw [e1] at e2; cases e2) hro
    exact hK ρ RO cv w' ⟨b1, TR.put (s := ⟨s'.tmps, s'.H⟩) (h.tr.ext b2) o.dst (VR.plain hpl hv)⟩ b2 hb.size
/-- A call whose result holds a list of its own. -/
theorem own_leads {o : Oper} {g : FuncId} {caps : List AV} {args : List Operand} {S : Summ} {x : S.A} {r : S.R} {pos : Nat} (hc : calleeOf s o = some (g, caps, args)) (hOk : S.Ok P g) (hop : S.op = false) (how : S.own = true) (hd : S.dec (cloL (args.map (s.frzL (idsL (args.map s.op ++ caps))).op ++ caps)) = some x) (hr : S.f x = some r)
    (h1 : pos ≤ s.H.length) (h2 : hp (s.frzL (idsL (args.map s.op ++ caps))).H pos = .free) (h : SS w0 W F ρ RO s a w) :
    Leads P o w0 W F ρ RO s a w ((s.frzL (idsL (args.map s.op ++ caps))).put o.dst (ren (toPos pos) (S.enc r)) (fresh (s.frzL (idsL (args.map s.op ++ caps))) pos (S.ob r))) := by
  obtain ⟨R1, cargs, a1, a2, a3, a4, hcl, hrun⟩ := call_run (ids := idsL (args.map s.op ++ caps)) hc hOk.1 h
  generalize idsL (args.map s.op ++ caps) = ids at *
  have h1' : pos ≤ (s.frzL ids).H.length := by omega
  refine ⟨by show s.H.length ≤ (fresh (s.frzL ids) pos (S.ob r)).length; have := fresh_length (s := s.frzL ids) h1' (S.ob r); omega, fun K Q hK => ?_⟩
  have hOk2 := hOk.2.1
  rw [hop] at hOk2
  simp only [how] at hOk2
  have hcall := hOk2 _ x r hd hr R1 w _ a1.ro hcl
  unfold Oper.wp
  rw [hrun, Oper.upon_enter]
  refine hcall.mono fun e w' ⟨cv, RO', he, ⟨pl, hv, hpl⟩, hb, g1, g2, g3⟩ => ?_
  subst he
  obtain ⟨b1, b2⟩ := a1.below hb g1 g2 g3
  have hfin : ∃ ρ', SR w0 W F ρ' RO' (upd (hp (s.frzL ids).H) pos (.live (S.ob r))) w' ∧ ρ' = updP ρ pos pl := by
    rcases hpl with ⟨rfl, h0⟩ | ⟨b, arr, rfl, q1, q2, q3, q4⟩
    · exact ⟨_, b1.ghost h2 h0, rfl⟩
    · refine ⟨_, b1.adopt h2 q1 (fun o' x' m hl hp' => ?_) (.inl (Nat.le_trans h.sr.size q2)) q3 q4, rfl⟩
      rcases a1.obj o' x' hl with ⟨z, _⟩ | ⟨b', m', arr', z1, z2, z3, z4, _⟩
      · rw [z] at hp'; cases hp'
      · rw [z1] at hp'; cases hp'
        exact absurd z4.lt (by omega)
  obtain ⟨ρ', k1, rfl⟩ := hfin
  have E : Ext ρ RO' (hp (s.frzL ids).H) (updP ρ pos pl) RO' (upd (hp (s.frzL ids).H) pos (.live (S.ob r))) := Ext.new h2 _ _
  have hvr : VR (updP ρ pos pl) RO' (upd (hp (s.frzL ids).H) pos (.live (S.ob r))) (ren (toPos pos) (S.enc r)) cv := by
    have tp : ∀ {o k : Nat}, toPos pos o = some k → o = 0 ∧ k = pos := fun {o k} e => by
      unfold toPos at e
      split at e
      · cases e; exact ⟨rfl, rfl⟩
      · cases e
    refine hv.renW (fun {o k ob'} e hl => ?_) (fun {o k} e _ => ?_) (fun o k e => ?_) fun {o k} e h3 => ?_
    · obtain ⟨rfl, rfl⟩ := tp e
      have : S.ob r = ob' := by simpa [upd] using hl
      subst this
      exact ⟨S.ob r, rfl, rfl, rfl⟩
    · obtain ⟨rfl, rfl⟩ := tp e
      simp [upd]
    · obtain ⟨rfl, rfl⟩ := tp e
      simp [updP]
    · obtain ⟨rfl, rfl⟩ := tp e
      simp [upd, Ent.kind] at h3
  have eH : hp (fresh (s.frzL ids) pos (S.ob r)) = upd (hp (s.frzL ids).H) pos (.live (S.ob r)) := hp_fresh h1' _
  have k1' : SR w0 W F (updP ρ pos pl) RO' (hp (fresh (s.frzL ids) pos (S.ob r))) w' := by rw [eH]; exact k1
  have E' : Ext ρ RO' (hp (s.frzL ids).H) (updP ρ pos pl) RO' (hp (fresh (s.frzL ids) pos (S.ob r))) := by rw [eH]; exact E
  have hvr' : VR (updP ρ pos pl) RO' (hp (fresh (s.frzL ids) pos (S.ob r))) (ren (toPos pos) (S.enc r)) cv := by rw [eH]; exact hvr
  exact hK _ RO' cv w' ⟨k1', TR.put (s := ⟨(s.frzL ids).tmps, fresh (s.frzL ids) pos (S.ob r)⟩) ((a2.ext b2).ext E') o.dst hvr'⟩ ((a3.trans b2).trans E') hb.size

theorem setL_length : ∀ (obs : List Ob) (k : Nat) (H : List Ent), (setL k obs H).length = H.length
  | [], _, _ => rfl
  | ob :: r, k, H => by unfold setL; rw [setL_length r]; simp
theorem setL_get : ∀ (obs : List Ob) (k : Nat) (H : List Ent) (x : Nat), k + obs.length ≤ H.length → hp (setL k obs H) x = if x < k then hp H x else match obs[x - k]? with | some ob => .live ob | none => hp H x
  | [], k, H, x, _ => by simp [setL]
  | ob :: r, k, H, x, hl => by
    have hl' : k + 1 + r.length ≤ (H.set k (.live ob)).length := by simp at hl ⊢; omega
    unfold setL
    rw [setL_get r (k + 1) (H.set k (.live ob)) x hl', hp_set (by simp at hl; omega)]
    unfold upd
    by_cases h1 : x < k
    · rw [if_pos (by omega), if_neg (by omega), if_pos h1]
    · rw [if_neg h1]
      by_cases h2 : x = k
      · subst h2
        rw [if_pos (by omega), if_pos rfl, Nat.sub_self]
        rfl
      · rw [if_neg (by omega), if_neg h2]
        have : x - k = (x - (k + 1)) + 1 := by omega
        rw [this, List.getElem?_cons_succ]
theorem shF_some {n0 k o x : Nat} (h : shF n0 k o = some x) : o < k ∧ x = n0 + o := by
  unfold shF at h
  split at h
  · rename_i hb
    cases h
    exact ⟨by simpa [Nat.blt_eq] using hb, rfl⟩
  · cases h
theorem hp_obs {obs : List Ob} {k : Nat} {x : Ob} (h : hp (obs.map .live) k = .live x) : obs[k]? = some x := by
  unfold hp at h
  rw [List.getD_eq_getElem?_getD, List.getElem?_map] at h
  cases hk : obs[k]? with
  | none => rw [hk] at h; cases h
  | some y => rw [hk] at h; cases h; rfl
theorem hp_obs' {obs : List Ob} {k : Nat} {x : Ob} (h : obs[k]? = some x) : hp (obs.map .live) k = .live x := by
  unfold hp
  rw [List.getD_eq_getElem?_getD, List.getElem?_map, h]; rfl

theorem kind_live (l : List Ob) (k : Nat) : (hp (l.map .live) k).kind = 0 := by
  unfold hp
  rw [List.getD_eq_getElem?_getD, List.getElem?_map]
  cases l[k]? <;> rfl
/-- The lists that a call gives lie in free places. -/
theorem OwnedM.place {w' : World} {obs : List Ob} {v : AV} {cv : Value} {RO' : RoMap} {H H' : Hp} {pos : Nat} (hm : OwnedM w w' obs v cv RO') (hS : SR w0 W F ρ RO H w) (b1 : SR w0 W F ρ RO' H w')
    (hfree : ∀ d, d < obs.length → H (pos + d) = .free)
    (hH : ∀ x, H' x = if x < pos then H x else match (obs.map (renOb (shF pos obs.length)))[x - pos]? with | some ob => .live ob | none => H x) :
    ∃ ρ', SR w0 W F ρ' RO' H' w' ∧ Ext ρ RO' H ρ' RO' H' ∧ VR ρ' RO' H' (ren (shF pos obs.length) v) cv := by
  obtain ⟨pl, hv, hob, hinj⟩ := hm
  generalize hf : shF pos obs.length = f at *
  have fs : ∀ {o k : Nat}, f o = some k → o < obs.length ∧ k = pos + o := fun {o k} e => by rw [← hf] at e; exact shF_some e
  -- where it is new, where it is old
  have hnew : ∀ o, o < obs.length → ∀ ob, obs[o]? = some ob → H' (pos + o) = .live (renOb f ob) := fun o ho ob e => by
    rw [hH, if_neg (by omega), Nat.add_sub_cancel_left, List.getElem?_map, e]; rfl
  have hold : ∀ x, ¬ (pos ≤ x ∧ x < pos + obs.length) → H' x = H x := fun x hx => by
    rw [hH]
    split
    · rfl
    · rw [List.getElem?_eq_none (by simp; omega)]
  have hlive : ∀ {k x}, H' k = .live x → (¬ (pos ≤ k ∧ k < pos + obs.length) ∧ H k = .live x) ∨ ∃ o ob, o < obs.length ∧ k = pos + o ∧ obs[o]? = some ob ∧ x = renOb f ob := fun {k x} e => by
    by_cases hk : pos ≤ k ∧ k < pos + obs.length
    · have e2 : k = pos + (k - pos) := by omega
      have hlt : k - pos < obs.length := by omega
      rw [e2, hnew _ hlt _ (List.getElem?_eq_getElem hlt)] at e
      cases e
      exact .inr ⟨_, _, hlt, e2, List.getElem?_eq_getElem hlt, rfl⟩
    · exact .inl ⟨hk, by rw [← hold k hk]; exact e⟩
  have nfree : ∀ o, H o ≠ .free → ¬ (pos ≤ o ∧ o < pos + obs.length) := fun o ho hx => ho (by
    have := hfree (o - pos) (by omega)
    rwa [show pos + (o - pos) = o by omega] at this)
  let ρ' : Pm := fun o => if pos ≤ o ∧ o < pos + obs.length then pl (o - pos) else ρ o
  have E : Ext ρ RO' H ρ' RO' H' := by
    refine ⟨fun _ _ h => h, fun o ho => ?_, fun o ho _ => ⟨?_, by rw [hold o (nfree o ho)]⟩⟩
    · have hx := nfree o ho
      rw [hold o hx]
      exact ⟨ho, fun ob' hl => ⟨if_neg hx, ob', hl, rfl, rfl⟩⟩
    · exact if_neg (nfree o ho)
  have R1 : ∀ {c : AV} {v : Value}, VR pl RO' (hp (obs.map .live)) c v → VR ρ' RO' H' (ren f c) v := fun {c v} hv => by
    refine hv.renW (fun {o k ob'} e hl => ?_) (fun {o k} e _ => ?_) (fun o k e => ?_) fun {o k} e h3 => ?_
    · obtain ⟨e1, rfl⟩ := fs e
      rw [hnew _ e1 _ (List.getElem?_eq_getElem e1)] at hl
      cases hl
      exact ⟨obs[o], hp_obs' (List.getElem?_eq_getElem e1), rfl, rfl⟩
    · obtain ⟨e1, rfl⟩ := fs e
      rw [hnew _ e1 _ (List.getElem?_eq_getElem e1)]
      exact fun e => by cases e
    · obtain ⟨e1, rfl⟩ := fs e
      show (if _ then _ else _) = _
      rw [if_pos (by omega), Nat.add_sub_cancel_left]
    · obtain ⟨e1, rfl⟩ := fs e
      rw [hnew _ e1 _ (List.getElem?_eq_getElem e1)] at h3
      exact absurd rfl h3
  have hmk : ∀ k, (H' k).kind ≠ 0 → ¬ (pos ≤ k ∧ k < pos + obs.length) := fun k h3 hx => h3 (by
    have e2 : k = pos + (k - pos) := by omega
    have hlt : k - pos < obs.length := by omega
    rw [e2, hnew _ hlt _ (List.getElem?_eq_getElem hlt)]
    rfl)
  refine ⟨ρ', ⟨b1.os, b1.tape, b1.output, b1.size, b1.kept, fun k x hx => ?_, fun k k' x x' b m m' hx hx' p1 p2 => ?_, b1.ro, b1.old, b1.fix, b1.mo.mono (fun _ _ h => h) (fun _ _ h _ => h) (fun k h3 => ⟨hold k (hmk k h3), if_neg (hmk k h3)⟩) fun _ q _ _ hq => (E.2.1 q hq).1⟩, E, R1 hv⟩
  · rcases hlive hx with ⟨hkl, hx0⟩ | ⟨o, ob, ho', rfl, ho, rfl⟩
    · rw [show ρ' k = ρ k from if_neg hkl]
      rcases b1.obj k x hx0 with q | ⟨b, m, arr, q1, q2, q3, q4, q5, q6, q7, q8, q9⟩
      · exact .inl q
      · exact .inr ⟨b, m, arr, q1, q2, q3, q4, q5, q6, q7, fun i kk c v hi e1 e2 => (q8 i kk c v hi e1 e2).ext (fun _ _ h => h) _ E, q9⟩
    · rw [show ρ' (pos + o) = pl o by show (if _ then _ else _) = _; rw [if_pos (by omega), Nat.add_sub_cancel_left]]
      rcases hob o ob ho with q | ⟨b, arr, q1, q2, q3, q4, q5, q6, q7, q8⟩
      · exact .inl q
      · refine .inr ⟨b, arr.size, arr, q1, q2, .inl (Nat.le_trans hS.size q3), q4, rfl, q5, fun i hi => ?_, fun i kk c v hi e1 e2 => ?_, q8⟩
        · show (renL f (ob.get i)).length = ob.sz
          rw [renL_length]; exact q6 i hi
        · have e1' : (renL f (ob.get i))[kk]? = some c := e1
          rw [renL_get] at e1'
          cases hq : (ob.get i)[kk]? with
          | none => rw [hq] at e1'; cases e1'
          | some d => rw [hq] at e1'; cases e1'; exact R1 (q7 i kk d v hi hq e2)
  · have cross : ∀ {k x o ob b m m'}, H k = .live x → ρ k = some ⟨b, m⟩ → obs[o]? = some ob → pl o = some ⟨b, m'⟩ → False := fun {k x o ob b m m'} hx p1 ho p2 => by
      rcases hS.obj k x hx with ⟨q, _⟩ | ⟨b', m1, arr, q1, q2, q3, q4, _⟩
      · rw [q] at p1; cases p1
      · rw [q1] at p1; cases p1
        have := q4.lt
        rcases hob o ob ho with ⟨q, _⟩ | ⟨b2, arr2, z1, z2, z3, _⟩
        · rw [q] at p2; cases p2
        · rw [z1] at p2; cases p2; omega
    have rp : ∀ o, o < obs.length → ρ' (pos + o) = pl o := fun o ho => by show (if _ then _ else _) = _; rw [if_pos (by omega), Nat.add_sub_cancel_left]
    have ro : ∀ k, ¬ (pos ≤ k ∧ k < pos + obs.length) → ρ' k = ρ k := fun k hk => if_neg hk
    rcases hlive hx with ⟨hkl, hx0⟩ | ⟨o, ob, hlt, rfl, ho, rfl⟩ <;> rcases hlive hx' with ⟨hkl', hx0'⟩ | ⟨o', ob', hlt', rfl, ho', rfl⟩
    · rw [ro _ hkl] at p1
      rw [ro _ hkl'] at p2
      exact b1.inj k k' x x' b m m' hx0 hx0' p1 p2
    · rw [ro _ hkl] at p1
      rw [rp _ hlt'] at p2
      exact (cross hx0 p1 ho' p2).elim
    · rw [rp _ hlt] at p1
      rw [ro _ hkl'] at p2
      exact (cross hx0' p2 ho p1).elim
    · rw [rp _ hlt] at p1
      rw [rp _ hlt'] at p2
      rw [hinj o o' b m m' hlt hlt' p1 p2]
/-- A call whose result holds several lists of its own. -/
theorem mo_leads {o : Oper} {g : FuncId} {caps : List AV} {args : List Operand} {S : Summ} {M : Mo} {x : M.A} {r : M.R} {pos : Nat} (hc : calleeOf s o = some (g, caps, args)) (hOk : S.Ok P g) (hM : S.mo = some M) (hd : M.dec (cloL (args.map s.op ++ caps)) = some x) (hr : M.f x = some r)
    (h1 : pos + (M.obs r).length ≤ s.H.length) (h2 : ∀ d, d < (M.obs r).length → hp s.H (pos + d) = .free) (h : SS w0 W F ρ RO s a w) :
    Leads P o w0 W F ρ RO s a w (s.put o.dst (ren (shF pos (M.obs r).length) (M.enc r)) (setL pos ((M.obs r).map (renOb (shF pos (M.obs r).length))) s.H)) := by
  obtain ⟨cargs, hcr, hrun⟩ := call_run0 hc hOk.1 h
  refine ⟨by show s.H.length ≤ (setL _ _ _).length; rw [setL_length]; exact Nat.le_refl _, fun K Q hK => ?_⟩
  have hcall := hOk.2.2.2.2 M hM _ x r hd hr RO w cargs h.sr.ro ((hcr.clo).closed _ _)
  unfold Oper.wp
  rw [hrun, Oper.upon_enter]
  refine hcall.mono fun e w' ⟨cv, RO', he, hom, hb, g1, g2, g3⟩ => ?_
  subst he
  obtain ⟨b1, b2⟩ := h.sr.below hb g1 g2 g3
  obtain ⟨ρ', k1, k2, k3⟩ := hom.place (pos := pos) (H' := hp (setL pos ((M.obs r).map (renOb (shF pos (M.obs r).length))) s.H)) h.sr b1 h2 fun x => setL_get _ _ _ _ (by simpa using h1)
  exact hK ρ' RO' cv w' ⟨k1, TR.put (s := ⟨s.tmps, setL pos ((M.obs r).map (renOb (shF pos (M.obs r).length))) s.H⟩) ((h.tr.ext b2).ext k2) o.dst k3⟩ (b2.trans k2) hb.size

/-- A call with a plain result, whatever became fixed for it. -/
theorem lent_leads {o : Oper} {g : FuncId} {caps : List AV} {args : List Operand} {S : Summ} {x : S.A} {r : S.R} {ids : List Nat} (hc : calleeOf s o = some (g, caps, args)) (hOk : S.Ok P g) (hop : S.op = false) (how : S.own = false) (hd : S.dec (cloL (args.map (s.frzL ids).op ++ caps)) = some x) (hr : S.f x = some r)
    (hpl : plainA (S.enc r) = true) (h : SS w0 W F ρ RO s a w) : Leads P o w0 W F ρ RO s a w (s.put o.dst (S.enc r) s.H) := by
  obtain ⟨R1, cargs, a1, a2, a3, a4, hcl, hrun⟩ := call_run (ids := ids) hc hOk.1 h
  refine ⟨Nat.le_refl _, fun K Q hK => ?_⟩
  have hOk2 := hOk.2.1
  rw [hop] at hOk2
  simp only [how] at hOk2
  have hcall := hOk2 _ x r hd hr R1 w _ a1.ro hcl
  unfold Oper.wp
  rw [hrun, Oper.upon_enter]
  refine hcall.mono fun e w' ⟨cv, RO', he, hv, hb, h1, h2, h3⟩ => ?_
  subst he
  have hro : RoOk RO w' := fun b arr hb => h3 b arr (h1 b arr (a3.1 b arr hb))
  obtain ⟨b1, b2⟩ := h.sr.below hb (fun _ _ h => h) (fun b arr e1 e2 => by rw [e1] at e2; cases e2) hro
  exact hK ρ RO cv w' ⟨b1, TR.put (s := ⟨s.tmps, s.H⟩) (h.tr.ext b2) o.dst (VR.plain hpl hv)⟩ b2 hb.size

/-- Behind a call that is handed the address of an object. -/
theorem SR.opened {H : Hp} {o b m : Nat} {ob ob' : Ob} {w' : World} {RO' : RoMap} {cs : List AV} (h : SR w0 W F ρ RO H w) (hl : H o = .live ob) (hp : ρ o = some ⟨b, m⟩) (hw : Opened w w' b ob.ty m cs RO RO') (hnew : newOb P ob.ty cs = some ob') (hn : ob'.n = ob.n) (hsz : ob'.sz = ob.sz) :
    SR w0 W F ρ RO' (upd H o (.live ob')) w' ∧ Ext ρ RO H ρ RO' (upd H o (.live ob')) := by
  have E1 : Ext ρ RO H ρ RO' H := ⟨hw.more, fun o ho => ⟨ho, fun ob hl => ⟨rfl, ob, hl, rfl, rfl⟩⟩, fun _ _ _ => ⟨rfl, rfl⟩⟩
  have E2 : Ext ρ RO' H ρ RO' (upd H o (.live ob')) := Ext.put hl hsz hn
  have E := E1.trans E2
  rcases h.obj o ob hl with ⟨hg, _⟩ | ⟨b0, m0, arr0, g1, g2, g3, g4, g5, g6, g7, g8, g9⟩
  · rw [hg] at hp; cases hp
  rw [g1] at hp; cases hp
  have hb : b < w.heap.size := g4.lt
  have liveOf : ∀ k x, upd H o (.live ob') k = .live x → k ≠ o → H k = .live x := fun k x hx hk => by simpa [upd, hk] using hx
  have none' : ∀ c, RO c = none → c < w.heap.size → RO' c = none := fun c h1 h2 => by
    cases hr : RO' c with
    | none => rfl
    | some z => have := hw.new c z hr h1; omega
  refine ⟨⟨hw.os.trans h.os, hw.tape.trans h.tape, hw.output.trans h.output, Nat.le_trans h.size hw.size, fun k hk hW => ?_, fun k x hx => ?_, fun k k' x x' c m1 m2 h1 h2 p1 p2 => ?_, hw.ro, fun c arr hc => ?_, fun c arr hc => hw.more c arr (h.fix c arr hc), (h.mo.mono (w' := w') (ρ' := ρ) (H' := H) hw.more (fun b2 o2 e hc => (hw.kept b2 (lt_get e) fun e2 => by
      subst e2
      obtain ⟨f, _, e3⟩ := g4
      rw [e3] at e; cases e; cases hc).trans e) fun _ _ => ⟨rfl, rfl⟩).upd rfl (fun _ _ => rfl) (fun _ _ h _ => h)⟩, E⟩
  · have hkb : k ≠ b := by
      rintro rfl
      rcases g3 with g3 | g3
      · omega
      · exact hW g3
    rw [hw.kept k (Nat.lt_of_lt_of_le hk h.size) hkb]
    exact h.kept k hk hW
  · by_cases hk : k = o
    · subst hk
      have e : x = ob' := by simp [upd] at hx; exact hx.symm
      subst e
      obtain ⟨arr, q1, q2, q3, q4, q5⟩ := hw.block
      have q4' : CR ρ RO' (upd H k (.live x)) cs (arr.toList.take cs.length) := q4.closed _ _
      obtain ⟨r1, r2, r3⟩ := newOb_rel hnew q4' q5
      have r3' := ObR.first r3 (by rw [r2]; simp; omega) (by omega)
      exact .inr ⟨b, m, arr, g1, none' b g2 hb, g3, by rw [r1]; exact q1, q2, by have := r3'.1; omega, r3'.2.1, r3'.2.2.1, r3'.2.2.2⟩
    · have hx' := liveOf k x hx hk
      rcases h.obj k x hx' with hg | ⟨c, m1, arr, p1, p2, p3, p4, p5, p6, p7, p8, p9⟩
      · exact .inl hg
      · have hlt : c < w.heap.size := p4.lt
        have hcb : c ≠ b := fun e => by subst e; exact hk (h.inj k o x ob c m1 m hx' hl p1 g1)
        exact .inr ⟨c, m1, arr, p1, none' c p2 hlt, p3, p4.at (hw.kept c hlt hcb), p5, p6, p7, fun i k' a' v hi e1 e2 => (p8 i k' a' v hi e1 e2).ext hw.more _ E, p9⟩
  · have l1 : ∃ y, H k = .live y := by
      by_cases hk : k = o
      · subst hk; exact ⟨ob, hl⟩
      · exact ⟨x, liveOf k x h1 hk⟩
    have l2 : ∃ y, H k' = .live y := by
      by_cases hk : k' = o
      · subst hk; exact ⟨ob, hl⟩
      · exact ⟨x', liveOf k' x' h2 hk⟩
    obtain ⟨y, l1⟩ := l1
    obtain ⟨y', l2⟩ := l2
    exact h.inj k k' y y' c m1 m2 l1 l2 p1 p2
  · cases hr : RO c with
    | none => exact .inr (.inl (Nat.le_trans h.size (hw.new c arr hc hr)))
    | some z =>
      have := hw.more c z hr
      rw [hc] at this
      cases this
      exact h.old c arr hr

theorem openE_spec {S : Summ} {caps : List AV} {l : List AV} {q : Nat} {x : S.A} (h : openE s S caps l = some (q, x)) : ∃ rest ob, l = .ptr q 0 0 :: rest ∧ caps = [] ∧ idsL rest = [] ∧ hp s.H q = .live ob ∧ ob.ty = S.ty ∧ (flatO ob).length = ob.n * ob.sz ∧ S.dec (.agg (cloL (flatO ob)) :: cloL rest) = some x := by
  unfold openE at h
  split at h
  · rename_i o rest
    split at h
    · split at h
      · rename_i hi
        split at h
        · rename_i ob hl
          split at h
          · rename_i hc
            rw [Bool.and_eq_true] at hc
            split at h
            · rename_i a ha
              cases h
              exact ⟨rest, ob, rfl, rfl, hi, hl, Nat.eq_of_beq_eq_true hc.1, Nat.eq_of_beq_eq_true hc.2, ha⟩
            · cases h
          · cases h
        · cases h
      · cases h
    · cases h
  · cases h
theorem openH_spec {S : Summ} {q : Nat} {r : S.R} {H' : List Ent} (h : openH P s S q r = some H') : ∃ ob ob', hp s.H q = .live ob ∧ newOb P ob.ty (S.new r) = some ob' ∧ ob'.n = ob.n ∧ ob'.sz = ob.sz ∧ H' = s.H.set q (.live ob') := by
  unfold openH at h
  split at h
  · rename_i ob hl
    split at h
    · rename_i ob' hn
      split at h
      · rename_i hc
        cases h
        rw [Bool.and_eq_true] at hc
        exact ⟨ob, ob', hl, hn, Nat.eq_of_beq_eq_true hc.1, Nat.eq_of_beq_eq_true hc.2, rfl⟩
      · cases h
    · cases h
  · cases h
theorem flatO_cr {H : Hp} {ob : Ob} {arr : Array Value} (h : ObR ρ RO H ob arr) (hl : (flatO ob).length = ob.n * ob.sz) : CR ρ RO H (flatO ob) (arr.toList.take (ob.n * ob.sz)) := by
  refine ⟨by rw [hl]; simp; have := h.1; omega, fun k c v h1 h2 => ?_⟩
  rw [List.getElem?_take] at h2
  split at h2
  · rename_i hk
    unfold flatO at h1 hl
    split at h1
    · obtain ⟨f1, f2⟩ := flat_get ob.n h.2.1
      obtain ⟨k1, k2⟩ := f2 k c h1
      refine h.2.2.1 (k / ob.sz) (k % ob.sz) c v k1 k2 ?_
      rw [Nat.div_add_mod' k ob.sz]
      simpa using h2
    · rename_i hr
      rw [hr] at hl
      simp only at hl
      have h0 : 0 < ob.n := by
        rcases Nat.eq_zero_or_pos ob.n with e | e
        · rw [e, Nat.zero_mul] at hk; omega
        · exact e
      exact h.2.2.1 0 k c v h0 h1 (by simpa using h2)
  · cases h2
theorem open_leads {o : Oper} {g : FuncId} {caps : List AV} {args : List Operand} {S : Summ} {q : Nat} {x : S.A} {r : S.R} {H' : List Ent} (hc : calleeOf s o = some (g, caps, args)) (hOk : S.Ok P g) (hop : S.op = true) (hd : openE s S caps (args.map s.op) = some (q, x)) (hr : S.f x = some r)
    (hH : openH P s S q r = some H') (h : SS w0 W F ρ RO s a w) : Leads P o w0 W F ρ RO s a w (s.put o.dst (S.enc r) H') := by
  obtain ⟨f, as, ts, ho, hf, rfl⟩ := calleeOf_spec hc
  obtain ⟨rest, ob, e1, rfl, hids, hl, hty, hlen, hdec⟩ := openE_spec hd
  obtain ⟨ob0, ob', hl0, hnew, hn, hsz, rfl⟩ := openH_spec hH
  rw [hl] at hl0
  cases hl0
  refine ⟨by simp [St.put], fun K Q hK => ?_⟩
  have hvf := op_sound h.tr f
  rw [hf] at hvf
  obtain ⟨vs, hce, hcr⟩ := hvf.fnCR
  have hvs : vs = #[] := by
    have := hcr.1
    simp at this
    exact Array.eq_empty_of_size_eq_zero this.symm
  subst hvs
  have hargs := mem_cr (s := s) h.tr as.toList
  rw [e1] at hargs
  -- the address, the rest
  obtain ⟨p, cr, hpr⟩ : ∃ p cr, as.toList.map a.eval = p :: cr := by
    cases hq : as.toList.map a.eval with
    | nil => rw [hq] at hargs; have := hargs.1; simp at this
    | cons p cr => exact ⟨p, cr, rfl⟩
  rw [hpr] at hargs
  have hv0 := hargs.2 0 _ p rfl rfl
  have hrest : CR ρ RO (hp s.H) rest cr := ⟨by have := hargs.1; simpa using this, fun k c v e1 e2 => hargs.2 (k + 1) c v e1 e2⟩
  cases hv0 with
  | ptr _ _ _ _ b off h0 hq =>
    obtain ⟨q1, q2, m, q3⟩ := hq ob hl
    have q2' : off = 0 := by rw [q2, Nat.zero_mul]
    subst q2'
    rcases h.sr.obj q ob hl with ⟨g1, _⟩ | ⟨b', m', arr, g1, g2, g3, g4, g5, g6, g7, g8, g9⟩
    · rw [g1] at q3; cases q3
    have eb : b' = b ∧ m' = m := by rw [g1] at q3; cases q3; exact ⟨rfl, rfl⟩
    obtain ⟨rfl, rfl⟩ := eb
    have hR : ObR ρ RO (hp s.H) ob arr := ⟨by rw [g5]; exact g6, g7, g8, g9⟩
    have hflat := flatO_cr hR hlen
    have hcl : (cloL (flatO ob)).length = ob.n * ob.sz := by rw [← hlen]; have := hflat.clo.1; have := hflat.1; omega
    have hOk2 := hOk.2.1
    rw [hop] at hOk2
    have hcall := hOk2 (cloL (flatO ob)) (cloL rest) x r hdec hr RO w b' arr cr.toArray h.sr.ro g2 (by rw [← hty]; exact g4) (by rw [hcl]; exact hR.1)
      (by rw [hcl]; exact (hflat.clo).closed _ _) (fun v hv => by
        rw [hcl] at hv
        obtain ⟨j, hj⟩ := List.mem_iff_getElem?.1 hv
        rw [List.getElem?_take] at hj
        split at hj
        · exact g9 j v (by assumption) (by simpa using hj)
        · cases hj) (by simpa using (hrest.clo).closed (fun _ => none) noHp)
    have hargs' : (as.map a.eval) ++ #[] = #[Value.pointer (some ⟨b', 0, none⟩)] ++ cr.toArray := by
      apply Array.ext'
      simp [hpr]
    have hrun : (execOp a.eval o).run P w = .ok (.enter g (#[Value.pointer (some ⟨b', 0, none⟩)] ++ cr.toArray)) w := by
      unfold execOp
      simp only [ho, resolve, Sem.run_bind]
      rw [hce]
      simp only [Deferred.ofValue, Sem.run_pure, Result.andThen_ok, invoke]
      rw [Array.empty_append, hargs']
      exact run_callFunc hOk.1 _ w
    unfold Oper.wp
    rw [hrun, Oper.upon_enter]
    refine hcall.mono fun e w' ⟨cv, RO', he, hv, hnl, hopn⟩ => ?_
    subst he
    rw [← hty, g5] at hopn
    obtain ⟨b1, b2⟩ := h.sr.opened hl g1 hopn hnew hn hsz
    have hol := live_lt hl
    have e2 : hp (s.H.set q (.live ob')) = upd (hp s.H) q (.live ob') := hp_set hol _
    have b1' : SR w0 W F ρ RO' (hp (s.H.set q (.live ob'))) w' := by rw [e2]; exact b1
    have b2' : Ext ρ RO (hp s.H) ρ RO' (hp (s.H.set q (.live ob'))) := by rw [e2]; exact b2
    exact hK ρ RO' cv w' ⟨b1', TR.put (s := ⟨s.tmps, s.H.set q (.live ob')⟩) (h.tr.ext b2') o.dst (hv.closed ρ _)⟩ b2' hopn.size

theorem takeE_spec {T : Tk} {caps : List AV} {l : List Operand} {s2 : St} {x : T.A} (h : takeE s T caps l = some (s2, x)) : ∃ y rest q cap ob, l = y :: rest ∧ caps = [] ∧ (s.frzL (idsL (rest.map s.op))).op y = .slc q 0 none cap ∧ hp (s.frzL (idsL (rest.map s.op))).H q = .live ob ∧ ob.ty = T.ty ∧ ob.row = true ∧
    T.dec (.lst ob.sz ob.n none (fun i => cloL (ob.get i)) :: cloL (rest.map (s.frzL (idsL (rest.map s.op))).op)) = some x ∧ s2 = ⟨(s.frzL (idsL (rest.map s.op))).tmps, (s.frzL (idsL (rest.map s.op))).H.set q .dead⟩ := by
  unfold takeE at h
  split at h
  · rename_i y rest
    split at h
    · split at h
      · rename_i q cap hy
        split at h
        · rename_i ob hl
          split at h
          · rename_i hc
            rw [Bool.and_eq_true] at hc
            split at h
            · rename_i a ha
              cases h
              exact ⟨y, rest, q, cap, ob, rfl, rfl, hy, hl, Nat.eq_of_beq_eq_true hc.1, hc.2, ha, rfl⟩
            · cases h
          · cases h
        · cases h
      · cases h
    · cases h
  · cases h
theorem hp_append1 (H : List Ent) (e : Ent) : hp (H ++ [e]) = upd (hp H) H.length e := hp_snoc H e
theorem take_leads {o : Oper} {g : FuncId} {caps : List AV} {args : List Operand} {S : Summ} {T : Tk} {x : T.A} {r : T.R} {s2 : St} (hc : calleeOf s o = some (g, caps, args)) (hOk : S.Ok P g) (hT : S.tk = some T) (hd : takeE s T caps args = some (s2, x)) (hr : T.f x = some r) (h : SS w0 W F ρ RO s a w) :
    Leads P o w0 W F ρ RO s a w (s2.put o.dst (ren (toPos s2.H.length) (T.enc r)) (s2.H ++ [.live (T.ob r)])) := by
  obtain ⟨y, rest, q, cap, ob, rfl, rfl, hy, hl, hty, hrow, hdec, rfl⟩ := takeE_spec hd
  obtain ⟨f, as, ts, ho, hf, hargs0⟩ := calleeOf_spec hc
  obtain ⟨R1, a1, a2, a3, a4⟩ := frzL_sound (idsL (rest.map s.op)) h.sr h.tr
  generalize s.frzL (idsL (rest.map s.op)) = s1 at *
  have hql := live_lt hl
  refine ⟨by simp [St.put]; omega, fun K Q hK => ?_⟩
  have hvf := op_sound h.tr f
  rw [hf] at hvf
  obtain ⟨vs, hce, hcr⟩ := hvf.fnCR
  have hvs : vs = #[] := by
    have := hcr.1
    simp at this
    exact Array.eq_empty_of_size_eq_zero this.symm
  subst hvs
  have hargs := mem_cr (s := s1) a2 as.toList
  rw [hargs0] at hargs
  have has : as.toList.map a.eval = a.eval y :: rest.map a.eval := by rw [hargs0]; rfl
  have hv0 := hargs.2 0 _ (a.eval y) rfl rfl
  have hv0' : VR ρ R1 (hp s1.H) (.slc q 0 none cap) (a.eval y) := by rw [← hy]; exact hv0
  have hrest : CR ρ R1 (hp s1.H) (rest.map s1.op) (rest.map a.eval) := ⟨by simp, fun k c v e1 e2 => hargs.2 (k + 1) c v (by simpa using e1) (by simpa using e2)⟩
  have hOk2 := hOk.2.2.2.1 T hT
  have one : ∀ x, hp [Ent.live ⟨true, T.ty, ob.sz, ob.n, fun i => cloL (ob.get i), none⟩] 0 = .live x → x = ⟨true, T.ty, ob.sz, ob.n, fun i => cloL (ob.get i), none⟩ := fun x hx => by simp [hp] at hx; exact hx.symm
  have hcall := hOk2 ob.sz ob.n none (fun i => cloL (ob.get i)) (cloL (rest.map s1.op)) x r hdec hr R1 w (ρ q) (a.eval y) (rest.map a.eval).toArray a1.ro ?_ ?_ ?_
  rotate_left
  · rcases a1.obj q ob hl with ⟨g1, g2⟩ | ⟨b, m, arr, g1, g2, g3, g4, g5, g6, g7, g8, g9⟩
    · exact .inl ⟨g1, g2⟩
    · subst g5
      refine .inr ⟨b, arr, g1, g2, by rw [← hty]; exact g4, g6, fun i hi => ?_, fun i k c v hi e1 e2 => ?_, g9⟩
      · show (cloL (ob.get i)).length = ob.sz
        rw [cloL_length]; exact g7 i hi
      · have e1' : (cloL (ob.get i))[k]? = some c := e1
        rw [cloL_get] at e1'
        cases hq : (ob.get i)[k]? with
        | none => simp [hq] at e1'
        | some d => simp [hq] at e1'; subst e1'; exact ((g8 i k d v hi hq e2).clo).closed _ _
  · generalize a.eval y = vy at hv0'
    cases hv0' with
    | slc _ _ _ n _ _ b off c g0 gn gk gc hq =>
      refine .slc _ 0 0 n none none b off c (by simp [hp]) gn (fun y hy => by cases hy) (fun y hy => by cases hy) fun x hx => ?_
      obtain rfl := one x hx
      obtain ⟨q1, q2, q3, m, q4, q5⟩ := hq ob hl
      exact ⟨q1, q2, q3, m, q4, q5⟩
    | slc0 _ _ _ _ a0 g0 gk gc hq =>
      refine .slc0 _ 0 none none a0 (by simp [hp]) (fun y hy => by cases hy) (fun y hy => by cases hy) fun x hx => ?_
      obtain rfl := one x hx
      obtain ⟨q1, q2⟩ := hq ob hl
      exact ⟨q1, q2⟩
  · simpa using (hrest.clo).closed (fun _ => none) noHp
  have hargs' : (as.map a.eval) ++ #[] = #[a.eval y] ++ (rest.map a.eval).toArray := by
    apply Array.ext'
    simp [has]
  have hrun : (execOp a.eval o).run P w = .ok (.enter g (#[a.eval y] ++ (rest.map a.eval).toArray)) w := by
    unfold execOp
    simp only [ho, resolve, Sem.run_bind]
    rw [hce]
    simp only [Deferred.ofValue, Sem.run_pure, Result.andThen_ok, invoke]
    rw [Array.empty_append, hargs']
    exact run_callFunc hOk.1 _ w
  unfold Oper.wp
  rw [hrun, Oper.upon_enter]
  refine hcall.mono fun e w' ⟨cv, RO', pl', he, hv, hpl', hM⟩ => ?_
  subst he
  -- without the list
  have D1 : SR w0 W F ρ R1 (hp (s1.H.set q .dead)) w := by rw [hp_set hql]; exact sr_dead a1
  have E1 : Ext ρ R1 (hp s1.H) ρ R1 (hp (s1.H.set q .dead)) := by rw [hp_set hql]; exact .kill
  have hdead : ∀ o x, hp (s1.H.set q .dead) o = .live x → o ≠ q ∧ hp s1.H o = .live x := fun o x hx => by
    rw [hp_set hql] at hx
    simp only [upd] at hx
    split at hx
    · cases hx
    · rename_i hne; exact ⟨hne, hx⟩
  obtain ⟨D2, E2⟩ := D1.moved hM fun b m e => by
    rcases a1.obj q ob hl with ⟨g1, g2⟩ | ⟨b', m', arr, g1, g2, g3, g4, _⟩
    · rw [g1] at e; cases e
    · have eb : b' = b := by rw [g1] at e; cases e; rfl
      subst eb
      exact ⟨g3, fun o x m2 hx hp2 => by
        obtain ⟨h1, h2⟩ := hdead o x hx
        exact h1 (a1.inj o q x ob b' m2 m' h2 hl hp2 g1), arr, _, g4⟩
  have hfree : hp (s1.H.set q .dead) (s1.H.set q .dead).length = .free := hp_length _
  have hfin : SR w0 W F (updP ρ (s1.H.set q .dead).length pl') RO' (upd (hp (s1.H.set q .dead)) (s1.H.set q .dead).length (.live (T.ob r))) w' := by
    rcases hpl' with ⟨rfl, h0⟩ | ⟨b, arr, rfl, q1, q2, q3, q4⟩
    · exact D2.ghost hfree h0
    · refine D2.adopt hfree q1 (fun o' x' m hx hp' => ?_) ?_ q3 q4
      · obtain ⟨h1, h2⟩ := hdead o' x' hx
        rcases q2 with e | ⟨m2, e⟩
        · rcases a1.obj o' x' h2 with ⟨z, _⟩ | ⟨b', m', arr', z1, z2, z3, z4, _⟩
          · rw [z] at hp'; cases hp'
          · rw [z1] at hp'; cases hp'
            exact absurd z4.lt (by omega)
        · exact h1 (a1.inj o' q x' ob b m m2 h2 hl hp' e)
      · rcases q2 with e | ⟨m2, e⟩
        · exact .inl (Nat.le_trans h.sr.size e)
        · rcases a1.obj q ob hl with ⟨g1, g2⟩ | ⟨b', m', arr', g1, g2, g3, _⟩
          · rw [g1] at e; cases e
          · rw [g1] at e; cases e; exact g3
  have E3 : Ext ρ RO' (hp (s1.H.set q .dead)) (updP ρ (s1.H.set q .dead).length pl') RO' (upd (hp (s1.H.set q .dead)) (s1.H.set q .dead).length (.live (T.ob r))) := Ext.new hfree _ _
  have hvr : VR (updP ρ (s1.H.set q .dead).length pl') RO' (upd (hp (s1.H.set q .dead)) (s1.H.set q .dead).length (.live (T.ob r))) (ren (toPos (s1.H.set q .dead).length) (T.enc r)) cv := by
    have tp : ∀ {o k : Nat}, toPos (s1.H.set q .dead).length o = some k → o = 0 ∧ k = (s1.H.set q .dead).length := fun {o k} e => by
      unfold toPos at e
      split at e
      · cases e; exact ⟨rfl, rfl⟩
      · cases e
    refine hv.renW (fun {o k ob'} e hl => ?_) (fun {o k} e _ => ?_) (fun o k e => ?_) fun {o k} e h3 => ?_
    · obtain ⟨rfl, rfl⟩ := tp e
      have : T.ob r = ob' := by simpa [upd] using hl
      subst this
      exact ⟨T.ob r, rfl, rfl, rfl⟩
    · obtain ⟨rfl, rfl⟩ := tp e
      simp [upd]
    · obtain ⟨rfl, rfl⟩ := tp e
      simp [updP]
    · obtain ⟨rfl, rfl⟩ := tp e
      simp [upd, Ent.kind] at h3
  have eH := hp_append1 (s1.H.set q .dead) (.live (T.ob r))
  refine hK _ RO' cv w' ⟨by show SR _ _ _ _ _ (hp (_ ++ [_])) _; rw [eH]; exact hfin, ?_⟩ ?_ hM.size
  · refine TR.put (s := ⟨s1.tmps, s1.H.set q .dead ++ [.live (T.ob r)]⟩) ?_ o.dst (by show VR _ _ (hp (_ ++ [_])) _ _; rw [eH]; exact hvr)
    show TR _ _ (hp (_ ++ [_])) _ _
    rw [eH]
    exact ((a2.ext E1).ext E2).ext E3
  · show Ext _ _ _ _ _ (hp (_ ++ [_]))
    rw [eH]
    exact ((a3.trans E1).trans E2).trans E3

section
variable {Γ : Ctx} {R : Type}
theorem takeOf_spec {o : Oper} {T : Tk} {s2 : St} {x : T.A} (h : takeOf Γ s o = some ⟨T, s2, x⟩) : ∃ g caps args S, calleeOf s o = some (g, caps, args) ∧ Γ.sums g = some S ∧ S.tk = some T ∧ takeE s T caps args = some (s2, x) := by
  unfold takeOf at h
  split at h
  · rename_i g caps args hc
    split at h
    · rename_i S hS
      split at h
      · rename_i T' hT
        split at h
        · rename_i p hp
          cases h
          exact ⟨g, caps, args, S, hc, hS, hT, hp⟩
        · cases h
      · cases h
    · cases h
  · cases h
theorem evO_cases {o : Oper} {pos : Nat} {K : St → Option R} {r : R} (h : evO Γ o pos s K = some r) :
    (∃ g caps args S x y s', calleeOf s o = some (g, caps, args) ∧ Γ.sums g = some S ∧ S.op = false ∧ S.own = false ∧ S.dec (cloL (args.map (s.frzL (idsL (args.map s.op ++ caps))).op ++ caps)) = some x ∧ S.f x = some y ∧
      (s' = s.frzL (idsL (args.map s.op ++ caps)) ∨ (s' = s ∧ plainA (S.enc y) = true)) ∧ K (s'.put o.dst (S.enc y) s'.H) = some r) ∨
    (∃ g caps args S x y, calleeOf s o = some (g, caps, args) ∧ Γ.sums g = some S ∧ S.op = false ∧ S.own = true ∧ S.dec (cloL (args.map (s.frzL (idsL (args.map s.op ++ caps))).op ++ caps)) = some x ∧ S.f x = some y ∧
      K ((s.frzL (idsL (args.map s.op ++ caps))).put o.dst (ren (toPos pos) (S.enc y)) (fresh (s.frzL (idsL (args.map s.op ++ caps))) pos (S.ob y))) = some r) ∨
    (∃ g caps args S q x y H', calleeOf s o = some (g, caps, args) ∧ Γ.sums g = some S ∧ S.op = true ∧ openE s S caps (args.map s.op) = some (q, x) ∧ S.f x = some y ∧ openH Γ.P s S q y = some H' ∧ K (s.put o.dst (S.enc y) H') = some r) ∨
    (calleeOf s o = none ∧ ∃ e, opf Γ.P s pos o = some e ∧ e.ok = true ∧ K (s.put o.dst e.v e.H) = some r) := by
  unfold evO at h
  split at h
  · rename_i g caps args hc
    simp only at h
    split at h
    · rename_i S hS
      split at h
      · rename_i hop
        split at h
        · rename_i x hx
          rw [Option.bind_eq_some_iff] at h
          obtain ⟨y, h1, h2⟩ := h
          split at h2
          · rename_i how
            exact .inr (.inl ⟨g, caps, args, S, x, y, hc, hS, hop, how, hx, h1, h2⟩)
          · rename_i how
            split at h2
            · rename_i hpl
              exact .inl ⟨g, caps, args, S, x, y, s, hc, hS, hop, how, hx, h1, .inr ⟨rfl, hpl⟩, h2⟩
            · exact .inl ⟨g, caps, args, S, x, y, _, hc, hS, hop, how, hx, h1, .inl rfl, h2⟩
        · cases h
      · rename_i hop
        split at h
        · rename_i q x hx
          rw [Option.bind_eq_some_iff] at h
          obtain ⟨y, h1, h2⟩ := h
          split at h2
          · rename_i H' hH
            exact .inr (.inr (.inl ⟨g, caps, args, S, q, x, y, H', hc, hS, hop, hx, h1, hH, h2⟩))
          · cases h2
        · cases h
    · cases h
  · rename_i hc
    split at h
    · rename_i e he
      split at h
      · rename_i hok; exact .inr (.inr (.inr ⟨hc, e, he, hok, h⟩))
      · cases h
    · cases h
theorem frzL_free : ∀ (ids : List Nat) {s : St} {k : Nat}, hp s.H k = .free → hp (s.frzL ids).H k = .free
  | [], s, k, h => h
  | o :: r, s, k, h => by
    refine frzL_free r ?_
    unfold St.frz
    split
    · rename_i ob hl
      rw [hp_map _ rfl, hp_set (live_lt hl)]
      have : k ≠ o := fun e => by subst e; rw [hl] at h; cases h
      simp [upd, this, h, frzEnt]
    · exact h

/-- One operation leads on. -/
theorem evO_sound (hΓ : ∀ g S, Γ.sums g = some S → S.Ok Γ.P g) {o : Oper} {pos : Nat} {K : St → Option R} {r : R} (h : evO Γ o pos s K = some r) (hs : SS w0 W F ρ RO s a w) (h1 : pos ≤ s.H.length) (h2 : hp s.H pos = .free) :
    ∃ s', K s' = some r ∧ Leads Γ.P o w0 W F ρ RO s a w s' := by
  rcases evO_cases h with ⟨g, caps, args, S, x, y, s', hc, hS, hop, how, hx, hy, hs', hk⟩ | ⟨g, caps, args, S, x, y, hc, hS, hop, how, hx, hy, hk⟩ | ⟨g, caps, args, S, q, x, y, H', hc, hS, hop, hx, hy, hH, hk⟩ | ⟨hc, e, he, hok, hk⟩
  · exact ⟨_, hk, call_leads hc (hΓ g S hS) hop how hx hy hs' hs⟩
  · exact ⟨_, hk, own_leads hc (hΓ g S hS) hop how hx hy h1 (frzL_free _ h2) hs⟩
  · exact ⟨_, hk, open_leads hc (hΓ g S hS) hop hx hy hH hs⟩
  · exact ⟨_, hk, (opf_sound he hok hs.sr hs.tr h1 h2).leads hs⟩
end
end
end Go.Proofs.Ytbcnifnmccaleaa.Fw
