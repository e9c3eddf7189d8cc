/- Loops: the state as it stands at the head. -/
import Derived.Test.YtbcnifnmccaleaaFwR
import Derived.Deep.LoopGhost
import Derived.Scope
namespace Go.Proofs.Ytbcnifnmccaleaa.Fw
open Go Go.RowKit
set_option linter.unusedVariables false
set_option linter.unusedSimpArgs false

theorem keepL_length (live : List Nat) : ∀ (l : List AV) (t : Nat), (keepL live t l).length = l.length
  | [], t => rfl
  | a :: r, t => by simp [keepL, keepL_length live r]
theorem keepL_get (live : List Nat) : ∀ (l : List AV) (t k : Nat) c, (keepL live t l)[k]? = some c → c = .top ∨ l[k]? = some c
  | [], t, k, c, h => by simp [keepL] at h
  | a :: r, t, 0, c, h => by
    simp only [keepL, List.getElem?_cons_zero, Option.some.injEq] at h
    split at h
    · right; rw [h]; rfl
    · exact .inl h.symm
  | a :: r, t, k + 1, c, h => by
    simp only [keepL, List.getElem?_cons_succ] at h ⊢
    exact keepL_get live r (t + 1) k c h

theorem mapRow_eq {f : Nat → Option Nat} {l : List AV} (h : mapRow f l = true) : renL f l = l := by
  unfold mapRow at h
  split at h
  · rename_i o
    split at h
    · rename_i o' ho
      have := Nat.eq_of_beq_eq_true h
      subst this
      simp [renL, Fw.ren, ho]
    · cases h
  · cases h
theorem renGet_eq {f : Nat → Option Nat} {x : Ob} {i : Nat} (hi : i < x.n) : renGet f x i = renL f (x.get i) := by
  unfold renGet
  cases mapLit x.lit with
  | false => rfl
  | true =>
    cases h : mapRows f x.get x.n with
    | false => rfl
    | true => exact (mapRow_eq (mapRows_get h i hi)).symm
theorem renEnt_kind {f : Nat → Option Nat} {e : Ent} (h : (renEnt f e).kind ≠ 0) : e.kind = (renEnt f e).kind := by
  cases e with
  | free => rfl
  | dead => rfl
  | live => rfl
  | mapd => rfl
  | iter m l =>
    simp only [renEnt] at h ⊢
    split at h
    · rfl
    · exact absurd rfl h
section
variable {w0 w : World} {W : Nat → Prop} {F : RoMap} {ρ ρ' : Pm} {RO : RoMap} {s : St} {a : Act} {f : Nat → Option Nat}

theorem VR.ren {H H' : Hp} (hf : ∀ o k, f o = some k → H' k = renEnt f (H o) ∧ ρ' k = ρ o) {c : AV} {v : Value} (h : VR ρ RO H c v) : VR ρ' RO H' (ren f c) v := by
  have lv : ∀ {o k : Nat} {ob' : Ob}, f o = some k → H' k = .live ob' → ∃ ob, H o = .live ob ∧ ob'.sz = ob.sz ∧ ob'.n = ob.n := by
    intro o k ob' hk hl
    rw [(hf o k hk).1] at hl
    generalize H o = e at hl
    cases e with
    | free => cases hl
    | dead => cases hl
    | live ob => cases hl; exact ⟨ob, rfl, rfl, rfl⟩
    | mapd => cases hl
    | iter m l =>
      simp only [renEnt] at hl
      split at hl <;> cases hl
  have nf : ∀ {o k : Nat}, f o = some k → H o ≠ .free → H' k ≠ .free := by
    intro o k hk h0
    rw [(hf o k hk).1]
    generalize H o = e at h0
    cases e with
    | free => exact absurd rfl h0
    | dead => intro h; cases h
    | live ob => intro h; cases h
    | mapd => intro h; cases h
    | iter m l =>
      simp only [renEnt]
      split <;> (intro h; cases h)
  exact h.renW lv nf (fun o k hk => (hf o k hk).2) fun {o k} hk h3 => by
    rw [(hf o k hk).1] at h3 ⊢
    exact renEnt_kind h3

/-- What is asked of new numbers. -/
structure RenOk (ps : List (Nat × Nat)) (n0 : Nat) : Prop where
  src : (ps.map (·.1)).Nodup
  tgt : (ps.map (·.2)).Nodup
  ok : ∀ p ∈ ps, p.2 < n0 ∧ (p.1 = p.2 ∨ n0 ≤ p.1)

theorem RenOk.tail {p : Nat × Nat} {ps : List (Nat × Nat)} {n0 : Nat} (h : RenOk (p :: ps) n0) : RenOk ps n0 :=
  ⟨(List.nodup_cons.1 h.src).2, (List.nodup_cons.1 h.tgt).2, fun q hq => h.ok q (List.mem_cons_of_mem _ hq)⟩

theorem lookF_tgt : ∀ {ps : List (Nat × Nat)} {n0 o k : Nat}, lookF ps n0 o = some k → k = o ∨ k ∈ ps.map (·.2)
  | [], n0, o, k, h => by
    simp only [lookF] at h
    split at h
    · cases h; exact .inl rfl
    · cases h
  | (x, t) :: r, n0, o, k, h => by
    simp only [lookF] at h
    split at h
    · cases h; exact .inr (by simp)
    · split at h
      · cases h
      · rcases lookF_tgt h with h | h
        · exact .inl h
        · exact .inr (by simp only [List.map_cons]; exact List.mem_cons_of_mem _ h)

theorem lookF_back : ∀ {ps : List (Nat × Nat)} {n0 o k : Nat}, RenOk ps n0 → lookF ps n0 o = some k → lookB ps k = o ∧ k < n0
  | [], n0, o, k, hr, h => by
    simp only [lookF] at h
    split at h
    · cases h; exact ⟨rfl, by assumption⟩
    · cases h
  | (x, t) :: r, n0, o, k, hr, h => by
    simp only [lookF] at h
    simp only [lookB]
    split at h
    · rename_i he
      cases h
      rw [if_pos rfl]
      exact ⟨he, (hr.ok (x, t) (by simp)).1⟩
    · split at h
      · cases h
      · rename_i h1 h2
        obtain ⟨h3, h4⟩ := lookF_back hr.tail h
        have hne : ¬ t = k := by
          intro e
          rcases lookF_tgt h with h5 | h5
          · exact h2 (e.trans h5)
          · exact (List.nodup_cons.1 hr.tgt).1 (by rw [← e] at h5; exact h5)
        rw [if_neg hne]
        exact ⟨h3, h4⟩

theorem lookB_src : ∀ {ps : List (Nat × Nat)} {k : Nat}, lookB ps k = k ∨ (lookB ps k, k) ∈ ps
  | [], k => .inl rfl
  | (x, t) :: r, k => by
    simp only [lookB]
    split
    · rename_i h; subst h; exact .inr (by simp)
    · rcases lookB_src (ps := r) (k := k) with h | h
      · exact .inl h
      · exact .inr (List.mem_cons_of_mem _ h)

theorem lookF_lookB : ∀ {ps : List (Nat × Nat)} {n0 k : Nat}, RenOk ps n0 → k < n0 → lookF ps n0 (lookB ps k) = some k
  | [], n0, k, hr, h => by simp [lookF, lookB, h]
  | (x, t) :: r, n0, k, hr, h => by
    simp only [lookB]
    split
    · rename_i he
      subst he
      simp [lookF]
    · rename_i hne
      simp only [lookF]
      have hx : ¬ x = lookB r k := by
        intro e
        rcases lookB_src (ps := r) (k := k) with h1 | h1
        · rw [h1] at e
          subst e
          rcases (hr.ok (x, t) (by simp)).2 with h2 | h2
          · exact hne h2.symm
          · simp only at h2; omega
        · refine (List.nodup_cons.1 hr.src).1 ?_
          simp only [List.mem_map]
          exact ⟨_, h1, e.symm⟩
      have ht : ¬ t = lookB r k := by
        intro e
        rcases lookB_src (ps := r) (k := k) with h1 | h1
        · rw [h1] at e; exact hne e
        · have h2 := hr.ok _ (List.mem_cons_of_mem _ h1)
          have h3 := (hr.ok (x, t) (by simp)).1
          simp only at h2 h3
          rcases h2.2 with h4 | h4
          · exact hne (by rw [e, h4])
          · omega
      rw [if_neg hx, if_neg ht]
      exact lookF_lookB hr.tail h

theorem hp_range {n0 : Nat} {g : Nat → Ent} {k : Nat} : hp ((List.range n0).map g) k = if k < n0 then g k else .free := by
  simp only [hp, List.getD_eq_getElem?_getD, List.getElem?_map]
  by_cases h : k < n0
  · simp [List.getElem?_range h, h]
  · rw [List.getElem?_eq_none (by simpa using h)]
    simp [h]

/-- The state at the loop's head. -/
theorem canon_sound {h : LHint} {n0 : Nat} {s' : St} (hc : canon h n0 s = some s') (hs : SS w0 W F ρ RO s a w) : ∃ ρ', SS w0 W F ρ' RO s' a w := by
  unfold canon at hc
  split at hc
  · rename_i ps hps
    split at hc
    · rename_i hok
      cases hc
      obtain ⟨o1, o2, o3⟩ := hok
      have hr : RenOk ps n0 := ⟨o1, o2, fun p hp => by
        have := List.all_eq_true.1 o3 p hp
        simpa using this⟩
      have hf : ∀ o k, lookF ps n0 o = some k → hp ((List.range n0).map fun k => renEnt (lookF ps n0) (s.H.getD (lookB ps k) .free)) k = renEnt (lookF ps n0) (hp s.H o) ∧ ρ (lookB ps k) = ρ o := by
        intro o k hk
        obtain ⟨h1, h2⟩ := lookF_back hr hk
        rw [hp_range, if_pos h2, h1]
        exact ⟨rfl, rfl⟩
      have live : ∀ k x, hp ((List.range n0).map fun k => renEnt (lookF ps n0) (s.H.getD (lookB ps k) .free)) k = .live x → k < n0 ∧ ∃ y, hp s.H (lookB ps k) = .live y ∧ x = { y with get := renGet (lookF ps n0) y, lit := renLit y.lit } := by
        intro k x hx
        rw [hp_range] at hx
        split at hx
        · rename_i hk
          refine ⟨hk, ?_⟩
          have hx' : renEnt (lookF ps n0) (hp s.H (lookB ps k)) = .live x := hx
          generalize hp s.H (lookB ps k) = e at hx'
          cases e with
          | free => cases hx'
          | dead => cases hx'
          | live y => cases hx'; exact ⟨y, rfl, rfl⟩
          | mapd => cases hx'
          | iter m l =>
            simp only [renEnt] at hx'
            split at hx' <;> cases hx'
        · cases hx
      have hk0 : ∀ k, (hp ((List.range n0).map fun k => renEnt (lookF ps n0) (s.H.getD (lookB ps k) .free)) k).kind ≠ 0 → k < n0 ∧ hp ((List.range n0).map fun k => renEnt (lookF ps n0) (s.H.getD (lookB ps k) .free)) k = renEnt (lookF ps n0) (hp s.H (lookB ps k)) := by
        intro k hk
        rw [hp_range] at hk ⊢
        split at hk
        · rename_i h1; rw [if_pos h1]; exact ⟨h1, rfl⟩
        · exact absurd rfl hk
      have hmo : MapsOk (fun b => w0.heap.size ≤ b ∨ W b) (fun k => ρ (lookB ps k)) RO (hp ((List.range n0).map fun k => renEnt (lookF ps n0) (s.H.getD (lookB ps k) .free))) w := by
        refine ⟨fun k en ks get e => ?_, fun k q left e => ?_, fun k k' b m m' k1 k2 p1 p2 => ?_, fun k q left e => ?_⟩
        · obtain ⟨h1, h2⟩ := hk0 k (by rw [e]; simp [Ent.kind])
          rw [h2] at e
          generalize hy : hp s.H (lookB ps k) = y at e
          cases y with
          | free => cases e
          | dead => cases e
          | live => cases e
          | mapd en' ks' get' => cases e; exact hs.sr.mo.map _ _ _ _ hy
          | iter m l =>
            simp only [renEnt] at e
            split at e <;> cases e
        · obtain ⟨h1, h2⟩ := hk0 k (by rw [e]; simp [Ent.kind])
          rw [h2] at e
          generalize hy : hp s.H (lookB ps k) = y at e
          cases y with
          | free => cases e
          | dead => cases e
          | live => cases e
          | mapd en' ks' get' => cases e
          | iter m l =>
            simp only [renEnt] at e
            split at e
            · rename_i q' hq
              cases e
              obtain ⟨r, m1, b1, b2, b4, b3⟩ := hs.sr.mo.iter _ _ _ hy
              refine ⟨r, m1, b1, b2, b4, fun en ks get e2 => ?_⟩
              obtain ⟨g1, g2⟩ := hk0 q (by rw [e2]; simp [Ent.kind])
              rw [g2, (lookF_back hr hq).1] at e2
              generalize hz : hp s.H m = z at e2
              cases z with
              | free => cases e2
              | dead => cases e2
              | live => cases e2
              | mapd en' ks' get' =>
                cases e2
                obtain ⟨b, m', c1, c2⟩ := b3 _ _ _ hz
                exact ⟨b, m', by show ρ (lookB ps q) = _; rw [(lookF_back hr hq).1]; exact c1, c2.off⟩
              | iter m l =>
                simp only [renEnt] at e2
                split at e2 <;> cases e2
            · cases e
        · obtain ⟨h1, h2⟩ := hk0 k k1
          obtain ⟨h3, h4⟩ := hk0 k' k2
          have e := hs.sr.mo.inj _ _ b m m' (by rw [h2] at k1; rw [renEnt_kind k1]; exact k1) (by rw [h4] at k2; rw [renEnt_kind k2]; exact k2) p1 p2
          have a1 := lookF_lookB hr h1
          have a2 := lookF_lookB hr h3
          rw [e, a2] at a1
          exact (Option.some.inj a1).symm
        · obtain ⟨h1, h2⟩ := hk0 k (by rw [e]; simp [Ent.kind])
          rw [h2] at e
          generalize hy : hp s.H (lookB ps k) = y at e
          cases y with
          | free => cases e
          | dead => cases e
          | live => cases e
          | mapd => cases e
          | iter m l =>
            simp only [renEnt] at e
            split at e
            · rename_i q' hq
              cases e
              have h0 := hs.sr.mo.fr _ _ _ hy
              obtain ⟨g1, g2⟩ := lookF_back hr hq
              rw [hp_range, if_pos g2, g1]
              show renEnt _ (hp s.H m) ≠ .free
              generalize hp s.H m = z at h0
              cases z with
              | free => exact absurd rfl h0
              | dead => intro h; cases h
              | live => intro h; cases h
              | mapd => intro h; cases h
              | iter m l =>
                simp only [renEnt]
                split <;> (intro h; cases h)
            · cases e
      refine ⟨fun k => ρ (lookB ps k), ⟨hs.sr.os, hs.sr.tape, hs.sr.output, hs.sr.size, hs.sr.kept, fun k x hx => ?_, fun k k' x x' b m m' hx hx' p1 p2 => ?_, hs.sr.ro, hs.sr.old, hs.sr.fix, hmo⟩, ⟨?_, fun k c v h1 h2 => ?_⟩⟩
      · obtain ⟨hk, y, h1, rfl⟩ := live k x hx
        rcases hs.sr.obj _ y h1 with hg | ⟨b, m, arr, g1, g2, g3, g4, g5, g6, g7, g8, g9⟩
        · exact .inl hg
        · refine .inr ⟨b, m, arr, g1, g2, g3, g4, g5, g6, fun i hi => by show (renGet _ y i).length = _; rw [renGet_eq (x := y) hi, renL_length]; exact g7 i hi, fun i kk c v hi e1 e2 => ?_, g9⟩
          have e1' : (renL (lookF ps n0) (y.get i))[kk]? = some c := by rw [← renGet_eq (x := y) hi]; exact e1
          rw [renL_get] at e1'
          cases hq : (y.get i)[kk]? with
          | none => simp [hq] at e1'
          | some d => simp [hq] at e1'; subst e1'; exact (g8 i kk d v hi hq e2).ren hf
      · obtain ⟨hk, y, h1, _⟩ := live k x hx
        obtain ⟨hk', y', h1', _⟩ := live k' x' hx'
        have e := hs.sr.inj _ _ y y' b m m' h1 h1' p1 p2
        have a1 := lookF_lookB hr hk
        have a2 := lookF_lookB hr hk'
        rw [e, a2] at a1
        exact (Option.some.inj a1).symm
      · rw [renL_length, keepL_length]; exact hs.tr.1
      · rw [renL_get] at h1
        cases hq : (keepL h.live 0 s.tmps)[k]? with
        | none => simp [hq] at h1
        | some d =>
          simp [hq] at h1
          subst h1
          rcases keepL_get _ _ _ _ _ hq with rfl | hq'
          · exact .top _ _
          · exact (hs.tr.2 k d v hq' h2).ren hf
    · cases hc
  · cases hc
end
end Go.Proofs.Ytbcnifnmccaleaa.Fw
