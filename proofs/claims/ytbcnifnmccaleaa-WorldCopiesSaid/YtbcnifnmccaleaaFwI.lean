/- Slicing does in a world what the evaluator says; so does each operation but a call. -/
import Derived.Test.YtbcnifnmccaleaaFwH
import Derived.Lib.ConvBytes
import Derived.Laws.BytesString
namespace Go.Proofs.Ytbcnifnmccaleaa.Fw
open Go Go.RowKit
set_option linter.unusedVariables false
set_option linter.unusedSimpArgs false

section
variable {P : Program} {w0 w : World} {W : Nat → Prop} {F : RoMap} {ρ : Pm} {RO : RoMap} {s : St} {a : Act}

theorem optI_spec {x : Option Operand} {r : Option Int} (h : optI s x = some r) (hT : TR ρ RO (hp s.H) s.tmps a) :
    (r = none ∧ x = none) ∨ ∃ y k n, r = some n ∧ x = some y ∧ a.eval y = .int k n := by
  unfold optI at h
  split at h
  · cases h; exact .inl ⟨rfl, rfl⟩
  · rename_i y
    split at h
    · rename_i k n hy
      cases h
      have hv := op_sound hT y
      rw [hy] at hv
      exact .inr ⟨y, k, n, rfl, rfl, hv.val_eq⟩
    · cases h

theorem run_sliceBound {k : IntKind} {n : Int} {y : Nat} {code : BoundsCode} (h0 : 0 ≤ n) (h1 : n ≤ (y : Int)) (w : World) : (Instr.sliceBound (.int k n) y code).run P w = .ok n.toNat w := by
  simp [Instr.sliceBound, asIntOf, h0, h1]

theorem slice_sound {o : Oper} {t : TypeId} {x : Operand} {lo hi mx : Option Operand} {l h' m : Option Int} {e : Eff} (ho : o.op = .slice t x lo hi mx) (hl : optI s lo = some l) (hh : optI s hi = some h') (hm : optI s mx = some m)
    (h : sliceE P s t (s.op x) l h' m = some e) (hok : e.ok = true) (hS : SR w0 W F ρ RO (hp s.H) w) (hT : TR ρ RO (hp s.H) s.tmps a) : Good P (execOp a.eval o) w0 W F ρ RO s.H w e := by
  have hv := op_sound hT x
  have run : ∀ r, (Instr.sliceAt t (a.eval x) (lo.map a.eval) (hi.map a.eval) (mx.map a.eval)).run P w = .ok r w → (execOp a.eval o).run P w = .ok (.value r) w := by
    intro r hr
    unfold execOp
    simp only [ho]
    rw [Sem.run_bind, hr]
    rfl
  unfold sliceE at h
  split at h
  · rename_i hu
    split at h
    · rename_i b hx
      rw [hx] at hv
      have hx' := hv.val_eq
      rcases optI_spec hm hT with ⟨_, rfl⟩ | ⟨_, _, _, e1, _⟩
      · split at h
        · rename_i li
          cases h
          obtain ⟨h0, h1⟩ := and_true hok
          rcases optI_spec hl hT with ⟨e1, _⟩ | ⟨y, k, n, e1, rfl, hy⟩
          · cases e1
          cases e1
          rcases optI_spec hh hT with ⟨_, rfl⟩ | ⟨_, _, _, e1, _⟩
          · refine .sameB (run _ ?_) hS (.val _ _ rfl)
            simp [Instr.sliceAt, Instr.slice, run_underlying hu, hx', Instr.sliceBounds, hy, run_sliceBound h0 h1]
          · cases e1
        · rename_i hi'
          cases h
          obtain ⟨h0, h1⟩ := and_true hok
          rcases optI_spec hh hT with ⟨e1, _⟩ | ⟨y, k, n, e1, rfl, hy⟩
          · cases e1
          cases e1
          rcases optI_spec hl hT with ⟨_, rfl⟩ | ⟨_, _, _, e1, _⟩
          · refine .sameB (run _ ?_) hS (.val _ _ rfl)
            simp [Instr.sliceAt, Instr.slice, run_underlying hu, hx', Instr.sliceBounds, hy, run_sliceBound h0 h1]
          · cases e1
        · rename_i li hi'
          cases h
          simp only [Bool.and_eq_true, decide_eq_true_eq] at hok
          obtain ⟨⟨h0, h1⟩, h2, h3⟩ := hok
          rcases optI_spec hh hT with ⟨e1, _⟩ | ⟨y, k, n, e1, rfl, hy⟩
          · cases e1
          cases e1
          rcases optI_spec hl hT with ⟨e1, _⟩ | ⟨y2, k2, n2, e1, rfl, hy2⟩
          · cases e1
          cases e1
          refine .sameB (run _ ?_) hS (.val _ _ rfl)
          have h3' : li ≤ ((hi'.toNat : Nat) : Int) := by omega
          simp [Instr.sliceAt, Instr.slice, run_underlying hu, hx', Instr.sliceBounds, hy, hy2, run_sliceBound h0 h1, run_sliceBound h2 h3']
        · cases h
          rcases optI_spec hl hT with ⟨_, rfl⟩ | ⟨_, _, _, e1, _⟩
          · rcases optI_spec hh hT with ⟨_, rfl⟩ | ⟨_, _, _, e1, _⟩
            · refine .same (run (.string b) ?_) hS (by rw [hx]; exact .val _ _ rfl)
              have e2 : b.extract 0 b.size = b := by
                apply ByteArray.ext
                simp
              simp [Instr.sliceAt, Instr.slice, run_underlying hu, hx', Instr.sliceBounds, e2]
            · cases e1
          · cases e1
      · cases e1
    · cases h
  · rename_i el hu
    split at h
    · rename_i sz sz' n cap get hsz hx
      rw [hx] at hv
      obtain ⟨inf, i1, i2⟩ := szT_spec hsz
      split at h
      · rename_i hc
        subst hc
        generalize hcx : a.eval x = cx at hv
        split at h
        · rename_i li
          cases h
          obtain ⟨h0, h1⟩ := and_true hok
          rcases optI_spec hl hT with ⟨e1, _⟩ | ⟨y, k, q, e1, rfl, hy⟩
          · cases e1
          cases e1
          rcases optI_spec hh hT with ⟨_, rfl⟩ | ⟨_, _, _, e1, _⟩
          · rcases optI_spec hm hT with ⟨_, rfl⟩ | ⟨_, _, _, e1, _⟩
            · cases hv with
              | lst _ _ _ _ _ b off c arr hb hn hcap hs hg hone hq =>
                have hle : li.toNat ≤ n := by omega
                have hmul : li.toNat * sz + (n - li.toNat) * sz = n * sz := by rw [← Nat.add_mul]; congr 1; omega
                have hrun : (Instr.sliceAt t (a.eval x) (some (a.eval y)) none none).run P w = .ok (.slice (if c = li.toNat then some ⟨b, off, none⟩ else some ⟨b, off + li.toNat * sz, none⟩) (n - li.toNat) (c - li.toNat)) w := by
                  rw [hcx, hy]
                  simp [Instr.sliceAt, Instr.slice, run_underlying hu, Instr.sliceBounds, run_sliceBound h0 h1, sizeOf, typeInfo, i1, i2, add_none]
                refine .sameB (run _ hrun) hS ?_
                have hcap' : ∀ x, (match cap with | some c => some (c - li.toNat) | none => none) = some x → c - li.toNat = x := by
                  intro x hx
                  cases cap with
                  | none => cases hx
                  | some c' => have := hcap c' rfl; simp at hx; omega
                by_cases hcq : c = li.toNat
                · rw [if_pos hcq]
                  have : n - li.toNat = 0 := by omega
                  rw [this]
                  exact .lst _ sz 0 _ _ b off _ arr hb (by omega) hcap' (by simp; omega) (fun i hi => by omega) (fun j v hj => by simp at hj) (fun i k a v hi => by omega)
                · rw [if_neg hcq]
                  refine .lst _ sz _ _ _ b (off + li.toNat * sz) _ arr hb (by omega) hcap' (by omega) (fun i hi => hg _ (by omega)) (fun j v hj hv => ?_) (fun i k a v hi k1 k2 => ?_)
                  · rw [Nat.add_assoc] at hv
                    exact hone _ v (by omega) hv
                  · refine hq (li.toNat + i) k a v (by omega) k1 ?_
                    rw [Nat.add_mul, ← Nat.add_assoc]; exact k2
              | lst0 _ _ _ _ a0 hc0 =>
                have hq0 : li.toNat = 0 := by omega
                have hrun : (Instr.sliceAt t (a.eval x) (some (a.eval y)) none none).run P w = .ok (.slice (nl a0) 0 0) w := by
                  rw [hcx, hy]
                  cases a0 <;> simp [Instr.sliceAt, Instr.slice, run_underlying hu, Instr.sliceBounds, run_sliceBound h0 h1, sizeOf, typeInfo, i1, i2, hq0, nl]
                refine .sameB (run _ hrun) hS ?_
                rw [Nat.zero_sub]
                refine .lst0 _ sz _ _ a0 fun x hx => ?_
                cases cap with
                | none => cases hx
                | some c' => have := hc0 c' rfl; simp at hx; omega
            · cases e1
          · cases e1
        · rename_i hi'
          cases h
          obtain ⟨h0, h1⟩ := and_true hok
          rcases optI_spec hh hT with ⟨e1, _⟩ | ⟨y, k, q, e1, rfl, hy⟩
          · cases e1
          cases e1
          rcases optI_spec hl hT with ⟨_, rfl⟩ | ⟨_, _, _, e1, _⟩
          · rcases optI_spec hm hT with ⟨_, rfl⟩ | ⟨_, _, _, e1, _⟩
            · cases hv with
              | lst _ _ _ _ _ b off c arr hb hn hcap hs hg hone hq =>
                have hle : hi'.toNat ≤ n := by omega
                have hmul := Nat.mul_le_mul_right sz hle
                have h1' : hi' ≤ (c : Int) := by omega
                have hrun : (Instr.sliceAt t (a.eval x) none (some (a.eval y)) none).run P w = .ok (.slice (some ⟨b, off, none⟩) hi'.toNat c) w := by
                  rw [hcx, hy]
                  simp [Instr.sliceAt, Instr.slice, run_underlying hu, Instr.sliceBounds, run_sliceBound h0 h1', sizeOf, typeInfo, i1, i2, add_none]
                refine .sameB (run _ hrun) hS ?_
                exact .lst _ sz _ _ _ b off c arr hb (by omega) hcap (by omega) (fun i hi => hg _ (by omega)) (fun j v hj hv => hone j v (by omega) hv) (fun i k a v hi k1 k2 => hq i k a v (by omega) k1 k2)
              | lst0 _ _ _ _ a0 hc0 =>
                have hq0 : hi'.toNat = 0 := by omega
                have hrun : (Instr.sliceAt t (a.eval x) none (some (a.eval y)) none).run P w = .ok (.slice (nl a0) 0 0) w := by
                  rw [hcx, hy]
                  cases a0 <;> simp [Instr.sliceAt, Instr.slice, run_underlying hu, Instr.sliceBounds, run_sliceBound h0 h1, sizeOf, typeInfo, i1, i2, hq0, nl]
                refine .sameB (run _ hrun) hS ?_
                rw [hq0]
                exact .lst0 _ sz _ _ a0 hc0
            · cases e1
          · cases e1
        · rename_i hi' mi
          cases h
          simp only [Bool.and_eq_true, decide_eq_true_eq] at hok
          obtain ⟨⟨h0, h1⟩, h2⟩ := hok
          rcases optI_spec hh hT with ⟨e1, _⟩ | ⟨y, k, q, e1, rfl, hy⟩
          · cases e1
          cases e1
          rcases optI_spec hm hT with ⟨e1, _⟩ | ⟨y2, k2, q2, e1, rfl, hy2⟩
          · cases e1
          cases e1
          rcases optI_spec hl hT with ⟨_, rfl⟩ | ⟨_, _, _, e1, _⟩
          · have hb1 : hi' ≤ ((mi.toNat : Nat) : Int) := by omega
            have h02 : 0 ≤ mi := by omega
            cases hv with
            | lst _ _ _ _ _ b off c arr hb hn hcap hs hg hone hq =>
              have hle : hi'.toNat ≤ n := by omega
              have hmul := Nat.mul_le_mul_right sz hle
              have h1' : mi ≤ (c : Int) := by omega
              have hrun : (Instr.sliceAt t (a.eval x) none (some (a.eval y)) (some (a.eval y2))).run P w = .ok (.slice (some ⟨b, off, none⟩) hi'.toNat mi.toNat) w := by
                rw [hcx, hy, hy2]
                simp [Instr.sliceAt, Instr.slice, run_underlying hu, Instr.sliceBounds, run_sliceBound h02 h1', run_sliceBound h0 hb1, sizeOf, typeInfo, i1, i2, add_none]
              refine .sameB (run _ hrun) hS ?_
              exact .lst _ sz _ _ _ b off _ arr hb (by omega) (fun x hx => by cases hx; rfl) (by omega) (fun i hi => hg _ (by omega)) (fun j v hj hv => hone j v (by omega) hv) (fun i k a v hi k1 k2 => hq i k a v (by omega) k1 k2)
            | lst0 _ _ _ _ a0 hc0 =>
              have hq0 : hi'.toNat = 0 := by omega
              have hq2 : mi.toNat = 0 := by omega
              have hrun : (Instr.sliceAt t (a.eval x) none (some (a.eval y)) (some (a.eval y2))).run P w = .ok (.slice (nl a0) 0 0) w := by
                rw [hcx, hy, hy2]
                cases a0 <;> simp [Instr.sliceAt, Instr.slice, run_underlying hu, Instr.sliceBounds, run_sliceBound h02 h2, run_sliceBound h0 hb1, run_sliceBound h0 (show hi' ≤ ((0 : Nat) : Int) by omega), sizeOf, typeInfo, i1, i2, hq0, hq2, nl]
              refine .sameB (run _ hrun) hS ?_
              rw [hq0, hq2]
              exact .lst0 _ sz _ _ a0 (fun x hx => by cases hx; rfl)
          · cases e1
        · cases h
      · cases h
    · rename_i sz o' n cap hsz hx
      rw [hx] at hv
      obtain ⟨inf, i1, i2⟩ := szT_spec hsz
      split at h
      · rename_i ob hl2
        split at h
        · rename_i hc
          subst hc
          generalize hcx : a.eval x = cx at hv
          split at h
          · rename_i hi'
            cases h
            obtain ⟨h0, h1⟩ := and_true hok
            rcases optI_spec hh hT with ⟨e1, _⟩ | ⟨y, k, q, e1, rfl, hy⟩
            · cases e1
            cases e1
            rcases optI_spec hl hT with ⟨_, rfl⟩ | ⟨_, _, _, e1, _⟩
            · rcases optI_spec hm hT with ⟨_, rfl⟩ | ⟨_, _, _, e1, _⟩
              · cases hv with
                | slc _ _ _ n2 _ _ b off c g0 gn gk gc hq =>
                  obtain ⟨p1, p2, p3, mm, p4, p5⟩ := hq ob hl2
                  rw [slcLen_eq p2 gk] at h1
                  have h1' : hi' ≤ (c : Int) := by omega
                  have hrun : (Instr.sliceAt t (a.eval x) none (some (a.eval y)) none).run P w = .ok (.slice (some ⟨b, off, none⟩) hi'.toNat c) w := by
                    rw [hcx, hy]
                    simp [Instr.sliceAt, Instr.slice, run_underlying hu, Instr.sliceBounds, run_sliceBound h0 h1', sizeOf, typeInfo, i1, i2, add_none]
                  refine .sameB (run _ hrun) hS ?_
                  refine .slc _ o' 0 hi'.toNat _ _ b off c g0 (by omega) (fun x hx => by cases hx; rfl) gc fun ob2 hl3 => ?_
                  have : ob2 = ob := by rw [hl2] at hl3; cases hl3; rfl
                  subst this
                  exact ⟨by omega, fun z => (by cases z), p3, mm, p4, p5⟩
                | slc0 _ _ _ _ a0 g0 gk gc hq =>
                  obtain ⟨p1, p2⟩ := hq ob hl2
                  rw [slcLen_eq (n := 0) (fun _ => by omega) (fun z hz => (gk z hz).symm)] at h1
                  have hq0 : hi'.toNat = 0 := by omega
                  have hrun : (Instr.sliceAt t (a.eval x) none (some (a.eval y)) none).run P w = .ok (.slice (nl a0) 0 0) w := by
                    rw [hcx, hy]
                    cases a0 <;> simp [Instr.sliceAt, Instr.slice, run_underlying hu, Instr.sliceBounds, run_sliceBound h0 h1, sizeOf, typeInfo, i1, i2, hq0, nl]
                  refine .sameB (run _ hrun) hS ?_
                  exact .slc0 _ o' _ _ a0 g0 (fun x hx => by cases hx; exact hq0) gc hq
              · cases e1
            · cases e1
          · rename_i li
            split at h
            · cases h
              obtain ⟨h0, h1⟩ := and_true hok
              rcases optI_spec hl hT with ⟨e1, _⟩ | ⟨y, k, q, e1, rfl, hy⟩
              · cases e1
              cases e1
              rcases optI_spec hh hT with ⟨_, rfl⟩ | ⟨_, _, _, e1, _⟩
              · rcases optI_spec hm hT with ⟨_, rfl⟩ | ⟨_, _, _, e1, _⟩
                · cases hv with
                  | slc _ _ _ n2 _ _ b off c g0 gn gk gc hq =>
                    obtain ⟨p1, p2, p3, mm, p4, p5⟩ := hq ob hl2
                    have hn2 : n2 = ob.n := by have := p2 rfl; omega
                    subst hn2
                    have hcl : ¬ c = li.toNat := by omega
                    have hrun : (Instr.sliceAt t (a.eval x) (some (a.eval y)) none none).run P w = .ok (.slice (some ⟨b, off + li.toNat * ob.sz, none⟩) (ob.n - li.toNat) (c - li.toNat)) w := by
                      rw [hcx, hy]
                      have h1' : li ≤ ((ob.n : Nat) : Int) := by omega
                      simp [Instr.sliceAt, Instr.slice, run_underlying hu, Instr.sliceBounds, run_sliceBound h0 h1', sizeOf, typeInfo, i1, i2, add_none, hcl]
                    refine .sameB (run _ hrun) hS ?_
                    refine .slc _ o' li.toNat (ob.n - li.toNat) _ _ b (off + li.toNat * ob.sz) (c - li.toNat) g0 (by omega) (fun x hx => by cases hx) (fun x hx => by cases hx) fun ob2 hl3 => ?_
                    have : ob2 = ob := by rw [hl2] at hl3; cases hl3; rfl
                    subst this
                    refine ⟨by omega, fun _ => by omega, by rw [p3, Nat.zero_mul, Nat.zero_add], mm, p4, ?_⟩
                    rw [Nat.zero_add] at p5
                    rw [show li.toNat + (c - li.toNat) = c by omega]
                    exact p5
                  | slc0 _ _ _ _ a0 g0 gk gc hq =>
                    obtain ⟨p1, p2⟩ := hq ob hl2
                    rw [p1] at h1
                    omega
                · cases e1
              · cases e1
            · cases h
          · cases h
        · cases h
      · cases h
    · cases h
  · rename_i len el hu
    split at h
    · rename_i sz o' hsz hx
      rw [hx] at hv
      obtain ⟨inf, i1, i2⟩ := szT_spec hsz
      split at h
      · rename_i ob hl2
        split at h
        · rename_i hc
          obtain ⟨c1, rfl, rfl, c4⟩ := hc
          generalize hcx : a.eval x = cx at hv
          split at h
          · cases h
            rcases optI_spec hl hT with ⟨_, rfl⟩ | ⟨_, _, _, e1, _⟩
            · rcases optI_spec hh hT with ⟨_, rfl⟩ | ⟨_, _, _, e1, _⟩
              · rcases optI_spec hm hT with ⟨_, rfl⟩ | ⟨_, _, _, e1, _⟩
                · cases hv with
                  | ptr _ _ _ _ b off h0 hq =>
                    obtain ⟨q1, q2, m, q3⟩ := hq ob hl2
                    have q2' : off = 0 := by rw [q2, Nat.zero_mul]
                    subst q2'
                    rcases hS.obj o' ob hl2 with ⟨g1, _⟩ | ⟨b', m', arr, g1, g2, g3, g4, g5, g6, g7⟩
                    · rw [g1] at q3; cases q3
                    have eb : b' = b ∧ m' = m := by rw [g1] at q3; cases q3; exact ⟨rfl, rfl⟩
                    obtain ⟨rfl, rfl⟩ := eb
                    have hrun : (Instr.sliceAt t (a.eval x) none none none).run P w = .ok (.slice (some ⟨b', 0, none⟩) ob.n ob.n) w := by
                      rw [hcx]
                      simp [Instr.sliceAt, run_underlying hu, Instr.sureAddr, Instr.sliceBounds, sizeOf, typeInfo, i1, i2, add_none]
                    refine .same (run _ hrun) hS ?_
                    refine .slc _ o' 0 ob.n none none b' 0 ob.n h0 (Nat.le_refl _) (fun x hx => by cases hx) (fun x hx => by cases hx) fun ob2 hl3 => ?_
                    have : ob2 = ob := by rw [hl2] at hl3; cases hl3; rfl
                    subst this
                    exact ⟨by omega, fun _ => by omega, by simp, m', g1, by rw [Nat.zero_add]; exact g6⟩
                · cases e1
              · cases e1
            · cases e1
          · cases h
        · cases h
      · cases h
    · cases h
  · cases h

/-- An object's content says less, or other things that are true of its cells. -/
theorem SR.same {H : Hp} {o : Nat} {ob ob' : Ob} (h : SR w0 W F ρ RO H w) (hl : H o = .live ob) (hs : ob'.sz = ob.sz) (hn : ob'.n = ob.n) (ht : ob'.ty = ob.ty)
    (hob : ∀ arr, ObR ρ RO H ob arr → ObR ρ RO H ob' arr) : SR w0 W F ρ RO (upd H o (.live ob')) w := by
  rcases h.obj o ob hl with ⟨g1, g2⟩ | ⟨b, m, arr, g1, g2, g3, g4, g5, g6, g7, g8, g9⟩
  · have E : Ext ρ RO H ρ RO (upd H o (.live ob')) := Ext.put hl hs hn
    have lv : ∀ k x, upd H o (.live ob') k = .live x → ∃ y, H k = .live y := by
      intro k x hx
      by_cases hk : k = o
      · subst hk; exact ⟨ob, hl⟩
      · exact ⟨x, by simpa [upd, hk] using hx⟩
    refine ⟨h.os, h.tape, h.output, h.size, h.kept, fun k x hx => ?_, fun k k' x x' b m m' hx hx' p1 p2 => ?_, h.ro, h.old, h.fix, h.mo.upd rfl (fun _ _ => rfl) (fun _ _ h _ => h)⟩
    · by_cases hk : k = o
      · subst hk
        have : ob' = x := by simpa [upd] using hx
        subst this
        exact .inl ⟨g1, by rw [hn]; exact g2⟩
      · have hx' : H k = .live x := by simpa [upd, hk] using hx
        rcases h.obj k x hx' with hg | ⟨b, m, arr, q1, q2, q3, q4, q5, q6, q7, q8, q9⟩
        · exact .inl hg
        · exact .inr ⟨b, m, arr, q1, q2, q3, q4, q5, q6, q7, fun i kk c v hi e1 e2 => (q8 i kk c v hi e1 e2).ext E.1 _ E, q9⟩
    · obtain ⟨y, hy⟩ := lv k x hx
      obtain ⟨y', hy'⟩ := lv k' x' hx'
      exact h.inj k k' y y' b m m' hy hy' p1 p2
  · have hR : ObR ρ RO H ob arr := ⟨by rw [g5]; exact g6, g7, g8, g9⟩
    have := h.put hl g1 g4 hs hn ht g5 (hob arr hR)
    rwa [g4.self] at this

/-- The rows of a list from one on become zero. -/
theorem clear_sound {o : Oper} {x : Operand} {args : Array Operand} {ts : Array TypeId} {t : TypeId} {e : Eff} (ho : o.op = .call { callee := .builtin .clear, args, argTypes := ts }) (ha : args.toList = [x]) (ht : ts[0]? = some t) (h : clearE P s t (s.op x) = some e)
    (hS : SR w0 W F ρ RO (hp s.H) w) (hT : TR ρ RO (hp s.H) s.tmps a) : Good P (execOp a.eval o) w0 W F ρ RO s.H w e := by
  have hv := op_sound hT x
  have harr : args = #[x] := by apply Array.toList_inj.1; rw [ha]
  subst harr
  unfold clearE at h
  split at h
  · rename_i el hu
    split at h
    · rename_i q lo cap sz z hx hsz hz
      rw [hx] at hv
      split at h
      · rename_i ob hl
        split at h
        · rename_i hc
          obtain ⟨c1, c2, c3⟩ := hc
          cases h
          obtain ⟨inf, zv, hi, hzv, hcr, hzc⟩ := zeroT_spec (ρ := ρ) (RO := RO) hz
          obtain ⟨i2, hi2, hz2⟩ := szT_spec hsz
          have hii : i2 = inf := by rw [hi2] at hi; cases hi; rfl
          subst hii
          have hzs : zv.cells.size = ob.sz := by have := hcr.1; rw [c2] at this; rw [c1]; simpa using this.symm
          have hzero : (zeroValue el).run P w = .ok zv w := by simp [zeroValue, typeInfo, Sem.run_bind, hi2, hzv]
          have run : ∀ w', (Builtin.clear_ #[t] o.type #[a.eval x]).run P w = .ok (.tuple #[]) w' → (execOp a.eval o).run P w = .ok (.value (.tuple #[])) w' := by
            intro w' hr
            refine run_builtin ho ?_
            simp only [builtin]
            have : Builtin.clear_ ts o.type (#[x].map a.eval) = Builtin.clear_ #[t] o.type #[a.eval x] := by simp [Builtin.clear_, ht]
            rw [Sem.run_bind, this, hr]
            rfl
          have hol := live_lt hl
          have hH : hp (s.H.set q (.live { ob with get := fun i => if i < lo then ob.get i else z })) = upd (hp s.H) q (.live { ob with get := fun i => if i < lo then ob.get i else z }) := hp_set hol _
          have hput : ∀ {b m : Nat} {arr arr' : Array Value}, ρ q = some ⟨b, m⟩ → CellsAt w b arr ob.ty → arr'.size = m → ObR ρ RO (hp s.H) { ob with get := fun i => if i < lo then ob.get i else z } arr' →
              SR w0 W F ρ RO (hp (s.H.set q (.live { ob with get := fun i => if i < lo then ob.get i else z }))) (w.setRow b arr') := by
            intro b m arr arr' h1 h2 h3 h4
            rw [hH]
            exact hS.put (ob' := { ob with get := fun i => if i < lo then ob.get i else z }) hl h1 h2 rfl rfl rfl h3 h4
          have hE : Ext ρ RO (hp s.H) ρ RO (hp (s.H.set q (.live { ob with get := fun i => if i < lo then ob.get i else z }))) := by
            rw [hH]; exact Ext.put (ob' := { ob with get := fun i => if i < lo then ob.get i else z }) hl rfl rfl
          generalize hcx : a.eval x = cx at hv
          cases hv with
          | slc0 _ _ _ _ a0 g0 gk gc hq =>
            obtain ⟨q1, q2⟩ := hq ob hl
            have hr : (Builtin.clear_ #[t] o.type #[a.eval x]).run P w = .ok (.tuple #[]) w := by
              rw [hcx]
              cases a0 <;> simp [Builtin.clear_, run_underlying hu, nl]
            refine ⟨_, w, ρ, .inl (run _ hr), .undefA, ?_, hE, by simp, Nat.le_refl _⟩
            show SR _ _ _ _ _ (hp (s.H.set q _)) _
            rw [hH]
            exact hS.same (ob' := { ob with get := fun i => if i < 0 then ob.get i else z }) hl rfl rfl rfl (fun arr hR => ⟨hR.1, fun i hi => absurd hi (by simp [q1, q2]), fun i k c v hi => absurd hi (by simp [q1, q2]), fun j v hj => absurd hj (by simp [q1, q2])⟩)
          | slc _ _ _ n _ _ b off c g0 gn gk gc hq =>
            obtain ⟨q1, q2, q3, m, q4, q5⟩ := hq ob hl
            have hn : lo + n = ob.n := q2 rfl
            rcases hS.obj q ob hl with ⟨g1, _⟩ | ⟨b', m', arr, g1, g2, g3, g4, g5, g6, g7, g8, g9⟩
            · rw [g1] at q4; cases q4
            have eb : b' = b ∧ m' = m := by rw [g1] at q4; cases q4; exact ⟨rfl, rfl⟩
            obtain ⟨rfl, rfl⟩ := eb
            have hnm : lo * ob.sz + n * ob.sz = ob.n * ob.sz := by rw [← Nat.add_mul, hn]
            have hzl : (Builtin.zeroCells zv.cells n).size = n * ob.sz := by rw [size_zeroCells, hzs]
            -- the cells behind it
            obtain ⟨vs, hvs⟩ : ∃ vs, vs = (Builtin.zeroCells zv.cells n).toList := ⟨_, rfl⟩
            have hvl : vs.length = n * ob.sz := by rw [hvs]; simpa using hzl
            have hzone : ∀ v ∈ vs, v.oneCell' = true := by
              intro v hv
              rw [hvs] at hv
              simp only [Builtin.zeroCells, Array.mem_toList_iff, Array.mem_map, Array.mem_range] at hv
              obtain ⟨j, hj, rfl⟩ := hv
              have hpos : 0 < zv.cells.size := by
                rcases Nat.eq_zero_or_pos zv.cells.size with e | e
                · rw [e, Nat.mul_zero] at hj; omega
                · exact e
              have hjm : j % zv.cells.size < zv.cells.size := Nat.mod_lt _ hpos
              rw [getElem!_pos zv.cells _ hjm]
              exact (hcr.closed ρ (hp s.H)).cell hzc _ (by simp)
            have hst := CellsAt.storing (P := P) (o := off) vs 0 arr w g4 (by rw [q3, hvl]; omega) hzone
            simp only [Nat.add_zero] at hst
            have hr : (Builtin.clear_ #[t] o.type #[a.eval x]).run P w = .ok (.tuple #[]) (w.setRow b' (arr.toList.take off ++ vs ++ arr.toList.drop (off + vs.length)).toArray) := by
              rw [hcx]
              rcases Nat.eq_zero_or_pos n with h0 | hpos
              · subst h0
                have hv0 : vs = [] := List.eq_nil_of_length_eq_zero (by rw [hvl]; simp)
                have e0 : (arr.toList.take off ++ vs ++ arr.toList.drop (off + vs.length)).toArray = arr := by rw [hv0]; simp
                rw [e0, g4.self]
                simp [Builtin.clear_, run_underlying hu]
              · obtain ⟨n', rfl⟩ : ∃ n', n = n' + 1 := ⟨n - 1, by omega⟩
                simp [Builtin.clear_, run_underlying hu, hzero, ← hvs, hst]
            have hsz' : (arr.toList.take off ++ vs ++ arr.toList.drop (off + vs.length)).toArray.size = m' := by simp [hvl]; omega
            refine ⟨_, _, ρ, .inl (run _ hr), .undefA, hput g1 g4 hsz' ⟨by rw [hsz']; exact g6, fun i hi => ?_, fun i k c v hi e1 e2 => ?_, fun j v hj e2 => ?_⟩, hE, by simp, by simp⟩
            · show (if i < lo then ob.get i else z).length = ob.sz
              split
              · exact g7 i hi
              · rw [c2, c1]
            · have e1' : (if i < lo then ob.get i else z)[k]? = some c := e1
              have e2' : (arr.toList.take off ++ (vs ++ arr.toList.drop (off + vs.length)))[i * ob.sz + k]? = some v := by
                have : ((arr.toList.take off ++ vs ++ arr.toList.drop (off + vs.length)).toArray)[i * ob.sz + k]? = some v := e2
                rwa [List.getElem?_toArray, List.append_assoc] at this
              have hi' : i < ob.n := hi
              have hk : k < ob.sz := by
                have := (List.getElem?_eq_some_iff.1 e1').1
                split at this
                · rw [g7 i hi'] at this; exact this
                · omega
              have htl : (arr.toList.take off).length = off := by simp; omega
              by_cases hlo : i < lo
              · rw [if_pos hlo] at e1'
                have hle := row_le (s := ob.sz) hlo
                rw [List.getElem?_append_left (by omega), List.getElem?_take, if_pos (by omega)] at e2'
                exact (g8 i k c v hi' e1' (by simpa using e2'))
              · rw [if_neg hlo] at e1'
                have hle := row_le (s := ob.sz) (show i - lo < n by omega)
                have e3 : i * ob.sz = lo * ob.sz + (i - lo) * ob.sz := by rw [← Nat.add_mul]; congr 1; omega
                rw [List.getElem?_append_right (by omega), htl, List.getElem?_append_left (by omega)] at e2'
                have e4 : i * ob.sz + k - off = (i - lo) * ob.sz + k := by omega
                rw [e4, hvs] at e2'
                simp only [Builtin.zeroCells, Array.toList_map, List.getElem?_map, Array.toList_range, List.getElem?_range (show (i - lo) * ob.sz + k < n * zv.cells.size by rw [hzs]; omega), Option.map_some, Option.some.injEq] at e2'
                have e5 : ((i - lo) * ob.sz + k) % zv.cells.size = k := by rw [hzs, Nat.add_comm, Nat.add_mul_mod_self_right, Nat.mod_eq_of_lt hk]
                rw [e5, getElem!_pos zv.cells k (by omega)] at e2'
                subst e2'
                exact ((hcr.closed ρ (hp s.H)).2 k c _ e1' (by simp [show k < zv.cells.size by omega]))
            · have e2' : (arr.toList.take off ++ (vs ++ arr.toList.drop (off + vs.length)))[j]? = some v := by
                have : ((arr.toList.take off ++ vs ++ arr.toList.drop (off + vs.length)).toArray)[j]? = some v := e2
                rwa [List.getElem?_toArray, List.append_assoc] at this
              have hj' : j < ob.n * ob.sz := hj
              have htl : (arr.toList.take off).length = off := by simp; omega
              by_cases hlo : j < off
              · rw [List.getElem?_append_left (by omega), List.getElem?_take, if_pos (by omega)] at e2'
                exact g9 j v hj' (by simpa using e2')
              · rw [List.getElem?_append_right (by omega), List.getElem?_append_left (by omega)] at e2'
                exact hzone v (List.mem_of_getElem? e2')
        · cases h
      · cases h
    · cases h
  · cases h

/-- What strings are made of. -/
theorem foldl_push2 (f : Int → UInt8) : ∀ (l : List Int) (r : ByteArray), l.foldl (fun r n => r.push (f n)) r = ⟨r.data ++ (l.map f).toArray⟩
  | [], r => by simp
  | b :: l, r => by
    simp only [List.map_cons, List.foldl_cons]
    rw [foldl_push2 f l]
    simp [ByteArray.push]
theorem u8ok_spec {n : Nat} {g : Nat → List AV} (h : u8ok n g = true) : ∀ i, i < n → ∃ x : Int, g i = [.val (.int .u8 x)] := by
  unfold u8ok at h
  exact @of_decide_eq_true _ (Classical.propDecidable _) h
theorem strE_sound {o : Oper} {src dst : TypeId} {x : Operand} {e : Eff} (ho : o.op = .convert src dst x) (h : strE P s src dst (s.op x) = some e) (hok : e.ok = true) (hS : SR w0 W F ρ RO (hp s.H) w) (hT : TR ρ RO (hp s.H) s.tmps a) :
    Good P (execOp a.eval o) w0 W F ρ RO s.H w e := by
  unfold strE at h
  split at h
  · rename_i el hs hd
    split at h
    · rename_i ty sz n g lit he hr
      cases h
      have hu := u8ok_spec hok
      obtain ⟨A, c, hcv, hlen, hsrc⟩ := src_sound hr (op_sound hT x) hS
      obtain ⟨ns, hns⟩ : ∃ ns : List Int, ns = (List.range n).map fun i => match g i with | [.val (.int _ x)] => x | _ => 0 := ⟨_, rfl⟩
      have hnl : ns.length = n := by rw [hns]; simp
      have hstr : strOf n g = ⟨(ns.map fun x => UInt8.ofNat x.toNat).toArray⟩ := by
        unfold strOf
        rw [hns, List.map_map]
        congr 2
        refine List.map_congr_left fun i hi => ?_
        obtain ⟨y, hy⟩ := hu i (by simpa using hi)
        simp [u8At, hy]
      have hconv : (convert src dst (.slice A n c)).run P w = .ok (.string (strOf n g)) w := by
        rw [run_convert_bytes_string w src dst el A n c hs he hd]
        rcases Nat.eq_zero_or_pos n with h0 | hpos
        · subst h0
          have : strOf 0 g = ByteArray.empty := rfl
          rw [this]
          cases A with
          | none => rfl
          | some ad =>
            have := run_bytesToString (P := P) w ad 0 c [] (run_loadCells_list (P := P) (w := w) ad [] (fun j v hj => by simp at hj))
            rw [this]; rfl
        · obtain ⟨bb, off, rfl, news, n1, n2, n3, n4⟩ := hsrc hpos
          have hsz : sz = 1 := by
            obtain ⟨y, hy⟩ := hu 0 hpos
            have := hlen 0 hpos
            rw [hy] at this; exact this.symm
          subst hsz
          rw [Nat.mul_one] at n1
          have hnews : news = ns.map (Value.int .u8) := by
            refine List.ext_getElem? fun i => ?_
            by_cases hi : i < n
            · obtain ⟨y, hy⟩ := hu i hi
              have hv : news[i]? = some news[i] := List.getElem?_eq_getElem (by omega)
              have := n3 i 0 (.val (.int .u8 y)) news[i] hi (by rw [hy]; rfl) (by rw [Nat.mul_one, Nat.add_zero]; exact hv)
              rw [hv, this.val_eq, hns]
              simp [hi, hy]
            · rw [List.getElem?_eq_none (by omega), List.getElem?_eq_none (by simp [hnl]; omega)]
          have hl := run_loadCells_list (P := P) (w := w) ⟨bb, off, none⟩ (ns.map (Value.int .u8)) (fun j v hj => by rw [add_none]; exact n2 j v (by rw [hnews]; exact hj))
          rw [List.length_map, hnl] at hl
          rw [run_bytesToString w _ n c ns hl, foldl_push2, hstr]
          have he0 : ByteArray.empty.data = #[] := rfl
          rw [he0]; simp
      refine .sameB ?_ hS (.val _ _ rfl)
      unfold execOp
      simp only [ho]
      rw [Sem.run_bind, hcv, hconv]
      rfl
    · cases h
  · cases h
theorem convE_sound {pos : Nat} {o : Oper} {src dst : TypeId} {x : Operand} {e : Eff} (ho : o.op = .convert src dst x) (h : convE P s pos src dst (s.op x) = some e) (hok : e.ok = true) (hS : SR w0 W F ρ RO (hp s.H) w) (hT : TR ρ RO (hp s.H) s.tmps a) (h1 : pos ≤ s.H.length) (h2 : hp s.H pos = .free) :
    Good P (execOp a.eval o) w0 W F ρ RO s.H w e := by
  unfold convE at h
  split at h
  · rename_i b hx
    have hv := op_sound hT x
    rw [hx] at hv
    split at h
    · rename_i el hs hd
      split at h
      · rename_i he
        cases h
        have hrun := Lib.run_convert_string_bytes (P := P) w src dst el b hs hd he
        have hge := grownCap_ge w b.size 0 el
        have hcs : (Lib.bytesCells w el b).size = grownCap w b.size 0 el := by
          unfold Lib.bytesCells
          have : b.data.size = b.size := rfl
          simp [this]; omega
        have hget : ∀ j, j < b.size → (Lib.bytesCells w el b)[j]? = some (.int .u8 ((b.data.getD j 0).toNat : Nat)) := by
          intro j hj
          have hj' : j < b.data.size := hj
          unfold Lib.bytesCells
          rw [Array.getElem?_append_left (by simpa using hj')]
          refine (Array.getElem?_map ..).trans ?_
          rw [Array.getElem?_eq_getElem hj']
          simp [Array.getD, hj', hj]
        have hob : ObR ρ RO (hp s.H) ⟨true, el, 1, b.size, fun i => [.val (.int .u8 ((b.data.getD i 0).toNat : Nat))], none⟩ (Lib.bytesCells w el b) := by
          refine ⟨by show b.size * 1 ≤ _; omega, fun i _ => rfl, fun i k c v hi e1 e2 => ?_, fun j v hj e2 => ?_⟩
          · have hi' : i < b.size := hi
            cases k with
            | zero =>
              have e1' : AV.val (.int .u8 ((b.data.getD i 0).toNat : Nat)) = c := by simpa using e1
              have e2' : (Lib.bytesCells w el b)[i * 1 + 0]? = some v := e2
              rw [Nat.mul_one, Nat.add_zero, hget i hi'] at e2'
              cases e2'
              rw [← e1']
              exact .val _ _ rfl
            | succ k => simp at e1
          · have hj' : j < b.size := by have : j < b.size * 1 := hj; omega
            rw [hget j hj'] at e2
            cases e2; rfl
        have S := hS.newW (w' := Lib.bytesWorld w el b) h2 hob (by simp [Lib.bytesWorld, World.freeze, World.alloc, World.drew, -World.alloc_eq, -World.drew_eq]) (by simp [Lib.bytesWorld, World.freeze, World.alloc, World.drew, -World.alloc_eq, -World.drew_eq]) (by simp [Lib.bytesWorld, World.freeze, World.alloc, World.drew, -World.alloc_eq, -World.drew_eq]) (Lib.bytesWorld_size w el b) (fun k hk => Lib.bytesWorld_at_old w el b k hk)
          ⟨_, .inr (Nat.le_refl _), Lib.bytesWorld_at_new w el b⟩
        have hx' : (execOp a.eval o).run P w = .ok (.value (.slice (some ⟨w.heap.size, 0, none⟩) b.size (grownCap w b.size 0 el))) (Lib.bytesWorld w el b) := by
          unfold execOp
          simp only [ho]
          rw [Sem.run_bind, hv.val_eq, hrun]
          rfl
        refine ⟨_, Lib.bytesWorld w el b, updP ρ pos (some ⟨w.heap.size, (Lib.bytesCells w el b).size⟩), .inl hx', ?_, ?_, ?_, fresh_length h1 _, by rw [Lib.bytesWorld_size]; omega⟩
        · show VR _ _ (hp (fresh _ _ _)) _ _
          rw [hp_fresh h1]
          refine .slc _ pos 0 b.size none none w.heap.size 0 _ (by simp [upd]) hge (fun y hy => by cases hy) (fun y hy => by cases hy) fun ob' hl => ?_
          have : (⟨true, el, 1, b.size, fun i => [.val (.int .u8 ((b.data.getD i 0).toNat : Nat))], none⟩ : Ob) = ob' := by simpa [upd] using hl
          subst this
          exact ⟨by simp, fun _ => by simp, by simp, (Lib.bytesCells w el b).size, by simp [updP], by rw [hcs]; simp⟩
        · show SR _ _ _ _ _ (hp (fresh _ _ _)) _
          rw [hp_fresh h1]; exact S
        · show Ext _ _ _ _ _ (hp (fresh _ _ _))
          rw [hp_fresh h1]; exact .new h2 _ _
      · cases h
    · exact conv_sound ho h hS hT
  · exact strE_sound ho h hok hS hT
  · exact strE_sound ho h hok hS hT
  · exact conv_sound ho h hS hT

theorem pick_sound {o : Oper} {c x y : Operand} {b : Bool} (ho : o.op = .pick c x y) (hc : s.op c = .val (.bool b)) (hS : SR w0 W F ρ RO (hp s.H) w) (hT : TR ρ RO (hp s.H) s.tmps a) :
    Good P (execOp a.eval o) w0 W F ρ RO s.H w ⟨true, (match b with | true => s.op x | false => s.op y), s.H⟩ := by
  have hv := op_sound hT c
  rw [hc] at hv
  have hc' := hv.val_eq
  cases b with
  | true =>
    refine .same (cv := a.eval x) ?_ hS (op_sound hT x)
    unfold execOp
    simp [ho, hc', asBool]
  | false =>
    refine .same (cv := a.eval y) ?_ hS (op_sound hT y)
    unfold execOp
    simp [ho, hc', asBool]

/-- Each operation but a call. -/
theorem opf_sound {pos : Nat} {o : Oper} {e : Eff} (h : opf P s pos o = some e) (hok : e.ok = true) (hS : SR w0 W F ρ RO (hp s.H) w) (hT : TR ρ RO (hp s.H) s.tmps a) (h1 : pos ≤ s.H.length) (h2 : hp s.H pos = .free) :
    Good P (execOp a.eval o) w0 W F ρ RO s.H w e := by
  unfold opf at h
  split at h
  · rename_i x ho
    cases h
    exact .same (by unfold execOp; simp [ho]) hS (op_sound hT x)
  · rename_i x ho
    cases h
    exact .same (by unfold execOp; simp [ho]) hS (op_sound hT x)
  · rename_i c x y ho
    split at h
    · rename_i b hc
      cases h
      cases b with
      | true => exact pick_sound ho hc hS hT
      | false => exact pick_sound ho hc hS hT
    · cases h
  · rename_i t ho; exact alloc_sound ho h hS h1 h2
  · rename_i t v ho; exact box_sound ho h hS hT h1 h2
  · rename_i t ps ho; exact build_sound ho h hS hT
  · rename_i t n ps ho; exact buildSlice_sound ho h hS hT h1 h2
  · rename_i t x ho; exact load_sound ho h hS hT
  · rename_i t x v ho; exact store_sound ho h hS hT
  · rename_i x ho; exact nil_sound ho h hS hT
  · rename_i bop t x y yt ho; exact bin_sound ho h hok hS hT
  · rename_i uop t x ho; exact un_sound ho h hS hT
  · rename_i src dst x ho; exact convE_sound ho h hok hS hT h1 h2
  · rename_i t x f ho; exact fieldAddr_sound ho h hS hT
  · rename_i t x f ho; exact field_sound ho h hS hT
  · rename_i t x i ho; exact indexAddr_sound ho h hok hS hT
  · rename_i t x i ho; exact index_sound ho h hok hS hT
  · rename_i t x lo hi mx ho
    split at h
    · rename_i l h' m hl hh hm
      exact slice_sound ho hl hh hm h hok hS hT
    · cases h
  · rename_i x i ho; exact ext_sound ho h hS hT
  · rename_i f first caps ho
    split at h
    · rename_i h0
      cases h
      exact makeFunc_sound ho h0 hS hT
    · cases h
  · rename_i b args ts ho
    split at h
    · rename_i x ha
      split at h
      · rename_i t ht; exact len_sound ho ha ht h hS hT
      · cases h
    · rename_i x y ha; exact append_sound ho ha h hok hS hT h1 h2
    · rename_i x ha
      split at h
      · rename_i t ht; exact clear_sound ho ha ht h hS hT
      · cases h
    · exact max_sound ho h hS hT
    · exact min_sound ho h hS hT
    · cases h
  · cases h
end
end Go.Proofs.Ytbcnifnmccaleaa.Fw
