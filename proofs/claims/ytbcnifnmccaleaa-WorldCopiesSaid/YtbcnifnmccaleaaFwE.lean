/- Each operation does in a world what the evaluator says: addresses, parts, literals, slices, numbers. -/
import Derived.Test.YtbcnifnmccaleaaFwD
namespace Go.Proofs.Ytbcnifnmccaleaa.Fw
open Go Go.RowKit
set_option linter.unusedVariables false
set_option linter.unusedSimpArgs false

section
variable {P : Program} {w0 w : World} {W : Nat → Prop} {F : RoMap} {ρ : Pm} {RO : RoMap} {s : St} {a : Act}

theorem add_none (b off n : Nat) : (⟨b, off, none⟩ : Addr).add n = ⟨b, off + n, none⟩ := by unfold Addr.add; split <;> simp_all

theorem fieldAddr_sound {o : Oper} {t : TypeId} {x : Operand} {f : Nat} {e : Eff} (ho : o.op = .fieldAddr t x f) (h : fieldAddrE P s t (s.op x) f = some e) (hS : SR w0 W F ρ RO (hp s.H) w) (hT : TR ρ RO (hp s.H) s.tmps a) :
    Good P (execOp a.eval o) w0 W F ρ RO s.H w e := by
  have hv := op_sound hT x
  unfold fieldAddrE at h
  split at h
  · rename_i fs hu
    split at h
    · rename_i g hg
      split at h
      · rename_i n hn
        split at h
        · cases h
        · rename_i hn0
          obtain ⟨i, hi, hz⟩ := szT_spec hn
          have run : ∀ b off, a.eval x = .pointer (some ⟨b, off, none⟩) → (execOp a.eval o).run P w = .ok (.value (.pointer (some ⟨b, off + g.offset, none⟩))) w := by
            intro b off hx
            unfold execOp
            simp [ho, hx, Instr.fieldAt, run_underlying hu, Instr.sureAddr, fieldPlace, sizeOf, typeInfo, hi, hz, hn0, hg, add_none]
          generalize hce : a.eval x = cv at hv
          split at h
          · rename_i o' i j hx
            rw [hx] at hv
            cases h
            cases hv with
            | ptr _ _ _ _ b off h0 hq =>
              refine .same (run b off hce) hS (.ptr _ _ _ _ _ _ h0 fun ob hl => ?_)
              obtain ⟨q1, q2, q3⟩ := hq ob hl
              exact ⟨q1, by omega, q3⟩
          · rename_i cs j hx
            rw [hx] at hv
            cases h
            cases hv with
            | rp _ _ _ b off arr hb hs hq =>
              have := run b (off + j) hce
              rw [Nat.add_assoc] at this
              exact .same this hS (.rp _ cs (j + g.offset) b off arr hb hs hq)
          · cases h
      · cases h
    · cases h
  · cases h

theorem run_part {t : TypeId} {cs : List AV} {vs : Array Value} {off : Nat} {v : AV} (h : partA P t cs off = some v) (hc : CR ρ RO (hp s.H) cs vs.toList) :
    ∃ cv, (part t vs off).run P w = .ok cv w ∧ VR ρ RO (hp s.H) v cv := by
  unfold partA at h
  split at h
  · rename_i n hag hn
    cases h
    obtain ⟨d, hd, hr⟩ := aggT_true hag
    obtain ⟨i, hi, hz⟩ := szT_spec hn
    have hagg : (isAgg t).run P w = .ok true w := by
      unfold isAgg
      rw [Sem.run_bind, run_underlying hd w]
      cases d <;> simp_all
    refine ⟨.agg (vs.extract off (off + n)), by simp [part, hagg, sizeOf, typeInfo, hi, hz], ?_⟩
    refine CR.agg ?_
    have := (hc.drop off).take n
    rw [Array.toList_extract]
    simpa [List.extract_eq_take_drop] using this
  · rename_i n hag hn
    have hlt : off < vs.size := by
      have := (List.getElem?_eq_some_iff.1 h).1
      rw [hc.1] at this
      simpa using this
    refine ⟨vs[off], by simp [part, run_isAgg_false hag, hlt], hc.2 off v _ h (by simp [hlt])⟩
  · cases h

theorem field_sound {o : Oper} {t : TypeId} {x : Operand} {f : Nat} {e : Eff} (ho : o.op = .field t x f) (h : fieldE P s t (s.op x) f = some e) (hS : SR w0 W F ρ RO (hp s.H) w) (hT : TR ρ RO (hp s.H) s.tmps a) :
    Good P (execOp a.eval o) w0 W F ρ RO s.H w e := by
  have hv := op_sound hT x
  unfold fieldE at h
  split at h
  · rename_i fs hu
    split at h
    · rename_i g hg
      split at h
      · rename_i cs hx
        rw [hx] at hv
        obtain ⟨vs, hce, hc⟩ := hv.aggCR
        split at h
        · rename_i v hp
          cases h
          obtain ⟨cv, h1, h2⟩ := run_part (w := w) hp hc
          refine .same ?_ hS h2
          unfold execOp
          simp [ho, hce, Instr.field, run_underlying hu, hg, asAgg, h1]
        · cases h
      · cases h
    · cases h
  · cases h

/-! ### Literals -/
theorem foldl_fill (vs : List Value) : ∀ (off i : Nat) (cells : Array Value), off + i + vs.length ≤ cells.size →
    ((vs.zipIdx i).foldl (fun cs (x : Value × Nat) => cs.setIfInBounds (off + x.2) x.1) cells) = (cells.toList.take (off + i) ++ vs ++ cells.toList.drop (off + i + vs.length)).toArray := by
  induction vs with
  | nil => intro off i cells h; simp
  | cons v vs ih =>
    intro off i cells h
    simp only [List.zipIdx_cons, List.foldl_cons]
    simp only [List.length_cons] at h
    rw [ih off (i + 1) _ (by simp; omega)]
    congr 1
    apply List.ext_getElem?
    intro k
    have e1 : (cells.toList.take (off + i)).length = off + i := by simp; omega
    have e2 : ((cells.setIfInBounds (off + i) v).toList.take (off + (i + 1))).length = off + (i + 1) := by simp; omega
    simp only [List.append_assoc]
    rw [List.getElem?_append, e2, List.getElem?_append (l₁ := cells.toList.take (off + i)), e1]
    by_cases h1 : k < off + i
    · rw [if_pos (by omega), if_pos h1, List.getElem?_take, List.getElem?_take, if_pos (by omega), if_pos h1]
      have : off + i ≠ k := by omega
      simp [Array.getElem?_setIfInBounds, this]
    · rw [if_neg h1]
      by_cases h2 : k = off + i
      · subst h2
        rw [if_pos (by omega), List.getElem?_take, if_pos (by omega)]
        have : off + i < cells.size := by omega
        simp [Array.getElem?_setIfInBounds, this]
      · rw [if_neg (by omega)]
        have e3 : k - (off + i) = (k - (off + (i + 1))) + 1 := by omega
        rw [e3]
        simp only [List.cons_append, List.getElem?_cons_succ]
        rw [List.getElem?_append, List.getElem?_append]
        by_cases h3 : k - (off + (i + 1)) < vs.length
        · rw [if_pos h3, if_pos h3]
        · rw [if_neg h3, if_neg h3, List.getElem?_drop, List.getElem?_drop]
          simp only [List.length_cons]
          have e4 : off + (i + 1) + vs.length + (k - (off + (i + 1)) - vs.length) = k := by omega
          have e5 : off + i + (vs.length + 1) + (k - (off + (i + 1)) - vs.length) = k := by omega
          rw [e4, e5]
          have : off + i ≠ k := by omega
          simp [Array.getElem?_setIfInBounds, this]

theorem fill_sound {pl : Nat → Option (Nat × Nat)} {H : Hp} : ∀ {parts : List (Nat × AV)} {vparts : List (Nat × Value)} {cs cs' : List AV} {vs : Array Value}, fillA pl cs parts = some cs' → CR ρ RO H cs vs.toList →
    parts.length = vparts.length → (∀ (k : Nat) p q, parts[k]? = some p → vparts[k]? = some q → p.1 = q.1 ∧ VR ρ RO H p.2 q.2) →
    ∃ vs', Instr.fill pl vs vparts = some vs' ∧ CR ρ RO H cs' vs'.toList := by
  intro parts
  induction parts with
  | nil =>
    intro vparts cs cs' vs h hc hl _
    have : vparts = [] := List.eq_nil_of_length_eq_zero hl.symm
    subst this
    simp only [fillA] at h
    cases h
    exact ⟨vs, rfl, hc⟩
  | cons p parts ih =>
    intro vparts cs cs' vs h hc hl hv
    obtain ⟨i, v⟩ := p
    cases vparts with
    | nil => simp at hl
    | cons q vparts =>
      obtain ⟨i', u⟩ := q
      obtain ⟨e1, e2⟩ := hv 0 (i, v) (i', u) rfl rfl
      simp only at e1 e2
      subst e1
      simp only [fillA] at h
      split at h
      · cases h
      · rename_i off size hpl
        split at h
        · rename_i hc2
          obtain ⟨c0, c1, c2⟩ := hc2
          have hu := e2.cells (by rintro rfl; cases c0)
          have hsz : u.cells.size = size := by have := hu.1; rw [c1] at this; simpa using this.symm
          have hlen : vs.size = cs.length := by simpa using hc.1.symm
          have hcr : CR ρ RO H (cs.take off ++ cellsA v ++ cs.drop (off + size)) (vs.toList.take off ++ u.cells.toList ++ vs.toList.drop (off + size)) := ((hc.take off).append hu).append (hc.drop _)
          obtain ⟨vs', g1, g2⟩ := ih (vparts := vparts) (cs := _) (vs := (vs.toList.take off ++ u.cells.toList ++ vs.toList.drop (off + size)).toArray) h (by simpa using hcr) (by simpa using hl) (fun k p q h1 h2 => hv (k + 1) p q (by simpa using h1) (by simpa using h2))
          refine ⟨vs', ?_, g2⟩
          simp only [Instr.fill, hpl]
          rw [if_neg (by simp [hsz]; omega)]
          rw [show (u.cells.zipIdx.foldl (fun cs (x : Value × Nat) => cs.setIfInBounds (off + x.2) x.1) vs) = (vs.toList.take off ++ u.cells.toList ++ vs.toList.drop (off + size)).toArray from by
            rw [← Array.foldl_toList, Array.toList_zipIdx]
            have := foldl_fill u.cells.toList off 0 vs (by simp; omega)
            simp only [Nat.add_zero] at this
            rw [this]; simp [hsz]]
          exact g1
        · cases h

theorem parts_vr (hT : TR ρ RO (hp s.H) s.tmps a) (ps : Array (Nat × Operand)) (k : Nat) (p : Nat × AV) (q : Nat × Value)
    (h1 : (ps.toList.map fun p => (p.1, s.op p.2))[k]? = some p) (h2 : ((ps.map fun (i, x) => (i, a.eval x)).toList)[k]? = some q) : p.1 = q.1 ∧ VR ρ RO (hp s.H) p.2 q.2 := by
  simp only [Array.toList_map, List.getElem?_map] at h1 h2
  cases hk : ps.toList[k]? with
  | none => simp [hk] at h1
  | some x =>
    obtain ⟨i, y⟩ := x
    simp [hk] at h1 h2
    subst h1; subst h2
    exact ⟨rfl, op_sound hT y⟩

theorem build_sound {o : Oper} {t : TypeId} {ps : Array (Nat × Operand)} {e : Eff} (ho : o.op = .build t ps) (h : buildE P s t (ps.toList.map fun p => (p.1, s.op p.2)) = some e) (hS : SR w0 W F ρ RO (hp s.H) w) (hT : TR ρ RO (hp s.H) s.tmps a) :
    Good P (execOp a.eval o) w0 W F ρ RO s.H w e := by
  unfold buildE at h
  split at h
  · rename_i z pl hz hpl
    split at h
    · rename_i cs hf
      cases h
      obtain ⟨i, zv, hi, hzv, hc, _⟩ := zeroT_spec (ρ := ρ) (RO := RO) hz
      obtain ⟨vs, g1, g2⟩ := fill_sound (vs := zv.cells) hf (hc.closed ρ (hp s.H)) (by simp) (parts_vr hT ps)
      have hb : P.built t (ps.map fun (i, x) => (i, a.eval x)).toList = some vs := by
        unfold placesT at hpl
        unfold Program.built
        split at hpl
        · rename_i n el hu
          split at hpl
          · rename_i ie hie
            cases hpl
            simp only [hi, hu, hzv, hie]
            exact g1
          · cases hpl
        · rename_i fs hu
          split at hpl
          · rename_i places hp
            cases hpl
            simp only [hi, hu, hzv, hp]
            exact g1
          · cases hpl
        · cases hpl
      refine .same ?_ hS g2.agg
      unfold execOp
      simp only [ho, Sem.run_bind, run_build w t _ vs hb, Result.andThen_ok, Sem.run_pure]
    · cases h
  · cases h

theorem rowsFill_sound {z : List AV} {sz : Nat} (hsz : 0 < sz) {H : Hp} : ∀ {parts : List (Nat × AV)} {vparts : List (Nat × Value)} {rs rs' : List (List AV)} {vs : Array Value}, rowsFill z sz rs parts = some rs' → vs.size = rs.length * sz →
    (∀ (i k : Nat) r c v, rs[i]? = some r → r.length = sz ∧ (r[k]? = some c → vs[i * sz + k]? = some v → VR ρ RO H c v)) → (∀ v ∈ vs, v.oneCell' = true) →
    parts.length = vparts.length → (∀ (k : Nat) p q, parts[k]? = some p → vparts[k]? = some q → p.1 = q.1 ∧ VR ρ RO H p.2 q.2) →
    ∃ vs', Instr.fill (fun i => some (i * sz, sz)) vs vparts = some vs' ∧ rs'.length = rs.length ∧ vs'.size = rs'.length * sz ∧ (∀ v ∈ vs', v.oneCell' = true) ∧ ∀ (i k : Nat) r c v, rs'[i]? = some r → r.length = sz ∧ (r[k]? = some c → vs'[i * sz + k]? = some v → VR ρ RO H c v) := by
  intro parts
  induction parts with
  | nil =>
    intro vparts rs rs' vs h hs hc ho1 hl _
    have : vparts = [] := List.eq_nil_of_length_eq_zero hl.symm
    subst this
    simp only [rowsFill] at h
    cases h
    exact ⟨vs, rfl, rfl, hs, ho1, hc⟩
  | cons p parts ih =>
    intro vparts rs rs' vs h hs hc ho1 hl hv
    obtain ⟨i, v⟩ := p
    cases vparts with
    | nil => simp at hl
    | cons q vparts =>
      obtain ⟨i', u⟩ := q
      obtain ⟨e1, e2⟩ := hv 0 (i, v) (i', u) rfl rfl
      simp only at e1 e2
      subst e1
      simp only [rowsFill] at h
      split at h
      · rename_i hc2
        obtain ⟨c1, c2, c3⟩ := hc2
        have hu := e2.cells (not_top_of_cells c3)
        have husz : u.cells.size = sz := by have := hu.1; rw [c1] at this; simpa using this.symm
        have hle := row_le (s := sz) c2
        have key : ∀ x : Nat, (vs.toList.take (i * sz) ++ u.cells.toList ++ vs.toList.drop (i * sz + sz))[x]? = if i * sz ≤ x ∧ x < i * sz + sz then u.cells[x - i * sz]? else vs[x]? := by
          intro x
          have hl1 : (vs.toList.take (i * sz)).length = i * sz := by simp; omega
          rw [List.append_assoc, List.getElem?_append, hl1]
          split
          · rename_i hx1
            rw [List.getElem?_take, if_pos hx1, if_neg (by omega)]; simp
          · rename_i hx1
            rw [List.getElem?_append]
            simp only [Array.length_toList, husz]
            split
            · rename_i hx2; rw [if_pos (by omega)]; simp
            · rename_i hx2
              rw [if_neg (by omega), List.getElem?_drop]
              have : i * sz + sz + (x - i * sz - sz) = x := by omega
              rw [this]; simp
        obtain ⟨vs', g1, g2, g3, g5, g4⟩ := ih (vparts := vparts) (rs := rs.set i (cellsA v)) (vs := (vs.toList.take (i * sz) ++ u.cells.toList ++ vs.toList.drop (i * sz + sz)).toArray) h (by simp; omega)
          (fun j k r c w hr => by
            rw [List.getElem?_set] at hr
            by_cases hj : i = j
            · subst hj
              rw [if_pos rfl, if_pos c2] at hr
              cases hr
              refine ⟨c1, fun h1 h2 => ?_⟩
              have hk : k < sz := by have := (List.getElem?_eq_some_iff.1 h1).1; omega
              rw [List.getElem?_toArray, key, if_pos (by omega)] at h2
              have : i * sz + k - i * sz = k := by omega
              rw [this] at h2
              exact hu.2 k c w h1 (by simpa using h2)
            · rw [if_neg hj] at hr
              obtain ⟨q1, q2⟩ := hc j k r c w hr
              refine ⟨q1, fun h1 h2 => ?_⟩
              have hk : k < sz := by have := (List.getElem?_eq_some_iff.1 h1).1; omega
              have hne : ¬ (i * sz ≤ j * sz + k ∧ j * sz + k < i * sz + sz) := by
                rintro ⟨z1, z2⟩
                rcases Nat.lt_or_gt_of_ne hj with hlt | hgt
                · have := row_le (s := sz) hlt; omega
                · have := row_le (s := sz) hgt; omega
              rw [List.getElem?_toArray, key, if_neg hne] at h2
              exact q2 h1 h2)
          (fun x hx => by
            simp only [List.mem_toArray, List.mem_append] at hx
            rcases hx with (hx | hx) | hx
            · exact ho1 x (by simpa using List.mem_of_mem_take hx)
            · exact hu.cell c3 x hx
            · exact ho1 x (by simpa using List.mem_of_mem_drop hx))
          (by simpa using hl) (fun k p q h1 h2 => hv (k + 1) p q (by simpa using h1) (by simpa using h2))
        refine ⟨vs', ?_, by rw [g2]; simp, g3, g5, g4⟩
        simp only [Instr.fill]
        rw [if_neg (by simp [husz]; omega)]
        rw [show (u.cells.zipIdx.foldl (fun cs (x : Value × Nat) => cs.setIfInBounds (i * sz + x.2) x.1) vs) = (vs.toList.take (i * sz) ++ u.cells.toList ++ vs.toList.drop (i * sz + sz)).toArray from by
          rw [← Array.foldl_toList, Array.toList_zipIdx]
          have := foldl_fill u.cells.toList (i * sz) 0 vs (by simp; omega)
          simp only [Nat.add_zero] at this
          rw [this]; simp [husz]]
        exact g1
      · cases h

theorem mod_row {z n s x : Nat} (hx : x < n * s) : x % s < s := by
  rcases Nat.eq_zero_or_pos s with h | h
  · subst h; simp at hx
  · exact Nat.mod_lt _ h

/-- A fresh object, of which a slice is given. -/
theorem Good.newS {x : Sem Next} {pos : Nat} {ob : Ob} {arr : Array Value} {c : Nat} {cap : Option Nat} (hS : SR w0 W F ρ RO (hp s.H) w) (h1 : pos ≤ s.H.length) (h2 : hp s.H pos = .free) (hob : ObR ρ RO (hp s.H) ob arr) (hc : ob.n ≤ c) (hcs : c * ob.sz ≤ arr.size) (hcap : ∀ y, cap = some y → c = y)
    (hx : x.run P w = .ok (.value (.slice (some ⟨w.heap.size, 0, none⟩) ob.n c)) (w.alloc (.cells arr ob.ty))) : Good P x w0 W F ρ RO s.H w ⟨true, .slc pos 0 none cap, fresh s pos ob⟩ := by
  refine ⟨_, _, updP ρ pos (some ⟨w.heap.size, arr.size⟩), .inl hx, ?_, ?_, ?_, fresh_length h1 ob, by simp⟩
  · show VR _ _ (hp (fresh s pos ob)) _ _
    rw [hp_fresh h1]
    refine .slc _ pos 0 ob.n none cap w.heap.size 0 c (by simp [upd]) hc (fun y hy => by cases hy) hcap fun ob' hl => ?_
    have : ob = ob' := by simpa [upd] using hl
    subst this
    exact ⟨by omega, fun _ => by omega, by simp, arr.size, by simp [updP], by simpa using hcs⟩
  · show SR _ _ _ _ _ (hp (fresh s pos ob)) _
    rw [hp_fresh h1]; exact hS.new h2 hob
  · show Ext _ _ _ _ _ (hp (fresh s pos ob))
    rw [hp_fresh h1]; exact .new h2 _ _

theorem buildSlice_sound {pos : Nat} {o : Oper} {t : TypeId} {n : Nat} {ps : Array (Nat × Operand)} {e : Eff} (ho : o.op = .buildSlice t n ps) (h : buildSliceE P s pos t n (ps.toList.map fun p => (p.1, s.op p.2)) = some e) (hS : SR w0 W F ρ RO (hp s.H) w) (hT : TR ρ RO (hp s.H) s.tmps a)
    (h1 : pos ≤ s.H.length) (h2 : hp s.H pos = .free) : Good P (execOp a.eval o) w0 W F ρ RO s.H w e := by
  unfold buildSliceE at h
  split at h
  · rename_i el hu
    split at h
    · rename_i sz z hsz hz
      split at h
      · cases h
      · rename_i hc
        have c1 : sz ≠ 0 := fun e => hc (.inl e)
        have c2 : z.length = sz := Classical.byContradiction fun e => hc (.inr (.inl e))
        have c3 : ¬ 16777216 < n * sz := fun e => hc (.inr (.inr e))
        split at h
        · rename_i hn0
          subst hn0
          split at h
          · rename_i hps
            have hps' : ps = #[] := by
              apply Array.toList_inj.1
              simpa using hps
            subst hps'
            cases h
            obtain ⟨i2, hi2, hz2⟩ := szT_spec hsz
            refine Good.newS (ob := ⟨true, el, sz, 0, fun _ => z, none⟩) (arr := #[]) (c := 0) hS h1 h2 ⟨by show 0 * sz ≤ _; simp, fun i hi => absurd hi (Nat.not_lt_zero i), fun i k c v hi => absurd hi (Nat.not_lt_zero i), fun j v hj => absurd hj (by simp)⟩ (Nat.le_refl _) (by simp) (fun y hy => by cases hy) ?_
            unfold execOp
            simp [ho, Instr.buildSlice, Instr.fill, run_underlying hu, sizeOf, typeInfo, hi2, newRow, run_newObj_alloc]
            congr 1
            simp
          · cases h
        rename_i hn0
        split at h
        · rename_i rs hf
          cases h
          obtain ⟨i, zv, hi, hzv, hcr, hzc⟩ := zeroT_spec (ρ := ρ) (RO := RO) hz
          obtain ⟨i2, hi2, hz2⟩ := szT_spec hsz
          have : i2 = i := by rw [hi2] at hi; cases hi; rfl
          subst this
          have hzl : zv.cells.size = sz := by have := hcr.1; rw [c2] at this; simpa using this.symm
          have hcr' := hcr.closed ρ (hp s.H)
          obtain ⟨vs, g1, g2, g3, g5, g4⟩ := rowsFill_sound (ρ := ρ) (RO := RO) (H := hp s.H) (Nat.pos_of_ne_zero c1) (vs := (Array.range (n * sz)).map (zv.cells[· % zv.cells.size]!)) hf (by simp)
            (fun j k r c v hr => by
              have hr' : r = z := by
                rw [List.getElem?_replicate] at hr
                split at hr
                · cases hr; rfl
                · cases hr
              have hj : j < n := by have := (List.getElem?_eq_some_iff.1 hr).1; simpa using this
              subst hr'
              refine ⟨c2, fun k1 k2 => ?_⟩
              have hk : k < sz := by have := (List.getElem?_eq_some_iff.1 k1).1; omega
              have hle := row_le (s := sz) hj
              have hx : j * sz + k < n * sz := by omega
              have e1 : (j * sz + k) % sz = k := by rw [Nat.add_comm, Nat.add_mul_mod_self_right, Nat.mod_eq_of_lt hk]
              simp only [Array.getElem?_map, Array.getElem?_range, hx, if_true, Option.map_some, Option.some.injEq] at k2
              rw [hzl, e1] at k2
              have hk2 : k < zv.cells.size := by omega
              rw [getElem!_pos zv.cells k hk2] at k2
              subst k2
              exact hcr'.2 k c _ k1 (by simp [hk2]))
            (fun x hx => by
              simp only [Array.mem_map, Array.mem_range] at hx
              obtain ⟨j, hj, rfl⟩ := hx
              have hpos : 0 < sz := Nat.pos_of_ne_zero c1
              have hjm : j % zv.cells.size < zv.cells.size := by rw [hzl]; exact Nat.mod_lt _ hpos
              rw [getElem!_pos zv.cells _ hjm]
              exact hcr'.cell hzc _ (by simp)) (by simp) (parts_vr hT ps)
          have hrl : rs.length = n := by rw [g2]; simp
          have hrun := run_buildSlice w t el n (ps.map fun (i, x) => (i, a.eval x)) vs i2 zv hu hi hzv (by rw [hz2]; omega) (by rw [hz2]; exact fun e => by rcases Nat.mul_eq_zero.1 e with e | e <;> contradiction) (by rw [hz2]; exact g1)
          refine Good.newS (ob := ⟨true, el, sz, n, fun i => rs.getD i z, some n⟩) (c := n) hS h1 h2 ⟨by show n * sz ≤ vs.size; rw [g3, hrl]; omega, fun i hi => ?_, fun i k c v hi k1 k2 => ?_, fun j v _ hv => g5 v (Array.mem_of_getElem? hv)⟩ (Nat.le_refl _) (by show n * sz ≤ vs.size; rw [g3, hrl]; omega) (fun y hy => by cases hy; rfl) ?_
          · have hi' : i < rs.length := by rw [hrl]; exact hi
            have : rs[i]? = some rs[i] := List.getElem?_eq_getElem hi'
            show (rs.getD i z).length = sz
            rw [List.getD_eq_getElem?_getD, this]
            exact (g4 i 0 rs[i] .top undef this).1
          · have hi' : i < rs.length := by rw [hrl]; exact hi
            have : rs[i]? = some rs[i] := List.getElem?_eq_getElem hi'
            have k1' : (rs.getD i z)[k]? = some c := k1
            rw [List.getD_eq_getElem?_getD, this] at k1'
            exact (g4 i k rs[i] c v this).2 k1' k2
          · unfold execOp
            simp only [ho, Sem.run_bind, hrun, Result.andThen_ok, Sem.run_pure]
        · cases h
    · cases h
  · cases h
end
end Go.Proofs.Ytbcnifnmccaleaa.Fw
