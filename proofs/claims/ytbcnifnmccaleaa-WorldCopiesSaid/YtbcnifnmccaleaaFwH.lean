/- Append and slicing do in a world what the evaluator says; so does each operation but a call. -/
import Derived.Test.YtbcnifnmccaleaaFwG
namespace Go.Proofs.Ytbcnifnmccaleaa.Fw
open Go Go.RowKit
set_option linter.unusedVariables false
set_option linter.unusedSimpArgs false

section
variable {P : Program} {w0 w : World} {W : Nat → Prop} {F : RoMap} {ρ : Pm} {RO : RoMap} {s : St} {a : Act}

theorem VR.dead {H : Hp} {o : Nat} {c : AV} {v : Value} (h : VR ρ RO H c v) : VR ρ RO (upd H o .dead) c v := h.ext (fun _ _ h => h) _ .kill

theorem run_append_zero {t e ty : TypeId} {i : TypeInfo} (ht : P.underlying t = some (.slice e)) (hi : P.info? e = some i) (A B : Option Addr) (n c c2 : Nat) (hn : n ≤ c) :
    (Builtin.append_ #[t, t] ty #[.slice A n c, .slice B 0 c2]).run P w = .ok (.slice A n c) w := by
  have h1 : (Builtin.firstCells i.size 0 (.slice B 0 c2)).run P w = .ok #[] w := by
    cases B with
    | none => exact run_firstCells_none _ _ _ _ _
    | some b => simp [Builtin.firstCells, loadCells, loadCellsFrom]
  cases A with
  | none => simp [Builtin.append_, run_underlying ht, sizeOf, typeInfo, hi, Builtin.lenOf, hn, h1]
  | some b => simp [Builtin.append_, run_underlying ht, sizeOf, typeInfo, hi, Builtin.lenOf, hn, h1, storeCells]

/-- Append to a nil slice. -/
theorem append_nil {x : Sem Next} {a0 : Option Addr} {pos : Nat} {t e ty : TypeId} {inf : TypeInfo} {zv : Value} {H2 : List Ent} {H1 : Hp} {m c2 : Nat} {g g2 : Nat → List AV} {lit : Option Nat} {B : Option Addr} {bo : Bool}
    (ht : P.underlying t = some (.slice e)) (hi : P.info? e = some inf) (hz : inf.zero = some zv) (hzs : zv.cells.size = inf.size) (hby : inf.bytes ≠ 0)
    (hH : hp H2 = upd H1 pos (.live ⟨true, e, inf.size, 0 + m, appGet 0 g g2 lit, none⟩)) (hE : Ext ρ RO (hp s.H) ρ RO H1) (hS : SR w0 W F ρ RO H1 w) (h2 : H1 pos = .free) (hlen : s.H.length ≤ H2.length)
    (hlit : litOk m lit = true) (hb : m * inf.bytes ≤ 140737488355328) (hg : ∀ i, i < m → (g2 i).length = inf.size)
    (hsrc : 0 < m → ∃ bb off, B = some ⟨bb, off, none⟩ ∧ ∃ news : List Value, news.length = m * inf.size ∧ (∀ (j : Nat) v, news[j]? = some v → w.cell? ⟨bb, off + j, none⟩ = some v) ∧
      (∀ (i k : Nat) c v, i < m → (g2 i)[k]? = some c → news[i * inf.size + k]? = some v → VR ρ RO H1 c v) ∧ ∀ v ∈ news, v.oneCell' = true)
    (hx : ∀ r w', (Builtin.append_ #[t, t] ty #[.slice (nl a0) 0 0, .slice B m c2]).run P w = .ok r w' → x.run P w = .ok (.value r) w') : Good P x w0 W F ρ RO s.H w ⟨bo, .slc pos 0 none none, H2⟩ := by
  rcases Nat.eq_zero_or_pos m with h0 | hpos
  · subst h0
    exact good_ghost hH hE hS h2 hlen rfl (hx _ _ (run_append_zero ht hi (nl a0) B 0 0 c2 (Nat.le_refl _)))
  · obtain ⟨bb, off, rfl, news, n1, n2, n3, n4⟩ := hsrc hpos
    have hm : m ≤ 140737488355328 := Nat.le_trans (Nat.le_mul_of_pos_right m (Nat.pos_of_ne_zero hby)) hb
    have hr : (Builtin.append_ #[t, t] ty #[.slice (nl a0) 0 0, .slice (some ⟨bb, off, none⟩) m c2]).run P w = .ok (.slice (some ⟨w.heap.size, 0, none⟩) m (grownCap w m 0 e)) (w.drew.alloc (.cells (news.toArray ++ Builtin.zeroCells zv.cells (grownCap w m 0 e - m)) e)) := by
      cases a0 with
      | none => exact run_append_nil (P := P) w t ty e inf zv ht hi hz ⟨bb, off, none⟩ m c2 news n1 (fun j v hj => by rw [add_none]; exact n2 j v hj) hpos (by omega) (by omega)
      | some p =>
        have := run_append_grow (P := P) w t ty e inf zv ht hi hz p 0 0 [] (by simp) (fun j v hj => by simp at hj) ⟨bb, off, none⟩ m c2 news n1 (fun j v hj => by rw [add_none]; exact n2 j v hj) (by omega) (by omega) (growslice_fits (by omega) (by rw [Nat.zero_add]; exact hb))
        simpa [nl] using this
    have hge := grownCap_ge w m 0 e
    have hO := obr_append (ρ := ρ) (RO := RO) (H := H1) (ty := e) (sz := inf.size) (n := 0) (m := m) (g := g) (g2 := g2) (lit := lit) (olds := []) (news := news) (rest := (Builtin.zeroCells zv.cells (grownCap w m 0 e - m)).toList) hlit (by simp) n1 (fun i hi => by omega) hg
      (fun i k c v hi => by omega) n3 (fun v hv => by cases hv) n4
    simp only [List.nil_append] at hO
    have he : (news ++ (Builtin.zeroCells zv.cells (grownCap w m 0 e - m)).toList).toArray = news.toArray ++ Builtin.zeroCells zv.cells (grownCap w m 0 e - m) := by
      apply Array.toList_inj.1; simp
    rw [he] at hO
    refine good_fresh (c := grownCap w m 0 e) hH hE hS h2 hlen hO (by show 0 + m ≤ _; omega) ?_ ?_
    · simp only [Array.size_append, List.size_toArray, size_zeroCells, hzs, n1, ← Nat.add_mul]
      exact Nat.mul_le_mul_right _ (by omega)
    · have := hx _ _ hr
      simp only [Nat.zero_add]
      exact this

theorem append_sound {pos : Nat} {o : Oper} {x y : Operand} {args : Array Operand} {ts : Array TypeId} {e : Eff} (ho : o.op = .call { callee := .builtin .append, args, argTypes := ts }) (ha : args.toList = [x, y]) (h : appendE P s pos ts (s.op x) (s.op y) = some e) (hok : e.ok = true)
    (hS : SR w0 W F ρ RO (hp s.H) w) (hT : TR ρ RO (hp s.H) s.tmps a) (h1 : pos ≤ s.H.length) (h2 : hp s.H pos = .free) : Good P (execOp a.eval o) w0 W F ρ RO s.H w e := by
  have hvx := op_sound hT x
  have hvy := op_sound hT y
  have harr : args = #[x, y] := by apply Array.toList_inj.1; rw [ha]
  subst harr
  unfold appendE at h
  split at h
  · rename_i t ht0
    split at h
    · rename_i ht1
      split at h
      · rename_i el hu
        have run : ∀ r w', (Builtin.append_ #[t, t] o.type #[a.eval x, a.eval y]).run P w = .ok r w' → (execOp a.eval o).run P w = .ok (.value r) w' := by
          intro r w' hr
          refine run_builtin ho ?_
          simp only [builtin]
          have : Builtin.append_ ts o.type (#[x, y].map a.eval) = Builtin.append_ #[t, t] o.type #[a.eval x, a.eval y] := by simp [Builtin.append_, ht0, ht1]
          rw [Sem.run_bind, this, hr]
          rfl
        split at h
        · rename_i inf z hi hz
          obtain ⟨i2, zv, hi2, hzv, hcr, hzc⟩ := zeroT_spec (ρ := ρ) (RO := RO) hz
          have : i2 = inf := by rw [hi] at hi2; cases hi2; rfl
          subst this
          split at h
          · cases h
          · rename_i hc
            have c1 : i2.size ≠ 0 := fun e => hc (.inl e)
            have c2 : i2.bytes ≠ 0 := fun e => hc (.inr (.inl e))
            have c3 : z.length = i2.size := Classical.byContradiction fun e => hc (.inr (.inr e))
            have hzs : zv.cells.size = i2.size := by have := hcr.1; rw [c3] at this; simpa using this.symm
            split at h
            · rename_i ty2 sz2 m g2 lit2 hrow
              split at h
              · rename_i hsl
                obtain ⟨rfl, hlit⟩ := hsl
                obtain ⟨B, cB, hB, hg2, hsrc⟩ := src_sound (w := w) hrow hvy hS
                split at h
                · rename_i hx
                  rw [hx] at hvx
                  cases h
                  have hb : m * i2.bytes ≤ 140737488355328 := by simpa using hok
                  refine append_nil (a0 := none) (H1 := hp s.H) (m := m) (g2 := g2) (lit := lit2) (g := fun _ => z) (c2 := cB) (B := B) hu hi hzv hzs c2 ?_ (.refl _ _ _) hS h2 (fresh_length h1 _) hlit hb hg2 hsrc (fun r w' hr => run r w' (by rw [hvx.val_eq, hB]; exact hr))
                  rw [hp_fresh h1, Nat.zero_add]
                · rename_i o' cap hx
                  rw [hx] at hvx
                  split at h
                  · rename_i ob hl
                    split at h
                    · rename_i hc2
                      obtain ⟨d1, d2, d3⟩ := hc2
                      cases h
                      have hb : (ob.n + m) * i2.bytes ≤ 140737488355328 := by simpa using hok
                      have hol := live_lt hl
                      have hH : hp (fresh ⟨s.tmps, s.H.set o' .dead⟩ pos ⟨true, el, i2.size, ob.n + m, appGet ob.n ob.get g2 lit2, none⟩) = upd (upd (hp s.H) o' .dead) pos (.live ⟨true, el, i2.size, ob.n + m, appGet ob.n ob.get g2 lit2, none⟩) := by
                        rw [hp_fresh (s := ⟨s.tmps, s.H.set o' .dead⟩) (by simpa using h1), hp_set hol]
                      have hlen : s.H.length ≤ (fresh ⟨s.tmps, s.H.set o' .dead⟩ pos ⟨true, el, i2.size, ob.n + m, appGet ob.n ob.get g2 lit2, none⟩).length := by
                        have := fresh_length (s := ⟨s.tmps, s.H.set o' .dead⟩) (pos := pos) (by simpa using h1) ⟨true, el, i2.size, ob.n + m, appGet ob.n ob.get g2 lit2, none⟩
                        simpa using this
                      have hfree := upd_free hl h2
                      generalize hcx : a.eval x = cx at hvx
                      cases hvx with
                      | slc0 _ _ _ _ _ g0 gk gc hq =>
                        obtain ⟨q1, q2⟩ := hq ob hl
                        refine append_nil (H1 := upd (hp s.H) o' .dead) (m := m) (g2 := g2) (lit := lit2) (g := ob.get) (c2 := cB) (B := B) hu hi hzv hzs c2 (by rw [hH, q1]) ext_dead (sr_dead hS) hfree hlen hlit (by rw [q1, Nat.zero_add] at hb; exact hb) hg2 ?_ (fun r w' hr => run r w' (by rw [hcx, hB]; exact hr))
                        intro hpos
                        obtain ⟨bb, off, e1, news, n1, n2, n3, n4⟩ := hsrc hpos
                        exact ⟨bb, off, e1, news, n1, n2, fun i k c v hi k1 k2 => (n3 i k c v hi k1 k2).dead, n4⟩
                      | slc _ _ _ n _ _ b off c g0 gn gk gc hq =>
                        obtain ⟨q1, q2, q3, mm, q4, q5⟩ := hq ob hl
                        have hn : n = ob.n := by have := q2 rfl; omega
                        subst hn
                        rcases hS.obj o' ob hl with ⟨g1, _⟩ | ⟨b', m', arr, g1, g2', g3, g4, g5, g6, g7, g8, g9⟩
                        · rw [g1] at q4; cases q4
                        have eb : b' = b ∧ m' = mm := by rw [g1] at q4; cases q4; exact ⟨rfl, rfl⟩
                        obtain ⟨rfl, rfl⟩ := eb
                        subst d1
                        rw [Nat.zero_add] at q5
                        have hcut : ∀ k : Nat, k ≤ ob.n * ob.sz → (arr.toList.take (ob.n * ob.sz)).length = ob.n * ob.sz := fun _ _ => by simp; omega
                        have hol1 : (arr.toList.take (ob.n * ob.sz)).length = ob.n * ob.sz := hcut 0 (Nat.zero_le _)
                        have hold : ∀ (i k : Nat) c v, i < ob.n → (ob.get i)[k]? = some c → (arr.toList.take (ob.n * ob.sz))[i * ob.sz + k]? = some v → VR ρ RO (hp s.H) c v := by
                          intro i k c v hi k1 k2
                          rw [List.getElem?_take] at k2
                          split at k2
                          · exact g8 i k c v hi k1 (by simpa using k2)
                          · cases k2
                        have hold1 : ∀ v ∈ arr.toList.take (ob.n * ob.sz), v.oneCell' = true := by
                          intro v hv
                          obtain ⟨j, hj, rfl⟩ := List.getElem_of_mem hv
                          have hj' : j < ob.n * ob.sz := by omega
                          have := List.getElem?_eq_getElem hj
                          rw [List.getElem?_take, if_pos hj'] at this
                          exact g9 j _ hj' (by simp)
                        rw [← d2] at hg2 hsrc hzs c1 hH hlen
                        by_cases hroom : ob.n + m ≤ c
                        · -- it fits
                          have hle : (ob.n + m) * ob.sz ≤ m' := Nat.le_trans (Nat.mul_le_mul_right _ hroom) q5
                          have key : ∀ (r : Value) (news : List Value), news.length = m * ob.sz → (∀ (i k : Nat) c v, i < m → (g2 i)[k]? = some c → news[i * ob.sz + k]? = some v → VR ρ RO (hp s.H) c v) → (∀ v ∈ news, v.oneCell' = true) →
                              (Builtin.append_ #[t, t] o.type #[a.eval x, a.eval y]).run P w = .ok (.slice (some ⟨b', off, none⟩) (ob.n + m) c) (w.setRow b' (arr.toList.take (ob.n * ob.sz) ++ news ++ arr.toList.drop (ob.n * ob.sz + news.length)).toArray) →
                              Good P (execOp a.eval o) w0 W F ρ RO s.H w ⟨decide ((ob.n + m) * i2.bytes ≤ 140737488355328), .slc pos 0 none none, fresh ⟨s.tmps, s.H.set o' .dead⟩ pos ⟨true, ob.ty, ob.sz, ob.n + m, appGet ob.n ob.get g2 lit2, none⟩⟩ := by
                            intro r news n1 n3 n4 hr
                            have hO := obr_append (ρ := ρ) (RO := RO) (H := hp s.H) (ty := ob.ty) (sz := ob.sz) (n := ob.n) (m := m) (g := ob.get) (g2 := g2) (lit := lit2) (olds := arr.toList.take (ob.n * ob.sz)) (news := news) (rest := arr.toList.drop (ob.n * ob.sz + news.length)) hlit hol1 n1 g7 hg2 hold n3 hold1 n4
                            have hsz : ((arr.toList.take (ob.n * ob.sz) ++ news ++ arr.toList.drop (ob.n * ob.sz + news.length)).toArray).size = m' := by
                              rw [Nat.add_mul] at hle
                              simp [n1]
                              omega
                            obtain ⟨S2, E2⟩ := hS.move (ob' := ⟨true, ob.ty, ob.sz, ob.n + m, appGet ob.n ob.get g2 lit2, none⟩) hl h2 g1 g4 rfl hsz hO
                            refine ⟨_, _, updP ρ pos (some ⟨b', m'⟩), .inl (run _ _ hr), ?_, ?_, ?_, hlen, by simp⟩
                            · show VR _ _ (hp (fresh _ _ _)) _ _
                              rw [hH]
                              refine .slc _ pos 0 (ob.n + m) none none b' off c (by simp [upd]) hroom (fun y hy => by cases hy) (fun y hy => by cases hy) fun ob' hl' => ?_
                              have : (⟨true, ob.ty, ob.sz, ob.n + m, appGet ob.n ob.get g2 lit2, none⟩ : Ob) = ob' := by simpa [upd] using hl'
                              subst this
                              exact ⟨by simp, fun _ => by simp, by simpa using q3, m', by simp [updP], by simpa using q5⟩
                            · show SR _ _ _ _ _ (hp (fresh _ _ _)) _
                              rw [hH]; exact S2
                            · show Ext _ _ _ _ _ (hp (fresh _ _ _))
                              rw [hH]; exact E2
                          rw [← d2]
                          rcases Nat.eq_zero_or_pos m with h0 | hpos
                          · subst h0
                            refine key undef [] (by simp) (fun i k c v hi => by omega) (fun v hv => by cases hv) ?_
                            have := run_append_zero (P := P) (w := w) (ty := o.type) hu hi (some ⟨b', off, none⟩) B ob.n c cB gn
                            rw [hcx, hB, this]
                            simp only [List.append_nil, List.length_nil, Nat.add_zero, List.take_append_drop, Array.toArray_toList]
                            rw [g4.self]
                          · obtain ⟨bb, boff, rfl, news, n1, n2, n3, n4⟩ := hsrc hpos
                            have hoff : off = 0 := by rw [q3]; simp
                            subst hoff
                            refine key undef news n1 n3 n4 ?_
                            have hr := run_append_room' (P := P) w t o.type ob.ty i2 hu hi b' ob.n c arr g4 ⟨bb, boff, none⟩ m cB news (by rw [n1, d2]) (fun j v hj => by rw [add_none]; exact n2 j v hj) n4 hroom (by rw [n1, ← d2, ← Nat.add_mul]; omega)
                            rw [hcx, hB, hr, ← d2]
                        · -- it grows
                          have hpos : 0 < m := by omega
                          obtain ⟨bb, boff, rfl, news, n1, n2, n3, n4⟩ := hsrc hpos
                          have hm : ob.n + m ≤ 140737488355328 := Nat.le_trans (Nat.le_mul_of_pos_right _ (Nat.pos_of_ne_zero c2)) hb
                          have hrd : ∀ (j : Nat) v, (arr.toList.take (ob.n * ob.sz))[j]? = some v → w.cell? ((⟨b', off, none⟩ : Addr).add j) = some v := by
                            intro j v hj
                            have hj' : j < ob.n * ob.sz := by have := (List.getElem?_eq_some_iff.1 hj).1; omega
                            have hoff : off = 0 := by rw [q3]; simp
                            subst hoff
                            rw [add_none, g4.cell, Nat.zero_add]
                            rw [List.getElem?_take, if_pos hj'] at hj
                            simpa using hj
                          have hr := run_append_grow (P := P) w t o.type ob.ty i2 zv hu hi hzv ⟨b', off, none⟩ ob.n c (arr.toList.take (ob.n * ob.sz)) (by rw [hol1, d2]) hrd ⟨bb, boff, none⟩ m cB news (by rw [n1, d2]) (fun j v hj => by rw [add_none]; exact n2 j v hj) (by omega) (by omega) (growslice_fits (by omega) hb)
                          have hge := grownCap_ge w (ob.n + m) c ob.ty
                          have hO := obr_append (ρ := ρ) (RO := RO) (H := upd (hp s.H) o' .dead) (ty := ob.ty) (sz := ob.sz) (n := ob.n) (m := m) (g := ob.get) (g2 := g2) (lit := lit2) (olds := arr.toList.take (ob.n * ob.sz)) (news := news)
                            (rest := (Builtin.zeroCells zv.cells (grownCap w (ob.n + m) c ob.ty - (ob.n + m))).toList) hlit hol1 n1 g7 hg2 (fun i k c v hi k1 k2 => (hold i k c v hi k1 k2).dead) (fun i k c v hi k1 k2 => (n3 i k c v hi k1 k2).dead) hold1 n4
                          have he : (arr.toList.take (ob.n * ob.sz) ++ news ++ (Builtin.zeroCells zv.cells (grownCap w (ob.n + m) c ob.ty - (ob.n + m))).toList).toArray = (arr.toList.take (ob.n * ob.sz)).toArray ++ news.toArray ++ Builtin.zeroCells zv.cells (grownCap w (ob.n + m) c ob.ty - (ob.n + m)) := by
                            apply Array.toList_inj.1; simp
                          rw [he] at hO
                          rw [← d2]
                          refine good_fresh (c := grownCap w (ob.n + m) c ob.ty) hH ext_dead (sr_dead hS) hfree hlen hO hge ?_ (run _ _ (by rw [hcx, hB, hr]))
                          simp only [Array.size_append, List.size_toArray, size_zeroCells, hzs, n1, hol1, ← Nat.add_mul]
                          exact Nat.mul_le_mul_right _ (by omega)
                    · cases h
                  · cases h
                · -- a list that is cut: it goes over into a new one
                  rename_i szx nx cx gx hx
                  rw [hx] at hvx
                  split at h
                  · rename_i hszx
                    subst hszx
                    cases h
                    simp only [Bool.and_eq_true, decide_eq_true_eq] at hok
                    obtain ⟨hcn, hpos, hb⟩ := hok
                    have hH : hp (fresh s pos ⟨true, el, i2.size, nx + m, appGet nx gx g2 lit2, none⟩) = upd (hp s.H) pos (.live ⟨true, el, i2.size, nx + m, appGet nx gx g2 lit2, none⟩) := hp_fresh h1 _
                    generalize hcx : a.eval x = vx at hvx
                    cases hvx with
                    | lst0 _ _ _ _ a0 hc0 =>
                      refine append_nil (a0 := a0) (H1 := hp s.H) (m := m) (g2 := g2) (lit := lit2) (g := gx) (c2 := cB) (B := B) hu hi hzv hzs c2 hH (.refl _ _ _) hS h2 (fresh_length h1 _) hlit (by rw [Nat.zero_add] at hb; exact hb) hg2 hsrc (fun r w' hr => run r w' (by rw [hcx, hB]; exact hr))
                    | lst _ _ _ _ _ b off c arr hbo hnc hcap hs2 hgl hone hq =>
                      have hcc : c = cx := hcap cx rfl
                      obtain ⟨bb, boff, rfl, news, n1, n2, n3, n4⟩ := hsrc hpos
                      obtain ⟨ty, fr, hw⟩ := hS.ro b arr hbo
                      have hm : nx + m ≤ 140737488355328 := Nat.le_trans (Nat.le_mul_of_pos_right _ (Nat.pos_of_ne_zero c2)) hb
                      have holen : ((arr.toList.drop off).take (nx * i2.size)).length = nx * i2.size := by simp; omega
                      have hget : ∀ (j : Nat) v, ((arr.toList.drop off).take (nx * i2.size))[j]? = some v → j < nx * i2.size ∧ arr[off + j]? = some v := by
                        intro j v hj
                        rw [List.getElem?_take] at hj
                        split at hj
                        · rw [List.getElem?_drop] at hj; exact ⟨by assumption, by simpa using hj⟩
                        · cases hj
                      have hrd : ∀ (j : Nat) v, ((arr.toList.drop off).take (nx * i2.size))[j]? = some v → w.cell? ((⟨b, off, none⟩ : Addr).add j) = some v := by
                        intro j v hj
                        rw [add_none, cell_of_row w b _ arr ty fr hw]
                        exact (hget j v hj).2
                      have hr := run_append_grow (P := P) w t o.type el i2 zv hu hi hzv ⟨b, off, none⟩ nx c ((arr.toList.drop off).take (nx * i2.size)) holen hrd ⟨bb, boff, none⟩ m cB news n1 (fun j v hj => by rw [add_none]; exact n2 j v hj) (by omega) (by omega) (growslice_fits (by omega) hb)
                      have hge := grownCap_ge w (nx + m) c el
                      have hO := obr_append (ρ := ρ) (RO := RO) (H := hp s.H) (ty := el) (sz := i2.size) (n := nx) (m := m) (g := gx) (g2 := g2) (lit := lit2) (olds := (arr.toList.drop off).take (nx * i2.size)) (news := news)
                        (rest := (Builtin.zeroCells zv.cells (grownCap w (nx + m) c el - (nx + m))).toList) hlit holen n1 hgl hg2 (fun i k c v hi k1 k2 => by
                          obtain ⟨_, e2⟩ := hget _ v k2
                          rw [← Nat.add_assoc] at e2
                          exact (hq i k c v hi k1 e2).closed _ _) (fun i k c v hi k1 k2 => n3 i k c v hi k1 k2) (fun v hv => by
                          obtain ⟨j, hj, rfl⟩ := List.getElem_of_mem hv
                          obtain ⟨e1, e2⟩ := hget j _ (List.getElem?_eq_getElem hj)
                          exact hone j _ e1 e2) n4
                      have he : ((arr.toList.drop off).take (nx * i2.size) ++ news ++ (Builtin.zeroCells zv.cells (grownCap w (nx + m) c el - (nx + m))).toList).toArray = ((arr.toList.drop off).take (nx * i2.size)).toArray ++ news.toArray ++ Builtin.zeroCells zv.cells (grownCap w (nx + m) c el - (nx + m)) := by
                        apply Array.toList_inj.1; simp
                      rw [he] at hO
                      refine good_fresh (c := grownCap w (nx + m) c el) hH (.refl _ _ _) hS h2 (fresh_length h1 _) hO hge ?_ (run _ _ (by rw [hcx, hB, hr]))
                      simp only [Array.size_append, List.size_toArray, size_zeroCells, hzs, n1, holen, ← Nat.add_mul]
                      exact Nat.mul_le_mul_right _ (by omega)
                  · cases h
                · cases h
              · cases h
            · rename_i hnone
              split at h
              · rename_i ay cy hy
                rw [hy] at hvy
                split at h
                · rename_i hx
                  rw [hx] at hvx
                  cases h
                  refine .same (cv := .slice none 0 0) (run _ _ ?_) hS (by rw [hx]; exact .val _ _ rfl)
                  rw [hvx.val_eq, hvy.val_eq]
                  exact run_append_zero hu hi none ay 0 0 cy (Nat.le_refl _)
                · rename_i o' lo' n' cap' hx
                  cases h
                  have hv0 := hvx
                  rw [hx] at hvx
                  generalize hcx : a.eval x = cx at hvx hv0
                  refine .same (cv := cx) (run _ _ ?_) hS hv0
                  rw [hcx, hvy.val_eq]
                  cases hvx with
                  | slc _ _ _ n _ _ b off c g0 gn gk gc hq => exact run_append_zero hu hi (some ⟨b, off, none⟩) ay n c cy gn
                  | slc0 => exact run_append_zero hu hi _ ay 0 0 cy (Nat.le_refl _)
                · cases h
              · cases h
        · cases h
      · cases h
    · cases h
  · cases h
end
end Go.Proofs.Ytbcnifnmccaleaa.Fw
