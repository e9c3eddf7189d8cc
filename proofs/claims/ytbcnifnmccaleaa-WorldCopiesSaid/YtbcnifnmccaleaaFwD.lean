/- Each operation does in a world what the evaluator says. -/
import Derived.Test.YtbcnifnmccaleaaFwC
namespace Go.Proofs.Ytbcnifnmccaleaa.Fw
open Go Go.RowKit
set_option linter.unusedVariables false
set_option linter.unusedSimpArgs false

def Does (P : Program) (x : Sem Next) (w : World) (cv : Value) (w' : World) : Prop := x.run P w = .ok (.value cv) w' ∨ (x.run P w = .ok .skip w' ∧ cv = undef)
/-- The operation goes through, and the world bears the table behind it. -/
def Good (P : Program) (x : Sem Next) (w0 : World) (W : Nat → Prop) (F : RoMap) (ρ : Pm) (RO : RoMap) (H : List Ent) (w : World) (e : Eff) : Prop :=
  ∃ cv w' ρ', Does P x w cv w' ∧ VR ρ' RO (hp e.H) e.v cv ∧ SR w0 W F ρ' RO (hp e.H) w' ∧ Ext ρ RO (hp H) ρ' RO (hp e.H) ∧ H.length ≤ e.H.length ∧ w.heap.size ≤ w'.heap.size
def TR (ρ : Pm) (RO : RoMap) (H : Hp) (tmps : List AV) (a : Act) : Prop := CR ρ RO H tmps a.tmps.toList

section
variable {P : Program} {w0 w : World} {W : Nat → Prop} {F : RoMap} {ρ : Pm} {RO : RoMap} {s : St} {a : Act}

theorem Good.same {x : Sem Next} {v : AV} {cv : Value} (hx : x.run P w = .ok (.value cv) w) (hS : SR w0 W F ρ RO (hp s.H) w) (hv : VR ρ RO (hp s.H) v cv) : Good P x w0 W F ρ RO s.H w ⟨true, v, s.H⟩ :=
  ⟨cv, w, ρ, .inl hx, hv, hS, .refl _ _ _, Nat.le_refl _, Nat.le_refl _⟩
theorem Good.sameB {x : Sem Next} {v : AV} {cv : Value} {b : Bool} (hx : x.run P w = .ok (.value cv) w) (hS : SR w0 W F ρ RO (hp s.H) w) (hv : VR ρ RO (hp s.H) v cv) : Good P x w0 W F ρ RO s.H w ⟨b, v, s.H⟩ :=
  ⟨cv, w, ρ, .inl hx, hv, hS, .refl _ _ _, Nat.le_refl _, Nat.le_refl _⟩

theorem op_sound (hT : TR ρ RO (hp s.H) s.tmps a) (x : Operand) : VR ρ RO (hp s.H) (s.op x) (a.eval x) := by
  cases x with
  | tmp t =>
    simp only [St.op, Act.eval, List.getD_eq_getElem?_getD, Array.getD_eq_getD_getElem?]
    cases h1 : s.tmps[t]? with
    | none =>
      have : a.tmps[t]? = none := by
        have h2 := hT.1
        have h3 := List.getElem?_eq_none_iff.1 h1
        rw [Array.getElem?_eq_none]
        rw [h2] at h3
        simpa using h3
      simp only [this, Option.getD_none]
      exact .undefA
    | some c =>
      have ht : t < a.tmps.size := by
        have h2 := hT.1
        have h3 : t < s.tmps.length := (List.getElem?_eq_some_iff.1 h1).1
        rw [h2] at h3
        simpa using h3
      have h2 : a.tmps[t]? = some a.tmps[t] := Array.getElem?_eq_getElem ht
      simp only [h2, Option.getD_some]
      exact hT.2 t c _ h1 (by simp [ht])
  | const v => exact .ofV v
  | global g => exact .val _ _ rfl
  | func f => exact .fn _ f [] #[] rfl fun k c v h _ => by simp at h

theorem TR.put (hT : TR ρ RO (hp s.H) s.tmps a) (d : Option Tmp) {v : AV} {cv : Value} (hv : VR ρ RO (hp s.H) v cv) : TR ρ RO (hp s.H) (match d with | some d => s.tmps.set d v | none => s.tmps) (a.put d cv) := by
  cases d with
  | none => exact hT
  | some d =>
    refine ⟨by simpa [Act.put] using hT.1, fun k c u h1 h2 => ?_⟩
    simp only [Act.put] at h2
    rw [Array.getElem?_toList, Array.getElem?_setIfInBounds] at h2
    rw [List.getElem?_set] at h1
    by_cases hk : d = k
    · subst hk
      simp only [if_true] at h1 h2
      split at h1 <;> split at h2 <;> simp_all
    · simp only [hk, if_false] at h1 h2
      exact hT.2 k c u h1 (by simpa using h2)

theorem TR.ext {ρ' RO' H' l} {H : Hp} (hT : TR ρ RO H l a) (e : Ext ρ RO H ρ' RO' H') : TR ρ' RO' H' l a := CR.ext hT e

/-! ### The table as a list -/
theorem hp_length (H : List Ent) : hp H H.length = .free := by simp [hp]
theorem hp_set {H : List Ent} {o : Nat} (ho : o < H.length) (e : Ent) : hp (H.set o e) = upd (hp H) o e := by
  funext k
  simp only [hp, upd, List.getD_eq_getElem?_getD, List.getElem?_set]
  by_cases h : o = k
  · subst h; simp [ho]
  · have h' : ¬ k = o := fun e => h e.symm
    simp [h, h']
theorem hp_snoc (H : List Ent) (e : Ent) : hp (H ++ [e]) = upd (hp H) H.length e := by
  funext k
  simp only [hp, upd, List.getD_eq_getElem?_getD, List.getElem?_append]
  by_cases h : k < H.length
  · simp [h]; omega
  · by_cases h2 : k = H.length
    · subst h2; simp
    · have : ¬ k - H.length = 0 := by omega
      simp [h, h2]
      cases hk : k - H.length with
      | zero => omega
      | succ n => simp
theorem live_lt {H : List Ent} {o : Nat} {ob : Ob} (h : hp H o = .live ob) : o < H.length := by
  rcases Nat.lt_or_ge o H.length with h' | h'
  · exact h'
  · simp [hp, List.getD_eq_getElem?_getD, List.getElem?_eq_none h'] at h
theorem hp_fresh {pos : Nat} (h1 : pos ≤ s.H.length) (ob : Ob) : hp (fresh s pos ob) = upd (hp s.H) pos (.live ob) := by
  unfold fresh
  split
  · rename_i h; rw [hp_snoc, h]
  · exact hp_set (by omega) _
theorem fresh_length {pos : Nat} (h1 : pos ≤ s.H.length) (ob : Ob) : s.H.length ≤ (fresh s pos ob).length := by
  unfold fresh; split <;> simp

/-- A fresh object, to which a pointer is given. -/
theorem Good.new {x : Sem Next} {pos : Nat} {ob : Ob} {arr : Array Value} (hS : SR w0 W F ρ RO (hp s.H) w) (h1 : pos ≤ s.H.length) (h2 : hp s.H pos = .free) (hob : ObR ρ RO (hp s.H) ob arr) (hn : 0 < ob.n)
    (hx : x.run P w = .ok (.value (.pointer (some ⟨w.heap.size, 0, none⟩))) (w.alloc (.cells arr ob.ty))) : Good P x w0 W F ρ RO s.H w ⟨true, .ptr pos 0 0, fresh s pos ob⟩ := by
  refine ⟨_, _, updP ρ pos (some ⟨w.heap.size, arr.size⟩), .inl hx, ?_, ?_, ?_, fresh_length h1 ob, by simp⟩
  · show VR _ _ (hp (fresh s pos ob)) _ _
    rw [hp_fresh h1]
    refine .ptr _ pos 0 0 w.heap.size 0 (by simp [upd]) fun ob' hl => ?_
    have : ob = ob' := by simpa [upd] using hl
    subst this
    exact ⟨hn, by simp, arr.size, by simp [updP]⟩
  · show SR _ _ _ _ _ (hp (fresh s pos ob)) _
    rw [hp_fresh h1]; exact hS.new h2 hob
  · show Ext _ _ _ _ _ (hp (fresh s pos ob))
    rw [hp_fresh h1]; exact .new h2 _ _

theorem run_under {t : TypeId} {d : TypeDesc} (h : P.underlying t = some d) (w : World) : (underlying t).run P w = .ok d w := run_underlying h w

theorem zeroT_spec {t : TypeId} {z : List AV} (h : zeroT P t = some z) : ∃ i zv, P.info? t = some i ∧ i.zero = some zv ∧ CR ρ RO noHp z zv.cells.toList ∧ z.all isCell = true := by
  unfold zeroT at h
  split at h
  · rename_i i hi
    split at h
    · rename_i zv hz
      split at h
      · rename_i hc
        cases h
        exact ⟨i, zv, hi, hz, (VR.ofV zv).cells (ofV_ne_top zv), hc⟩
      · cases h
    · cases h
  · cases h
theorem szT_spec {t : TypeId} {n : Nat} (h : szT P t = some n) : ∃ i, P.info? t = some i ∧ i.size = n := by
  unfold szT at h
  split at h
  · rename_i i hi; cases h; exact ⟨i, hi, rfl⟩
  · cases h
theorem newOb_pos {t : TypeId} {cells : List AV} {ob : Ob} (h : newOb P t cells = some ob) : 0 < ob.n := by
  unfold newOb at h
  split at h
  · split at h
    · split at h
      · cases h
      · rename_i hn
        have hl := Nat.pos_of_ne_zero fun e => hn (.inr (.inl e))
        split at h
        · split at h
          · split at h <;> (cases h; exact hl)
          · cases h; exact hl
        · cases h; exact hl
        · cases h; exact hl
    · cases h
  · cases h; exact Nat.one_pos
  · cases h

theorem alloc_sound {pos : Nat} {o : Oper} {t : TypeId} {e : Eff} (ho : o.op = .alloc t) (h : allocE P s pos t = some e) (hS : SR w0 W F ρ RO (hp s.H) w) (h1 : pos ≤ s.H.length) (h2 : hp s.H pos = .free) :
    Good P (execOp a.eval o) w0 W F ρ RO s.H w e := by
  unfold allocE at h
  split at h
  · rename_i z hz
    split at h
    · rename_i ob hob
      cases h
      obtain ⟨i, zv, hi, hzv, hc, hcell⟩ := zeroT_spec (ρ := ρ) (RO := RO) hz
      obtain ⟨e1, e2, e3⟩ := newOb_rel hob (hc.closed ρ (hp s.H)) (hc.cell hcell)
      refine Good.new hS h1 h2 e3 (newOb_pos hob) ?_
      unfold execOp
      simp [ho, Instr.alloc, zeroValue, typeInfo, hi, hzv, newVar, newRow, e1, go_sem]
    · cases h
  · cases h

theorem box_sound {pos : Nat} {o : Oper} {t : TypeId} {x : Operand} {e : Eff} (ho : o.op = .box t x) (h : boxE P s pos t (s.op x) = some e) (hS : SR w0 W F ρ RO (hp s.H) w) (hT : TR ρ RO (hp s.H) s.tmps a)
    (h1 : pos ≤ s.H.length) (h2 : hp s.H pos = .free) : Good P (execOp a.eval o) w0 W F ρ RO s.H w e := by
  unfold boxE at h
  split at h
  · rename_i n hn
    split at h
    · rename_i hc
      split at h
      · rename_i ob hob
        cases h
        have hcr := (op_sound hT x).cells (not_top_of_cells hc.2)
        obtain ⟨e1, e2, e3⟩ := newOb_rel hob hcr (hcr.cell hc.2)
        refine Good.new hS h1 h2 e3 (newOb_pos hob) ?_
        unfold execOp
        simp [ho, Instr.box, newVar, newRow, e1, go_sem]
      · cases h
    · cases h
  · cases h

/-! ### Loads -/
theorem aggT_true {t : TypeId} (h : aggT P t = some true) : ∃ d, P.underlying t = some d ∧ d.isRow = true := by
  unfold aggT at h
  split at h <;> first | (exact ⟨_, by assumption, rfl⟩) | cases h
theorem run_isAgg_false {t : TypeId} (h : aggT P t = some false) (w : World) : (isAgg t).run P w = .ok false w := by
  unfold aggT at h
  split at h
  · cases h
  · cases h
  · rename_i d h1 h2 hd
    unfold isAgg
    rw [Sem.run_bind, run_underlying hd w]
    cases d <;> simp_all
  · cases h
theorem run_isAgg_true {t : TypeId} (h : aggT P t = some true) (w : World) : (isAgg t).run P w = .ok true w := by
  obtain ⟨d, hd, hr⟩ := aggT_true h
  unfold isAgg
  rw [Sem.run_bind, run_underlying hd w]
  cases d <;> simp_all
theorem run_load_one {t : TypeId} (h : aggT P t = some false) {ad : Addr} {v : Value} (hc : w.cell? ad = some v) : (Instr.loadAt t (.pointer (some ad))).run P w = .ok v w := by
  simp only [Instr.loadAt, Instr.sureAddr, Sem.run_bind, Sem.run_pure, Result.andThen_ok, loadVar, run_isAgg_false h w]
  simp [load, Sem.run, hc]

theorem run_load {o : Oper} {t : TypeId} {x : Operand} (ho : o.op = .load t x) {v : Value} (h : (Instr.loadAt t (a.eval x)).run P w = .ok v w) : (execOp a.eval o).run P w = .ok (.value v) w := by
  unfold execOp
  simp only [ho, Sem.run_bind, h, Result.andThen_ok, Sem.run_pure]

theorem run_load_agg {t : TypeId} {n b off : Nat} {arr : Array Value} {ty : TypeId} {fr : Nat × Nat} (h : aggT P t = some true) (hn : szT P t = some n) (hw : w.heap[b]? = some (.cells arr ty fr)) (hs : off + n ≤ arr.size) :
    (Instr.loadAt t (.pointer (some ⟨b, off, none⟩))).run P w = .ok (.agg ((arr.toList.drop off).take n).toArray) w := by
  obtain ⟨d, hd, hr⟩ := aggT_true h
  obtain ⟨i, hi, hz⟩ := szT_spec hn
  refine run_loadAt_mid w b off t _ d (fun j v hv => ?_) hd hr (by rw [hi]; simp [hz]; omega)
  rw [cell_of_row w b _ arr ty fr hw]
  rw [List.getElem?_take] at hv
  split at hv
  · rw [List.getElem?_drop] at hv; simpa using hv
  · cases hv

theorem flat_get {α : Type} {g : Nat → List α} {s : Nat} : ∀ (n : Nat), (∀ i, i < n → (g i).length = s) → ((List.range n).flatMap g).length = n * s ∧ ∀ k c, ((List.range n).flatMap g)[k]? = some c → k / s < n ∧ (g (k / s))[k % s]? = some c := by
  intro n
  induction n with
  | zero => intro _; simp
  | succ n ih =>
    intro h
    obtain ⟨i1, i2⟩ := ih fun i hi => h i (by omega)
    rw [List.range_succ, List.flatMap_append]
    simp only [List.flatMap_singleton]
    refine ⟨by rw [List.length_append, i1, h n (by omega), Nat.succ_mul], fun k c hk => ?_⟩
    rw [List.getElem?_append] at hk
    split at hk
    · obtain ⟨j1, j2⟩ := i2 k c hk
      exact ⟨by omega, j2⟩
    · rename_i hlt
      rw [i1] at hk hlt
      have hlen : k - n * s < s := by
        have := (List.getElem?_eq_some_iff.1 hk).1
        rw [h n (by omega)] at this
        exact this
      have hs : 0 < s := by omega
      have e1 : k = (k - n * s) + n * s := by omega
      have e2 : k / s = n := by
        rw [e1, Nat.add_mul_div_right _ _ hs, Nat.div_eq_of_lt hlen, Nat.zero_add]
      have e3 : k % s = k - n * s := by
        rw [e1, Nat.add_mul_mod_self_right, Nat.mod_eq_of_lt (by omega)]
        omega
      rw [e2, e3]
      exact ⟨by omega, hk⟩

theorem load_val {t : TypeId} {av : AV} {cv : Value} {e : Eff} (h : loadE P s t av = some e) (hS : SR w0 W F ρ RO (hp s.H) w) (hv : VR ρ RO (hp s.H) av cv) :
    ∃ r, (Instr.loadAt t cv).run P w = .ok r w ∧ VR ρ RO (hp s.H) e.v r ∧ e.H = s.H ∧ e.ok = true := by
  unfold loadE at h
  split at h
  · rename_i ob i j
    split at h
    · rename_i o' hl
      cases hv with
      | ptr _ _ _ _ b off h0 hq =>
        obtain ⟨q1, q2, m, q3⟩ := hq o' hl
        rcases hS.obj ob o' hl with ⟨g1, _⟩ | ⟨b', m', arr, g1, g2, g3, g4, g5, g6, g7, g8, g9⟩
        · rw [g1] at q3; cases q3
        have eb : b' = b ∧ m' = m := by rw [g1] at q3; cases q3; exact ⟨rfl, rfl⟩
        obtain ⟨rfl, rfl⟩ := eb
        have hR : ObR ρ RO (hp s.H) o' arr := ⟨by rw [g5]; exact g6, g7, g8, g9⟩
        have hrow := hR.row q1
        have hle := row_le (s := o'.sz) q1
        split at h
        · rename_i n hag hsz
          split at h
          · rename_i hc
            split at h
            · rename_i hc2
              cases h
              obtain ⟨rfl, rfl, hn⟩ := hc2
              subst q2
              refine ⟨_, (by obtain ⟨f, _, g4⟩ := g4; exact run_load_agg hag hsz g4 (by omega)), ?_, rfl, rfl⟩
              obtain ⟨f1, f2⟩ := flat_get o'.n g7
              refine CR.agg' ⟨?_, fun k c v h1 h2 => ?_⟩
              · rw [f1]; simp; omega
              · obtain ⟨k1, k2⟩ := f2 k c h1
                refine g8 (k / o'.sz) (k % o'.sz) c v k1 k2 ?_
                rw [List.getElem?_take] at h2
                split at h2
                · rw [List.getElem?_drop] at h2
                  have : k / o'.sz * o'.sz + k % o'.sz = k := Nat.div_add_mod' k o'.sz
                  rw [this]
                  simpa using h2
                · cases h2
            · cases h
          · split at h
            · rename_i hj
              cases h
              subst q2
              refine ⟨_, (by obtain ⟨f, _, g4⟩ := g4; exact run_load_agg hag hsz g4 (by omega)), ?_, rfl, rfl⟩
              have := (hrow.drop j).take n
              refine CR.agg' ?_
              have e2 : ((List.drop j (List.take o'.sz (List.drop (i * o'.sz) arr.toList))).take n) = ((arr.toList.drop (i * o'.sz + j)).take n) := by
                rw [List.drop_take, List.drop_drop, List.take_take, Nat.min_eq_left (by omega)]
              rw [← e2]
              exact this
            · cases h
        · rename_i n hag hsz
          split at h
          · rename_i c hc
            cases h
            subst q2
            have hj : j < (o'.get i).length := (List.getElem?_eq_some_iff.1 hc).1
            rw [g7 i q1] at hj
            have hlt : i * o'.sz + j < arr.size := by omega
            have hcell : w.cell? ⟨b', i * o'.sz + j, none⟩ = some arr[i * o'.sz + j] := by
              rw [g4.cell]; simp [hlt]
            exact ⟨_, run_load_one hag hcell, g8 i j c _ q1 hc (by simp [hlt]), rfl, rfl⟩
          · cases h
        · cases h
    · cases h
  · rename_i cs j
    cases hv with
    | rp _ _ _ b off arr hb hs hq =>
      obtain ⟨ty, fr, hw⟩ := hS.ro b arr hb
      have hcr : CR ρ RO noHp cs ((arr.toList.drop off).take cs.length) := ⟨by simp; omega, fun k c v h1 h2 => hq k c v h1 (by
        rw [List.getElem?_take] at h2
        split at h2
        · rw [List.getElem?_drop] at h2; simpa using h2
        · cases h2)⟩
      split at h
      · rename_i n hag hsz
        split at h
        · rename_i hj
          cases h
          refine ⟨_, run_load_agg hag hsz hw (by omega), CR.agg' ?_, rfl, rfl⟩
          have := ((hcr.closed ρ (hp s.H)).drop j).take n
          rw [List.drop_take, List.drop_drop, List.take_take, Nat.min_eq_left (by omega)] at this
          exact this
        · cases h
      · rename_i n hag hsz
        split at h
        · rename_i c hc
          cases h
          have hj : j < cs.length := (List.getElem?_eq_some_iff.1 hc).1
          have hlt : off + j < arr.size := by omega
          have hcell : w.cell? ⟨b, off + j, none⟩ = some arr[off + j] := by rw [cell_of_row w b _ arr ty fr hw]; simp [hlt]
          exact ⟨_, run_load_one hag hcell, (hq j c _ hc (by simp [hlt])).closed _ _, rfl, rfl⟩
        · cases h
      · cases h
  · cases h

theorem load_sound {o : Oper} {t : TypeId} {x : Operand} {e : Eff} (ho : o.op = .load t x) (h : loadE P s t (s.op x) = some e) (hS : SR w0 W F ρ RO (hp s.H) w) (hT : TR ρ RO (hp s.H) s.tmps a) :
    Good P (execOp a.eval o) w0 W F ρ RO s.H w e := by
  obtain ⟨r, h1, h2, h3, h4⟩ := load_val h hS (op_sound hT x)
  obtain ⟨ok, v, H⟩ := e
  simp only at h3 h4
  subst h3; subst h4
  exact .same (run_load ho h1) hS h2

/-! ### Stores -/
theorem run_store {o : Oper} {t : TypeId} {x y : Operand} (ho : o.op = .store t x y) {w' : World} (h : (Instr.storeAt t (a.eval x) (a.eval y)).run P w = .ok () w') : (execOp a.eval o).run P w = .ok .skip w' := by
  unfold execOp
  simp only [ho, Sem.run_bind, h, Result.andThen_ok, Sem.run_pure]
theorem run_store_cells {t : TypeId} {b off : Nat} {arr : Array Value} {ty : TypeId} {v : Value} (hn : szT P t = some v.cells.size) (hw : CellsAt w b arr ty) (hs : off + v.cells.size ≤ arr.size) (h1 : ∀ u ∈ v.cells.toList, u.oneCell' = true) :
    (Instr.storeAt t (.pointer (some ⟨b, off, none⟩)) v).run P w = .ok () (w.setRow b (arr.toList.take off ++ v.cells.toList ++ arr.toList.drop (off + v.cells.size)).toArray) := by
  obtain ⟨i, hi, hz⟩ := szT_spec hn
  have := CellsAt.storing (P := P) (o := off) v.cells.toList 0 arr w hw (by simpa using hs) h1
  simp only [Nat.add_zero] at this
  simp only [Instr.storeAt, Instr.sureAddr, Sem.run_bind, Sem.run_pure, Result.andThen_ok]
  simp [storeVar, sizeOf, typeInfo, hi, hz, this]

theorem ObR.first {H : Hp} {ob : Ob} {arr : Array Value} {N : Nat} (h : ObR ρ RO H ob (arr.toList.take N).toArray) (hN : ob.n * ob.sz ≤ N) (hs : N ≤ arr.size) : ObR ρ RO H ob arr := by
  obtain ⟨h1, h2, h3, h4⟩ := h
  refine ⟨by omega, h2, fun i k a v hi e1 e2 => h3 i k a v hi e1 ?_, fun j v hj e => h4 j v hj ?_⟩
  · have hk : k < ob.sz := by have := (List.getElem?_eq_some_iff.1 e1).1; rwa [h2 i hi] at this
    have := row_le (s := ob.sz) hi
    rw [List.getElem?_toArray, List.getElem?_take, if_pos (by omega)]
    simpa using e2
  · rw [List.getElem?_toArray, List.getElem?_take, if_pos (by omega)]
    simpa using e
theorem store_sound {o : Oper} {t : TypeId} {x y : Operand} {e : Eff} (ho : o.op = .store t x y) (h : storeE P s t (s.op x) (s.op y) = some e) (hS : SR w0 W F ρ RO (hp s.H) w) (hT : TR ρ RO (hp s.H) s.tmps a) :
    Good P (execOp a.eval o) w0 W F ρ RO s.H w e := by
  have hv := op_sound hT x
  unfold storeE at h
  split at h
  · rename_i ob i j hx
    rw [hx] at hv
    split at h
    · rename_i o' hl
      generalize hce : a.eval x = cv at hv
      split at h
      · rename_i n hsz
        split at h
        · rename_i hc
          obtain ⟨c1, c2, c3, c4⟩ := hc
          cases h
          cases hv with
          | ptr _ _ _ _ b off h0 hq =>
            obtain ⟨q1, q2, m, q3⟩ := hq o' hl
            rcases hS.obj ob o' hl with ⟨g1, _⟩ | ⟨b', m', arr, g1, g2, g3, g4, g5, g6, g7, g8, g9⟩
            · rw [g1] at q3; cases q3
            have eb : b' = b ∧ m' = m := by rw [g1] at q3; cases q3; exact ⟨rfl, rfl⟩
            obtain ⟨rfl, rfl⟩ := eb
            subst q2
            have hR : ObR ρ RO (hp s.H) o' arr := ⟨by rw [g5]; exact g6, g7, g8, g9⟩
            have hle := row_le (s := o'.sz) q1
            have hcr := (op_sound hT y).cells (not_top_of_cells c2)
            have hcl : (a.eval y).cells.size = n := by have := hcr.1; rw [c1] at this; simpa using this.symm
            have hone := hcr.cell c2
            have hrun := run_store_cells (P := P) (w := w) (t := t) (off := i * o'.sz + j) (v := a.eval y) (by rw [hcl]; exact hsz) g4 (by rw [hcl]; omega) hone
            rw [hcl] at hrun
            generalize hvs : (a.eval y).cells.toList = vs at hcr hrun
            have hvl : vs.length = n := by rw [← hcr.1]; exact c1
            have hol := live_lt hl
            refine ⟨undef, _, ρ, .inr ⟨run_store ho (by rw [hce]; exact hrun), rfl⟩, .undefA, ?_, ?_, by simp, by simp⟩
            · show SR _ _ _ _ _ (hp (s.H.set ob _)) _
              rw [hp_set hol]
              refine hS.put hl g1 g4 rfl rfl rfl (by simp; omega) ?_
              have key : ∀ x : Nat, (arr.toList.take (i * o'.sz + j) ++ vs ++ arr.toList.drop (i * o'.sz + j + n))[x]? = if i * o'.sz + j ≤ x ∧ x < i * o'.sz + j + n then vs[x - (i * o'.sz + j)]? else arr[x]? := by
                intro x
                have hl1 : (arr.toList.take (i * o'.sz + j)).length = i * o'.sz + j := by simp; omega
                rw [List.append_assoc, List.getElem?_append, hl1]
                split
                · rename_i hx1
                  rw [List.getElem?_take, if_pos hx1, if_neg (by omega)]; simp
                · rename_i hx1
                  rw [List.getElem?_append, hvl]
                  split
                  · rename_i hx2; rw [if_pos (by omega)]
                  · rename_i hx2
                    rw [if_neg (by omega), List.getElem?_drop]
                    have : i * o'.sz + j + n + (x - (i * o'.sz + j) - n) = x := by omega
                    rw [this]; simp
              refine ⟨by simp [setRow]; omega, fun i2 hi2 => ?_, fun i2 k c v hi2 h1 h2 => ?_, fun j2 v hj2 h2 => ?_⟩
              rotate_left 2
              · rw [List.getElem?_toArray, key] at h2
                split at h2
                · exact hone v (by rw [hvs]; exact List.mem_of_getElem? h2)
                · exact g9 j2 v hj2 h2
              · have hgi : ((o'.get i).take j ++ cellsA (s.op y) ++ (o'.get i).drop (j + n)).length = o'.sz := by
                  have := g7 i q1
                  simp [c1, this]; omega
                unfold setRow
                cases hr : o'.row
                · simp only [hr]; exact hgi
                · simp only [hr, if_true]
                  split
                  · exact hgi
                  · exact g7 i2 hi2
              · have h2' : (if i * o'.sz + j ≤ i2 * o'.sz + k ∧ i2 * o'.sz + k < i * o'.sz + j + n then vs[i2 * o'.sz + k - (i * o'.sz + j)]? else arr[i2 * o'.sz + k]?) = some v := by
                  have h2a : (arr.toList.take (i * o'.sz + j) ++ vs ++ arr.toList.drop (i * o'.sz + j + n)).toArray[i2 * o'.sz + k]? = some v := h2
                  rw [← key]; rw [List.getElem?_toArray] at h2a; exact h2a
                have hi2' : i2 < o'.n := hi2
                by_cases hii : i2 = i
                · subst hii
                  have h1' : ((o'.get i2).take j ++ cellsA (s.op y) ++ (o'.get i2).drop (j + n))[k]? = some c := by
                    unfold setRow at h1
                    cases hr : o'.row <;> simpa [hr] using h1
                  have hl1 : ((o'.get i2).take j).length = j := by have := g7 i2 q1; simp [this]; omega
                  rw [List.append_assoc, List.getElem?_append, hl1] at h1'
                  by_cases hk1 : k < j
                  · rw [if_pos hk1, List.getElem?_take, if_pos hk1] at h1'
                    rw [if_neg (by omega)] at h2'
                    exact g8 i2 k c v q1 h1' h2'
                  · rw [if_neg hk1, List.getElem?_append, c1] at h1'
                    by_cases hk2 : k - j < n
                    · rw [if_pos hk2] at h1'
                      rw [if_pos (by omega)] at h2'
                      have : i2 * o'.sz + k - (i2 * o'.sz + j) = k - j := by omega
                      rw [this] at h2'
                      exact hcr.2 _ c v h1' h2'
                    · rw [if_neg hk2, List.getElem?_drop] at h1'
                      rw [if_neg (by omega)] at h2'
                      have : j + n + (k - j - n) = k := by omega
                      rw [this] at h1'
                      exact g8 i2 k c v q1 h1' h2'
                · -- another row
                  have hrow : o'.row = true := by
                    cases hr : o'.row with
                    | true => rfl
                    | false =>
                      rcases c4 with c4 | c4
                      · rw [hr] at c4; cases c4
                      · omega
                  have h1' : (o'.get i2)[k]? = some c := by
                    unfold setRow at h1
                    simpa [hrow, hii] using h1
                  have hk : k < o'.sz := by
                    have := (List.getElem?_eq_some_iff.1 h1').1
                    rwa [g7 i2 hi2'] at this
                  have hne : ¬ (i * o'.sz + j ≤ i2 * o'.sz + k ∧ i2 * o'.sz + k < i * o'.sz + j + n) := by
                    rintro ⟨z1, z2⟩
                    rcases Nat.lt_or_gt_of_ne hii with hlt | hgt
                    · have := row_le (s := o'.sz) hlt; omega
                    · have := row_le (s := o'.sz) hgt; omega
                  rw [if_neg hne] at h2'
                  exact g8 i2 k c v hi2' h1' h2'
            · show Ext _ _ _ _ _ (hp (s.H.set ob _))
              rw [hp_set hol]
              exact .put hl rfl rfl
        · split at h
          · rename_i hc
            obtain ⟨c1, c2, rfl, rfl, c5⟩ := hc
            split at h
            · rename_i o2 ho2
              split at h
              · rename_i hcc
                cases h
                rw [Bool.and_eq_true] at hcc
                have e1 := Nat.eq_of_beq_eq_true hcc.1
                have e2 := Nat.eq_of_beq_eq_true hcc.2
                cases hv with
                | ptr _ _ _ _ b off h0 hq =>
                  obtain ⟨q1, q2, m, q3⟩ := hq o' hl
                  rcases hS.obj ob o' hl with ⟨g1, _⟩ | ⟨b', m', arr, g1, g2, g3, g4, g5, g6, g7, g8, g9⟩
                  · rw [g1] at q3; cases q3
                  have eb : b' = b ∧ m' = m := by rw [g1] at q3; cases q3; exact ⟨rfl, rfl⟩
                  obtain ⟨rfl, rfl⟩ := eb
                  have q2' : off = 0 := by rw [q2, Nat.zero_mul]
                  subst q2'
                  have hcr := (op_sound hT y).cells (not_top_of_cells c2)
                  have hcl : (a.eval y).cells.size = n := by have := hcr.1; rw [c1] at this; simpa using this.symm
                  have hone := hcr.cell c2
                  have hrun := run_store_cells (P := P) (w := w) (t := t) (off := 0) (v := a.eval y) (by rw [hcl]; exact hsz) g4 (by rw [hcl]; omega) hone
                  rw [hcl] at hrun
                  generalize hvs : (a.eval y).cells.toList = vs at hcr hrun hone
                  have hvl : vs.length = n := by rw [← hcr.1]; exact c1
                  have hol := live_lt hl
                  obtain ⟨r1, r2, r3⟩ := newOb_rel ho2 hcr hone
                  refine ⟨undef, _, ρ, .inr ⟨run_store ho (by rw [hce]; exact hrun), rfl⟩, .undefA, ?_, ?_, by simp, by simp⟩
                  · show SR _ _ _ _ _ (hp (s.H.set ob _)) _
                    rw [hp_set hol]
                    refine hS.put hl g1 g4 e2 e1 r1 (by simp; omega) ?_
                    refine ObR.first (N := n) ?_ (by rw [e1, e2]; omega) (by simp; omega)
                    have : (arr.toList.take 0 ++ vs ++ arr.toList.drop (0 + n)).toArray.toList.take n = vs := by
                      have e0 : arr.toList.take 0 ++ vs ++ arr.toList.drop (0 + n) = vs ++ arr.toList.drop (0 + n) := rfl
                      rw [e0, ← hvl]
                      exact List.take_left
                    rw [this]
                    exact r3
                  · show Ext _ _ _ _ _ (hp (s.H.set ob _))
                    rw [hp_set hol]
                    exact .put hl e2 e1
              · cases h
            · cases h
          · cases h
      · cases h
    · cases h
  · cases h
end
end Go.Proofs.Ytbcnifnmccaleaa.Fw
