/- What the evaluator says of values and memory is so: laws on rows, new objects, stores. -/
import Derived.Test.YtbcnifnmccaleaaFwB
import Derived.Great.BuildSlice
import Derived.Deep.MidRow
import Derived.Laws.World
import Derived.Deep.Draws
namespace Go.Proofs.Ytbcnifnmccaleaa.Fw
open Go Go.RowKit
set_option linter.unusedVariables false

section
variable {ρ : Pm} {RO : RoMap} {H : Hp}

/-- Cells, one by one. -/
def CR (ρ : Pm) (RO : RoMap) (H : Hp) (cs : List AV) (vs : List Value) : Prop := cs.length = vs.length ∧ ∀ (k : Nat) c v, cs[k]? = some c → vs[k]? = some v → VR ρ RO H c v

theorem CR.nil : CR ρ RO H [] [] := ⟨rfl, fun k c v h _ => by simp at h⟩
theorem CR.cons {c v cs vs} (h : VR ρ RO H c v) (hs : CR ρ RO H cs vs) : CR ρ RO H (c :: cs) (v :: vs) :=
  ⟨by simp [hs.1], fun k c' v' h1 h2 => by
    cases k with
    | zero => simp at h1 h2; subst h1; subst h2; exact h
    | succ k => simp at h1 h2; exact hs.2 k c' v' h1 h2⟩
theorem CR.take {cs vs} (h : CR ρ RO H cs vs) (n : Nat) : CR ρ RO H (cs.take n) (vs.take n) :=
  ⟨by simp [h.1], fun k c v h1 h2 => by
    rw [List.getElem?_take] at h1 h2
    split at h1 <;> simp_all
    exact h.2 k c v h1 h2⟩
theorem CR.drop {cs vs} (h : CR ρ RO H cs vs) (n : Nat) : CR ρ RO H (cs.drop n) (vs.drop n) :=
  ⟨by simp [h.1], fun k c v h1 h2 => by
    rw [List.getElem?_drop] at h1 h2
    exact h.2 _ c v h1 h2⟩
theorem CR.append {cs vs cs' vs'} (h : CR ρ RO H cs vs) (h' : CR ρ RO H cs' vs') : CR ρ RO H (cs ++ cs') (vs ++ vs') :=
  ⟨by simp [h.1, h'.1], fun k c v h1 h2 => by
    rw [List.getElem?_append] at h1 h2
    rw [← h.1] at h2
    split at h1
    · rename_i hk; rw [if_pos hk] at h2; exact h.2 k c v h1 h2
    · rename_i hk; rw [if_neg hk] at h2; exact h'.2 _ c v h1 h2⟩
theorem CR.ext {cs vs ρ' RO' H'} (h : CR ρ RO H cs vs) (e : Ext ρ RO H ρ' RO' H') : CR ρ' RO' H' cs vs := ⟨h.1, fun k c v h1 h2 => (h.2 k c v h1 h2).ext e.1 _ e⟩
theorem CR.closed {cs vs} (h : CR ρ RO noHp cs vs) (ρ' : Pm) (H : Hp) : CR ρ' RO H cs vs := ⟨h.1, fun k c v h1 h2 => (h.2 k c v h1 h2).closed ρ' H⟩
theorem CR.agg {cs : List AV} {vs : Array Value} (h : CR ρ RO H cs vs.toList) : VR ρ RO H (.agg cs) (.agg vs) := .agg H cs vs (by simpa using h.1) fun k c v h1 h2 => h.2 k c v h1 (by simpa using h2)
theorem CR.agg' {cs : List AV} {vs : List Value} (h : CR ρ RO H cs vs) : VR ρ RO H (.agg cs) (.agg vs.toArray) := .agg H cs _ (by simpa using h.1) fun k c v h1 h2 => h.2 k c v h1 (by simpa using h2)
theorem VR.aggCR {cs : List AV} {v : Value} (h : VR ρ RO H (.agg cs) v) : ∃ vs : Array Value, v = .agg vs ∧ CR ρ RO H cs vs.toList := by
  cases h with
  | agg _ _ vs hl h => exact ⟨vs, rfl, by simpa using hl, fun k c v h1 h2 => h k c v h1 (by simpa using h2)⟩
theorem VR.tupCR {cs : List AV} {v : Value} (h : VR ρ RO H (.tup cs) v) : ∃ vs : Array Value, v = .tuple vs ∧ CR ρ RO H cs vs.toList := by
  cases h with
  | tup _ _ vs hl h => exact ⟨vs, rfl, by simpa using hl, fun k c v h1 h2 => h k c v h1 (by simpa using h2)⟩
theorem VR.fnCR {f} {cs : List AV} {v : Value} (h : VR ρ RO H (.fn f cs) v) : ∃ vs : Array Value, v = .func (.func f) #[] vs ∧ CR ρ RO H cs vs.toList := by
  cases h with
  | fn _ _ _ vs hl h => exact ⟨vs, rfl, by simpa using hl, fun k c v h1 h2 => h k c v h1 (by simpa using h2)⟩
theorem CR.tup' {cs : List AV} {vs : List Value} (h : CR ρ RO H cs vs) : VR ρ RO H (.tup cs) (.tuple vs.toArray) := .tup H cs _ (by simpa using h.1) fun k c v h1 h2 => h.2 k c v h1 (by simpa using h2)

theorem VR.val_eq {v u : Value} (h : VR ρ RO H (.val v) u) : u = v := by cases h; rfl

theorem VR.undefA : VR ρ RO H undefA undef := .tup H [] #[] rfl fun k c v h _ => by simp at h

theorem VR.cellV (c : Value) : VR ρ RO H (cellV c) c := by
  unfold Fw.cellV
  split
  · exact .val H c (by assumption)
  · exact .top H c

theorem CR.cellsV : ∀ l : List Value, CR ρ RO H (l.map cellV) l
  | [] => .nil
  | c :: r => .cons (.cellV c) (CR.cellsV r)

theorem VR.ofV (v : Value) : VR ρ RO H (ofV v) v := by
  cases v <;> first
    | exact .val H _ rfl
    | exact (CR.cellsV _).agg
    | (rename_i vs; have := (CR.cellsV (ρ := ρ) (RO := RO) (H := H) vs.toList).tup'; simpa [Fw.ofV] using this)

/-- A value's cells, unless nothing is known of it. -/
theorem VR.cells {a : AV} {v : Value} (h : VR ρ RO H a v) (ht : a ≠ .top) : CR ρ RO H (cellsA a) v.cells.toList := by
  have one : ∀ {a : AV} {v : Value}, VR ρ RO H a v → cellsA a = [a] → v.cells = #[v] → CR ρ RO H (cellsA a) v.cells.toList := by
    intro a v h h1 h2; rw [h1, h2]; exact .cons h .nil
  cases h with
  | agg _ cs vs hl h => exact ⟨by simpa [cellsA, Value.cells] using hl, fun k c v h1 h2 => h k c v h1 (by simpa [Value.cells] using h2)⟩
  | top => exact absurd rfl ht
  | val _ v h0 => cases v <;> first | exact one (.val H _ h0) rfl rfl | cases h0
  | tup _ cs vs hl h => exact one (.tup H cs vs hl h) rfl rfl
  | fn _ f cs vs hl h => exact one (.fn H f cs vs hl h) rfl rfl
  | ptr _ o i j b off h0 h => exact one (.ptr H o i j b off h0 h) rfl rfl
  | rp _ cs j b off arr hb hs h => exact one (.rp H cs j b off arr hb hs h) rfl rfl
  | slc _ o lo n n' cap b off c h0 hn hk hc h => exact one (.slc H o lo n n' cap b off c h0 hn hk hc h) rfl rfl
  | slc0 _ o n' cap a h0 hk hc h => exact one (.slc0 H o n' cap a h0 hk hc h) rfl rfl
  | lst _ sz n cap get b off c arr hb hn hc hs hg h1 h => exact one (.lst H sz n cap get b off c arr hb hn hc hs hg h1 h) rfl rfl
  | lst0 _ sz cap get a hc => exact one (.lst0 H sz cap get a hc) rfl rfl
  | mp _ o b h0 h => exact one (.mp H o b h0 h) rfl rfl
  | itr _ o b h0 h => exact one (.itr H o b h0 h) rfl rfl

theorem ofV_ne_top (v : Value) : Fw.ofV v ≠ .top := by cases v <;> simp [Fw.ofV]
theorem not_top_of_cells {a : AV} (h : (cellsA a).all isCell = true) : a ≠ .top := by rintro rfl; simp [cellsA, isCell] at h

theorem CR.cell {cs : List AV} {vs : List Value} (h : CR ρ RO H cs vs) (hc : cs.all isCell = true) : ∀ v ∈ vs, v.oneCell' = true := by
  intro v hv
  obtain ⟨k, hk, rfl⟩ := List.getElem_of_mem hv
  have hk' : k < cs.length := by rw [h.1]; exact hk
  exact (h.2 k cs[k] vs[k] (by simp [hk']) (by simp [hk])).cell (by simp only [List.all_eq_true] at hc; exact hc _ (List.getElem_mem hk'))

theorem valsV_eq : ∀ {l : List AV} {us : List Value} {vs : List Value}, valsV l = some us → CR ρ RO H l vs → vs = us
  | [], us, vs, h, hc => by
    simp [valsV] at h
    subst h
    have := hc.1
    exact List.eq_nil_of_length_eq_zero (by simpa using this.symm)
  | a :: r, us, vs, h, hc => by
    cases a <;> simp only [valsV] at h <;> try (cases h; done)
    rename_i v
    cases hr : valsV r with
    | none => simp [hr] at h
    | some l =>
      simp [hr] at h
      subst h
      cases vs with
      | nil => have := hc.1; simp at this
      | cons u vs =>
        have h0 := (hc.2 0 (.val v) u rfl rfl).val_eq
        have hr' : CR ρ RO H r vs := ⟨by have := hc.1; simpa using this, fun k c w h1 h2 => hc.2 (k + 1) c w (by simpa using h1) (by simpa using h2)⟩
        rw [h0, valsV_eq hr hr']

theorem toV_eq {a : AV} {u v : Value} (h : toV a = some u) (hv : VR ρ RO H a v) : v = u := by
  cases a <;> simp only [toV] at h <;> try (cases h; done)
  case val w => rw [hv.val_eq]; exact Option.some.inj h
  case agg cs =>
    obtain ⟨vs, rfl, hc⟩ := hv.aggCR
    cases hr : valsV cs with
    | none => simp [hr] at h
    | some l => simp [hr] at h; subst h; have := valsV_eq hr hc; rw [← this]
end

theorem pureOf_run {P : Program} {α : Type} : ∀ {x : Sem α} {a : α}, pureOf P x = some a → ∀ w, x.run P w = .ok a w := by
  intro x
  induction x with
  | pure b => intro a h w; simp [pureOf] at h; subst h; simp [Sem.run]
  | program k ih => intro a h w; simp only [pureOf] at h; simp only [Sem.run]; exact ih _ h w
  | _ => intro a h; simp [pureOf] at h

/-! ### Rows of an object -/
/-- The object's cells stand in the array. -/
def ObR (ρ : Pm) (RO : RoMap) (H : Hp) (ob : Ob) (arr : Array Value) : Prop :=
  ob.n * ob.sz ≤ arr.size ∧ (∀ i, i < ob.n → (ob.get i).length = ob.sz) ∧ (∀ (i k : Nat) a v, i < ob.n → (ob.get i)[k]? = some a → arr[i * ob.sz + k]? = some v → VR ρ RO H a v) ∧ ∀ (j : Nat) v, j < ob.n * ob.sz → arr[j]? = some v → v.oneCell' = true

theorem row_le {i n s : Nat} (h : i < n) : i * s + s ≤ n * s := by
  have := Nat.mul_le_mul_right s (Nat.succ_le_of_lt h)
  rw [Nat.succ_mul] at this
  exact this

section
variable {ρ : Pm} {RO : RoMap} {H : Hp} {ob : Ob} {arr : Array Value}
theorem ObR.row (h : ObR ρ RO H ob arr) {i : Nat} (hi : i < ob.n) : CR ρ RO H (ob.get i) ((arr.toList.drop (i * ob.sz)).take ob.sz) := by
  have hl := row_le (s := ob.sz) hi
  have h1 := h.1
  refine ⟨by rw [h.2.1 i hi]; simp; omega, fun k c v h2 h3 => ?_⟩
  rw [List.getElem?_take] at h3
  split at h3
  · rw [List.getElem?_drop] at h3
    exact h.2.2.1 i k c v hi h2 (by simpa using h3)
  · cases h3
theorem ObR.ext {ρ' RO' H'} (h : ObR ρ RO H ob arr) (e : Ext ρ RO H ρ' RO' H') : ObR ρ' RO' H' ob arr :=
  ⟨h.1, h.2.1, fun i k a v hi h1 h2 => (h.2.2.1 i k a v hi h1 h2).ext e.1 _ e, h.2.2.2⟩

theorem intsOf_spec (k : IntKind) : ∀ {l : List AV} {ns : List Int}, intsOf k l = some ns → ns.length = l.length ∧ ∀ i : Nat, l[i]? = (ns[i]?).map fun n => AV.val (.int k n)
  | [], ns, h => by simp [intsOf] at h; subst h; simp
  | a :: r, ns, h => by
    unfold intsOf at h
    split at h
    · rename_i he; cases he
    · rename_i k' n r' he
      cases he
      split at h
      · rename_i hk
        subst hk
        cases hr : intsOf k' r with
        | none => simp [hr] at h
        | some l =>
          simp [hr] at h
          subst h
          obtain ⟨h1, h2⟩ := intsOf_spec k' hr
          refine ⟨by simp [h1], fun i => ?_⟩
          cases i with
          | zero => simp
          | succ i => simpa using h2 i
      · cases h
    · cases h

theorem newOb_rel {P : Program} {t : TypeId} {cells : List AV} {vs : List Value} (h : newOb P t cells = some ob) (hc : CR ρ RO H cells vs) (hone : ∀ v ∈ vs, v.oneCell' = true) :
    ob.ty = t ∧ ob.n * ob.sz = vs.length ∧ ObR ρ RO H ob vs.toArray := by
  have hone' : ∀ (m : Nat) (j : Nat) v, j < m → vs.toArray[j]? = some v → v.oneCell' = true := fun m j v _ hv => hone v (List.mem_of_getElem? (by simpa using hv))
  unfold newOb at h
  split at h
  · rename_i len e _
    split at h
    · rename_i sz _
      split at h
      · cases h
      · rename_i hn
        have hn1 : sz ≠ 0 := fun e => hn (.inl e)
        have hn2 : cells.length = len * sz := Classical.byContradiction fun e => hn (.inr (.inr e))
        have big : ∀ {o : Ob} {lt : Option Nat}, some (⟨true, t, sz, len, fun i => (cells.drop (i * sz)).take sz, lt⟩ : Ob) = some o → o.ty = t ∧ o.n * o.sz = vs.length ∧ ObR ρ RO H o vs.toArray := by
          intro o lt ho
          cases ho
          refine ⟨rfl, by rw [← hc.1, hn2], ?_, fun i hi => ?_, fun i k a v hi h1 h2 => ?_, hone' _⟩
          · show len * sz ≤ vs.toArray.size
            rw [← hn2, hc.1]; simp
          · have := row_le (s := sz) (show i < len from hi)
            simp [hn2]; omega
          · rw [List.getElem?_take] at h1
            split at h1
            · rw [List.getElem?_drop] at h1
              exact hc.2 _ a v h1 (by simpa using h2)
            · cases h1
        split at h
        · rename_i k x r
          split at h
          · rename_i ns hns
            split at h
            · rename_i h1
              subst h1
              cases h
              obtain ⟨g1, g2⟩ := intsOf_spec k hns
              refine ⟨rfl, by rw [← hc.1, hn2], ?_, fun i hi => rfl, fun i kk a v hi h1 h2 => ?_, hone' _⟩
              · show len * 1 ≤ vs.toArray.size
                rw [← hn2, hc.1]; simp
              · cases kk with
                | zero =>
                  have ha : a = .val (.int k (ns.getD i 0)) := by have h1' : some (AV.val (.int k (ns.getD i 0))) = some a := h1; exact (Option.some.inj h1').symm
                  have hi' : i < ns.length := by rw [g1, hn2]; simpa using hi
                  have := g2 i
                  rw [List.getElem?_eq_getElem hi'] at this
                  have e := hc.2 i _ v (by rw [this]; rfl) (by simpa using h2)
                  have e2 : ns.getD i 0 = ns[i] := by simp [List.getD, List.getElem?_eq_getElem hi']
                  rw [ha, e2]; exact e
                | succ kk => simp at h1
            · exact big h
          · exact big h
        · exact big h
        · exact big h
    · cases h
  · cases h
    refine ⟨rfl, by simpa using hc.1, by simp [hc.1], fun i hi => rfl, fun i k a v hi h1 h2 => ?_, hone' _⟩
    have : i = 0 := by simpa using hi
    subst this
    exact hc.2 k a v h1 (by simpa using h2)
  · cases h
end

/-! ### The table grows, and turns -/
def upd (H : Hp) (o : Nat) (e : Ent) : Hp := fun k => if k = o then e else H k
def updP (ρ : Pm) (o : Nat) (p : Option Pl) : Pm := fun k => if k = o then p else ρ k

section
variable {w0 w : World} {W : Nat → Prop} {F : RoMap} {ρ : Pm} {RO : RoMap} {H : Hp}

theorem Ext.new {pos : Nat} (hf : H pos = .free) (p : Option Pl) (e : Ent) : Ext ρ RO H (updP ρ pos p) RO (upd H pos e) := by
  refine ⟨fun _ _ h => h, fun o ho => ?_, fun o ho _ => ?_⟩
  · have hne : o ≠ pos := fun h => ho (h ▸ hf)
    refine ⟨by simpa [upd, hne] using ho, fun ob' hl => ?_⟩
    rw [show upd H pos e o = H o by simp [upd, hne]] at hl
    exact ⟨by simp [updP, hne], ob', hl, rfl, rfl⟩
  · have hne : o ≠ pos := fun h => ho (h ▸ hf)
    exact ⟨by simp [updP, hne], by simp [upd, hne]⟩

theorem Ext.put {o : Nat} {ob ob' : Ob} (hl : H o = .live ob) (hs : ob'.sz = ob.sz) (hn : ob'.n = ob.n) : Ext ρ RO H ρ RO (upd H o (.live ob')) := by
  refine ⟨fun _ _ h => h, fun k hk => ?_, fun k hk h3 => ?_⟩
  · by_cases h : k = o
    · subst h
      refine ⟨by simp [upd], fun x hx => ?_⟩
      simp [upd] at hx
      subst hx
      exact ⟨rfl, ob, hl, hs, hn⟩
    · refine ⟨by simpa [upd, h] using hk, fun x hx => ?_⟩
      rw [show upd H o (.live ob') k = H k by simp [upd, h]] at hx
      exact ⟨rfl, x, hx, rfl, rfl⟩
  · by_cases h : k = o
    · subst h; simp [upd, Ent.kind] at h3
    · exact ⟨rfl, by simp [upd, h]⟩

theorem Ext.kill {o : Nat} : Ext ρ RO H ρ RO (upd H o .dead) := by
  refine ⟨fun _ _ h => h, fun k hk => ?_, fun k hk h3 => ?_⟩
  · by_cases h : k = o
    · subst h
      exact ⟨by simp [upd], fun x hx => by simp [upd] at hx⟩
    · refine ⟨by simpa [upd, h] using hk, fun x hx => ?_⟩
      rw [show upd H o .dead k = H k by simp [upd, h]] at hx
      exact ⟨rfl, x, hx, rfl, rfl⟩
  · by_cases h : k = o
    · subst h; simp [upd, Ent.kind] at h3
    · exact ⟨rfl, by simp [upd, h]⟩
/-- Maps, where an entry is put that is none. -/
theorem MapsOk.upd {Bk : Nat → Prop} {w' : World} (h : MapsOk Bk ρ RO H w) {pos : Nat} {e : Ent} {ρ' : Pm} (he : e.kind = 0) (hρ : ∀ o, o ≠ pos → ρ' o = ρ o) (hk : ∀ (b : Nat) (o : Obj), w.heap[b]? = some o → isCells o = false → w'.heap[b]? = some o) (he2 : e ≠ .free := by intro h; cases h) : MapsOk Bk ρ' RO (upd H pos e) w' :=
  h.mono (fun _ _ h => h) hk (fun o ho => by
    have hne : o ≠ pos := fun e2 => by subst e2; simp [Fw.upd] at ho; exact ho he
    exact ⟨by simp [Fw.upd, hne], hρ o hne⟩) fun o q left _ hq => by
    by_cases h1 : q = pos
    · simp [Fw.upd, h1]; exact he2
    · simpa [Fw.upd, h1] using hq

theorem SR.ro_lt (h : SR w0 W F ρ RO H w) {b arr} (hb : RO b = some arr) : b < w.heap.size := by
  obtain ⟨t, f, e⟩ := h.ro b arr hb
  rcases Nat.lt_or_ge b w.heap.size with h' | h'
  · exact h'
  · rw [Array.getElem?_eq_none h'] at e; cases e

theorem SR.drew (h : SR w0 W F ρ RO H w) (n : Nat) : SR w0 W F ρ RO H (w.drewN n) := ⟨h.os, h.tape, h.output, h.size, h.kept, h.obj, h.inj, h.ro, h.old, h.fix, h.mo.mono (fun _ _ h => h) (fun _ _ h _ => h) fun _ _ => ⟨rfl, rfl⟩⟩
theorem SR.drew1 (h : SR w0 W F ρ RO H w) : SR w0 W F ρ RO H w.drew := ⟨h.os, h.tape, h.output, h.size, h.kept, h.obj, h.inj, h.ro, h.old, h.fix, h.mo.mono (fun _ _ h => h) (fun _ _ h _ => h) fun _ _ => ⟨rfl, rfl⟩⟩

/-- Fewer objects: nothing is lost. -/
theorem SR.less {H' : Hp} (h : SR w0 W F ρ RO H w) (e : Ext ρ RO H ρ RO H') (hl : ∀ o ob, H' o = .live ob → H o = .live ob) (hm : ∀ o, (H' o).kind ≠ 0 → H' o = H o) : SR w0 W F ρ RO H' w :=
  ⟨h.os, h.tape, h.output, h.size, h.kept, fun o ob hob => by
    rcases h.obj o ob (hl o ob hob) with hg | ⟨b, m, arr, h1, h2, h3, h4, h5, h6, h7, h8, h9⟩
    · exact .inl hg
    · exact .inr ⟨b, m, arr, h1, h2, h3, h4, h5, h6, h7, fun i k a v hi g1 g2 => (h8 i k a v hi g1 g2).ext e.1 _ e, h9⟩,
   fun o o' ob ob' b m m' h1 h2 => h.inj o o' ob ob' b m m' (hl o ob h1) (hl o' ob' h2), h.ro, h.old, h.fix, h.mo.mono (fun _ _ h => h) (fun _ _ h _ => h) (fun o ho => ⟨hm o ho, rfl⟩) fun _ q _ _ hq => (e.2.1 q hq).1⟩

theorem heap_alloc_of {o : Obj} {k : Nat} {x : Obj} (h : w.heap[k]? = some x) : (w.alloc o).heap[k]? = some x := by
  have hk : k < w.heap.size := by
    rcases Nat.lt_or_ge k w.heap.size with h' | h'
    · exact h'
    · rw [Array.getElem?_eq_none h'] at h; cases h
  rw [Below.heap_alloc w o k hk, h]

theorem CellsAt.of {b : Nat} {arr : Array Value} {t : TypeId} (h : w.heap[b]? = some (.cells arr t (0, 0))) : CellsAt w b arr t := ⟨_, .inl rfl, h⟩
theorem CellsAt.lt {b : Nat} {arr : Array Value} {t : TypeId} (h : CellsAt w b arr t) : b < w.heap.size := by
  obtain ⟨f, _, h⟩ := h
  exact (Array.getElem?_eq_some_iff.1 h).1
theorem CellsAt.cell {b : Nat} {arr : Array Value} {t : TypeId} (h : CellsAt w b arr t) (j : Nat) : w.cell? ⟨b, j, none⟩ = arr[j]? := by
  obtain ⟨f, _, h⟩ := h
  exact cell_of_row w b j arr t f h
theorem CellsAt.frozen {b : Nat} {arr : Array Value} {t : TypeId} (h : CellsAt w b arr t) {j : Nat} (hj : j < arr.size) : w.frozen? ⟨b, j, none⟩ = false := by
  obtain ⟨⟨lo, hi⟩, hf, h⟩ := h
  simp only [World.frozen?, h, Bool.and_eq_false_iff, decide_eq_false_iff_not]
  rcases hf with e | e
  · cases e; right; omega
  · left; simp only at e; omega
theorem CellsAt.self {b : Nat} {arr : Array Value} {t : TypeId} (h : CellsAt w b arr t) : w.setRow b arr = w := by
  obtain ⟨f, _, h⟩ := h
  exact setRow_self w b arr t f h
theorem CellsAt.row {b : Nat} {arr arr' : Array Value} {t : TypeId} (h : CellsAt w b arr t) (hs : arr'.size = arr.size) : CellsAt (w.setRow b arr') b arr' t := by
  obtain ⟨f, hf, h⟩ := h
  exact ⟨f, by rw [hs]; exact hf, setRow_heap w b arr arr' t f h⟩
theorem CellsAt.other {b g : Nat} {arr arr' : Array Value} {t : TypeId} (h : CellsAt w b arr t) (hne : b ≠ g) : CellsAt (w.setRow g arr') b arr t := by
  obtain ⟨f, hf, h⟩ := h
  exact ⟨f, hf, by rw [setRow_other w g b arr' hne]; exact h⟩
theorem CellsAt.alloc {b : Nat} {arr : Array Value} {t : TypeId} (h : CellsAt w b arr t) (o : Obj) : CellsAt (w.alloc o) b arr t := by
  obtain ⟨f, hf, h⟩ := h
  exact ⟨f, hf, heap_alloc_of h⟩
theorem CellsAt.at {w' : World} {b : Nat} {arr : Array Value} {t : TypeId} (h : CellsAt w b arr t) (e : w'.heap[b]? = w.heap[b]?) : CellsAt w' b arr t := by
  obtain ⟨f, hf, h⟩ := h
  exact ⟨f, hf, by rw [e]; exact h⟩
theorem CellsAt.inj {b : Nat} {arr arr' : Array Value} {t t' : TypeId} (h : CellsAt w b arr t) (h' : CellsAt w b arr' t') : arr = arr' := by
  obtain ⟨f, hf, h⟩ := h
  obtain ⟨f', hf', h'⟩ := h'
  rw [h] at h'
  cases h'; rfl
theorem CellsAt.storing {P : Program} {g o : Nat} {t : TypeId} : ∀ (vs : List Value) (i : Nat) (cur : Array Value) (w : World), CellsAt w g cur t → o + i + vs.length ≤ cur.size → (∀ v ∈ vs, v.oneCell' = true) →
    (storeCells ⟨g, o, none⟩ vs i).run P w = .ok () (w.setRow g (cur.toList.take (o + i) ++ vs ++ cur.toList.drop (o + i + vs.length)).toArray)
  | [], i, cur, w, hg, _, _ => by
    simp only [storeCells, List.append_nil, List.length_nil, Nat.add_zero, List.take_append_drop, Array.toArray_toList]
    rw [hg.self]
    rfl
  | v :: rest, i, cur, w, hg, hl, h1 => by
    have hi : o + i < cur.size := by simp at hl; omega
    have hadd : (⟨g, o, none⟩ : Addr).add i = ⟨g, o + i, none⟩ := by unfold Addr.add; split <;> simp_all
    have hcell : w.cell? ⟨g, o + i, none⟩ = some cur[o + i] := by rw [hg.cell]; simp [hi]
    have hfro := hg.frozen hi
    have hst : (store ((⟨g, o, none⟩ : Addr).add i) v).run P w = .ok () (w.setRow g (cur.setIfInBounds (o + i) v)) := by
      rw [hadd, run_store P w _ v _ (h1 v (by simp)), hcell]
      obtain ⟨f, _, hg'⟩ := hg
      simp [hfro, setCell_eq_setRow w g (o + i) cur t f v hg']
    have ih := CellsAt.storing (P := P) (o := o) rest (i + 1) (cur.setIfInBounds (o + i) v) (w.setRow g (cur.setIfInBounds (o + i) v)) (hg.row (by simp)) (by simp at hl ⊢; omega) (fun x hx => h1 x (by simp [hx]))
    simp only [storeCells, Sem.run_bind, hst, Result.andThen_ok, ih, setRow_setRow]
    congr 3
    have e := list_seg_step cur.toList (o + i) v rest (by simp at hl ⊢; omega)
    simpa [Array.toList_setIfInBounds, Nat.add_assoc] using e

/-- A new object in a new block. -/
theorem SR.new {pos : Nat} {ob : Ob} {arr : Array Value} (h : SR w0 W F ρ RO H w) (hf : H pos = .free) (hob : ObR ρ RO H ob arr) :
    SR w0 W F (updP ρ pos (some ⟨w.heap.size, arr.size⟩)) RO (upd H pos (.live ob)) (w.alloc (.cells arr ob.ty)) := by
  have E : Ext ρ RO H (updP ρ pos (some ⟨w.heap.size, arr.size⟩)) RO (upd H pos (.live ob)) := Ext.new hf _ _
  have old : ∀ o ob', o ≠ pos → upd H pos (.live ob) o = .live ob' → H o = .live ob' := fun o ob' hne hl => by simpa [upd, hne] using hl
  have lt : ∀ o ob' b m, H o = .live ob' → ρ o = some ⟨b, m⟩ → b < w.heap.size := by
    intro o ob' b m hl hp
    rcases h.obj o ob' hl with ⟨hg, _⟩ | ⟨b', m', arr', h1, h2, h3, h4, _⟩
    · rw [hg] at hp; cases hp
    · have e : b' = b := by rw [h1] at hp; cases hp; rfl
      rw [← e]
      exact h4.lt
  refine ⟨h.os, h.tape, h.output, ?_, ?_, ?_, ?_, ?_, h.old, h.fix, h.mo.upd rfl (fun o ho => by simp [updP, ho]) (fun b o e _ => heap_alloc_of e)⟩
  · have := h.size; simp; omega
  · intro k hk hW
    rw [Below.heap_alloc w _ k (Nat.lt_of_lt_of_le hk h.size)]
    exact h.kept k hk hW
  · intro o ob' hl
    by_cases ho : o = pos
    · subst ho
      have : ob = ob' := by simpa [upd] using hl
      subst this
      refine .inr ⟨w.heap.size, arr.size, arr, by simp [updP], ?_, .inl h.size, .of (heap_alloc_last w _), rfl, hob.1, hob.2.1, (hob.ext E).2.2⟩
      cases hr : RO w.heap.size with
      | none => rfl
      | some a => exact absurd (h.ro_lt hr) (by omega)
    · rcases h.obj o ob' (old o ob' ho hl) with ⟨g1, g2⟩ | ⟨b, m, arr', h1, h2, h3, h4, h5, h6, h7, h8, h9⟩
      · exact .inl ⟨by simp [updP, ho, g1], g2⟩
      · exact .inr ⟨b, m, arr', by simp [updP, ho, h1], h2, h3, h4.alloc _, h5, h6, h7, fun i k a v hi e1 e2 => (h8 i k a v hi e1 e2).ext E.1 _ E, h9⟩
  · intro o o' ob1 ob2 b m m' h1 h2 h3 h4
    by_cases ho : o = pos <;> by_cases ho' : o' = pos
    · rw [ho, ho']
    · subst ho
      simp [updP] at h3
      rw [show updP ρ o (some ⟨w.heap.size, arr.size⟩) o' = ρ o' by simp [updP, ho']] at h4
      have := lt o' ob2 b m' (old o' ob2 ho' h2) h4
      omega
    · subst ho'
      simp [updP] at h4
      rw [show updP ρ o' (some ⟨w.heap.size, arr.size⟩) o = ρ o by simp [updP, ho]] at h3
      have := lt o ob1 b m (old o ob1 ho h1) h3
      omega
    · exact h.inj o o' ob1 ob2 b m m' (old o ob1 ho h1) (old o' ob2 ho' h2) (by simpa [updP, ho] using h3) (by simpa [updP, ho'] using h4)
  · intro b a hb
    obtain ⟨t, f, e⟩ := h.ro b a hb
    exact ⟨t, f, heap_alloc_of e⟩

/-- A new object in a new block, however it came. -/
theorem SR.newW {pos : Nat} {ob : Ob} {arr : Array Value} {w' : World} (h : SR w0 W F ρ RO H w) (hf : H pos = .free) (hob : ObR ρ RO H ob arr) (hos : w'.os = w.os) (htp : w'.tape = w.tape) (hout : w'.output = w.output) (hsz : w'.heap.size = w.heap.size + 1) (hold : ∀ k, k < w.heap.size → w'.heap[k]? = w.heap[k]?) (hnew : CellsAt w' w.heap.size arr ob.ty) :
    SR w0 W F (updP ρ pos (some ⟨w.heap.size, arr.size⟩)) RO (upd H pos (.live ob)) w' := by
  have S := h.new hf hob
  have hk : ∀ k, k < w.heap.size → w'.heap[k]? = (w.alloc (.cells arr ob.ty)).heap[k]? := fun k hk => by rw [hold k hk, Below.heap_alloc w _ k hk]
  refine ⟨hos.trans h.os, htp.trans h.tape, hout.trans h.output, by have := h.size; omega, fun k hk hW => ?_, fun o ob' hl => ?_, S.inj, fun b a hb => ?_, S.old, S.fix, h.mo.upd rfl (fun o ho => by simp [updP, ho]) (fun b o e _ => by rw [hold b (by rcases Nat.lt_or_ge b w.heap.size with h' | h'; exact h'; rw [Array.getElem?_eq_none h'] at e; cases e)]; exact e)⟩
  · rw [hold k (Nat.lt_of_lt_of_le hk h.size)]; exact h.kept k hk hW
  · rcases S.obj o ob' hl with hg | ⟨b, m, arr', h1, h2, h3, h4, h5, h6⟩
    · exact .inl hg
    · refine .inr ⟨b, m, arr', h1, h2, h3, ?_, h5, h6⟩
      by_cases hb : b < w.heap.size
      · exact h4.at (hk b hb)
      · have hlt := h4.lt
        have : b = w.heap.size := by simp at hlt; omega
        subst this
        by_cases ho : o = pos
        · subst ho
          have : ob = ob' := by simpa [upd] using hl
          subst this
          have e := CellsAt.inj (CellsAt.of (heap_alloc_last w (.cells arr ob.ty))) h4
          rw [← e]; exact hnew
        · have hp' : ρ o = some ⟨w.heap.size, m⟩ := by simpa [updP, ho] using h1
          have hl' : H o = .live ob' := by simpa [upd, ho] using hl
          rcases h.obj o ob' hl' with ⟨g1, _⟩ | ⟨b', m', a', g1, _, _, g4, _⟩
          · rw [g1] at hp'; cases hp'
          · rw [g1] at hp'; cases hp'
            exact absurd g4.lt (by omega)
  · obtain ⟨t, f, e⟩ := h.ro b a hb
    exact ⟨t, f, by rw [hold b (h.ro_lt hb)]; exact e⟩

/-- An object without a block: a nil slice's. -/
theorem SR.ghost {pos : Nat} {ob : Ob} (h : SR w0 W F ρ RO H w) (hf : H pos = .free) (h0 : ob.n = 0) : SR w0 W F (updP ρ pos none) RO (upd H pos (.live ob)) w := by
  have E : Ext ρ RO H (updP ρ pos none) RO (upd H pos (.live ob)) := Ext.new hf _ _
  have old : ∀ o ob', o ≠ pos → upd H pos (.live ob) o = .live ob' → H o = .live ob' := fun o ob' hne hl => by simpa [upd, hne] using hl
  refine ⟨h.os, h.tape, h.output, h.size, h.kept, ?_, ?_, h.ro, h.old, h.fix, h.mo.upd rfl (fun o ho => by simp [updP, ho]) (fun _ _ h _ => h)⟩
  · intro o ob' hl
    by_cases ho : o = pos
    · subst ho
      have : ob = ob' := by simpa [upd] using hl
      subst this
      exact .inl ⟨by simp [updP], h0⟩
    · rcases h.obj o ob' (old o ob' ho hl) with ⟨g1, g2⟩ | ⟨b, m, arr', h1, h2, h3, h4, h5, h6, h7, h8, h9⟩
      · exact .inl ⟨by simp [updP, ho, g1], g2⟩
      · exact .inr ⟨b, m, arr', by simp [updP, ho, h1], h2, h3, h4, h5, h6, h7, fun i k a v hi e1 e2 => (h8 i k a v hi e1 e2).ext E.1 _ E, h9⟩
  · intro o o' ob1 ob2 b m m' h1 h2 h3 h4
    by_cases ho : o = pos
    · subst ho; simp [updP] at h3
    · by_cases ho' : o' = pos
      · subst ho'; simp [updP] at h4
      · exact h.inj o o' ob1 ob2 b m m' (old o ob1 ho h1) (old o' ob2 ho' h2) (by simpa [updP, ho] using h3) (by simpa [updP, ho'] using h4)

/-- An object's block gets other cells. -/
theorem SR.put {o : Nat} {ob ob' : Ob} {b m : Nat} {arr arr' : Array Value} (h : SR w0 W F ρ RO H w) (hl : H o = .live ob) (hp : ρ o = some ⟨b, m⟩) (hw : CellsAt w b arr ob.ty)
    (hs : ob'.sz = ob.sz) (hn : ob'.n = ob.n) (ht : ob'.ty = ob.ty) (hsz : arr'.size = m) (hob : ObR ρ RO H ob' arr') : SR w0 W F ρ RO (upd H o (.live ob')) (w.setRow b arr') := by
  have E : Ext ρ RO H ρ RO (upd H o (.live ob')) := Ext.put hl hs hn
  rcases h.obj o ob hl with ⟨hg, _⟩ | ⟨b', m', arr0, h1, h2, h3, h4, h5, h6, h7, h8, h9⟩
  · rw [hg] at hp; cases hp
  rw [h1] at hp; cases hp
  have liveOf : ∀ k x, upd H o (.live ob') k = .live x → ∃ y, H k = .live y := by
    intro k x hx
    by_cases hk : k = o
    · subst hk; exact ⟨ob, hl⟩
    · exact ⟨x, by simpa [upd, hk] using hx⟩
  refine ⟨h.os, h.tape, h.output, by have := h.size; simpa using this, ?_, ?_, ?_, ?_, h.old, h.fix, h.mo.upd rfl (fun _ _ => rfl) (fun b' o e hc => by
    have hne : b' ≠ b := fun e2 => by
      subst e2
      obtain ⟨f, _, e3⟩ := hw
      rw [e3] at e; cases e; cases hc
    rw [setRow_other w b b' arr' hne]; exact e)⟩
  · intro k hk hW
    have hkb : k ≠ b := fun e => by subst e; rcases h3 with h3 | h3 <;> first | omega | exact hW h3
    rw [setRow_other w b k arr' hkb]
    exact h.kept k hk hW
  · intro k x hx
    by_cases hk : k = o
    · subst hk
      have : ob' = x := by simpa [upd] using hx
      subst this
      exact .inr ⟨b, m, arr', h1, h2, h3, by rw [ht]; exact hw.row (by rw [hsz, hw.inj h4, h5]), hsz, by rw [← hsz]; exact hob.1, hob.2.1, (hob.ext E).2.2⟩
    · have hx' : H k = .live x := by simpa [upd, hk] using hx
      rcases h.obj k x hx' with hg | ⟨bk, mk, ak, g1, g2, g3, g4, g5, g6, g7, g8, g9⟩
      · exact .inl hg
      · have hne : bk ≠ b := fun e => hk (h.inj k o x ob b mk m hx' hl (e ▸ g1) h1)
        exact .inr ⟨bk, mk, ak, g1, g2, g3, g4.other hne, g5, g6, g7, fun i kk a v hi e1 e2 => (g8 i kk a v hi e1 e2).ext E.1 _ E, g9⟩
  · intro k k' x x' b1 m1 m2 hx hx' p1 p2
    obtain ⟨y, hy⟩ := liveOf k x hx
    obtain ⟨y', hy'⟩ := liveOf k' x' hx'
    exact h.inj k k' y y' b1 m1 m2 hy hy' p1 p2
  · intro b1 a hb1
    obtain ⟨t, f, e⟩ := h.ro b1 a hb1
    have hne : b1 ≠ b := fun e => by subst e; rw [h2] at hb1; cases hb1
    exact ⟨t, f, by rw [setRow_other w b b1 arr' hne]; exact e⟩
end
end Go.Proofs.Ytbcnifnmccaleaa.Fw
