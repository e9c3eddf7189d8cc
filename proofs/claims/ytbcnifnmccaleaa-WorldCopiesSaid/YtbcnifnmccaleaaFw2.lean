/- Operations on maps. -/
import Derived.Test.YtbcnifnmccaleaaFwJ
import Derived.MapKept
import Derived.Maps.RangeRun
namespace Go.Proofs.Ytbcnifnmccaleaa.Fw
open Go Go.RowKit Go.MapKept
set_option linter.unusedVariables false
set_option linter.unusedSimpArgs false

theorem eqEn_eq : ∀ {a b : Option Nat}, eqEn a b = true → a = b
  | none, none, _ => rfl
  | some a, some b, h => by rw [Nat.eq_of_beq_eq_true (show Nat.beq a b = true from h)]
  | none, some _, h => by cases h
  | some _, none, h => by cases h
theorem zeroIs_eq : ∀ {en : Option Nat} {z : Value}, zeroIs en z = true → z = zeroEn en := fun {en z} h => by
  cases en with
  | none =>
    cases z <;> simp only [zeroIs] at h <;> try (cases h; done)
    rename_i k a
    cases k <;> simp only [zeroIs] at h <;> first | (cases h; done) | (simp at h; subst h; rfl)
  | some n =>
    cases z <;> simp only [zeroIs] at h <;> try (cases h; done)
    rename_i vs
    simp only [Bool.and_eq_true] at h
    have hn := Nat.eq_of_beq_eq_true h.1
    unfold zeroEn
    refine congrArg Value.agg (Array.ext (by simpa using hn) fun i h1 h2 => ?_)
    have := List.all_eq_true.1 h.2 vs[i] (by simp)
    split at this
    · rename_i a he; simp at this; subst this; rw [he]; simp
    · cases this
theorem enOf_spec {P : Program} {t : TypeId} {en : Option Nat} (h : enOf P t = some en) : ∃ k e, P.underlying t = some (.map k e) ∧ P.underlying k = some (.int .i64) ∧ ∀ w : World, (zeroValue e).run P w = .ok (zeroEn en) w := by
  unfold enOf at h
  split at h
  · rename_i k e ht
    split at h
    · rename_i hk
      split at h
      · rename_i en' he
        split at h
        · rename_i i hi
          split at h
          · rename_i z hz
            split at h
            · rename_i hzz
              cases h
              refine ⟨k, e, ht, hk, fun w => ?_⟩
              rw [← zeroIs_eq hzz]
              simp [zeroValue, typeInfo, hi, hz]
            · cases h
          · cases h
        · cases h
      · cases h
    · cases h
  · cases h
theorem memI_iff : ∀ {ks : List Int} {k : Int}, memI ks k = true ↔ k ∈ ks
  | [], k => by simp [memI]
  | a :: r, k => by
    simp only [memI, Bool.or_eq_true, beq_iff_eq, List.mem_cons, memI_iff (ks := r)]
    constructor
    · rintro (h | h); exact .inl h.symm; exact .inr h
    · rintro (h | h); exact .inl h.symm; exact .inr h
theorem find_spec (k : Int) : ∀ (l : List MapEntry) (ks : List Int) (j : Nat), l.map (·.key) = ks.map (Value.int .i64 ·) →
    (memI ks k = false ∧ Instr.findNow (.int .i64) (.int .i64 k) l j = some none) ∨ (memI ks k = true ∧ ∃ i e, l[i]? = some e ∧ ks[i]? = some k ∧ Instr.findNow (.int .i64) (.int .i64 k) l j = some (some (j + i, e.val)))
  | [], [], j, _ => .inl ⟨rfl, rfl⟩
  | [], _ :: _, _, h => by simp at h
  | _ :: _, [], _, h => by simp at h
  | e :: l, a :: ks, j, h => by
    simp only [List.map_cons, List.cons.injEq] at h
    obtain ⟨h1, h2⟩ := h
    by_cases hk : a = k
    · subst hk
      exact .inr ⟨by simp [memI], 0, e, rfl, rfl, by simp [Instr.findNow, Instr.sameNow, h1]⟩
    · have hs : Instr.sameNow (.int .i64) (.int .i64 k) e.key = some false := by
        simp [Instr.sameNow, h1]; exact fun e => hk e.symm
      rcases find_spec k l ks (j + 1) h2 with ⟨g1, g2⟩ | ⟨g1, i, e', g2, g3, g4⟩
      · exact .inl ⟨by simp [memI, hk, g1], by simp [Instr.findNow, hs, g2]⟩
      · exact .inr ⟨by simp [memI, g1], i + 1, e', by simpa using g2, by simpa using g3, by simp [Instr.findNow, hs, g4]; omega⟩
section
variable {P : Program} {w0 w : World} {W : Nat → Prop} {F : RoMap} {ρ : Pm} {RO : RoMap} {s : St} {a : Act}
/-- What is known where a temporary holds a map. -/
theorem mp_spec {q : Nat} {cv : Value} {en : Option Nat} {ks : List Int} {get : Int → List AV} (hv : VR ρ RO (hp s.H) (.mp q) cv) (hH : hp s.H q = .mapd en ks get) (hS : SR w0 W F ρ RO (hp s.H) w) :
    ∃ b m, cv = .map (some b) ∧ ρ q = some ⟨b, m⟩ ∧ (w0.heap.size ≤ b ∨ W b) ∧ MapAt RO w b en ks get := by
  cases hv with
  | mp _ _ b h0 h =>
    obtain ⟨m, h1⟩ := h (by rw [hH]; rfl)
    obtain ⟨b', m', g1, g2, g3⟩ := hS.mo.map q en ks get hH
    rw [h1] at g1; cases g1
    exact ⟨b, m, rfl, h1, g2, g3⟩
theorem key_spec {k : Int} {cv : Value} (hv : VR ρ RO (hp s.H) (.val (.int .i64 k)) cv) : cv = .int .i64 k := hv.val_eq
theorem run_look {t : TypeId} {en : Option Nat} {b : Nat} {ks : List Int} {get : Int → List AV} {k : Int} (ht : enOf P t = some en) (hM : MapAt RO w b en ks get) (ok : Bool) :
    ∃ v, VR (fun _ => none) RO noHp (packV en.isSome (get k)) v ∧ (Instr.lookup t (.map (some b)) (.int .i64 k) ok).run P w = .ok (if ok then .tuple #[v, .bool (memI ks k)] else v) w := by
  obtain ⟨kt, et, h1, h2, h3⟩ := enOf_spec ht
  obtain ⟨es, clock, m1, m2, m3, m4, m5, m6, m7, m8⟩ := hM
  have hck : ∀ e : Bool, (Instr.checkKey e 10000 kt (.int .i64 k)).run P w = .ok () w := fun e => run_checkKey (n := 9999) h2 (by simp [IsKey]) e
  rcases find_spec k es.toList ks 0 m2 with ⟨g1, g2⟩ | ⟨g1, i, e, g2, g3, g4⟩
  · refine ⟨zeroEn en, m8 k (fun hm => by rw [memI_iff.2 hm] at g1; cases g1), ?_⟩
    unfold Instr.lookup
    simp only [Sem.run_bind, run_underlying h1, Result.andThen_ok, MapKept.run_getObj_map m1, Sem.run_pure, hck, run_findKey h2 g2, h3, g1]
  · have he : es[i]? = some e := by simpa using g2
    refine ⟨e.val, (m6 i e k he g3).1, ?_⟩
    unfold Instr.lookup
    simp only [Sem.run_bind, run_underlying h1, Result.andThen_ok, MapKept.run_getObj_map m1, Sem.run_pure, hck, run_findKey h2 g4, g1]
theorem MapsOk.lt {Bk : Nat → Prop} {H : Hp} (h : MapsOk Bk ρ RO H w) {o b m : Nat} (hk : (H o).kind ≠ 0) (hp : ρ o = some ⟨b, m⟩) : b < w.heap.size := by
  generalize he : H o = e at hk
  cases e with
  | free => exact absurd rfl hk
  | dead => exact absurd rfl hk
  | live => exact absurd rfl hk
  | mapd en ks get =>
    obtain ⟨b', m', g1, _, es, clock, g2, _⟩ := h.map o en ks get he
    rw [hp] at g1; cases g1
    exact lt_get g2
  | iter q left =>
    obtain ⟨b', m', g1, _, ⟨_, _, _, _, g2⟩, _⟩ := h.iter o q left he
    rw [hp] at g1; cases g1
    exact lt_get g2
/-- A new map, a new walk. -/
theorem SR.newE {H : Hp} {pos : Nat} {e : Ent} {o : Obj} (h : SR w0 W F ρ RO H w) (hf : H pos = .free) (he : e.kind ≠ 0) (hmap : ∀ en ks get, e = .mapd en ks get → MapAt RO (w.alloc o) w.heap.size en ks get)
    (hit : ∀ q left, e = .iter q left → (∃ x since seen last, o = .mapIter x since seen last) ∧ H q ≠ .free ∧ ∀ en ks get, H q = .mapd en ks get → ∃ b m, ρ q = some ⟨b, m⟩ ∧ IterAt (w.alloc o) w.heap.size b ks left) :
    SR w0 W F (updP ρ pos (some ⟨w.heap.size, 0⟩)) RO (upd H pos e) (w.alloc o) ∧ Ext ρ RO H (updP ρ pos (some ⟨w.heap.size, 0⟩)) RO (upd H pos e) := by
  have E : Ext ρ RO H (updP ρ pos (some ⟨w.heap.size, 0⟩)) RO (upd H pos e) := Ext.new hf _ _
  have old : ∀ k x, upd H pos e k = .live x → k ≠ pos ∧ H k = .live x := fun k x hl => by
    by_cases hk : k = pos
    · subst hk
      simp [upd] at hl
      rw [hl] at he; exact absurd rfl he
    · exact ⟨hk, by simpa [upd, hk] using hl⟩
  have hE : ∀ k, k ≠ pos → upd H pos e k = H k := fun k hk => by simp [upd, hk]
  have hP : ∀ k, k ≠ pos → updP ρ pos (some ⟨w.heap.size, 0⟩) k = ρ k := fun k hk => by simp [updP, hk]
  have hkeep : ∀ (b : Nat) (x : Obj), w.heap[b]? = some x → isCells x = false → (w.alloc o).heap[b]? = some x := fun b x hx _ => heap_alloc_of hx
  refine ⟨⟨h.os, h.tape, h.output, by have := h.size; simp; omega, fun k hk hW => ?_, fun k x hx => ?_, fun k k' x x' b m m' h1 h2 p1 p2 => ?_, fun b a hb => ?_, h.old, h.fix, ?_⟩, E⟩
  · rw [Below.heap_alloc w _ k (Nat.lt_of_lt_of_le hk h.size)]
    exact h.kept k hk hW
  · obtain ⟨hk, hl⟩ := old k x hx
    rw [hP k hk]
    rcases h.obj k x hl with g | ⟨b, m, arr', h1, h2, h3, h4, h5, h6, h7, h8, h9⟩
    · exact .inl g
    · exact .inr ⟨b, m, arr', h1, h2, h3, h4.alloc _, h5, h6, h7, fun i k a v hi e1 e2 => (h8 i k a v hi e1 e2).ext E.1 _ E, h9⟩
  · obtain ⟨g1, g2⟩ := old k x h1
    obtain ⟨g3, g4⟩ := old k' x' h2
    rw [hP k g1] at p1; rw [hP k' g3] at p2
    exact h.inj k k' x x' b m m' g2 g4 p1 p2
  · obtain ⟨t, f, e⟩ := h.ro b a hb
    exact ⟨t, f, heap_alloc_of e⟩
  · refine ⟨fun k en ks get e1 => ?_, fun k q left e1 => ?_, fun k k' b m m' k1 k2 p1 p2 => ?_, fun k q left e1 => ?_⟩
    · by_cases hk : k = pos
      · subst hk
        simp [upd] at e1
        exact ⟨w.heap.size, 0, by simp [updP], .inl h.size, hmap _ _ _ e1⟩
      · rw [hE k hk] at e1
        obtain ⟨b, m, g1, g2, g3⟩ := h.mo.map k en ks get e1
        exact ⟨b, m, by rw [hP k hk]; exact g1, g2, g3.mono (fun _ _ h => h) hkeep⟩
    · by_cases hk : k = pos
      · subst hk
        simp [upd] at e1
        obtain ⟨⟨x, since, seen, last, g1⟩, g2, g3⟩ := hit q left e1
        have hq : q ≠ k := fun e => g2 (e ▸ hf)
        refine ⟨w.heap.size, 0, by simp [updP], .inl h.size, ⟨x, since, seen, last, by rw [← g1]; exact heap_alloc_last w _⟩, fun en ks get e2 => ?_⟩
        rw [hE q hq] at e2
        obtain ⟨b, m, q1, q2⟩ := g3 en ks get e2
        exact ⟨b, m, by rw [hP q hq]; exact q1, q2⟩
      · rw [hE k hk] at e1
        obtain ⟨r, m, g1, g2, ⟨x, since, seen, last, g3⟩, g4⟩ := h.mo.iter k q left e1
        have hq : q ≠ pos := fun e => h.mo.fr k q left e1 (e ▸ hf)
        refine ⟨r, m, by rw [hP k hk]; exact g1, g2, ⟨x, since, seen, last, heap_alloc_of g3⟩, fun en ks get e2 => ?_⟩
        rw [hE q hq] at e2
        obtain ⟨b, m', q1, q2⟩ := g4 en ks get e2
        exact ⟨b, m', by rw [hP q hq]; exact q1, q2.mono hkeep⟩
    · by_cases hk : k = pos <;> by_cases hk' : k' = pos
      · rw [hk, hk']
      · subst hk
        rw [hP k' hk'] at p2; rw [hE k' hk'] at k2
        have hlt := h.mo.lt k2 p2
        simp [updP] at p1; omega
      · subst hk'
        rw [hP k hk] at p1; rw [hE k hk] at k1
        have hlt := h.mo.lt k1 p1
        simp [updP] at p2; omega
      · rw [hP k hk] at p1; rw [hE k hk] at k1; rw [hP k' hk'] at p2; rw [hE k' hk'] at k2
        exact h.mo.inj k k' b m m' k1 k2 p1 p2
    · have hq : H q ≠ .free := by
        by_cases hk : k = pos
        · subst hk
          simp [upd] at e1
          exact (hit q left e1).2.1
        · rw [hE k hk] at e1; exact h.mo.fr k q left e1
      have hqp : q ≠ pos := fun e => hq (e ▸ hf)
      rw [hE q hqp]; exact hq
theorem zeroC_ok (en : Option Nat) : VR (fun _ => none) RO noHp (packV en.isSome (zeroC en)) (zeroEn en) := by
  cases en with
  | none => exact .val _ _ rfl
  | some n =>
    refine .agg _ _ _ (by simp [zeroC]) fun k c v h1 h2 => ?_
    simp only [zeroC, List.getElem?_replicate] at h1
    split at h1
    · rename_i hk
      cases h1
      rw [Array.getElem?_replicate, if_pos hk] at h2
      cases h2
      exact .val _ _ rfl
    · cases h1
theorem run_v {x : Sem Value} {v : Value} {w' : World} (h : x.run P w = .ok v w') : (do pure (Next.value (← x)) : Sem Next).run P w = .ok (.value v) w' := by
  rw [Sem.run_bind, h]; rfl
theorem make_sound {o : Oper} {t : TypeId} {en : Option Nat} (ho : o.op = .makeMap t none) (hS : SR w0 W F ρ RO (hp s.H) w) : Good P (execOp a.eval o) w0 W F ρ RO s.H w ⟨true, .mp s.H.length, s.H ++ [.mapd en [] fun _ => zeroC en]⟩ := by
  obtain ⟨S, E⟩ := hS.newE (pos := s.H.length) (e := .mapd en [] fun _ => zeroC en) (o := .map #[] 0) (hp_length _) (by simp [Ent.kind])
    (fun en' ks get e => by
      cases e
      exact ⟨#[], 0, heap_alloc_last w _, rfl, List.nodup_nil, Nat.le_refl _, trivial, fun i e k h => by simp at h, .nil, fun _ _ => zeroC_ok en⟩)
    (fun q left e => by cases e)
  have eH := hp_append1 s.H (.mapd en [] fun _ => zeroC en)
  refine ⟨.map (some w.heap.size), w.alloc (.map #[] 0), updP ρ s.H.length (some ⟨w.heap.size, 0⟩), .inl ?_, ?_, ?_, ?_, by simp, by simp⟩
  · unfold execOp
    simp [ho, Instr.makeMap]
  · show VR _ _ (hp (s.H ++ [_])) _ _
    rw [eH]
    exact .mp _ _ _ (by simp [upd]) fun _ => ⟨0, by simp [updP]⟩
  · show SR _ _ _ _ _ (hp (s.H ++ [_])) _
    rw [eH]; exact S
  · show Ext _ _ _ _ _ (hp (s.H ++ [_]))
    rw [eH]; exact E
theorem lookup_sound {o : Oper} {t : TypeId} {m x : Operand} {ok : Bool} {q : Nat} {k : Int} {en : Option Nat} {ks : List Int} {get : Int → List AV} (ho : o.op = .lookup t m x ok) (hm : s.op m = .mp q) (hx : s.op x = .val (.int .i64 k)) (hH : hp s.H q = .mapd en ks get) (ht : enOf P t = some en)
    (hS : SR w0 W F ρ RO (hp s.H) w) (hT : TR ρ RO (hp s.H) s.tmps a) : Good P (execOp a.eval o) w0 W F ρ RO s.H w ⟨true, if ok then .tup [packV en.isSome (get k), .val (.bool (memI ks k))] else packV en.isSome (get k), s.H⟩ := by
  have vm := op_sound hT m
  have vx := op_sound hT x
  rw [hm] at vm; rw [hx] at vx
  obtain ⟨b, m', e1, _, _, hM⟩ := mp_spec vm hH hS
  have e2 := key_spec (s := s) vx
  obtain ⟨v, hv, hr⟩ := run_look (k := k) ht hM ok
  have hv' : VR ρ RO (hp s.H) (packV en.isSome (get k)) v := hv.closed _ _
  refine .same (cv := if ok then .tuple #[v, .bool (memI ks k)] else v) ?_ hS ?_
  · unfold execOp
    simp only [ho, e1, e2]
    rw [Sem.run_bind, hr]; rfl
  · cases ok with
    | false => exact hv'
    | true =>
      refine .tup _ _ _ rfl fun i c u h1 h2 => ?_
      match i with
      | 0 => simp at h1 h2; subst h1; subst h2; exact hv'
      | 1 => simp at h1 h2; subst h1; subst h2; exact .val _ _ rfl
      | i + 2 => simp at h1
theorem maplen_sound {o : Oper} {t : TypeId} {m : Operand} {args : Array Operand} {ts : Array TypeId} {q : Nat} {en : Option Nat} {ks : List Int} {get : Int → List AV} (ho : o.op = .call { callee := .builtin .len, args, argTypes := ts }) (ha : args.toList = [m]) (hts : ts.toList = [t]) (hm : s.op m = .mp q) (hH : hp s.H q = .mapd en ks get) (ht : enOf P t = some en)
    (hS : SR w0 W F ρ RO (hp s.H) w) (hT : TR ρ RO (hp s.H) s.tmps a) : Good P (execOp a.eval o) w0 W F ρ RO s.H w ⟨true, .val (.int .i64 ks.length), s.H⟩ := by
  have vm := op_sound hT m
  rw [hm] at vm
  obtain ⟨b, m', e1, _, _, es, clock, h1, h2, _⟩ := mp_spec vm hH hS
  obtain ⟨kt, et, g1, _, _⟩ := enOf_spec ht
  have hl : es.size = ks.length := by have := congrArg List.length h2; simpa using this
  have harr : args = #[m] := Array.toList_inj.1 ha
  have hts' : ts = #[t] := Array.toList_inj.1 hts
  subst harr; subst hts'
  refine .same (cv := .int .i64 ks.length) (run_builtin ho ?_) hS (.val _ _ rfl)
  simp only [builtin]
  rw [Sem.run_bind]
  have : (Builtin.len_ #[t] o.type (#[m].map a.eval)).run P w = .ok (.int .i64 ks.length) w := by
    simp [Builtin.len_, e1, run_underlying g1, MapKept.run_getObj_map h1, goInt, hl]
  rw [this]; rfl
theorem maprange_sound {o : Oper} {t : TypeId} {m : Operand} {q : Nat} {en : Option Nat} {ks : List Int} {get : Int → List AV} (ho : o.op = .range t m) (hm : s.op m = .mp q) (hH : hp s.H q = .mapd en ks get) (ht : enOf P t = some en)
    (hS : SR w0 W F ρ RO (hp s.H) w) (hT : TR ρ RO (hp s.H) s.tmps a) : Good P (execOp a.eval o) w0 W F ρ RO s.H w ⟨true, .itr s.H.length, s.H ++ [.iter q ⟨ks, none⟩]⟩ := by
  have vm := op_sound hT m
  rw [hm] at vm
  obtain ⟨b, m', e1, e2, _, es, clock, h1, h2, h3, h4, h5, h6, h7, h8⟩ := mp_spec vm hH hS
  obtain ⟨kt, et, g1, _, _⟩ := enOf_spec ht
  have hl : es.size = ks.length := by have := congrArg List.length h2; simpa using this
  have hne : hp s.H q ≠ .free := by rw [hH]; intro h; cases h
  obtain ⟨S, E⟩ := hS.newE (pos := s.H.length) (e := .iter q ⟨ks, none⟩) (o := .mapIter (some b) clock #[] clock) (hp_length _) (by simp [Ent.kind])
    (fun en' ks get e => by cases e)
    (fun q' left e => by
      cases e
      refine ⟨⟨_, _, _, _, rfl⟩, hne, fun en' ks' get' e3 => ?_⟩
      rw [hH] at e3; cases e3
      refine ⟨b, m', e2, es, clock, clock, #[], clock, heap_alloc_of h1, heap_alloc_last w _, ⟨Nat.le_refl _, Nat.le_refl _, fun _ h => by cases h⟩, fun x hx => ?_, ⟨h3, fun _ h => h⟩, fun i x k hx hk => ?_⟩
      · obtain ⟨i, hi, rfl⟩ := List.getElem_of_mem hx
        have hi' : i < es.size := by simpa using hi
        exact (h6 i _ ks[i] (by simp [hi']) (List.getElem?_eq_getElem (by omega))).2
      · have : k ∈ ks := List.mem_of_getElem? hk
        simp [this])
  have eH := hp_append1 s.H (.iter q ⟨ks, none⟩)
  refine ⟨.pointer (some ⟨w.heap.size, 0, none⟩), w.alloc (.mapIter (some b) clock #[] clock), updP ρ s.H.length (some ⟨w.heap.size, 0⟩), .inl ?_, ?_, ?_, ?_, by simp, by simp⟩
  · unfold execOp
    simp [ho, Instr.range, e1, run_underlying g1, MapKept.run_getObj_map h1]
  · show VR _ _ (hp (s.H ++ [_])) _ _
    rw [eH]
    exact .itr _ _ _ (by simp [upd]) fun _ => ⟨0, by simp [updP]⟩
  · show SR _ _ _ _ _ (hp (s.H ++ [_])) _
    rw [eH]; exact S
  · show Ext _ _ _ _ _ (hp (s.H ++ [_]))
    rw [eH]; exact E
def setB (w : World) (b : Nat) (x : Obj) : World := { w with heap := w.heap.setIfInBounds b x }
theorem setB_other {w : World} {b k : Nat} {x : Obj} (h : k ≠ b) : (setB w b x).heap[k]? = w.heap[k]? := by
  simp [setB, Array.getElem?_setIfInBounds, Ne.symm h]
theorem setB_at {w : World} {b : Nat} {x y : Obj} (h : w.heap[b]? = some y) : (setB w b x).heap[b]? = some x := by
  have := lt_get h
  simp [setB, Array.getElem?_setIfInBounds, this]
/-- A map's block gets other entries. -/
theorem SR.setM {H H' : Hp} {q b m : Nat} {en : Option Nat} {ks ks' : List Int} {get get' : Int → List AV} {es : Array MapEntry} {clock : Nat} {x' : Obj} (h : SR w0 W F ρ RO H w) (hH : H q = .mapd en ks get) (hp : ρ q = some ⟨b, m⟩) (hb : w.heap[b]? = some (.map es clock))
    (hM : MapAt RO (setB w b x') b en ks' get') (hq : H' q = .mapd en ks' get') (ho : ∀ o, o ≠ q → (H' o = H o ∧ ∀ left, H o ≠ .iter q left) ∨ (H' o = .dead ∧ H o ≠ .free) ∨ ∃ left left', H o = .iter q left ∧ H' o = .iter q left')
    (hit : ∀ o left r m', H' o = .iter q left → ρ o = some ⟨r, m'⟩ → IterAt (setB w b x') r b ks' left) : SR w0 W F ρ RO H' (setB w b x') ∧ Ext ρ RO H ρ RO H' := by
  obtain ⟨b', m0, g1, g2, _⟩ := h.mo.map q en ks get hH
  rw [hp] at g1; cases g1
  have kinds : ∀ o, (H' o).kind ≠ 0 → (H o).kind = (H' o).kind := fun o h3 => by
    by_cases e : o = q
    · subst e; rw [hH, hq]; rfl
    · rcases ho o e with ⟨e1, _⟩ | ⟨e1, _⟩ | ⟨l, l', e1, e2⟩
      · rw [e1]
      · rw [e1] at h3; exact absurd rfl h3
      · rw [e1, e2]; rfl
  have lv : ∀ o x, H' o = .live x → o ≠ q ∧ H o = .live x := fun o x hx => by
    by_cases e : o = q
    · subst e; rw [hq] at hx; cases hx
    · rcases ho o e with ⟨e1, _⟩ | ⟨e1, _⟩ | ⟨l, l', e1, e2⟩
      · exact ⟨e, e1 ▸ hx⟩
      · rw [e1] at hx; cases hx
      · rw [e2] at hx; cases hx
  have nf : ∀ o, H o ≠ .free → H' o ≠ .free := fun o h0 => by
    by_cases e : o = q
    · subst e; rw [hq]; intro h; cases h
    · rcases ho o e with ⟨e1, _⟩ | ⟨e1, _⟩ | ⟨l, l', e1, e2⟩
      · rw [e1]; exact h0
      · rw [e1]; intro h; cases h
      · rw [e2]; intro h; cases h
  have E : Ext ρ RO H ρ RO H' := ⟨fun _ _ h => h, fun o h0 => ⟨nf o h0, fun x hx => ⟨rfl, x, (lv o x hx).2, rfl, rfl⟩⟩, fun o _ h3 => ⟨rfl, kinds o h3⟩⟩
  have cells : ∀ {k : Nat} {x : Obj}, w.heap[k]? = some x → (∀ es c, x ≠ .map es c) → (setB w b x').heap[k]? = some x := fun {k x} hx hn => by
    rw [setB_other (fun e => ?_)]
    · exact hx
    · subst e; rw [hb] at hx; cases hx; exact hn _ _ rfl
  refine ⟨⟨h.os, h.tape, h.output, by have := h.size; simpa [setB] using this, fun k hk hW => ?_, fun o x hx => ?_, fun o o' x x' b m m' h1 h2 p1 p2 => ?_, fun c arr hc => ?_, h.old, h.fix, ?_⟩, E⟩
  · have hkb : k ≠ b := fun e => by subst e; rcases g2 with g2 | g2; omega; exact hW g2
    rw [setB_other hkb]; exact h.kept k hk hW
  · obtain ⟨_, hl⟩ := lv o x hx
    rcases h.obj o x hl with g | ⟨c, m', arr, h1, h2, h3, ⟨f, f1, f2⟩, h5, h6, h7, h8, h9⟩
    · exact .inl g
    · exact .inr ⟨c, m', arr, h1, h2, h3, ⟨f, f1, cells f2 (fun _ _ e => by cases e)⟩, h5, h6, h7, fun i k a v hi e1 e2 => (h8 i k a v hi e1 e2).ext E.1 _ E, h9⟩
  · exact h.inj o o' x x' b m m' (lv o x h1).2 (lv o' x' h2).2 p1 p2
  · obtain ⟨t, f, e⟩ := h.ro c arr hc
    exact ⟨t, f, cells e (fun _ _ e => by cases e)⟩
  · have other : ∀ o en' ks2 get2, o ≠ q → H' o = .mapd en' ks2 get2 → H o = .mapd en' ks2 get2 := fun o en' ks2 get2 e hx => by
      rcases ho o e with ⟨e1, _⟩ | ⟨e1, _⟩ | ⟨l, l', e1, e2⟩
      · exact e1 ▸ hx
      · rw [e1] at hx; cases hx
      · rw [e2] at hx; cases hx
    have apart : ∀ o c m', o ≠ q → (H o).kind ≠ 0 → ρ o = some ⟨c, m'⟩ → c ≠ b := fun o c m' e hk e1 e2 => by
      subst e2
      exact e (h.mo.inj o q c m' m hk (by rw [hH]; simp [Ent.kind]) e1 hp)
    refine ⟨fun o en' ks2 get2 e => ?_, fun o q' left e => ?_, fun o o' c m1 m2 k1 k2 p1 p2 => ?_, fun o q' left e => ?_⟩
    · by_cases hoq : o = q
      · subst hoq
        rw [hq] at e; cases e
        exact ⟨b, m, hp, g2, hM⟩
      · have e' := other o en' ks2 get2 hoq e
        obtain ⟨c, m1, c1, c2, es2, cl2, c3, c4⟩ := h.mo.map o en' ks2 get2 e'
        exact ⟨c, m1, c1, c2, es2, cl2, by rw [setB_other (apart o c m1 hoq (by rw [e']; simp [Ent.kind]) c1)]; exact c3, c4⟩
    · have hoq : o ≠ q := fun e2 => by subst e2; rw [hq] at e; cases e
      rcases ho o hoq with ⟨e1, en1⟩ | ⟨e1, _⟩ | ⟨l, l', e1, e2⟩
      · rw [e1] at e
        obtain ⟨r, m1, c1, c2, ⟨y, since, seen, last, c3⟩, c4⟩ := h.mo.iter o q' left e
        have hq' : q' ≠ q := fun e2 => by subst e2; exact en1 left e
        refine ⟨r, m1, c1, c2, ⟨y, since, seen, last, cells c3 (fun _ _ e => by cases e)⟩, fun en' ks2 get2 e2 => ?_⟩
        have e3 := other q' en' ks2 get2 hq' e2
        obtain ⟨c, m2, d1, es2, cl2, si, se, la, d2, d3, d4⟩ := c4 en' ks2 get2 e3
        exact ⟨c, m2, d1, es2, cl2, si, se, la, by rw [setB_other (apart q' c m2 hq' (by rw [e3]; simp [Ent.kind]) d1)]; exact d2, cells d3 (fun _ _ e => by cases e), d4⟩
      · rw [e1] at e; cases e
      · have e3 := e
        rw [e2] at e; cases e
        obtain ⟨r, m1, c1, c2, ⟨y, since, seen, last, c3⟩, c4⟩ := h.mo.iter o q l e1
        refine ⟨r, m1, c1, c2, ⟨y, since, seen, last, cells c3 (fun _ _ e => by cases e)⟩, fun en' ks2 get2 e4 => ?_⟩
        rw [hq] at e4; cases e4
        exact ⟨b, m, hp, hit o _ r m1 e3 c1⟩
    · exact h.mo.inj o o' c m1 m2 (by rw [kinds o k1]; exact k1) (by rw [kinds o' k2]; exact k2) p1 p2
    · have hoq : o ≠ q := fun e2 => by subst e2; rw [hq] at e; cases e
      rcases ho o hoq with ⟨e1, _⟩ | ⟨e1, _⟩ | ⟨l, l', e1, e2⟩
      · exact nf q' (h.mo.fr o q' left (e1 ▸ e))
      · rw [e1] at e; cases e
      · rw [e2] at e; cases e
        exact nf q (by rw [hH]; intro h; cases h)
theorem map_erase {α β : Type} (f : α → β) : ∀ (l : List α) (i : Nat), (l.eraseIdx i).map f = (l.map f).eraseIdx i
  | [], _ => by simp
  | _ :: _, 0 => by simp
  | a :: r, i + 1 => by simp [map_erase f r i]
theorem delI_none : ∀ {ks : List Int} {k : Int}, memI ks k = false → delI ks k = ks := fun {ks k} h => by
  unfold delI
  rw [List.filter_eq_self]
  intro a ha
  by_cases e : a = k
  · subst e; rw [memI_iff.2 ha] at h; cases h
  · simp [e]
theorem delI_erase : ∀ (ks : List Int) (i : Nat) {k : Int}, ks.Nodup → ks[i]? = some k → delI ks k = ks.eraseIdx i
  | [], i, k, _, h => by simp at h
  | a :: r, 0, k, hn, h => by
    simp at h; subst h
    have h1 := (List.nodup_cons.1 hn).1
    have : memI r a = false := by
      cases e : memI r a with
      | false => rfl
      | true => exact absurd (memI_iff.1 e) h1
    have h2 := delI_none this
    unfold delI at h2 ⊢
    simp [h2]
  | a :: r, i + 1, k, hn, h => by
    have h1 := (List.nodup_cons.1 hn).1
    have h2 : r[i]? = some k := by simpa using h
    have hk : a ≠ k := fun e => h1 (e ▸ List.mem_of_getElem? h2)
    have h3 := delI_erase r i (List.nodup_cons.1 hn).2 h2
    unfold delI at h3 ⊢
    simp [hk, h3]
theorem mem_delI {ks : List Int} {k j : Int} : j ∈ delI ks k ↔ j ∈ ks ∧ j ≠ k := by
  unfold delI
  simp [List.mem_filter]
theorem run_del {t t2 ty : TypeId} {en : Option Nat} {b : Nat} {ks : List Int} {get : Int → List AV} {k : Int} (ht : enOf P t = some en) (hM : MapAt RO w b en ks get) :
    ∃ (es es' : Array MapEntry) (clock : Nat), w.heap[b]? = some (.map es clock) ∧ (Builtin.delete_ #[t, t2] ty #[.map (some b), .int .i64 k]).run P w = .ok (.tuple #[]) (setB w b (.map es' clock)) ∧
      (∀ (j : Nat) (e : MapEntry) (k' : Int), es'[j]? = some e → (delI ks k)[j]? = some k' → ∃ i : Nat, es[i]? = some e ∧ ks[i]? = some k') ∧ MapAt RO (setB w b (.map es' clock)) b en (delI ks k) fun j => bif j == k then zeroC en else get j := by
  obtain ⟨kt, et, h1, h2, h3⟩ := enOf_spec ht
  obtain ⟨es, clock, m1, m2, m3, m4, m5, m6, m7, m8⟩ := hM
  have hck : ∀ e : Bool, (Instr.checkKey e 10000 kt (.int .i64 k)).run P w = .ok () w := fun e => run_checkKey (n := 9999) h2 (by simp [IsKey]) e
  have zero : ∀ j, j ∉ delI ks k → VR (fun _ => none) RO noHp (packV en.isSome (bif j == k then zeroC en else get j)) (zeroEn en) := fun j hj => by
    by_cases e : j = k
    · rw [e, beq_self_eq_true, cond_true]; exact zeroC_ok en
    · rw [beq_eq_false_iff_ne.2 e, cond_false]; exact m8 j fun h => hj (mem_delI.2 ⟨h, e⟩)
  have fin : ∀ es' : Array MapEntry, (∀ (j : Nat) (e : MapEntry) (k' : Int), es'[j]? = some e → (delI ks k)[j]? = some k' → ∃ i : Nat, es[i]? = some e ∧ ks[i]? = some k') → es'.toList.map (·.key) = (delI ks k).map (Value.int .i64 ·) → es'.toList.Pairwise (fun x y => x.born ≠ y.born) →
      MapAt RO (setB w b (.map es' clock)) b en (delI ks k) fun j => bif j == k then zeroC en else get j := fun es' f1 f2 f3 => by
    refine ⟨es', clock, setB_at m1, f2, m3.filter _, Nat.le_trans (List.length_filter_le _ _) m4, trivial, fun j e k' e1 e2 => ?_, f3, zero⟩
    obtain ⟨i, g1, g2⟩ := f1 j e k' e1 e2
    have hk : k' ≠ k := (mem_delI.1 (List.mem_of_getElem? e2)).2
    have h0 : (bif k' == k then zeroC en else get k') = get k' := by rw [beq_eq_false_iff_ne.2 hk, cond_false]
    show VR _ _ _ (packV en.isSome (bif k' == k then zeroC en else get k')) _ ∧ _
    rw [h0]
    exact m6 i e k' g1 g2
  rcases find_spec k es.toList ks 0 m2 with ⟨g1, g2⟩ | ⟨g1, i, e, g2, g3, g4⟩
  · have hd := delI_none g1
    refine ⟨es, es, clock, m1, ?_, ?_, fin es ?_ ?_ m7⟩
    · simp [Builtin.delete_, run_underlying h1, MapKept.run_getObj_map m1, hck, run_findKey h2 g2, MapKept.run_setObj_map _ m1, setB]
    · rw [hd]; exact fun j e k' e1 e2 => ⟨j, e1, e2⟩
    · rw [hd]; exact fun j e k' e1 e2 => ⟨j, e1, e2⟩
    · rw [hd]; exact m2
  · have hd := delI_erase ks i m3 g3
    have hi : i < es.size := by have := (List.getElem?_eq_some_iff.1 g2).1; simpa using this
    have he : (es.eraseIdxIfInBounds i).toList = es.toList.eraseIdx i := by simp
    have f1 : ∀ (j : Nat) (e : MapEntry) (k' : Int), (es.eraseIdxIfInBounds i)[j]? = some e → (delI ks k)[j]? = some k' → ∃ i : Nat, es[i]? = some e ∧ ks[i]? = some k' := fun j e k' e1 e2 => by
      have e1' : (es.toList.eraseIdx i)[j]? = some e := by rw [← he, Array.getElem?_toList]; exact e1
      rw [hd] at e2
      rw [List.getElem?_eraseIdx] at e1' e2
      split at e1'
      · rename_i hlt; rw [if_pos hlt] at e2; exact ⟨j, by simpa using e1', e2⟩
      · rename_i hlt; rw [if_neg hlt] at e2; exact ⟨j + 1, by simpa using e1', e2⟩
    refine ⟨es, es.eraseIdxIfInBounds i, clock, m1, ?_, f1, fin _ f1 ?_ ?_⟩
    · simp [Builtin.delete_, run_underlying h1, MapKept.run_getObj_map m1, hck, run_findKey h2 g4, MapKept.run_setObj_map _ m1, setB]
    · rw [he, hd, map_erase, map_erase, m2]
    · rw [he]; exact m7.sublist (List.eraseIdx_sublist _ _)
theorem hp_mapset {f : Ent → Ent} (hf : f .free = .free) {q : Nat} {e : Ent} (hq : q < s.H.length) (he : f e = e) (k : Nat) : hp ((s.H.set q e).map f) k = if k = q then e else f (hp s.H k) := by
  rw [hp_map _ hf, hp_set hq]
  unfold upd
  split
  · rename_i h; exact he
  · rfl
theorem mapd_lt {q : Nat} {en : Option Nat} {ks : List Int} {get : Int → List AV} (hH : hp s.H q = .mapd en ks get) : q < s.H.length := by
  rcases Nat.lt_or_ge q s.H.length with h | h
  · exact h
  · unfold hp at hH
    rw [List.getD_eq_getElem?_getD, List.getElem?_eq_none h] at hH
    cases hH
theorem del_sound {o : Oper} {t t2 : TypeId} {m x : Operand} {args : Array Operand} {ts : Array TypeId} {q : Nat} {k : Int} {en : Option Nat} {ks : List Int} {get : Int → List AV} (ho : o.op = .call { callee := .builtin .delete, args, argTypes := ts }) (ha : args.toList = [m, x]) (hts : ts.toList = [t, t2]) (hm : s.op m = .mp q) (hx : s.op x = .val (.int .i64 k)) (hH : hp s.H q = .mapd en ks get) (ht : enOf P t = some en)
    (hS : SR w0 W F ρ RO (hp s.H) w) (hT : TR ρ RO (hp s.H) s.tmps a) : Good P (execOp a.eval o) w0 W F ρ RO s.H w ⟨true, .tup [], (s.H.set q (.mapd en (delI ks k) fun j => bif j == k then zeroC en else get j)).map (walksDel q k)⟩ := by
  have vm := op_sound hT m
  have vx := op_sound hT x
  rw [hm] at vm; rw [hx] at vx
  obtain ⟨b, m', e1, e3, _, hM⟩ := mp_spec vm hH hS
  have e2 := key_spec (s := s) vx
  obtain ⟨es, es', clock, h1, h2, h3, h4⟩ := run_del (t2 := t2) (ty := o.type) (k := k) ht hM
  have harr : args = #[m, x] := Array.toList_inj.1 ha
  have hts' : ts = #[t, t2] := Array.toList_inj.1 hts
  subst harr; subst hts'
  have hql := mapd_lt hH
  have hget : ∀ j, hp ((s.H.set q (.mapd en (delI ks k) fun j => bif j == k then zeroC en else get j)).map (walksDel q k)) j = if j = q then .mapd en (delI ks k) (fun j => bif j == k then zeroC en else get j) else walksDel q k (hp s.H j) := hp_mapset rfl hql rfl
  obtain ⟨S, E⟩ := hS.setM (H' := hp ((s.H.set q (.mapd en (delI ks k) fun j => bif j == k then zeroC en else get j)).map (walksDel q k))) hH e3 h1 h4 (by rw [hget, if_pos rfl])
    (fun j hj => by
      rw [hget, if_neg hj]
      generalize hp s.H j = y
      cases y with
      | free => exact .inl ⟨rfl, fun _ e => by cases e⟩
      | dead => exact .inl ⟨rfl, fun _ e => by cases e⟩
      | live => exact .inl ⟨rfl, fun _ e => by cases e⟩
      | mapd => exact .inl ⟨rfl, fun _ e => by cases e⟩
      | iter n left =>
        simp only [walksDel]
        split
        · rename_i hn
          have := Nat.eq_of_beq_eq_true hn
          subst this
          exact .inr (.inr ⟨left, _, rfl, rfl⟩)
        · rename_i hn
          exact .inl ⟨rfl, fun l e => by cases e; simp at hn⟩)
    (fun j left r m2 hj hr => by
      have hjq : j ≠ q := fun e => by rw [hget, if_pos e] at hj; cases hj
      rw [hget, if_neg hjq] at hj
      generalize hy : hp s.H j = y at hj
      cases y with
      | free => cases hj
      | dead => cases hj
      | live => cases hj
      | mapd => cases hj
      | iter n l =>
        simp only [walksDel] at hj
        split at hj
        · rename_i hn
          have := Nat.eq_of_beq_eq_true hn
          subst this
          cases hj
          obtain ⟨r', m3, c1, c2, ⟨y, si, se, la, c3⟩, c4⟩ := hS.mo.iter j n l hy
          rw [hr] at c1; cases c1
          obtain ⟨b', m4, d1, es2, cl2, since, seen, last, d2, d3, d4, d5, d6, d7⟩ := c4 _ _ _ hH
          rw [e3] at d1; cases d1
          rw [h1] at d2; cases d2
          have hrb : r ≠ b := fun e => by subst e; rw [h1] at d3; cases d3
          refine ⟨es', clock, since, seen, last, setB_at h1, by rw [setB_other hrb]; exact d3, ⟨d4.1, d4.2.1, fun _ h => by cases h⟩, fun e he => ?_, ⟨d6.1.filter _, fun j hj => mem_delI.2 ⟨d6.2 j (mem_delI.1 hj).1, (mem_delI.1 hj).2⟩⟩, fun i e k' g1 g2 => ?_⟩
          · obtain ⟨i, hi, rfl⟩ := List.getElem_of_mem he
            have hi' : i < es'.size := by simpa using hi
            have hlen : es'.size = (delI ks k).length := by
              obtain ⟨es3, cl3, z1, z2, _⟩ := h4
              rw [setB_at h1] at z1; cases z1
              have := congrArg List.length z2; simpa using this
            obtain ⟨i2, z1, z2⟩ := h3 i es'.toList[i] ((delI ks k)[i]'(by omega)) (by rw [Array.getElem?_eq_getElem hi']; simp) (List.getElem?_eq_getElem (by omega))
            have z3 : es.toList[i2]? = some es'.toList[i] := by rw [Array.getElem?_toList]; simpa using z1
            exact d5 _ (List.mem_of_getElem? z3)
          · obtain ⟨i2, z1, z2⟩ := h3 i e k' g1 g2
            have hk := (mem_delI.1 (List.mem_of_getElem? g2)).2
            rw [mem_delI]
            exact ⟨fun h => (d7 i2 e k' z1 z2).1 h.1, fun h => ⟨(d7 i2 e k' z1 z2).2 h, hk⟩⟩
        · rename_i hn
          cases hj
          simp at hn)
  refine ⟨.tuple #[], setB w b (.map es' clock), ρ, .inl ?_, ?_, S, E, by simp, by simp [setB]⟩
  · refine run_builtin ho ?_
    simp only [builtin]
    rw [Sem.run_bind]
    have : (Builtin.delete_ #[t, t2] o.type (#[m, x].map a.eval)).run P w = .ok (.tuple #[]) (setB w b (.map es' clock)) := by
      have : #[m, x].map a.eval = #[.map (some b), .int .i64 k] := by simp [e1, e2]
      rw [this]; exact h2
    rw [this]; rfl
  · exact .tup _ _ _ rfl fun i c u h1 h2 => by simp at h1
theorem run_put_new {t : TypeId} {en : Option Nat} {b : Nat} {ks : List Int} {get : Int → List AV} {k : Int} {cs : List AV} {v : Value} (ht : enOf P t = some en) (hM : MapAt RO w b en ks get) (hv : VR (fun _ => none) RO noHp (packV en.isSome cs) v) (hk0 : memI ks k = false) :
    ∃ (es es' : Array MapEntry) (clock clock' : Nat), w.heap[b]? = some (.map es clock) ∧ (Instr.mapUpdate t (.map (some b)) (.int .i64 k) v).run P w = .ok () (setB w b (.map es' clock')) ∧
      MapAt RO (setB w b (.map es' clock')) b en (putI ks k) fun j => bif j == k then cs else get j := by
  obtain ⟨kt, et, h1, h2, h3⟩ := enOf_spec ht
  obtain ⟨es, clock, m1, m2, m3, m4, m5, m6, m7, m8⟩ := hM
  have hck : ∀ e : Bool, (Instr.checkKey e 10000 kt (.int .i64 k)).run P w = .ok () w := fun e => run_checkKey (n := 9999) h2 (by simp [IsKey]) e
  have hl : es.size = ks.length := by have := congrArg List.length m2; simpa using this
  have at' : ∀ j, j ≠ k → (bif j == k then cs else get j) = get j := fun j e => by rw [beq_eq_false_iff_ne.2 e, cond_false]
  have atk : (bif k == k then cs else get k) = cs := by rw [beq_self_eq_true, cond_true]
  rcases find_spec k es.toList ks 0 m2 with ⟨g1, g2⟩ | ⟨g1, i, e, g2, g3, g4⟩
  · have hk : k ∉ ks := fun h => by rw [memI_iff.2 h] at g1; cases g1
    have hp : putI ks k = ks ++ [k] := by unfold putI; rw [g1, cond_false]
    refine ⟨es, es.push { key := .int .i64 k, val := v, born := clock }, clock, clock + 1, m1, ?_, ?_⟩
    · simp [Instr.mapUpdate, run_underlying h1, MapKept.run_getObj_map m1, hck, run_findKey h2 g2, MapKept.run_setObj_map _ m1, setB]
    · rw [hp]
      refine ⟨_, _, setB_at m1, by simp [m2], ?_, by simp; omega, trivial, fun j e k' e1 e2 => ?_, ?_, fun j hj => ?_⟩
      · rw [List.nodup_append]
        exact ⟨m3, by simp, fun a ha b hb => by simp at hb; subst hb; exact fun e => hk (e ▸ ha)⟩
      · show VR _ _ _ (packV en.isSome (bif k' == k then cs else get k')) _ ∧ _
        by_cases hj : j < es.size
        · have e1' : es[j]? = some e := by rw [Array.getElem?_push, if_neg (by omega)] at e1; exact e1
          have e2' : ks[j]? = some k' := by rw [List.getElem?_append_left (by omega)] at e2; exact e2
          have := m6 j e k' e1' e2'
          rw [at' k' fun h => hk (h ▸ List.mem_of_getElem? e2')]
          exact ⟨this.1, by omega⟩
        · have hj2 : j = es.size := by
            have := (Array.getElem?_eq_some_iff.1 e1).1
            simp at this; omega
          subst hj2
          rw [Array.getElem?_push_size] at e1
          cases e1
          rw [hl, List.getElem?_concat_length] at e2
          cases e2
          rw [atk]
          exact ⟨hv, Nat.lt_succ_self _⟩
      · rw [Array.toList_push, List.pairwise_append]
        refine ⟨m7, by simp, fun x hx y hy => ?_⟩
        simp at hy; subst hy
        obtain ⟨j, hj, rfl⟩ := List.getElem_of_mem hx
        have hj' : j < es.size := by simpa using hj
        have := (m6 j es.toList[j] (ks[j]'(by omega)) (by rw [Array.getElem?_eq_getElem hj']; simp) (List.getElem?_eq_getElem (by omega))).2
        show es.toList[j].born ≠ clock
        omega
      · rw [List.mem_append] at hj
        show VR _ _ _ (packV en.isSome (bif j == k then cs else get j)) _
        rw [at' j fun h => hj (.inr (by simp [h]))]
        exact m8 j fun h => hj (.inl h)
  · rw [g1] at hk0; cases hk0
theorem nodup_get {ks : List Int} (h : ks.Nodup) {i j : Nat} {k : Int} (h1 : ks[i]? = some k) (h2 : ks[j]? = some k) : i = j := by
  have a1 := (List.getElem?_eq_some_iff.1 h1)
  have a2 := (List.getElem?_eq_some_iff.1 h2)
  obtain ⟨b1, c1⟩ := a1
  obtain ⟨b2, c2⟩ := a2
  rcases Nat.lt_trichotomy i j with hl | e | hl
  · exact absurd (c1.trans c2.symm) (List.pairwise_iff_getElem.1 h i j b1 b2 hl)
  · exact e
  · exact absurd (c2.trans c1.symm) (List.pairwise_iff_getElem.1 h j i b2 b1 hl)
theorem run_put_old {t : TypeId} {en : Option Nat} {b : Nat} {ks : List Int} {get : Int → List AV} {k : Int} {cs : List AV} {v : Value} (ht : enOf P t = some en) (hM : MapAt RO w b en ks get) (hv : VR (fun _ => none) RO noHp (packV en.isSome cs) v) (hk0 : memI ks k = true) :
    ∃ (es es' : Array MapEntry) (clock clock' : Nat), w.heap[b]? = some (.map es clock) ∧ (Instr.mapUpdate t (.map (some b)) (.int .i64 k) v).run P w = .ok () (setB w b (.map es' clock')) ∧
      MapAt RO (setB w b (.map es' clock')) b en (putI ks k) fun j => bif j == k then cs else get j := by
  obtain ⟨kt, et, h1, h2, h3⟩ := enOf_spec ht
  obtain ⟨es, clock, m1, m2, m3, m4, m5, m6, m7, m8⟩ := hM
  have hck : ∀ e : Bool, (Instr.checkKey e 10000 kt (.int .i64 k)).run P w = .ok () w := fun e => run_checkKey (n := 9999) h2 (by simp [IsKey]) e
  have hl : es.size = ks.length := by have := congrArg List.length m2; simpa using this
  have at' : ∀ j, j ≠ k → (bif j == k then cs else get j) = get j := fun j e => by rw [beq_eq_false_iff_ne.2 e, cond_false]
  have atk : (bif k == k then cs else get k) = cs := by rw [beq_self_eq_true, cond_true]
  rcases find_spec k es.toList ks 0 m2 with ⟨g1, g2⟩ | ⟨g1, i, e0, g2, g3, g4⟩
  · rw [g1] at hk0; cases hk0
  · have hp : putI ks k = ks := by unfold putI; rw [g1, cond_true]
    have hi : i < es.size := by have := (List.getElem?_eq_some_iff.1 g2).1; simpa using this
    have he0 : es[i]? = some e0 := by rw [← Array.getElem?_toList]; exact g2
    have hkey : e0.key = .int .i64 k := by
      have a1 : (es.toList.map (·.key))[i]? = some e0.key := by rw [List.getElem?_map, g2]; rfl
      rw [m2, List.getElem?_map, g3] at a1
      exact (Option.some.inj a1).symm
    have hst : (Instr.keyThatStays (.int .i64 k) (.int .i64 k)).run P w = .ok (.int .i64 k) w := by
      unfold Instr.keyThatStays
      rw [if_pos (by simp [Instr.sameBits])]; rfl
    have hmod : ∀ j, (es.modify i fun e => { e with key := .int .i64 k, val := v })[j]? = if j = i then some { e0 with key := .int .i64 k, val := v } else es[j]? := fun j => by
      rw [Array.getElem?_modify]
      by_cases hj : i = j
      · subst hj; simp [he0]
      · rw [if_neg hj, if_neg (Ne.symm hj)]
    refine ⟨es, es.modify i fun e => { e with key := .int .i64 k, val := v }, clock, clock, m1, ?_, ?_⟩
    · simp [Instr.mapUpdate, run_underlying h1, MapKept.run_getObj_map m1, hck, run_findKey h2 g4, he0, hkey, hst, MapKept.run_setObj_map _ m1, setB]
    · rw [hp]
      refine ⟨_, _, setB_at m1, ?_, m3, m4, trivial, fun j e k' e1 e2 => ?_, ?_, fun j hj => ?_⟩
      · rw [← m2]
        apply List.ext_getElem?
        intro j
        rw [List.getElem?_map, List.getElem?_map, Array.getElem?_toList, Array.getElem?_toList, hmod]
        split
        · rename_i hj; subst hj; rw [he0]; simp [hkey]
        · rfl
      · show VR _ _ _ (packV en.isSome (bif k' == k then cs else get k')) _ ∧ _
        rw [hmod] at e1
        split at e1
        · rename_i hj; subst hj
          cases e1
          rw [g3] at e2; cases e2
          rw [atk]
          exact ⟨hv, (m6 j e0 k he0 g3).2⟩
        · rename_i hj
          rw [at' k' fun h => hj (nodup_get m3 (h ▸ e2) g3)]
          exact m6 j e k' e1 e2
      · rw [List.pairwise_iff_getElem] at m7 ⊢
        have born : ∀ (j : Nat) (hj : j < (es.modify i fun e => { e with key := .int .i64 k, val := v }).toList.length) (hj' : j < es.toList.length), ((es.modify i fun e => { e with key := .int .i64 k, val := v }).toList[j]).born = (es.toList[j]).born := fun j hj hj' => by
          have a1 : (es.modify i fun e => { e with key := .int .i64 k, val := v })[j]? = some ((es.modify i fun e => { e with key := .int .i64 k, val := v }).toList[j]) := by rw [← Array.getElem?_toList]; exact List.getElem?_eq_getElem hj
          have a2 : es[j]? = some es.toList[j] := by rw [← Array.getElem?_toList]; exact List.getElem?_eq_getElem hj'
          rw [hmod] at a1
          split at a1
          · rename_i hji; subst hji
            rw [he0] at a2
            rw [← Option.some.inj a1, ← Option.some.inj a2]
          · rw [a2] at a1; rw [← Option.some.inj a1]
        intro x y hx hy hxy
        have lx : x < es.toList.length := by simpa using hx
        have ly : y < es.toList.length := by simpa using hy
        rw [born x hx lx, born y hy ly]
        exact m7 x y lx ly hxy
      · show VR _ _ _ (packV en.isSome (bif j == k then cs else get j)) _
        rw [at' j fun h => hj (h ▸ memI_iff.1 g1)]
        exact m8 j hj
theorem cellsEn_ok {en : Option Nat} {c : AV} {cs : List AV} {v : Value} (h : cellsEn en c = some cs) (hv : VR ρ RO (hp s.H) c v) : VR (fun _ => none) RO noHp (packV en.isSome cs) v := by
  unfold cellsEn at h
  split at h
  · cases h
    cases hv; rename_i h; exact .val _ _ h
  · split at h
    · rename_i hc
      cases h
      simp only [Bool.and_eq_true] at hc
      exact VR.plain (c := .agg _) (by simpa [plainA] using hc.2) hv
    · cases h
  · cases h
theorem put_sound {o : Oper} {t : TypeId} {m x y : Operand} {q : Nat} {k : Int} {en : Option Nat} {ks : List Int} {get : Int → List AV} {cs : List AV} (ho : o.op = .mapUpdate t m x y) (hm : s.op m = .mp q) (hx : s.op x = .val (.int .i64 k)) (hH : hp s.H q = .mapd en ks get) (ht : enOf P t = some en) (hc : cellsEn en (s.op y) = some cs)
    (hS : SR w0 W F ρ RO (hp s.H) w) (hT : TR ρ RO (hp s.H) s.tmps a) : Good P (execOp a.eval o) w0 W F ρ RO s.H w ⟨true, undefA, (s.H.set q (.mapd en (putI ks k) fun j => bif j == k then cs else get j)).map (walksOff q)⟩ := by
  have vm := op_sound hT m
  have vx := op_sound hT x
  have vy := op_sound hT y
  rw [hm] at vm; rw [hx] at vx
  obtain ⟨b, m', e1, e3, _, hM⟩ := mp_spec vm hH hS
  have e2 := key_spec (s := s) vx
  have hv := cellsEn_ok (s := s) hc vy
  have hrun : ∃ (es es' : Array MapEntry) (clock clock' : Nat), w.heap[b]? = some (.map es clock) ∧ (Instr.mapUpdate t (.map (some b)) (.int .i64 k) (a.eval y)).run P w = .ok () (setB w b (.map es' clock')) ∧
      MapAt RO (setB w b (.map es' clock')) b en (putI ks k) fun j => bif j == k then cs else get j := by
    cases hk : memI ks k with
    | false => exact run_put_new ht hM hv hk
    | true => exact run_put_old ht hM hv hk
  obtain ⟨es, es', clock, clock', h1, h2, h4⟩ := hrun
  have hql := mapd_lt hH
  have hget : ∀ j, hp ((s.H.set q (.mapd en (putI ks k) fun j => bif j == k then cs else get j)).map (walksOff q)) j = if j = q then .mapd en (putI ks k) (fun j => bif j == k then cs else get j) else walksOff q (hp s.H j) := hp_mapset rfl hql rfl
  obtain ⟨S, E⟩ := hS.setM (H' := hp ((s.H.set q (.mapd en (putI ks k) fun j => bif j == k then cs else get j)).map (walksOff q))) hH e3 h1 h4 (by rw [hget, if_pos rfl])
    (fun j hj => by
      rw [hget, if_neg hj]
      generalize hp s.H j = y
      cases y with
      | free => exact .inl ⟨rfl, fun _ e => by cases e⟩
      | dead => exact .inl ⟨rfl, fun _ e => by cases e⟩
      | live => exact .inl ⟨rfl, fun _ e => by cases e⟩
      | mapd => exact .inl ⟨rfl, fun _ e => by cases e⟩
      | iter n left =>
        simp only [walksOff]
        split
        · exact .inr (.inl ⟨rfl, fun h => by cases h⟩)
        · rename_i hn
          exact .inl ⟨rfl, fun l e => by cases e; simp at hn⟩)
    (fun j left r m2 hj hr => by
      have hjq : j ≠ q := fun e => by rw [hget, if_pos e] at hj; cases hj
      rw [hget, if_neg hjq] at hj
      generalize hy : hp s.H j = y at hj
      cases y with
      | free => cases hj
      | dead => cases hj
      | live => cases hj
      | mapd => cases hj
      | iter n l =>
        simp only [walksOff] at hj
        split at hj
        · cases hj
        · rename_i hn
          cases hj
          simp at hn)
  refine ⟨undef, setB w b (.map es' clock'), ρ, .inr ⟨?_, rfl⟩, .undefA, S, E, by simp, by simp [setB]⟩
  unfold execOp
  simp only [ho, e1, e2]
  rw [Sem.run_bind, h2]; rfl
theorem entry_sound {o : Oper} {it : Operand} {q mm : Nat} {left : Lf} {k : Int} {en : Option Nat} {ks : List Int} {get : Int → List AV} (ho : o.op = .entry it) (hi : s.op it = .itr q) (hq : hp s.H q = .iter mm left) (hm : hp s.H mm = .mapd en ks get) (hk : left.cur = some k)
    (hS : SR w0 W F ρ RO (hp s.H) w) (hT : TR ρ RO (hp s.H) s.tmps a) : Good P (execOp a.eval o) w0 W F ρ RO s.H w ⟨true, .tup [.val (.int .i64 k), packV en.isSome (get k)], s.H⟩ := by
  have vi := op_sound hT it
  rw [hi] at vi
  obtain ⟨rb, m1, c1, c2, c3, c4⟩ := hS.mo.iter q mm left hq
  obtain ⟨b, m2, d1, es, clock, since, seen, last, d2, d3, ⟨d4, d4', d4''⟩, d5, d6, d7⟩ := c4 en ks get hm
  obtain ⟨b', m3, e1, e2, es', clock', e3, e4, e5, e6, e7, e8, e9, e10⟩ := hS.mo.map mm en ks get hm
  rw [d1] at e1; cases e1
  rw [d2] at e3; cases e3
  obtain ⟨f1, i, e, f2, f3, f4⟩ := d4'' k hk
  subst f1
  have hcv : a.eval it = .pointer (some ⟨rb, 0, none⟩) := by
    generalize a.eval it = cv at vi
    cases vi with
    | itr _ _ rb' g0 g1 =>
      obtain ⟨m4, g2⟩ := g1 (by rw [hq]; rfl)
      rw [c1] at g2; cases g2; rfl
  have hkey : e.key = .int .i64 k := by
    have a1 : (es.toList.map (·.key))[i]? = some e.key := by rw [List.getElem?_map, Array.getElem?_toList, f2]; rfl
    rw [e4, List.getElem?_map, f3] at a1
    exact (Option.some.inj a1).symm
  have hf : es.find? (·.born == e.born) = some e := by
    rw [← Array.find?_toList]
    refine find_born e es.toList ?_ (List.mem_of_getElem? (by rw [Array.getElem?_toList]; exact f2))
    rw [List.Nodup, List.pairwise_map]
    exact e9
  have hr : (Instr.entry (.pointer (some ⟨rb, 0, none⟩))).run P w = .ok (.tuple #[.int .i64 k, e.val]) w := by
    rw [← hkey]
    simp only [Instr.entry, getObj, Sem.run_bind, Sem.run, d3, d2, Result.andThen, f4, bne_self_eq_false, Bool.false_eq_true, if_false, hf]
    rfl
  refine ⟨.tuple #[.int .i64 k, e.val], w, ρ, .inl ?_, ?_, hS, .refl _ _ _, Nat.le_refl _, Nat.le_refl _⟩
  · unfold execOp
    simp only [ho, hcv]
    rw [Sem.run_bind, hr]; rfl
  · refine .tup _ _ _ rfl fun j c v g1 g2 => ?_
    match j with
    | 0 => simp at g1 g2; subst g1; subst g2; exact .val _ _ rfl
    | 1 => simp at g1 g2; subst g1; subst g2; exact (e8 i e k f2 f3).1.closed _ _
    | j + 2 => simp at g1
theorem mapE_sound {o : Oper} {e : Eff} (h : mapE P s o = some e) (hS : SR w0 W F ρ RO (hp s.H) w) (hT : TR ρ RO (hp s.H) s.tmps a) : Good P (execOp a.eval o) w0 W F ρ RO s.H w e := by
  unfold mapE at h
  split at h
  · rename_i t ho
    split at h
    · cases h; exact make_sound ho hS
    · cases h
  · rename_i t m x ok ho
    split at h
    · rename_i q hm
      split at h
      · rename_i k hx
        split at h
        · rename_i en ks get hH
          split at h
          · rename_i en' ht
            split at h
            · rename_i hen
              have := eqEn_eq hen; subst this
              cases ok with
              | true => cases h; exact lookup_sound (ok := true) ho hm hx hH ht hS hT
              | false => cases h; exact lookup_sound (ok := false) ho hm hx hH ht hS hT
            · cases h
          · cases h
        · cases h
      · cases h
    · cases h
  · rename_i t m x v ho
    split at h
    · rename_i q hm
      split at h
      · rename_i k hx
        split at h
        · rename_i en ks get hH
          split at h
          · rename_i en' ht
            split at h
            · rename_i hen
              split at h
              · rename_i cs hc
                have := eqEn_eq hen; subst this
                cases h
                exact put_sound ho hm hx hH ht hc hS hT
              · cases h
            · cases h
          · cases h
        · cases h
      · cases h
    · cases h
  · rename_i t m ho
    split at h
    · rename_i q hm
      split at h
      · rename_i en ks get hH
        split at h
        · rename_i en' ht
          split at h
          · rename_i hen
            have := eqEn_eq hen; subst this
            cases h
            exact maprange_sound ho hm hH ht hS hT
          · cases h
        · cases h
      · cases h
    · cases h
  · rename_i it ho
    split at h
    · rename_i q hi
      split at h
      · rename_i mm left hq
        split at h
        · rename_i en ks get hm
          split at h
          · rename_i k hk
            cases h
            exact entry_sound ho hi hq hm hk hS hT
          · cases h
        · cases h
      · cases h
    · cases h
  · rename_i args ts ho
    split at h
    · rename_i m x t t2 ha hts
      split at h
      · rename_i q hm
        split at h
        · rename_i k hx
          split at h
          · rename_i en ks get hH
            split at h
            · rename_i en' ht
              split at h
              · rename_i hen
                have := eqEn_eq hen; subst this
                cases h
                exact del_sound ho ha hts hm hx hH ht hS hT
              · cases h
            · cases h
          · cases h
        · cases h
      · cases h
    · cases h
  · rename_i args ts ho
    split at h
    · rename_i m t ha hts
      split at h
      · rename_i q hm
        split at h
        · rename_i en ks get hH
          split at h
          · rename_i en' ht
            split at h
            · rename_i hen
              have := eqEn_eq hen; subst this
              cases h
              exact maplen_sound ho ha hts hm hH ht hS hT
            · cases h
          · cases h
        · cases h
      · cases h
    · cases h
  · cases h
/-- A walk's block goes on. -/
theorem SR.stepI {H : Hp} {q mm rb m' : Nat} {left left' : Lf} {y : Option Nat} {since last : Nat} {seen : Array Nat} (h : SR w0 W F ρ RO H w) (hH : H q = .iter mm left) (hp : ρ q = some ⟨rb, m'⟩)
    (hit : ∀ en ks get, H mm = .mapd en ks get → ∃ b m, ρ mm = some ⟨b, m⟩ ∧ IterAt (setB w rb (.mapIter y since seen last)) rb b ks left') :
    SR w0 W F ρ RO (upd H q (.iter mm left')) (setB w rb (.mapIter y since seen last)) ∧ Ext ρ RO H ρ RO (upd H q (.iter mm left')) := by
  obtain ⟨rb', m0, g1, g2, ⟨y0, s0, se0, l0, g3⟩, g4⟩ := h.mo.iter q mm left hH
  rw [hp] at g1; cases g1
  have hE : ∀ k, k ≠ q → upd H q (.iter mm left') k = H k := fun k hk => by simp [upd, hk]
  have hq : upd H q (.iter mm left') q = .iter mm left' := by simp [upd]
  have kinds : ∀ o, (H o).kind = (upd H q (.iter mm left') o).kind := fun o => by
    by_cases e : o = q
    · subst e; rw [hH, hq]; rfl
    · rw [hE o e]
  have lv : ∀ o x, upd H q (.iter mm left') o = .live x → o ≠ q ∧ H o = .live x := fun o x hx => by
    by_cases e : o = q
    · subst e; rw [hq] at hx; cases hx
    · exact ⟨e, (hE o e) ▸ hx⟩
  have nf : ∀ o, H o ≠ .free → upd H q (.iter mm left') o ≠ .free := fun o h0 => by
    by_cases e : o = q
    · subst e; rw [hq]; intro h; cases h
    · rw [hE o e]; exact h0
  have E : Ext ρ RO H ρ RO (upd H q (.iter mm left')) := ⟨fun _ _ h => h, fun o h0 => ⟨nf o h0, fun x hx => ⟨rfl, x, (lv o x hx).2, rfl, rfl⟩⟩, fun o _ _ => ⟨rfl, kinds o⟩⟩
  have cells : ∀ {k : Nat} {x : Obj}, w.heap[k]? = some x → (∀ m s e l, x ≠ .mapIter m s e l) → (setB w rb (.mapIter y since seen last)).heap[k]? = some x := fun {k x} hx hn => by
    rw [setB_other (fun e => ?_)]
    · exact hx
    · subst e; rw [g3] at hx; cases hx; exact hn _ _ _ _ rfl
  refine ⟨⟨h.os, h.tape, h.output, by have := h.size; simpa [setB] using this, fun k hk hW => ?_, fun o x hx => ?_, fun o o' x x' b m m' h1 h2 p1 p2 => ?_, fun c arr hc => ?_, h.old, h.fix, ?_⟩, E⟩
  · have hkb : k ≠ rb := fun e => by subst e; rcases g2 with g2 | g2; omega; exact hW g2
    rw [setB_other hkb]; exact h.kept k hk hW
  · obtain ⟨_, hl⟩ := lv o x hx
    rcases h.obj o x hl with g | ⟨c, m', arr, h1, h2, h3, ⟨f, f1, f2⟩, h5, h6, h7, h8, h9⟩
    · exact .inl g
    · exact .inr ⟨c, m', arr, h1, h2, h3, ⟨f, f1, cells f2 (fun _ _ _ _ e => by cases e)⟩, h5, h6, h7, fun i k a v hi e1 e2 => (h8 i k a v hi e1 e2).ext E.1 _ E, h9⟩
  · exact h.inj o o' x x' b m m' (lv o x h1).2 (lv o' x' h2).2 p1 p2
  · obtain ⟨t, f, e⟩ := h.ro c arr hc
    exact ⟨t, f, cells e (fun _ _ _ _ e => by cases e)⟩
  · have other : ∀ o en' ks2 get2, upd H q (.iter mm left') o = .mapd en' ks2 get2 → H o = .mapd en' ks2 get2 := fun o en' ks2 get2 hx => by
      by_cases e : o = q
      · subst e; rw [hq] at hx; cases hx
      · rw [hE o e] at hx; exact hx
    refine ⟨fun o en' ks2 get2 e => ?_, fun o q' left2 e => ?_, fun o o' c m1 m2 k1 k2 p1 p2 => ?_, fun o q' left2 e => ?_⟩
    · obtain ⟨c, m1, c1, c2, es2, cl2, c3, c4⟩ := h.mo.map o en' ks2 get2 (other o en' ks2 get2 e)
      exact ⟨c, m1, c1, c2, es2, cl2, cells c3 (fun _ _ _ _ e => by cases e), c4⟩
    · by_cases hoq : o = q
      · subst hoq
        rw [hq] at e; cases e
        refine ⟨rb, m', hp, g2, ⟨y, since, seen, last, setB_at g3⟩, fun en ks get e2 => hit en ks get (other _ en ks get e2)⟩
      · rw [hE o hoq] at e
        obtain ⟨r, m1, c1, c2, ⟨y', since', seen', last', c3⟩, c4⟩ := h.mo.iter o q' left2 e
        have hr : r ≠ rb := fun e2 => by
          subst e2
          exact hoq (h.mo.inj o q r m1 m' (by rw [e]; simp [Ent.kind]) (by rw [hH]; simp [Ent.kind]) c1 hp)
        refine ⟨r, m1, c1, c2, ⟨y', since', seen', last', by rw [setB_other hr]; exact c3⟩, fun en' ks2 get2 e2 => ?_⟩
        obtain ⟨c, m2, d1, es2, cl2, si, se, la, d2, d3, d4⟩ := c4 en' ks2 get2 (other _ en' ks2 get2 e2)
        exact ⟨c, m2, d1, es2, cl2, si, se, la, cells d2 (fun _ _ _ _ e => by cases e), by rw [setB_other hr]; exact d3, d4⟩
    · exact h.mo.inj o o' c m1 m2 (by rw [kinds o]; exact k1) (by rw [kinds o']; exact k2) p1 p2
    · by_cases hoq : o = q
      · subst hoq
        rw [hq] at e; cases e
        exact nf _ (h.mo.fr o mm left hH)
      · rw [hE o hoq] at e
        exact nf _ (h.mo.fr o q' left2 e)
theorem nextK_spec {R : Type} {left : List Int} {f : Int → Option R} {z : Option R} {r : R} (h : nextK left f z = some r) : (left = [] ∧ z = some r) ∨ (left ≠ [] ∧ ∀ k ∈ left, f k = some r) := by
  unfold nextK at h
  split at h
  · exact .inl ⟨rfl, h⟩
  · rename_i hl
    split at h
    · rename_i he
      cases h
      exact .inr ⟨by simp, Classical.choose_spec he⟩
    · cases h
theorem nextK_of {R : Type} {left : List Int} {f : Int → Option R} {z : Option R} {r : R} (hl : left ≠ []) (h : ∀ k ∈ left, f k = some r) : nextK left f z = some r := by
  unfold nextK
  split
  · exact absurd rfl hl
  · rename_i a l
    have he : ∃ r, ∀ k ∈ a :: l, f k = some r := ⟨r, h⟩
    rw [dif_pos he]
    have h1 := Classical.choose_spec he a (by simp)
    rw [h a (by simp)] at h1
    exact h1.symm
theorem nextOf_spec {o : Oper} {q mm : Nat} {en : Option Nat} {left : Lf} {get : Int → List AV} (h : nextOf s o = some (q, mm, en, left, get)) :
    ∃ it ks, o.op = .next it false ∧ s.op it = .itr q ∧ hp s.H q = .iter mm left ∧ hp s.H mm = .mapd en ks get := by
  unfold nextOf at h
  split at h
  · rename_i it ho
    split at h
    · rename_i q' hi
      split at h
      · rename_i m' left' hq
        split at h
        · rename_i en' ks get' hm
          cases h
          exact ⟨it, ks, ho, hi, hq, hm⟩
        · cases h
      · cases h
    · cases h
  · cases h
theorem iter_lt {q mm : Nat} {left : Lf} (hH : hp s.H q = .iter mm left) : q < s.H.length := by
  rcases Nat.lt_or_ge q s.H.length with h | h
  · exact h
  · unfold hp at hH
    rw [List.getD_eq_getElem?_getD, List.getElem?_eq_none h] at hH
    cases hH
/-- A walk's step: it is over, or comes to one of the keys that are left. -/
theorem next_leads {o : Oper} {q mm : Nat} {en : Option Nat} {left : Lf} {get : Int → List AV} (h : nextOf s o = some (q, mm, en, left, get)) (hs : SS w0 W F ρ RO s a w) {Kk : Act → World → Prop} {Q : Exit → Act → World → Prop}
    (h0 : left.l = [] → ∀ ρ' RO' cv w', SS w0 W F ρ' RO' (s.put o.dst (.tup [.val (.bool false)]) s.H) (a.put o.dst cv) w' → Ext ρ RO (hp s.H) ρ' RO' (hp s.H) → Kk (a.put o.dst cv) w')
    (h1 : ∀ k ∈ left.l, ∀ ρ' RO' cv w', SS w0 W F ρ' RO' (nextS s o q mm en left get k) (a.put o.dst cv) w' → Ext ρ RO (hp s.H) ρ' RO' (hp (nextS s o q mm en left get k).H) → Kk (a.put o.dst cv) w') : o.wp P a w Kk Q := by
  obtain ⟨it, ks, ho, hi, hq, hm⟩ := nextOf_spec h
  have vi := op_sound hs.tr it
  rw [hi] at vi
  obtain ⟨rb, m1, c1, c2, c3, c4⟩ := hs.sr.mo.iter q mm left hq
  obtain ⟨b, m2, d1, es, clock, since, seen, last, d2, d3, ⟨d4, d4', d4''⟩, d5, ⟨d6, d6'⟩, d7⟩ := c4 en ks get hm
  obtain ⟨b', m3, e1, e2, es', clock', e3, e4, e5, e6, e7, e8, e9, e10⟩ := hs.sr.mo.map mm en ks get hm
  rw [d1] at e1; cases e1
  rw [d2] at e3; cases e3
  have hl : es.size = ks.length := by have := congrArg List.length e4; simpa using this
  have hcv : a.eval it = .pointer (some ⟨rb, 0, none⟩) := by
    generalize a.eval it = cv at vi
    cases vi with
    | itr _ _ rb' g0 g1 =>
      obtain ⟨m4, g2⟩ := g1 (by rw [hq]; rfl)
      rw [c1] at g2; cases g2; rfl
  rcases run_next_at (P := P) w o.type rb b since last seen es clock d3 d2 d5 d4 with ⟨z1, z2⟩ | ⟨e, z1, w1, z2, z3⟩
  · have hleft : left.l = [] := by
      rw [List.eq_nil_iff_forall_not_mem]
      intro k hk
      obtain ⟨i, hi', rfl⟩ := List.getElem_of_mem (d6' k hk)
      have hi2 : i < es.size := by omega
      have hk' := (d7 i es[i] ks[i] (Array.getElem?_eq_getElem hi2) (List.getElem?_eq_getElem hi')).1 hk
      have hmem : es[i] ∈ leftOf es seen := by
        unfold leftOf
        rw [Array.mem_filter]
        exact ⟨by simp, by simpa using hk'⟩
      rw [Array.eq_empty_of_size_eq_zero z1] at hmem
      simp at hmem
    unfold Oper.wp
    have hx : (execOp a.eval o).run P w = .ok (.value (.tuple #[.bool false])) w := by
      unfold execOp
      simp only [ho, hcv]
      rw [Sem.run_bind, z2]; rfl
    rw [hx, Oper.upon_value]
    refine h0 hleft ρ RO _ w (hs.put o.dst hs.sr (.refl _ _ _) ?_) (.refl _ _ _)
    exact .tup _ _ _ rfl fun i c v g1 g2 => by
      cases i with
      | zero => simp at g1 g2; subst g1; subst g2; exact .val _ _ rfl
      | succ i => simp at g1
  · have hmem : e ∈ es.toList ∧ ¬ seen.contains e.born = true := by
      unfold leftOf at z1
      simp at z1
      exact ⟨by simpa using z1.1, by simpa using z1.2⟩
    obtain ⟨i, hi1, hi2⟩ := List.getElem_of_mem hmem.1
    have hi3 : i < es.size := by simpa using hi1
    have hi4 : i < ks.length := by omega
    have hei : es[i]? = some e := by rw [Array.getElem?_eq_getElem hi3]; simp at hi2; rw [hi2]
    have hki : ks[i]? = some ks[i] := List.getElem?_eq_getElem hi4
    have hkl : ks[i] ∈ left.l := (d7 i e ks[i] hei hki).2 hmem.2
    have hkey : e.key = .int .i64 ks[i] := by
      have a1 : (es.toList.map (·.key))[i]? = some e.key := by rw [List.getElem?_map, Array.getElem?_toList, hei]; rfl
      rw [e4, List.getElem?_map, hki] at a1
      exact (Option.some.inj a1).symm
    have hval := (e8 i e ks[i] hei hki).1
    have hs1 : SS w0 W F ρ RO s a w1 := by
      rcases z2 with rfl | rfl
      · exact hs
      · exact ⟨hs.sr.drew1, hs.tr⟩
    have hh1 : w1.heap = w.heap := by rcases z2 with rfl | rfl <;> rfl
    have hrb : rb ≠ b := fun e => by subst e; rw [d2] at d3; cases d3
    have h3 : w1.heap[rb]? = some (.mapIter (some b) since seen last) := by rw [hh1]; exact d3
    have h2 : w1.heap[b]? = some (.map es clock) := by rw [hh1]; exact d2
    obtain ⟨S, E⟩ := hs1.sr.stepI (left' := ⟨delI left.l ks[i], some ks[i]⟩) (y := some b) (since := since) (seen := seen.push e.born) (last := clock) hq c1 (fun en' ks' get' g => by
      rw [hm] at g; cases g
      refine ⟨b, m2, d1, es, clock, since, seen.push e.born, clock, by rw [setB_other (Ne.symm hrb)]; exact h2, setB_at h3, ⟨Nat.le_trans d4 d4', Nat.le_refl _, fun k hk => by cases hk; exact ⟨rfl, i, e, hei, hki, Array.back?_push⟩⟩, d5, ⟨d6.filter _, fun j hj => d6' j (mem_delI.1 hj).1⟩, fun j x k g1 g2 => ?_⟩
      rw [mem_delI, d7 j x k g1 g2]
      have hb : (x.born = e.born) ↔ k = ks[i] := by
        constructor
        · intro hb
          have hj : j = i := by
            have p := List.pairwise_iff_getElem.1 e9
            have hj1 : j < es.toList.length := by have := (Array.getElem?_eq_some_iff.1 g1).1; simpa using this
            have hx : es.toList[j] = x := by have := (Array.getElem?_eq_some_iff.1 g1).2; simpa using this
            rcases Nat.lt_trichotomy j i with hl | hl | hl
            · exact absurd (by rw [hx, hi2]; exact hb) (p j i hj1 hi1 hl)
            · exact hl
            · exact absurd (by rw [hx, hi2]; exact hb.symm) (p i j hi1 hj1 hl)
          subst hj
          rw [hki] at g2; exact (Option.some.inj g2).symm
        · intro hk
          subst hk
          have hj := nodup_get e5 g2 hki
          subst hj
          rw [hei] at g1; cases g1; rfl
      simp only [Array.contains_push, Bool.or_eq_true, not_or, beq_iff_eq]
      constructor
      · rintro ⟨p1, p2⟩; exact ⟨p1, fun h => p2 (hb.1 h)⟩
      · rintro ⟨p1, p2⟩; exact ⟨p1, fun h => p2 (hb.2 h)⟩)
    have eH := hp_set (e := .iter mm ⟨delI left.l ks[i], some ks[i]⟩) (iter_lt hq)
    unfold Oper.wp
    have hx : (execOp a.eval o).run P w = .ok (.value (.tuple #[.bool true, e.key, e.val])) (setB w1 rb (.mapIter (some b) since (seen.push e.born) clock)) := by
      unfold execOp
      simp only [ho, hcv]
      rw [Sem.run_bind, z3]; rfl
    rw [hx, Oper.upon_value]
    refine h1 ks[i] hkl ρ RO _ _ ?_ (by show Ext _ _ _ _ _ (hp (s.H.set q _)); rw [eH]; exact E)
    refine hs.put o.dst (by show SR _ _ _ _ _ (hp (s.H.set q _)) _; rw [eH]; exact S) (by rw [eH]; exact E) ?_
    rw [hkey]
    refine .tup _ _ _ rfl fun j c v g1 g2 => ?_
    match j with
    | 0 => simp at g1 g2; subst g1; subst g2; exact .val _ _ rfl
    | 1 => simp at g1 g2; subst g1; subst g2; exact .val _ _ rfl
    | 2 => simp at g1 g2; subst g1; subst g2; exact hval.closed _ _
    | j + 3 => simp at g1
end
end Go.Proofs.Ytbcnifnmccaleaa.Fw
