/- How a value of a type that is a tree of structs and arrays over whole numbers reads: its cells are whole numbers of their kinds; of no program. -/
import Derived.OpenShut
import Derived.WideShapes
import Derived.Carry
namespace Go.Proofs.Ytlbkpfcidpnhgaa.Fl
open Go Go.WideShapes

/-- These cells are whole numbers of these kinds. -/
def Ints : List IntKind → List Value → Prop
  | [], cs => cs = []
  | k :: ks, cs => ∃ n r, cs = .int k n :: r ∧ (Lit.int k n).wf = true ∧ Ints ks r
theorem Ints.len : ∀ {ks : List IntKind} {cs : List Value}, Ints ks cs → cs.length = ks.length
  | [], _, h => by rw [show _ = [] from h]; rfl
  | _ :: _, _, ⟨_, _, e, _, h⟩ => by rw [e, List.length_cons, List.length_cons, Ints.len h]
theorem Ints.app : ∀ {ks ls : List IntKind} {cs : List Value}, Ints ks (cs.take ks.length) → Ints ls ((cs.drop ks.length).take ls.length) → Ints (ks ++ ls) (cs.take (ks.length + ls.length))
  | [], ls, cs, _, h => by simpa using h
  | k :: ks, ls, [], ⟨_, _, e, _⟩, _ => by simp at e
  | k :: ks, ls, c :: cs, ⟨n, r, e, hw, h⟩, h' => by
    simp only [List.length_cons, List.take_succ_cons, List.cons.injEq] at e
    simp only [List.length_cons, List.drop_succ_cons] at h'
    rw [show (k :: ks).length + ls.length = (ks.length + ls.length) + 1 by simp only [List.length_cons]; omega]
    exact ⟨n, cs.take (ks.length + ls.length), by rw [List.take_succ_cons, e.1], hw, Ints.app (by rw [e.2]; exact h) h'⟩
/-- The kinds of a struct's cells, out of its fields'. -/
def rowOf (P : Program) (g : TypeId → Option (List IntKind)) : List Field → Nat → Option (List IntKind)
  | [], _ => some []
  | f :: r, o => if f.offset = o then (g f.type).bind fun ks => if P.cellsOf f.type = ks.length then (rowOf P g r (o + ks.length)).map (ks ++ ·) else none else none
def rep (ks : List IntKind) : Nat → List IntKind
  | 0 => []
  | n + 1 => ks ++ rep ks n
/-- The kinds of a plain type's cells. -/
def leaves (P : Program) : Nat → TypeId → Option (List IntKind)
  | 0, _ => none
  | n + 1, t => match P.underlying t with
    | some (.int k) => some [k]
    | some (.struct fs) => (rowOf P (leaves P n) fs.toList 0).bind fun ks => if P.cellsOf t = ks.length then some ks else none
    | some (.array m e) => (leaves P n e).bind fun ks => if P.cellsOf e = ks.length then (if P.cellsOf t = (rep ks m).length then some (rep ks m) else none) else none
    | _ => none
theorem rowOf_ints (P : Program) (g : TypeId → Option (List IntKind)) (cs : List Value) : ∀ (r : List Field) (o : Nat) (ks : List IntKind), rowOf P g r o = some ks →
    (∀ f ∈ r, ∀ kf, g f.type = some kf → Ints kf ((cs.drop f.offset).take (P.cellsOf f.type))) → Ints ks ((cs.drop o).take ks.length)
  | [], o, ks, h, _ => by
    simp only [rowOf, Option.some.injEq] at h
    subst h; exact List.take_zero
  | f :: r, o, ks, h, hf => by
    simp only [rowOf] at h
    split at h
    · rename_i ho
      simp only [Option.bind_eq_some_iff] at h
      obtain ⟨kf, hg, h⟩ := h
      split at h
      · rename_i hc
        simp only [Option.map_eq_some_iff] at h
        obtain ⟨kr, hr, rfl⟩ := h
        have h1 := hf f (by simp) kf hg
        have h2 := rowOf_ints P g cs r _ kr hr (fun f' hf' => hf f' (by simp [hf']))
        rw [ho, hc] at h1
        rw [← List.drop_drop] at h2
        rw [List.length_append]
        exact Ints.app h1 h2
      · cases h
    · cases h
theorem rep_ints (ks : List IntKind) (cs : List Value) : ∀ (m o : Nat), (∀ i, i < m → Ints ks ((cs.drop (o + i * ks.length)).take ks.length)) → Ints (rep ks m) ((cs.drop o).take (rep ks m).length)
  | 0, o, _ => List.take_zero
  | m + 1, o, h => by
    have h1 := h 0 (by omega)
    rw [Nat.zero_mul, Nat.add_zero] at h1
    have h2 := rep_ints ks cs m (o + ks.length) (fun i hi => by have := h (i + 1) (by omega); rw [Nat.add_mul, Nat.one_mul] at this; rw [Nat.add_assoc, Nat.add_comm ks.length]; exact this)
    rw [← List.drop_drop] at h2
    simp only [rep]
    rw [List.length_append]
    exact Ints.app h1 h2
theorem trod_ints {H : Type} {enc : TypeId × Value → H} {P : Program} {w : World} {base : Nat} {spare : Nat → Bool} {held : Bool} :
    ∀ (n : Nat) (t : TypeId) (ks : List IntKind), leaves P n t = some ks → ∀ (fuel : Nat) (cs : List Value) (x : DataW H × List MemPlace), DataW.trod enc P w base spare held fuel t cs = some x → Ints ks cs
  | 0, t, ks, h, _, _, _, _ => by simp [leaves] at h
  | n + 1, t, ks, h, fuel, cs, x, hx => by
    simp only [leaves] at h
    split at h
    · rename_i k hu
      simp only [Option.some.injEq] at h
      subst h
      obtain ⟨a, rfl, _, hw⟩ := DataW.trod_int hu hx
      exact ⟨a, [], rfl, hw, rfl⟩
    · rename_i fs hu
      simp only [Option.bind_eq_some_iff] at h
      obtain ⟨ks', hr, h⟩ := h
      split at h
      · rename_i hc
        simp only [Option.some.injEq] at h
        subst h
        obtain ⟨xs, m, _, _, hl, hlen, hf⟩ := DataW.trod_struct hu hx
        have := rowOf_ints P (leaves P n) cs fs.toList 0 ks' hr (fun f hfm kf hg => by
          obtain ⟨i, hi, rfl⟩ := List.getElem_of_mem hfm
          have hi' : i < fs.size := by simpa using hi
          have := hf i fs.toList[i] (by simp [hi'])
          rw [List.getElem?_eq_getElem (by omega)] at this
          exact trod_ints n _ kf hg _ _ _ this)
        rw [List.drop_zero, List.take_of_length_le (by omega)] at this
        exact this
      · cases h
    · rename_i m e hu
      simp only [Option.bind_eq_some_iff] at h
      obtain ⟨ks', hr, h⟩ := h
      split at h
      · rename_i hc
        split at h
        · rename_i hc2
          simp only [Option.some.injEq] at h
          subst h
          obtain ⟨xs, q, _, _, hl, hlen, hf⟩ := DataW.trod_array hu hx
          have := rep_ints ks' cs m 0 (fun i hi => by
            have := hf i hi
            rw [List.getElem?_eq_getElem (by omega)] at this
            have := trod_ints n _ ks' hr _ _ _ this
            rw [Nat.zero_add, ← hc]; exact this)
          rw [List.drop_zero, List.take_of_length_le (by omega)] at this
          exact this
        · cases h
      · cases h
    · cases h
/-- A struct by value whose cells are whole numbers, opened. -/
theorem open_plain {H : Type} {enc : TypeId × Value → H} {P : Program} {w : World} {base b0 : Nat} {spare : Nat → Bool} {held : Bool} {r : Reach} {t : TypeId} {v : Value} {d : DataW H} {p : List MemPlace} {fs : Array Field} (n : Nat) (ks : List IntKind)
    (hs : P.underlying t = some (.struct fs)) (hk : leaves P n t = some ks) (hv : Value.okWide P w r b0 t v) (h : DataW.Trod enc P w base spare held t v d p) : ∃ cs : List Value, v = .agg cs.toArray ∧ Ints ks cs := by
  obtain ⟨cs, rfl, hsz⟩ := okWide_struct hs hv
  obtain ⟨fuel, hf⟩ := h
  exact ⟨cs.toList, by simp, trod_ints n t ks hk _ _ _ (by simpa [Value.cells] using hf)⟩
end Go.Proofs.Ytlbkpfcidpnhgaa.Fl
