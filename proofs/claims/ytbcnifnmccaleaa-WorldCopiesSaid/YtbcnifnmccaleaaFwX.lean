/- How an argument is opened: its cells by the leaves of its type; a list that the caller passes, as one that may be read. -/
import Derived.Test.YtbcnifnmccaleaaFwW
import Derived.OpenShut
import Derived.WideShapes
import Derived.Carry
namespace Go.Proofs.Ytbcnifnmccaleaa.Fw
open Go Go.RowKit Go.WideShapes
set_option linter.unusedVariables false
set_option linter.unusedSimpArgs false

section
variable {H : Type} (enc : TypeId × Value → H) (P : Program) (W : World)
/-- These cells read as one of the type. -/
def Tr (t : TypeId) (cs : List Value) : Prop := ∃ fuel x, DataW.trod enc P W 0 (fun _ => true) true fuel t cs = some x
/-- The cells, one for each leaf. -/
def Trs : List TypeId → List Value → Prop
  | [], cs => cs = []
  | t :: ts, cs => ∃ c r, cs = c :: r ∧ Tr enc P W t [c] ∧ Trs ts r
/-- The leaves of a struct's type, out of its fields'. -/
def flatF (P : Program) (g : TypeId → Option (List TypeId)) : List Field → Nat → Option (List TypeId)
  | [], _ => some []
  | f :: r, o => if f.offset = o then (g f.type).bind fun ks => if P.cellsOf f.type = ks.length then (flatF P g r (o + ks.length)).map (ks ++ ·) else none else none
def repT (ks : List TypeId) : Nat → List TypeId
  | 0 => []
  | n + 1 => ks ++ repT ks n
def flat (P : Program) : Nat → TypeId → Option (List TypeId)
  | 0, _ => none
  | n + 1, t => match P.underlying t with
    | some (.struct fs) => (flatF P (flat P n) fs.toList 0).bind fun ks => if P.cellsOf t = ks.length then some ks else none
    | some (.array m e) => (flat P n e).bind fun ks => if P.cellsOf e = ks.length then (if P.cellsOf t = (repT ks m).length then some (repT ks m) else none) else none
    | some (.slice _) => some [t]
    | some (.int _) => some [t]
    | some .bool => some [t]
    | some .string => some [t]
    | _ => none
end
section
variable {H : Type} {enc : TypeId × Value → H} {P : Program} {W : World}
theorem Trs.len : ∀ {ks : List TypeId} {cs : List Value}, Trs enc P W ks cs → cs.length = ks.length
  | [], _, h => by rw [show _ = [] from h]; rfl
  | _ :: _, _, ⟨_, _, e, _, h⟩ => by rw [e, List.length_cons, List.length_cons, Trs.len h]
theorem Trs.app : ∀ {ks ls : List TypeId} {cs : List Value}, Trs enc P W ks (cs.take ks.length) → Trs enc P W ls ((cs.drop ks.length).take ls.length) → Trs enc P W (ks ++ ls) (cs.take (ks.length + ls.length))
  | [], ls, cs, _, h => by simpa using h
  | k :: ks, ls, [], ⟨_, _, e, _⟩, _ => by simp at e
  | k :: ks, ls, c :: cs, ⟨n, r, e, hw, h⟩, h' => by
    simp only [List.length_cons, List.take_succ_cons, List.cons.injEq] at e
    simp only [List.length_cons, List.drop_succ_cons] at h'
    rw [show (k :: ks).length + ls.length = (ks.length + ls.length) + 1 by simp only [List.length_cons]; omega]
    exact ⟨n, cs.take (ks.length + ls.length), by rw [List.take_succ_cons, e.1], hw, Trs.app (by rw [e.2]; exact h) h'⟩
theorem flatF_trs (g : TypeId → Option (List TypeId)) (cs : List Value) : ∀ (r : List Field) (o : Nat) (ks : List TypeId), flatF P g r o = some ks →
    (∀ f ∈ r, ∀ kf, g f.type = some kf → Trs enc P W kf ((cs.drop f.offset).take (P.cellsOf f.type))) → Trs enc P W ks ((cs.drop o).take ks.length)
  | [], o, ks, h, _ => by
    simp only [flatF, Option.some.injEq] at h
    subst h; exact List.take_zero
  | f :: r, o, ks, h, hf => by
    simp only [flatF] at h
    split at h
    · rename_i ho
      simp only [Option.bind_eq_some_iff] at h
      obtain ⟨kf, hg, h⟩ := h
      split at h
      · rename_i hc
        simp only [Option.map_eq_some_iff] at h
        obtain ⟨kr, hr, rfl⟩ := h
        have h1 := hf f (by simp) kf hg
        have h2 := flatF_trs g cs r _ kr hr (fun f' hf' => hf f' (by simp [hf']))
        rw [ho, hc] at h1
        rw [← List.drop_drop] at h2
        rw [List.length_append]
        exact Trs.app h1 h2
      · cases h
    · cases h
theorem repT_trs (ks : List TypeId) (cs : List Value) : ∀ (m o : Nat), (∀ i, i < m → Trs enc P W ks ((cs.drop (o + i * ks.length)).take ks.length)) → Trs enc P W (repT ks m) ((cs.drop o).take (repT ks m).length)
  | 0, o, _ => List.take_zero
  | m + 1, o, h => by
    have h1 := h 0 (by omega)
    rw [Nat.zero_mul, Nat.add_zero] at h1
    have h2 := repT_trs ks cs m (o + ks.length) (fun i hi => by have := h (i + 1) (by omega); rw [Nat.add_mul, Nat.one_mul] at this; rw [Nat.add_assoc, Nat.add_comm ks.length]; exact this)
    rw [← List.drop_drop] at h2
    simp only [repT]
    rw [List.length_append]
    exact Trs.app h1 h2
theorem trod_trs : ∀ (n : Nat) (t : TypeId) (ks : List TypeId), flat P n t = some ks → ∀ (cs : List Value), Tr enc P W t cs → Trs enc P W ks cs
  | 0, t, ks, h, _, _ => by simp [flat] at h
  | n + 1, t, ks, h, cs, htr => by
    obtain ⟨fuel, x, hx⟩ := htr
    simp only [flat] at h
    split at h
    · rename_i fs hu
      simp only [Option.bind_eq_some_iff] at h
      obtain ⟨ks', hr, h⟩ := h
      split at h
      · rename_i hc
        simp only [Option.some.injEq] at h
        subst h
        obtain ⟨xs, m, _, _, hl, hlen, hf⟩ := DataW.trod_struct hu hx
        have := flatF_trs (enc := enc) (W := W) (flat P n) cs fs.toList 0 ks' hr (fun f hfm kf hg => by
          obtain ⟨i, hi, rfl⟩ := List.getElem_of_mem hfm
          have hi' : i < fs.size := by simpa using hi
          have := hf i fs.toList[i] (by simp [hi'])
          rw [List.getElem?_eq_getElem (by omega)] at this
          exact trod_trs n _ kf hg _ ⟨_, _, this⟩)
        rw [List.drop_zero, List.take_of_length_le (by omega)] at this
        exact this
      · cases h
    · rename_i m e hu
      simp only [Option.bind_eq_some_iff] at h
      obtain ⟨ks', hr, h⟩ := h
      split at h
      · rename_i hc
        split at h
        · rename_i hc2
          simp only [Option.some.injEq] at h
          subst h
          obtain ⟨xs, q, _, _, hl, hlen, hf⟩ := DataW.trod_array hu hx
          have := repT_trs (enc := enc) (W := W) ks' cs m 0 (fun i hi => by
            have := hf i hi
            rw [List.getElem?_eq_getElem (by omega)] at this
            have := trod_trs n _ ks' hr _ ⟨_, _, this⟩
            rw [Nat.zero_add, ← hc]; exact this)
          rw [List.drop_zero, List.take_of_length_le (by omega)] at this
          exact this
        · cases h
      · cases h
    · rename_i e hu
      simp only [Option.some.injEq] at h
      subst h
      obtain ⟨c, rfl⟩ : ∃ c, cs = [c] := by
        rcases DataW.trod_slice hu hx with ⟨rfl, _⟩ | ⟨a, l, c, _, _, _, _, rfl, _⟩
        · exact ⟨_, rfl⟩
        · exact ⟨_, rfl⟩
      exact ⟨c, [], rfl, ⟨_, _, hx⟩, rfl⟩
    · rename_i k hu
      simp only [Option.some.injEq] at h
      subst h
      obtain ⟨a, rfl, _, hw⟩ := DataW.trod_int hu hx
      exact ⟨_, [], rfl, ⟨_, _, hx⟩, rfl⟩
    · rename_i hu
      simp only [Option.some.injEq] at h
      subst h
      obtain ⟨c, rfl⟩ : ∃ c, cs = [c] := by
        cases fuel with
        | zero => simp [DataW.trod] at hx
        | succ n =>
          unfold DataW.trod at hx
          rw [hu] at hx
          split at hx <;> simp_all
      exact ⟨c, [], rfl, ⟨_, _, hx⟩, rfl⟩
    · rename_i hu
      simp only [Option.some.injEq] at h
      subst h
      obtain ⟨s, rfl, _⟩ := DataW.trod_string hu hx
      exact ⟨_, [], rfl, ⟨_, _, hx⟩, rfl⟩
    · cases h

/-! ### Leaves -/
theorem leaf_int {t : TypeId} {k : IntKind} (hu : P.underlying t = some (.int k)) {c : Value} (h : Tr enc P W t [c]) : ∃ n, c = .int k n ∧ (Lit.int k n).wf = true := by
  obtain ⟨fuel, x, hx⟩ := h
  obtain ⟨n, e, _, hw⟩ := DataW.trod_int hu hx
  cases e
  exact ⟨n, rfl, hw⟩
theorem leaf_bool {t : TypeId} (hu : P.underlying t = some .bool) {c : Value} (h : Tr enc P W t [c]) : ∃ b, c = .bool b := by
  obtain ⟨fuel, x, hx⟩ := h
  cases fuel with
  | zero => simp [DataW.trod] at hx
  | succ n =>
    unfold DataW.trod at hx
    rw [hu] at hx
    split at hx <;> simp_all
theorem leaf_string {t : TypeId} (hu : P.underlying t = some .string) {c : Value} (h : Tr enc P W t [c]) : ∃ s, c = .string s ∧ s.size ≤ maxLen := by
  obtain ⟨fuel, x, hx⟩ := h
  obtain ⟨s, e, _, hw⟩ := DataW.trod_string hu hx
  cases e
  exact ⟨s, rfl, hw⟩
/-- What lies where lies within. -/
theorem rowAt_bound (fits : TypeId → Bool) : ∀ (d : Nat) (e : TypeId) (count off n : Nat), rowAt P fits d e count off n = true → off ≤ count * P.cellsOf e
  | 0, e, count, off, n, h => by simp [rowAt] at h
  | d + 1, e, count, off, n, h => by
    simp only [rowAt] at h
    split at h
    · cases h
    · rename_i hs
      have hs' : 0 < P.cellsOf e := by omega
      have hm := Nat.div_add_mod off (P.cellsOf e)
      have hl := Nat.mod_lt off hs'
      rw [Bool.or_eq_true] at h
      rcases h with h | h
      · simp only [Bool.and_eq_true, beq_iff_eq, decide_eq_true_eq] at h
        have : off / P.cellsOf e * P.cellsOf e ≤ count * P.cellsOf e := Nat.mul_le_mul_right _ (by omega)
        rw [Nat.mul_comm] at this
        omega
      · rw [Bool.and_eq_true, decide_eq_true_eq] at h
        have : (off / P.cellsOf e + 1) * P.cellsOf e ≤ count * P.cellsOf e := Nat.mul_le_mul_right _ h.1
        rw [Nat.add_mul, Nat.mul_comm] at this
        omega
theorem liesAt_bound : ∀ (d : Nat) (e : TypeId) (count off : Nat) (u : TypeId) (n : Nat), liesAt P d e count off u n = true → off ≤ count * P.cellsOf e
  | 0, e, count, off, u, n, h => by simp [liesAt] at h
  | d + 1, e, count, off, u, n, h => by
    simp only [liesAt, Bool.or_eq_true] at h
    rcases h with h | h
    · exact rowAt_bound _ _ _ _ _ _ h
    · split at h
      · exact liesAt_bound d _ _ _ _ _ h
      · cases h
theorem has_bound {r : Reach} {base : Nat} {a : Addr} {e : TypeId} {n : Nat} (h : W.has P r base a e n) : a.spot = none ∧ ∃ arr t f, W.heap[a.block]? = some (.cells arr t f) ∧ a.off ≤ arr.size := by
  obtain ⟨_, hs, row, cells, h1, h2⟩ := h
  refine ⟨hs, ?_⟩
  unfold World.shape? at h1
  split at h1
  · rename_i c t f hb
    cases h1
    refine ⟨c, _, f, hb, ?_⟩
    have := liesAt_bound _ _ _ _ _ _ h2
    exact Nat.le_trans this (Nat.div_mul_le_self _ _)
  · cases h1
theorem cell_at {b off : Nat} {v : Value} (h : W.cell? ⟨b, off, none⟩ = some v) : ∃ arr t f, W.heap[b]? = some (.cells arr t f) ∧ arr[off]? = some v := by
  unfold World.cell? at h
  split at h
  · rename_i c t f hb
    simp at h
    exact ⟨c, t, f, hb, h⟩
  · cases h
/-- A list, opened: none, or the cells where it lies. -/
theorem leaf_slice {t e : TypeId} {sz : Nat} {r : Reach} {base : Nat} (hu : P.underlying t = some (.slice e)) (hc : P.cellsOf e = sz) (hsz : 0 < sz) {c : Value} (h : Tr enc P W t [c]) (ho : Cell.okWide P W r base t c) :
    c = .slice none 0 0 ∨ ∃ b off n cap arr t' f, c = .slice (some ⟨b, off, none⟩) n cap ∧ W.heap[b]? = some (.cells arr t' f) ∧ n ≤ cap ∧ cap ≤ maxLen ∧ off + n * sz ≤ arr.size ∧
      ∀ i, i < n → Tr enc P W e ((List.range sz).map fun k => arr.getD (off + i * sz + k) undef) := by
  obtain ⟨fuel, x, hx⟩ := h
  rcases DataW.trod_slice hu hx with ⟨h1, _⟩ | ⟨a, len, cap, elems, rest, m, hm, h1, hx', hb, hlc, hcm, hel, he, hre, _⟩
  · left; cases h1; rfl
  · right
    cases h1
    have hhas : W.has P r base a e cap := by
      have ho' := ho
      unfold Cell.okWide at ho'
      rw [hu] at ho'
      simp only at ho'
      unfold Cell.ok at ho'
      rw [hu] at ho'
      exact ho'.2.2
    obtain ⟨hs, arr, t', f, hbl, hoff⟩ := has_bound hhas
    obtain ⟨b, off, spot⟩ := a
    simp only at hs hbl hoff
    subst hs
    rw [hc] at he
    -- a row's cells
    have row : ∀ i, i < len → ∃ cs, cs.length = sz ∧ (∀ k, k < sz → arr[off + i * sz + k]? = cs[k]?) ∧ Tr enc P W e cs := by
      intro i hi
      have h2 := he i hi
      rw [List.getElem?_eq_getElem (by omega), Option.bind_eq_some_iff] at h2
      obtain ⟨cs, h3, h4⟩ := h2
      obtain ⟨_, hl, hcell⟩ := World.cells?_some h3
      refine ⟨cs, hl, fun k hk => ?_, _, _, h4⟩
      have := hcell k hk
      rw [add_plain, add_plain, List.getElem?_eq_getElem (by omega)] at this
      obtain ⟨arr', t'', f', h5, h6⟩ := cell_at this
      rw [hbl] at h5
      cases h5
      rw [h6, List.getElem?_eq_getElem (by omega)]
    refine ⟨b, off, len, cap, arr, t', f, rfl, hbl, hlc, hcm, ?_, fun i hi => ?_⟩
    · by_cases h0 : len = 0
      · subst h0; omega
      · obtain ⟨cs, hl, hk, _⟩ := row (len - 1) (by omega)
        have := hk (sz - 1) (by omega)
        rw [List.getElem?_eq_getElem (by omega)] at this
        have := (Array.getElem?_eq_some_iff.1 this).1
        have e1 : len * sz = (len - 1) * sz + sz := by
          conv => lhs; rw [show len = (len - 1) + 1 by omega, Nat.add_mul, Nat.one_mul]
        omega
    · obtain ⟨cs, hl, hk, htr⟩ := row i hi
      have : (List.range sz).map (fun k => arr.getD (off + i * sz + k) undef) = cs := by
        refine List.ext_getElem? fun k => ?_
        by_cases hkk : k < sz
        · have := hk k hkk
          rw [List.getElem?_map, List.getElem?_range hkk, ← this]
          have h7 : cs[k]? = some cs[k] := List.getElem?_eq_getElem (by omega)
          rw [h7] at this
          have h8 := (Array.getElem?_eq_some_iff.1 this).1
          simp [Array.getD, h8]
        · rw [List.getElem?_eq_none (by simp; omega), List.getElem?_eq_none (by omega)]
      rw [this]
      exact htr
/-- A list within what lies in memory, opened: none, an empty one, or the cells where it lies. -/
theorem leaf_slice_in {t e : TypeId} {sz : Nat} (hu : P.underlying t = some (.slice e)) (hc : P.cellsOf e = sz) (hsz : 0 < sz) {c : Value} (h : Tr enc P W t [c]) :
    c = .slice none 0 0 ∨ (∃ a, c = .slice (some a) 0 0) ∨ ∃ b off n cap arr t' f, c = .slice (some ⟨b, off, none⟩) n cap ∧ W.heap[b]? = some (.cells arr t' f) ∧ n ≤ cap ∧ cap ≤ maxLen ∧ off + n * sz ≤ arr.size ∧
      ∀ i, i < n → Tr enc P W e ((List.range sz).map fun k => arr.getD (off + i * sz + k) undef) := by
  obtain ⟨fuel, x, hx⟩ := h
  rcases DataW.trod_slice hu hx with ⟨h1, _⟩ | ⟨a, len, cap, elems, rest, m, hm, h1, hx', hb, hlc, hcm, hel, he, hre, _⟩
  · left; cases h1; rfl
  · right
    cases h1
    by_cases hcap : cap = 0
    · subst hcap
      have : len = 0 := by omega
      subst this
      exact .inl ⟨a, rfl⟩
    right
    rw [hc] at he hre
    have first : ∃ cs, W.cells? 0 (a.add (0 * sz)) sz = some cs := by
      by_cases h0 : len = 0
      · have h1 := (hre rfl).1
        have h2 := (hre rfl).2 0 (by omega)
        rw [List.getElem?_eq_getElem (by omega), Option.bind_eq_some_iff] at h2
        obtain ⟨cs, h3, _⟩ := h2
        rw [h0] at h3
        exact ⟨cs, h3⟩
      · have h2 := he 0 (by omega)
        rw [List.getElem?_eq_getElem (by omega), Option.bind_eq_some_iff] at h2
        obtain ⟨cs, h3, _⟩ := h2
        exact ⟨cs, h3⟩
    obtain ⟨hs, arr, t', f, hbl, hoff⟩ : a.spot = none ∧ ∃ arr t f, W.heap[a.block]? = some (.cells arr t f) ∧ a.off ≤ arr.size := by
      obtain ⟨cs, h3⟩ := first
      obtain ⟨_, hl, hcell⟩ := World.cells?_some h3
      have h4 := hcell 0 (by omega)
      have e0 : (a.add (0 * sz)).add 0 = a := by simp [Addr.add]
      rw [e0, List.getElem?_eq_getElem (by omega)] at h4
      unfold World.cell? at h4
      split at h4
      · rename_i c t f hb
        split at h4
        · cases h4
        · rename_i hsp
          refine ⟨by cases hq : a.spot with
            | none => rfl
            | some z => rw [hq] at hsp; exact absurd rfl hsp, c, t, f, hb, ?_⟩
          have := (Array.getElem?_eq_some_iff.1 h4).1
          omega
      · cases h4
    obtain ⟨b, off, spot⟩ := a
    simp only at hs hbl hoff
    subst hs
    -- a row's cells
    have row : ∀ i, i < len → ∃ cs, cs.length = sz ∧ (∀ k, k < sz → arr[off + i * sz + k]? = cs[k]?) ∧ Tr enc P W e cs := by
      intro i hi
      have h2 := he i hi
      rw [List.getElem?_eq_getElem (by omega), Option.bind_eq_some_iff] at h2
      obtain ⟨cs, h3, h4⟩ := h2
      obtain ⟨_, hl, hcell⟩ := World.cells?_some h3
      refine ⟨cs, hl, fun k hk => ?_, _, _, h4⟩
      have := hcell k hk
      rw [add_plain, add_plain, List.getElem?_eq_getElem (by omega)] at this
      obtain ⟨arr', t'', f', h5, h6⟩ := cell_at this
      rw [hbl] at h5
      cases h5
      rw [h6, List.getElem?_eq_getElem (by omega)]
    refine ⟨b, off, len, cap, arr, t', f, rfl, hbl, hlc, hcm, ?_, fun i hi => ?_⟩
    · by_cases h0 : len = 0
      · subst h0; omega
      · obtain ⟨cs, hl, hk, _⟩ := row (len - 1) (by omega)
        have := hk (sz - 1) (by omega)
        rw [List.getElem?_eq_getElem (by omega)] at this
        have := (Array.getElem?_eq_some_iff.1 this).1
        have e1 : len * sz = (len - 1) * sz + sz := by
          conv => lhs; rw [show len = (len - 1) + 1 by omega, Nat.add_mul, Nat.one_mul]
        omega
    · obtain ⟨cs, hl, hk, htr⟩ := row i hi
      have : (List.range sz).map (fun k => arr.getD (off + i * sz + k) undef) = cs := by
        refine List.ext_getElem? fun k => ?_
        by_cases hkk : k < sz
        · have := hk k hkk
          rw [List.getElem?_map, List.getElem?_range hkk, ← this]
          have h7 : cs[k]? = some cs[k] := List.getElem?_eq_getElem (by omega)
          rw [h7] at this
          have h8 := (Array.getElem?_eq_some_iff.1 this).1
          simp [Array.getD, h8]
        · rw [List.getElem?_eq_none (by simp; omega), List.getElem?_eq_none (by omega)]
      rw [this]
      exact htr
/-- What a row of a type is: cells that read so are those of an x. -/
def RowsOf (enc : TypeId × Value → H) (P : Program) (W : World) (e : TypeId) {α : Type} (T : TyL α) (ok : α → Prop) : Prop :=
  ∀ cs, Tr enc P W e cs → ∃ x, ok x ∧ CR (fun _ => none) (roAll W) noHp (T.enc x) cs ∧ ∀ v ∈ cs, v.oneCell' = true
/-- A list, opened, as one that may be read. -/
theorem leaf_list {t e : TypeId} {sz : Nat} {r : Reach} {base : Nat} (hu : P.underlying t = some (.slice e)) (hc : P.cellsOf e = sz) (hsz : 0 < sz) {α : Type} {T : TyL α} {ok : α → Prop} (z : α) (hr : RowsOf enc P W e T ok)
    {c : Value} (h : Tr enc P W t [c]) (ho : Cell.okWide P W r base t c) :
    ∃ (n : Nat) (g : Nat → α), n ≤ maxLen ∧ (∀ i, i < n → ok (g i)) ∧ VR (fun _ => none) (roAll W) noHp (.lst sz n none fun i => T.enc (g i)) c := by
  rcases leaf_slice hu hc hsz h ho with rfl | ⟨b, off, n, cap, arr, t', f, rfl, hb, hn, hm, hs, hrow⟩
  · exact ⟨0, fun _ => z, by omega, fun i hi => by omega, .lst0 _ _ _ _ none fun x hx => by cases hx⟩
  · have key : ∀ i, ∃ x, i < n → ok x ∧ CR (fun _ => none) (roAll W) noHp (T.enc x) ((List.range sz).map fun k => arr.getD (off + i * sz + k) undef) ∧ ∀ v ∈ ((List.range sz).map fun k => arr.getD (off + i * sz + k) undef), v.oneCell' = true := fun i => by
      by_cases hi : i < n
      · obtain ⟨x, h1, h2⟩ := hr _ (hrow i hi)
        exact ⟨x, fun _ => ⟨h1, h2⟩⟩
      · exact ⟨z, fun h => absurd h hi⟩
    refine ⟨n, fun i => (key i).choose, by omega, fun i hi => ((key i).choose_spec hi).1, ?_⟩
    have at_ : ∀ i k, i < n → k < sz → ∃ hlt : off + i * sz + k < arr.size, ((List.range sz).map fun k => arr.getD (off + i * sz + k) undef)[k]? = some arr[off + i * sz + k] := fun i k hi hk => by
      have : (i + 1) * sz ≤ n * sz := Nat.mul_le_mul_right _ hi
      rw [Nat.add_mul] at this
      have hlt : off + i * sz + k < arr.size := by omega
      exact ⟨hlt, by simp [List.getElem?_range hk, Array.getD, hlt]⟩
    refine .lst _ _ _ _ _ b off cap arr (by unfold roAll; rw [hb]) hn (fun x hx => by cases hx) hs (fun i hi => ?_) (fun j v hj hv => ?_) fun i k a v hi h1 h2 => ?_
    · have := ((key i).choose_spec hi).2.1.1
      simpa using this
    · have hi : j / sz < n := (Nat.div_lt_iff_lt_mul hsz).2 hj
      have hk := Nat.mod_lt j hsz
      obtain ⟨hlt, e⟩ := at_ (j / sz) (j % sz) hi hk
      refine ((key (j / sz)).choose_spec hi).2.2 v ?_
      have e2 : off + j / sz * sz + j % sz = off + j := by have := Nat.div_add_mod' j sz; omega
      simp only [e2] at e hlt
      rw [Array.getElem?_eq_getElem hlt] at hv
      cases hv
      exact List.mem_of_getElem? e
    · have hl : (T.enc (key i).choose).length = sz := by have := ((key i).choose_spec hi).2.1.1; simpa using this
      have hk : k < sz := by have := (List.getElem?_eq_some_iff.1 h1).1; rw [hl] at this; exact this
      obtain ⟨hlt, e⟩ := at_ i k hi hk
      rw [Array.getElem?_eq_getElem hlt] at h2
      cases h2
      exact ((key i).choose_spec hi).2.1.2 k a _ h1 e

/-- A list within what lies in memory. -/
theorem leaf_list_in {t e : TypeId} {sz : Nat} (hu : P.underlying t = some (.slice e)) (hc : P.cellsOf e = sz) (hsz : 0 < sz) {α : Type} {T : TyL α} {ok : α → Prop} (z : α) (hr : RowsOf enc P W e T ok)
    {c : Value} (h : Tr enc P W t [c]) :
    ∃ (n : Nat) (g : Nat → α), n ≤ maxLen ∧ (∀ i, i < n → ok (g i)) ∧ VR (fun _ => none) (roAll W) noHp (.lst sz n none fun i => T.enc (g i)) c := by
  rcases leaf_slice_in hu hc hsz h with rfl | ⟨a, rfl⟩ | ⟨b, off, n, cap, arr, t', f, rfl, hb, hn, hm, hs, hrow⟩
  · exact ⟨0, fun _ => z, by omega, fun i hi => by omega, .lst0 _ _ _ _ none fun x hx => by cases hx⟩
  · exact ⟨0, fun _ => z, by omega, fun i hi => by omega, .lst0 _ _ _ _ (some a) fun x hx => by cases hx⟩
  · have key : ∀ i, ∃ x, i < n → ok x ∧ CR (fun _ => none) (roAll W) noHp (T.enc x) ((List.range sz).map fun k => arr.getD (off + i * sz + k) undef) ∧ ∀ v ∈ ((List.range sz).map fun k => arr.getD (off + i * sz + k) undef), v.oneCell' = true := fun i => by
      by_cases hi : i < n
      · obtain ⟨x, h1, h2⟩ := hr _ (hrow i hi)
        exact ⟨x, fun _ => ⟨h1, h2⟩⟩
      · exact ⟨z, fun h => absurd h hi⟩
    refine ⟨n, fun i => (key i).choose, by omega, fun i hi => ((key i).choose_spec hi).1, ?_⟩
    have at_ : ∀ i k, i < n → k < sz → ∃ hlt : off + i * sz + k < arr.size, ((List.range sz).map fun k => arr.getD (off + i * sz + k) undef)[k]? = some arr[off + i * sz + k] := fun i k hi hk => by
      have : (i + 1) * sz ≤ n * sz := Nat.mul_le_mul_right _ hi
      rw [Nat.add_mul] at this
      have hlt : off + i * sz + k < arr.size := by omega
      exact ⟨hlt, by simp [List.getElem?_range hk, Array.getD, hlt]⟩
    refine .lst _ _ _ _ _ b off cap arr (by unfold roAll; rw [hb]) hn (fun x hx => by cases hx) hs (fun i hi => ?_) (fun j v hj hv => ?_) fun i k a v hi h1 h2 => ?_
    · have := ((key i).choose_spec hi).2.1.1
      simpa using this
    · have hi : j / sz < n := (Nat.div_lt_iff_lt_mul hsz).2 hj
      have hk := Nat.mod_lt j hsz
      obtain ⟨hlt, e⟩ := at_ (j / sz) (j % sz) hi hk
      refine ((key (j / sz)).choose_spec hi).2.2 v ?_
      have e2 : off + j / sz * sz + j % sz = off + j := by have := Nat.div_add_mod' j sz; omega
      simp only [e2] at e hlt
      rw [Array.getElem?_eq_getElem hlt] at hv
      cases hv
      exact List.mem_of_getElem? e
    · have hl : (T.enc (key i).choose).length = sz := by have := ((key i).choose_spec hi).2.1.1; simpa using this
      have hk : k < sz := by have := (List.getElem?_eq_some_iff.1 h1).1; rw [hl] at this; exact this
      obtain ⟨hlt, e⟩ := at_ i k hi hk
      rw [Array.getElem?_eq_getElem hlt] at h2
      cases h2
      exact ((key i).choose_spec hi).2.1.2 k a _ h1 e

/-! ### Cells of a row, opened -/
theorem vr_int (k : IntKind) (n : Int) : VR (fun _ => none) (roAll W) noHp (.val (.int k n)) (.int k n) := .val _ _ rfl
theorem vr_bool (b : Bool) : VR (fun _ => none) (roAll W) noHp (.val (.bool b)) (.bool b) := .val _ _ rfl
theorem vr_string (s : ByteArray) : VR (fun _ => none) (roAll W) noHp (.val (.string s)) (.string s) := .val _ _ rfl
def isAggT (P : Program) (t : TypeId) : Bool := match P.underlying t with
  | some (.struct _) => true
  | some (.array _ _) => true
  | _ => false
/-- A struct's cells may each be what their kinds are. -/
theorem agg_ok {t : TypeId} {r : Reach} {base : Nat} {v : Value} (hu : isAggT P t = true) (hv : Value.okWide P W r base t v) {ts : List TypeId} (hts : P.cellTypes P.depth t = some ts) (hl : ts.length = P.cellsOf t) :
    ∃ cs : List Value, v = .agg cs.toArray ∧ ∀ (k : Nat) (c : Value) (u : TypeId), cs[k]? = some c → ts[k]? = some u → Cell.okWide P W r base u c := by
  have hv' : ∃ cs, v = .agg cs ∧ cs.size = P.cellsOf t ∧ Row.okWide P W r base t cs := by
    unfold isAggT at hu
    unfold Value.okWide at hv
    split at hu <;> simp_all
  obtain ⟨cs, rfl, hsz, ts', h1, _, h3⟩ := hv'
  rw [hts] at h1
  cases h1
  refine ⟨cs.toList, by simp, fun k c u h4 h5 => ?_⟩
  have hk : k < cs.size := by have := (List.getElem?_eq_some_iff.1 h4).1; simpa using this
  obtain ⟨u', h6, h7⟩ := h3 k c (by simpa using h4)
  rw [Nat.mod_eq_of_lt (by omega), h5] at h6
  cases h6
  exact h7
end
/-- A law's function that gives true, by its summary. -/
theorem law_sum {P : Program} {n : FuncId} {α : Type} {T : TyL α} {f : α → Option Bool} (hok : (Summ.mk' T tB f).Ok P n) {x : α} (hd : T.dec (T.enc x) = some x) (h : f x = some true) {w : World} {cargs : Array Value} (hcr : CR (fun _ => none) (roAll w) noHp (T.enc x) cargs.toList) :
    Calls P n cargs w fun e w' => e = .returned (.bool true) ∧ Below w.heap.size w w' := by
  have h2 := hok.2.1
  dsimp only [Summ.mk'] at h2
  refine (h2 (T.enc x) x true hd h (roAll w) w cargs (roAll_ok w) hcr).mono fun e w' ⟨cv, RO', h3, h4, h5, _⟩ => ?_
  have : cv = .bool true := VR.val_eq h4
  subst this
  exact ⟨h3, h5⟩
end Go.Proofs.Ytbcnifnmccaleaa.Fw
