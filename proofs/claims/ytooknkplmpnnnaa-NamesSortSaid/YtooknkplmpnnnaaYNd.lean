/- Names: sorted, the numbers of the names come rising; others play no part. -/
import Derived.Test.YtooknkplmpnnnaaYNm
namespace Go.Proofs.Ytooknkplmpnnnaa.Y
open Go Go.RowKit Go.Proofs.Ytooknkplmpnnnaa.E Go.Proofs.Ytooknkplmpnnnaa.Fw
set_option linter.unusedVariables false
set_option linter.unusedSimpArgs false
set_option maxRecDepth 10000

theorem to_b {α β : Type} {x : Option α} {a : α} {f : α → Option β} {r : Option β} (h : x = some a) (h2 : f a = r) : x.bind f = r := by rw [h]; exact h2
theorem to_t {α : Type} {c : Bool} {a b r : α} (h : c = true) (h2 : a = r) : (bif c then a else b) = r := by rw [h]; exact h2
theorem to_f {α : Type} {c : Bool} {a b r : α} (h : c = false) (h2 : b = r) : (bif c then a else b) = r := by rw [h]; exact h2
theorem at_in (i n : Nat) (h : i < n) : (decide (0 ≤ (i : Int)) && decide ((i : Int) < ((n : Nat) : Int))) = true := by simp; omega
theorem at_lt (i n : Nat) (h : i < n) : decide ((i : Int) < ((n : Nat) : Int)) = true := by simp; omega
theorem at_nlt (i n : Nat) (h : ¬ i < n) : decide ((i : Int) < ((n : Nat) : Int)) = false := by simp; omega
theorem at_next (i : Nat) (h : i < 9223372036854775807) : IntKind.i64.wrap ((i : Int) + 1) = ((i + 1 : Nat) : Int) := by rw [IntKind.wrap_i64]; omega
theorem band1 (i : Nat) : Go.bits .and .i64 (i : Int) 1 = ((i % 2 : Nat) : Int) := by
  rw [show (1 : Int) = ((2 ^ 1 - 1 : Nat) : Int) from rfl, mask (m := 1) (by omega)]
  omega

/-! ### How often a number is told -/
def cN (l p : List Int) (x : Int) : Int := (l.count x : Int) - (p.count x : Int)
theorem cN_push {l p : List Int} {a : Int} (hl : l.length ≤ 100) (hp : p.length ≤ 100) : (fun i : Int => bif i == a then Ri.enc (IntKind.i64.wrap (cN l p a + 1)) else Ri.enc (cN l p i)) = fun i => Ri.enc (cN (l ++ [a]) p i) := by
  funext i
  have h1 := List.count_le_length (a := a) (l := l)
  have h2 := List.count_le_length (a := a) (l := p)
  unfold cN
  rw [List.count_append, List.count_singleton]
  by_cases h : i = a
  · subst h
    rw [beq_self_eq_true, cond_true, IntKind.wrap_i64, if_pos rfl]
    congr 1
    omega
  · rw [beq_eq_false_iff_ne.2 h, cond_false, if_neg (by simp; exact Ne.symm h)]
    congr 1
theorem cN_drop {l p : List Int} {a : Int} (hl : l.length ≤ 100) (hp : p.length ≤ 100) : (fun i : Int => bif i == a then Ri.enc (IntKind.i64.wrap (cN l p a - 1)) else Ri.enc (cN l p i)) = fun i => Ri.enc (cN l (p ++ [a]) i) := by
  funext i
  have h1 := List.count_le_length (a := a) (l := l)
  have h2 := List.count_le_length (a := a) (l := p)
  unfold cN
  rw [List.count_append, List.count_singleton]
  by_cases h : i = a
  · subst h
    rw [beq_self_eq_true, cond_true, IntKind.wrap_i64, if_pos rfl]
    congr 1
    omega
  · rw [beq_eq_false_iff_ne.2 h, cond_false, if_neg (by simp; exact Ne.symm h)]
    congr 1
theorem cN_perm {l p : List Int} (h : p.Perm l) (x : Int) : cN l p x = 0 := by
  unfold cN
  rw [h.count_eq]; omega
/-! ### Numbers by their place -/
def evs (y : Nat → Int) (i : Nat) : List Int := ((List.range i).filter fun j => j % 2 == 0).map y
def ods (y : Nat → Int) (i : Nat) : List Int := ((List.range i).filter fun j => !(j % 2 == 0)).map y
theorem evs_e (y : Nat → Int) {i : Nat} (h : i % 2 = 0) : evs y (i + 1) = evs y i ++ [y i] ∧ ods y (i + 1) = ods y i := by
  unfold evs ods
  rw [List.range_succ, List.filter_append, List.filter_append, List.map_append, List.map_append]
  simp [h]
theorem evs_o (y : Nat → Int) {i : Nat} (h : ¬ i % 2 = 0) : evs y (i + 1) = evs y i ∧ ods y (i + 1) = ods y i ++ [y i] := by
  unfold evs ods
  rw [List.range_succ, List.filter_append, List.filter_append, List.map_append, List.map_append]
  simp [h]
theorem evs_len (y : Nat → Int) (i : Nat) : (evs y i).length + (ods y i).length = i := by
  induction i with
  | zero => rfl
  | succ i ih =>
    by_cases h : i % 2 = 0
    · rw [(evs_e y h).1, (evs_e y h).2, List.length_append, List.length_singleton]; omega
    · rw [(evs_o y h).1, (evs_o y h).2, List.length_append, List.length_singleton]; omega
def sg (i : Nat) : Int := if i % 2 = 0 then 99 else 106
theorem sg_c (i : Nat) : sg i = 99 ∨ sg i = 106 := by unfold sg; split <;> simp
/-! ### What the names tell -/
def tell (c : Bool) (s : ByteArray) : Option Int := if (parseP s).2.2 = true ∧ ((parseP s).1 == 99) = c then some (parseP s).2.1 else none
def tells (c : Bool) (m : Nat) (S : Nat → ByteArray) : List Int := ((List.range m).map S).filterMap (tell c)
theorem tells_succ (c : Bool) (m : Nat) (S : Nat → ByteArray) : tells c (m + 1) S = tells c m S ++ (tell c (S m)).toList := by
  unfold tells
  rw [List.range_succ, List.map_append, List.filterMap_append]
  simp only [List.map_cons, List.map_nil, List.filterMap_cons, List.filterMap_nil]
  cases tell c (S m) <;> rfl
theorem tells_names {n : Nat} {y : Nat → Int} {S : Nat → ByteArray} (hy : ∀ i, i < n → 0 ≤ y i ∧ y i ≤ 4611686018427387904) (hS : ∀ j, j < n → S j = nm (sg j) (y j)) : ∀ i, i ≤ n → tells true i S = evs y i ∧ tells false i S = ods y i
  | 0, _ => ⟨rfl, rfl⟩
  | i + 1, hi => by
    obtain ⟨h1, h2⟩ := tells_names hy hS i (by omega)
    rw [tells_succ, tells_succ, h1, h2, hS i (by omega)]
    have hp := parse_nm (sg_c i) (hy i (by omega)).1 (hy i (by omega)).2
    unfold tell
    rw [hp]
    by_cases h : i % 2 = 0
    · rw [(evs_e y h).1, (evs_e y h).2, show sg i = 99 from if_pos h]
      exact ⟨rfl, List.append_nil _⟩
    · rw [(evs_o y h).1, (evs_o y h).2, show sg i = 106 from if_neg h]
      exact ⟨List.append_nil _, rfl⟩
theorem tells_cons (c : Bool) (m : Nat) (s : ByteArray) (S : Nat → ByteArray) (h : (parseP s).2.2 = false) : tells c (1 + m) (fun i => if i < 1 then s else S (i - 1)) = tells c m S := by
  unfold tells
  rw [Nat.add_comm, List.range_succ_eq_map, List.map_cons, List.filterMap_cons]
  have e : tell c s = none := by unfold tell; rw [if_neg (by rw [h]; simp)]
  rw [if_pos (by omega), e]
  simp only [List.map_map]
  refine congrArg _ (List.map_congr_left fun j _ => ?_)
  show (if j + 1 < 1 then s else S (j + 1 - 1)) = S j
  exact if_neg (by omega)
/-! ### Sort -/
theorem tells_len (c : Bool) (S : Nat → ByteArray) : ∀ m, (tells c m S).length ≤ m
  | 0 => Nat.le_refl _
  | m + 1 => by
    rw [tells_succ, List.length_append]
    have := tells_len c S m
    have : (tell c (S m)).toList.length ≤ 1 := by cases tell c (S m) <;> simp
    omega
def srt (l : List Int) : List Int := l.mergeSort fun x y => decide (x ≤ y)
theorem sort_loop {m : Nat} (hm : m ≤ 1000) (S : Nat → ByteArray) (k0 : Nat) : ∀ (d i K : Nat) (g1 g2 : Nat → Int), i + d = m → d < K → (List.range (tells true i S).length).map g1 = tells true i S → (List.range (tells false i S).length).map g2 = tells false i S →
    names.Sort.l4 k0 K (tells true i S).length (fun i => Ri.enc (g1 i)) (tells false i S).length (fun i => Ri.enc (g2 i)) m (fun i => Rs.enc (S i)) (m : Int) (i : Int) =
      some (((tells true m S).length, fun i => (srt (tells true m S)).getD i 0), ((tells false m S).length, fun i => (srt (tells false m S)).getD i 0))
  | 0, i, K, g1, g2, h1, h2, e1, e2 => by
    obtain ⟨K, rfl⟩ : ∃ x, K = x + 1 := ⟨K - 1, by omega⟩
    obtain rfl : i = m := by omega
    have l1 := tells_len true S i
    have l2 := tells_len false S i
    rw [names.Sort.l4_eq]
    refine to_f (at_nlt i i (by omega)) (to_t (decide_eq_true (by omega)) (to_b (intsD_of (y := g1) fun _ => rfl) (to_t (decide_eq_true (by omega)) (to_b (intsD_of (y := g2) fun _ => rfl) ?_))))
    have s1 : sortAt (tells true i S).length g1 = fun i_1 => (srt (tells true i S)).getD i_1 0 := by
      funext j; unfold sortAt srt; rw [e1]
    have s2 : sortAt (tells false i S).length g2 = fun i_1 => (srt (tells false i S)).getD i_1 0 := by
      funext j; unfold sortAt srt; rw [e2]
    rw [s1, s2]
    simp only [dec_tT, dec_tCons, dec_tOne, dec_tTL, decRows_enc Ri_dec, Option.bind_some]
  | d + 1, i, K, g1, g2, h1, h2, e1, e2 => by
    obtain ⟨K, rfl⟩ : ∃ x, K = x + 1 := ⟨K - 1, by omega⟩
    have l1 := tells_len true S i
    have l2 := tells_len false S i
    have hw := at_next i (by omega)
    rw [names.Sort.l4_eq]
    refine to_t (at_lt i m (by omega)) (to_t (at_in i m (by omega)) (to_b (Parse_eq _) ?_))
    show (bif !(parseP (S i)).2.2 then _ else _) = _
    rw [hw]
    cases hp : (parseP (S i)).2.2 with
    | false =>
      have t : ∀ c, tells c (i + 1) S = tells c i S := fun c => by
        rw [tells_succ]; unfold tell; rw [if_neg (by rw [hp]; simp)]; exact List.append_nil _
      have := sort_loop hm S k0 d (i + 1) K g1 g2 (by omega) (by omega) (by rw [t]; exact e1) (by rw [t]; exact e2)
      rw [t, t] at this
      exact to_t rfl this
    | true =>
      refine to_f rfl ?_
      cases hc : ((parseP (S i)).1 == 99) with
      | true =>
        have t1 : tells true (i + 1) S = tells true i S ++ [(parseP (S i)).2.1] := by rw [tells_succ]; unfold tell; rw [if_pos ⟨hp, hc⟩]; rfl
        have t2 : tells false (i + 1) S = tells false i S := by rw [tells_succ]; unfold tell; rw [if_neg (by rw [hc]; simp)]; exact List.append_nil _
        refine to_t hc (to_t (decide_eq_true (by omega)) ?_)
        have e3 := row_upd_ren Ri_ren (lookF [(3, 0), (1, 1)] 2) g1 (tells true i S).length (parseP (S i)).2.1
        have := sort_loop hm S k0 d (i + 1) K (upd1 g1 (tells true i S).length (parseP (S i)).2.1) g2 (by omega) (by omega) (by
          rw [t1, List.length_append, List.length_singleton, List.range_succ, List.map_append]
          congr 1
          · rw [← e1, List.length_map, List.length_range]
            refine List.map_congr_left fun j hj => ?_
            have := List.mem_range.1 hj
            unfold upd1; rw [if_neg (by omega)]
          · simp [upd1]) (by rw [t2]; exact e2)
        rw [t1, t2, List.length_append, List.length_singleton] at this
        rw [show Int.toNat (i : Int) = i from rfl, e3]
        exact this
      | false =>
        have t1 : tells true (i + 1) S = tells true i S := by rw [tells_succ]; unfold tell; rw [if_neg (by rw [hc]; simp)]; exact List.append_nil _
        have t2 : tells false (i + 1) S = tells false i S ++ [(parseP (S i)).2.1] := by rw [tells_succ]; unfold tell; rw [if_pos ⟨hp, hc⟩]; rfl
        refine to_f hc (to_t (decide_eq_true (by omega)) ?_)
        have e3 := row_upd_ren Ri_ren (lookF [(0, 0), (3, 1)] 2) g2 (tells false i S).length (parseP (S i)).2.1
        have := sort_loop hm S k0 d (i + 1) K g1 (upd1 g2 (tells false i S).length (parseP (S i)).2.1) (by omega) (by omega) (by rw [t1]; exact e1) (by
          rw [t2, List.length_append, List.length_singleton, List.range_succ, List.map_append]
          congr 1
          · rw [← e2, List.length_map, List.length_range]
            refine List.map_congr_left fun j hj => ?_
            have := List.mem_range.1 hj
            unfold upd1; rw [if_neg (by omega)]
          · simp [upd1])
        rw [t1, t2, List.length_append, List.length_singleton] at this
        rw [show Int.toNat (i : Int) = i from rfl, e3]
        exact this
theorem Sort_eq {m : Nat} (hm : m ≤ 1000) (S : Nat → ByteArray) : names.Sort.f (m, fun i => Rs.enc (S i)) =
    some (((tells true m S).length, fun i => (srt (tells true m S)).getD i 0), ((tells false m S).length, fun i => (srt (tells false m S)).getD i 0)) := by
  show names.Sort.g 1000000 (m, fun i => Rs.enc (S i)) = _
  rw [names.Sort.eq]
  exact sort_loop hm S 1000000 m 0 1000000 (fun _ => 0) (fun _ => 0) (by omega) (by omega) rfl rfl
/-! ### The law -/
section
variable {n rn : Nat} {l : Nat → Int} {raw : Nat → ByteArray}
noncomputable def F2 (n : Nat) (l : Nat → Int) (rn : Nat) (raw : Nat → ByteArray) (K : Nat) (kc : List Int) (gc : Int → Int) (kj : List Int) (gj : Int → Int) (m : Nat) (S : Nat → ByteArray) (i : Int) : Option Bool :=
  law18.NamesSort.l2 1000000 K kc (fun i => Ri.enc (gc i)) kj (fun i => Ri.enc (gj i)) m (fun i => Rs.enc (S i)) n (fun i => Ri.enc (l i)) rn (fun i => Rs.enc (raw i)) (n : Int) i
noncomputable def F3 (n : Nat) (l : Nat → Int) (rn : Nat) (raw : Nat → ByteArray) (K : Nat) (kc : List Int) (gc : Int → Int) (kj : List Int) (gj : Int → Int) (m : Nat) (S : Nat → ByteArray) (i : Int) : Option Bool :=
  law18.NamesSort.l3 1000000 K kc (fun i => Ri.enc (gc i)) kj (fun i => Ri.enc (gj i)) m (fun i => Rs.enc (S i)) n (fun i => Ri.enc (l i)) rn (fun i => Rs.enc (raw i)) (rn : Int) i
noncomputable def F4 (n : Nat) (l : Nat → Int) (K : Nat) (kc : List Int) (gc : Int → Int) (kj : List Int) (gj : Int → Int) (a : Nat) (A : Nat → Int) (b : Nat) (B : Nat → Int) (i : Int) : Option Bool :=
  law18.NamesSort.l4 1000000 K kc (fun i => Ri.enc (gc i)) kj (fun i => Ri.enc (gj i)) n (fun i => Ri.enc (l i)) a (fun i => Ri.enc (A i)) b (fun i => Ri.enc (B i)) (a : Int) i
noncomputable def F5 (n : Nat) (l : Nat → Int) (K : Nat) (kc : List Int) (gc : Int → Int) (kj : List Int) (gj : Int → Int) (left : List Int) (a : Nat) (A : Nat → Int) (b : Nat) (B : Nat → Int) : Option Bool :=
  law18.NamesSort.l5 1000000 K kc (fun i => Ri.enc (gc i)) kj (fun i => Ri.enc (gj i)) left n (fun i => Ri.enc (l i)) a (fun i => Ri.enc (A i)) b (fun i => Ri.enc (B i))
noncomputable def F6 (n : Nat) (l : Nat → Int) (K : Nat) (kc : List Int) (gc : Int → Int) (kj : List Int) (gj : Int → Int) (left : List Int) (a : Nat) (A : Nat → Int) (b : Nat) (B : Nat → Int) (i : Int) : Option Bool :=
  law18.NamesSort.l6 1000000 K kc (fun i => Ri.enc (gc i)) kj (fun i => Ri.enc (gj i)) left n (fun i => Ri.enc (l i)) a (fun i => Ri.enc (A i)) b (fun i => Ri.enc (B i)) (b : Int) i
noncomputable def F7 (n : Nat) (l : Nat → Int) (K : Nat) (kc : List Int) (gc : Int → Int) (kj : List Int) (gj : Int → Int) (left left2 : List Int) (a : Nat) (A : Nat → Int) (b : Nat) (B : Nat → Int) : Option Bool :=
  law18.NamesSort.l7 1000000 K kc (fun i => Ri.enc (gc i)) kj (fun i => Ri.enc (gj i)) left left2 n (fun i => Ri.enc (l i)) a (fun i => Ri.enc (A i)) b (fun i => Ri.enc (B i))
theorem F7_run (kc : List Int) (gc : Int → Int) (kj : List Int) (gj : Int → Int) (left : List Int) (a : Nat) (A : Nat → Int) (b : Nat) (B : Nat → Int) (hz : ∀ x, gj x = 0) (hab : a + b = n) (hn : n ≤ 40) : ∀ (c K : Nat) (left2 : List Int), left2.length ≤ c → c < K → F7 n l K kc gc kj gj left left2 a A b B = some true
  | c, 0, _, _, h => absurd h (by omega)
  | c, K + 1, [], _, _ => by
    unfold F7
    rw [law18.NamesSort.l7_eq]
    show some _ = some true
    congr 1
    rw [IntKind.wrap_i64]; simp; omega
  | 0, K + 1, a' :: t, h, _ => absurd h (by simp)
  | c + 1, K + 1, a' :: t, h, hk => by
    unfold F7
    rw [law18.NamesSort.l7_eq]
    refine nextK_of (by simp) fun x hx => ?_
    have h2 : (delI (a' :: t) x).length < (a' :: t).length := by
      unfold delI
      rw [List.length_filter_lt_length_iff_exists]
      exact ⟨x, hx, by simp⟩
    exact to_f (by rw [hz]; rfl) (F7_run kc gc kj gj left a A b B hz hab hn c K _ (by omega) (by omega))
theorem srt_len (L : List Int) : (srt L).length = L.length := List.length_mergeSort L
theorem srt_perm (L : List Int) : (srt L).Perm L := List.mergeSort_perm L _
theorem srt_le (L : List Int) (i j : Nat) (hij : i < j) (hj : j < (srt L).length) : (srt L).getD i 0 ≤ (srt L).getD j 0 := by
  have h := List.pairwise_mergeSort (le := fun x y : Int => decide (x ≤ y)) (fun a b c h1 h2 => by simp at *; omega) (fun a b => by simp; omega) L
  have := List.pairwise_iff_getElem.1 h i j (by have : (L.mergeSort fun x y => decide (x ≤ y)).length = (srt L).length := rfl; omega) hj hij
  unfold srt at hj ⊢
  rw [List.getD_eq_getElem?_getD, List.getD_eq_getElem?_getD, List.getElem?_eq_getElem (by omega), List.getElem?_eq_getElem hj]
  simpa using this
theorem take_next (L : List Int) (i : Nat) (h : i < L.length) : L.take (i + 1) = L.take i ++ [L.getD i 0] := by
  rw [List.take_add_one, List.getElem?_eq_getElem h, List.getD_eq_getElem?_getD, List.getElem?_eq_getElem h]
  rfl
theorem F6_run (L : List Int) (hL : L.length ≤ 40) (kc : List Int) (gc : Int → Int) (left : List Int) (a : Nat) (A : Nat → Int) (hab : a + (srt L).length = n) (hn : n ≤ 40) : ∀ (c i K : Nat) (kj : List Int), i + c = (srt L).length → c < K → kj.length ≤ 100 + i →
    F6 n l K kc gc kj (cN L ((srt L).take i)) left a A (srt L).length (fun j => (srt L).getD j 0) (i : Int) = some true
  | _, _, 0, _, _, h, _ => absurd h (by omega)
  | 0, i, K + 1, kj, hi, _, hk => by
    have hl := srt_len L
    unfold F6
    rw [law18.NamesSort.l6_eq]
    refine to_f (at_nlt i _ (by omega)) ?_
    have e : (srt L).take i = srt L := List.take_of_length_le (by omega)
    rw [e]
    exact F7_run kc gc kj (cN L (srt L)) left a A (srt L).length _ (cN_perm (srt_perm L)) hab hn kj.length 1000000 kj (Nat.le_refl _) (by omega)
  | c + 1, i, K + 1, kj, hi, hc, hk => by
    have hl := srt_len L
    have hw := at_next i (by omega)
    have hp : ((srt L).take i).length ≤ 100 := by rw [List.length_take]; omega
    have hpk : (putI kj ((srt L).getD i 0)).length ≤ 100 + (i + 1) := by
      unfold putI
      cases memI kj ((srt L).getD i 0) with
      | true => rw [cond_true]; omega
      | false => rw [cond_false, List.length_append, List.length_singleton]; omega
    have IH := F6_run L hL kc gc left a A hab hn c (i + 1) K (putI kj ((srt L).getD i 0)) (by omega) (by omega) hpk
    have goal : law18.NamesSort.l6 1000000 K kc (fun i => Ri.enc (gc i)) (putI kj ((srt L).getD i 0)) (fun j => bif j == ((srt L).getD i 0) then Ri.enc (IntKind.i64.wrap (cN L ((srt L).take i) ((srt L).getD i 0) - 1)) else Ri.enc (cN L ((srt L).take i) j)) left n (fun i => Ri.enc (l i)) a (fun i => Ri.enc (A i)) (srt L).length (fun i => Ri.enc ((srt L).getD i 0)) ((srt L).length : Int) (IntKind.i64.wrap ((i : Int) + 1)) = some true := by
      rw [cN_drop (by omega) hp, hw, ← take_next _ _ (by omega)]
      exact IH
    unfold F6
    rw [law18.NamesSort.l6_eq]
    refine to_t (at_lt i _ (by omega)) (to_t (at_in i _ (by omega)) ?_)
    by_cases h0 : i = 0
    · subst h0
      exact to_f rfl goal
    · have hw2 : IntKind.i64.wrap ((i : Int) - 1) = ((i - 1 : Nat) : Int) := by rw [IntKind.wrap_i64]; omega
      refine to_t (decide_eq_true (by omega)) ?_
      rw [hw2]
      exact to_t (at_in (i - 1) _ (by omega)) (to_f (decide_eq_false (by have := srt_le L (i - 1) i (by omega) (by omega); show ¬ (srt L).getD (i - 1) 0 > (srt L).getD i 0; omega)) goal)
theorem F5_run (L : List Int) (hL : L.length ≤ 40) (kc : List Int) (gc : Int → Int) (kj : List Int) (a : Nat) (A : Nat → Int) (hz : ∀ x, gc x = 0) (hab : a + (srt L).length = n) (hn : n ≤ 40) (hk : kj.length ≤ 100) : ∀ (c K : Nat) (left : List Int), left.length ≤ c → c < K →
    F5 n l K kc gc kj (cN L []) left a A (srt L).length (fun j => (srt L).getD j 0) = some true
  | c, 0, _, _, h => absurd h (by omega)
  | c, K + 1, [], _, _ => by
    unfold F5
    rw [law18.NamesSort.l5_eq]
    exact F6_run L hL kc gc [] a A hab hn (srt L).length 0 1000000 kj (by omega) (by have := srt_len L; omega) (by omega)
  | 0, K + 1, a' :: t, h, _ => absurd h (by simp)
  | c + 1, K + 1, a' :: t, h, hk' => by
    unfold F5
    rw [law18.NamesSort.l5_eq]
    refine nextK_of (by simp) fun x hx => ?_
    have h2 : (delI (a' :: t) x).length < (a' :: t).length := by
      unfold delI
      rw [List.length_filter_lt_length_iff_exists]
      exact ⟨x, hx, by simp⟩
    exact to_f (by rw [hz]; rfl) (F5_run L hL kc gc kj a A hz hab hn hk c K _ (by omega) (by omega))
theorem F4_run (M L : List Int) (hM : M.length ≤ 40) (hL : L.length ≤ 40) (kj : List Int) (hab : (srt M).length + (srt L).length = n) (hn : n ≤ 40) (hkj : kj.length ≤ 100) : ∀ (c i K : Nat) (kc : List Int), i + c = (srt M).length → c < K → kc.length ≤ 100 + i →
    F4 n l K kc (cN M ((srt M).take i)) kj (cN L []) (srt M).length (fun j => (srt M).getD j 0) (srt L).length (fun j => (srt L).getD j 0) (i : Int) = some true
  | _, _, 0, _, _, h, _ => absurd h (by omega)
  | 0, i, K + 1, kc, hi, _, hk => by
    have hl := srt_len M
    unfold F4
    rw [law18.NamesSort.l4_eq]
    refine to_f (at_nlt i _ (by omega)) ?_
    have e : (srt M).take i = srt M := List.take_of_length_le (by omega)
    rw [e]
    exact F5_run L hL kc (cN M (srt M)) kj (srt M).length _ (cN_perm (srt_perm M)) hab hn hkj kc.length 1000000 kc (Nat.le_refl _) (by omega)
  | c + 1, i, K + 1, kc, hi, hc, hk => by
    have hl := srt_len M
    have hw := at_next i (by omega)
    have hp : ((srt M).take i).length ≤ 100 := by rw [List.length_take]; omega
    have hpk : (putI kc ((srt M).getD i 0)).length ≤ 100 + (i + 1) := by
      unfold putI
      cases memI kc ((srt M).getD i 0) with
      | true => rw [cond_true]; omega
      | false => rw [cond_false, List.length_append, List.length_singleton]; omega
    have IH := F4_run M L hM hL kj hab hn hkj c (i + 1) K (putI kc ((srt M).getD i 0)) (by omega) (by omega) hpk
    have goal : law18.NamesSort.l4 1000000 K (putI kc ((srt M).getD i 0)) (fun j => bif j == ((srt M).getD i 0) then Ri.enc (IntKind.i64.wrap (cN M ((srt M).take i) ((srt M).getD i 0) - 1)) else Ri.enc (cN M ((srt M).take i) j)) kj (fun i => Ri.enc (cN L [] i)) n (fun i => Ri.enc (l i)) (srt M).length (fun i => Ri.enc ((srt M).getD i 0)) (srt L).length (fun i => Ri.enc ((srt L).getD i 0)) ((srt M).length : Int) (IntKind.i64.wrap ((i : Int) + 1)) = some true := by
      rw [cN_drop (by omega) hp, hw, ← take_next _ _ (by omega)]
      exact IH
    unfold F4
    rw [law18.NamesSort.l4_eq]
    refine to_t (at_lt i _ (by omega)) (to_t (at_in i _ (by omega)) ?_)
    by_cases h0 : i = 0
    · subst h0
      exact to_f rfl goal
    · have hw2 : IntKind.i64.wrap ((i : Int) - 1) = ((i - 1 : Nat) : Int) := by rw [IntKind.wrap_i64]; omega
      refine to_t (decide_eq_true (by omega)) ?_
      rw [hw2]
      exact to_t (at_in (i - 1) _ (by omega)) (to_f (decide_eq_false (by have := srt_le M (i - 1) i (by omega) (by omega); show ¬ (srt M).getD (i - 1) 0 > (srt M).getD i 0; omega)) goal)
theorem F3_run (M L : List Int) (hM : M.length ≤ 40) (hL : L.length ≤ 40) (kc kj : List Int) (hab : M.length + L.length = n) (hn : n ≤ 40) (hkc : kc.length ≤ 100) (hkj : kj.length ≤ 100) : ∀ (c i K m : Nat) (S : Nat → ByteArray), i + c = rn → rn ≤ 20 → c < K → m ≤ 100 + i → tells true m S = M → tells false m S = L →
    F3 n l rn raw K kc (cN M []) kj (cN L []) m S (i : Int) = some true
  | _, _, 0, _, _, _, _, h, _, _, _ => absurd h (by omega)
  | 0, i, K + 1, m, S, hi, hr, _, hm, e1, e2 => by
    unfold F3
    rw [law18.NamesSort.l3_eq]
    refine to_f (at_nlt i _ (by omega)) (to_b (Sort_eq (by omega) S) ?_)
    rw [e1, e2]
    have := F4_run (n := n) (l := l) M L hM hL kj (by rw [srt_len, srt_len]; exact hab) hn hkj (srt M).length 0 1000000 kc (by omega) (by rw [srt_len]; omega) (by omega)
    rw [srt_len, srt_len] at this
    exact this
  | c + 1, i, K + 1, m, S, hi, hr, hc, hm, e1, e2 => by
    have hw := at_next i (by omega)
    unfold F3
    rw [law18.NamesSort.l3_eq]
    refine to_t (at_lt i _ (by omega)) (to_t (at_in i _ (by omega)) (to_b (Parse_eq _) ?_))
    show (bif !(parseP (raw i)).2.2 then _ else _) = _
    rw [hw]
    cases hp : (parseP (raw i)).2.2 with
    | true => exact to_f rfl (F3_run M L hM hL kc kj hab hn hkc hkj c (i + 1) K m S (by omega) hr (by omega) (by omega) e1 e2)
    | false =>
      refine to_t rfl (to_t (decide_eq_true (by omega)) ?_)
      have e3 : (fun j => renL (lookF [(5, 3)] 4) (if j < 1 then (fun j => List.getD (List.map Rs.enc [(raw (Int.toNat (i : Int)))]) j (Rs.enc (ByteArray.mk #[]))) j else (fun j => Rs.enc (S j)) (j - 1))) = fun j => Rs.enc (if j < 1 then raw i else S (j - 1)) := by
        funext j
        by_cases hj : j < 1
        · obtain rfl : j = 0 := by omega
          rfl
        · rw [if_neg hj, if_neg hj]; rfl
      refine Eq.trans ?_ (F3_run M L hM hL kc kj hab hn hkc hkj c (i + 1) K (1 + m) (fun j => if j < 1 then raw i else S (j - 1)) (by omega) hr (by omega) (by omega) (by rw [tells_cons _ _ _ _ hp]; exact e1) (by rw [tells_cons _ _ _ _ hp]; exact e2))
      unfold F3
      rw [← e3]
theorem F2_run (hn : n ≤ 40) (hr : rn ≤ 20) (y : Nat → Int) (hy : ∀ i, i < n → law18.may.f (l i) = some (y i) ∧ 0 ≤ y i ∧ y i ≤ 4611686018427387904) : ∀ (c i K : Nat) (kc kj : List Int) (S : Nat → ByteArray), i + c = n → c < K → kc.length ≤ i → kj.length ≤ i → (∀ j, j < i → S j = nm (sg j) (y j)) →
    F2 n l rn raw K kc (cN (evs y i) []) kj (cN (ods y i) []) i S (i : Int) = some true
  | _, _, 0, _, _, _, _, h, _, _, _ => absurd h (by omega)
  | 0, i, K + 1, kc, kj, S, hi, _, h1, h2, hS => by
    obtain rfl : i = n := by omega
    have hl := evs_len y i
    obtain ⟨t1, t2⟩ := tells_names (n := i) (fun j hj => (hy j hj).2) hS i (Nat.le_refl _)
    unfold F2
    rw [law18.NamesSort.l2_eq]
    refine to_f (at_nlt i _ (by omega)) ?_
    exact F3_run (n := i) (l := l) (rn := rn) (raw := raw) (evs y i) (ods y i) (by omega) (by omega) kc kj hl hn (by omega) (by omega) rn 0 1000000 i S (by omega) hr (by omega) (by omega) t1 t2
  | c + 1, i, K + 1, kc, kj, S, hi, hc, h1, h2, hS => by
    have hl := evs_len y i
    have hw := at_next i (by omega)
    obtain ⟨y1, y2, y3⟩ := hy i (by omega)
    have put : ∀ ks : List Int, ks.length ≤ i → (putI ks (y i)).length ≤ i + 1 := fun ks h => by
      unfold putI
      cases memI ks (y i) with
      | true => rw [cond_true]; omega
      | false => rw [cond_false, List.length_append, List.length_singleton]; omega
    have hS' : ∀ x, x = nm (sg i) (y i) → ∀ j, j < i + 1 → upd1 S i x j = nm (sg j) (y j) := fun x hx j hj => by
      unfold upd1
      by_cases h : j = i
      · subst h; rw [if_pos rfl]; exact hx
      · rw [if_neg h]; exact hS j (by omega)
    unfold F2
    rw [law18.NamesSort.l2_eq]
    refine to_t (at_lt i _ (by omega)) (to_t (at_in i _ (by omega)) (to_b y1 ?_))
    rw [band1]
    by_cases h : i % 2 = 0
    · obtain ⟨q1, q2⟩ := evs_e y h
      have hb : (((i % 2 : Nat) : Int) == 0) = true := by rw [h]; rfl
      have hs : nm 99 (y i) = nm (sg i) (y i) := by rw [show sg i = 99 from if_pos h]
      refine to_t hb (to_b (Check_eq _) (to_t (decide_eq_true (by omega)) (to_t hb ?_)))
      rw [cN_push (by omega) (by simp), row_upd_ren Rs_ren, hw, ← q1, ← q2]
      exact F2_run hn hr y hy c (i + 1) K (putI kc (y i)) kj (upd1 S i (nm 99 (y i))) (by omega) (by omega) (put kc h1) (by omega) (hS' _ hs)
    · obtain ⟨q1, q2⟩ := evs_o y h
      have hb : (((i % 2 : Nat) : Int) == 0) = false := by rw [show i % 2 = 1 by omega]; rfl
      have hb1 : (((i % 2 : Nat) : Int) == 1) = true := by rw [show i % 2 = 1 by omega]; rfl
      have hs : nm 106 (y i) = nm (sg i) (y i) := by rw [show sg i = 106 from if_neg h]
      refine to_f hb (to_b (Segment_eq _) (to_t (decide_eq_true (by omega)) (to_f hb (to_t hb1 ?_))))
      rw [cN_push (by omega) (by simp), row_upd_ren Rs_ren, hw, ← q1, ← q2]
      exact F2_run hn hr y hy c (i + 1) K kc (putI kj (y i)) (upd1 S i (nm 106 (y i))) (by omega) (by omega) (by omega) (put kj h2) (hS' _ hs)
end
theorem NamesSort_true (n : Nat) (l : Nat → Int) (rn : Nat) (raw : Nat → ByteArray) (wn : n ≤ maxLen) (w0 : ∀ i, i < n → (Lit.int .i64 (l i)).wf = true) (wr : rn ≤ maxLen) (w1 : ∀ i, i < rn → True) : law18.NamesSort.f ((n, fun i => Ri.enc (l i)), (rn, fun i => Rs.enc (raw i))) = some true := by
  show law18.NamesSort.g 1000000 ((n, fun i => Ri.enc (l i)), (rn, fun i => Rs.enc (raw i))) = some true
  rw [law18.NamesSort.eq]
  refine to_b fit_eq (to_f rfl ?_)
  by_cases h1 : (((n : Nat) : Int) > 40)
  · exact to_t (decide_eq_true h1) rfl
  refine to_f (decide_eq_false h1) ?_
  by_cases h2 : (((rn : Nat) : Int) > 20)
  · exact to_t (decide_eq_true h2) rfl
  refine to_f (decide_eq_false h2) ?_
  have hy : ∀ i, ∃ m, i < n → law18.may.f (l i) = some m ∧ 0 ≤ m ∧ m ≤ 4611686018427387904 := fun i => by
    by_cases hi : i < n
    · obtain ⟨m, hm⟩ := may_eq (wf_j (w0 i hi))
      exact ⟨m, fun _ => hm⟩
    · exact ⟨0, fun h => absurd h hi⟩
  have hy2 := fun i => Classical.choose_spec (hy i)
  exact F2_run (by omega) (by omega) (fun i => Classical.choose (hy i)) hy2 n 0 1000000 [] [] (fun _ => ByteArray.mk #[]) (by omega) (by omega) (by simp) (by simp) fun j hj => absurd hj (by omega)
end Go.Proofs.Ytooknkplmpnnnaa.Y
