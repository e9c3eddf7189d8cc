/- Worlds: what the loops over lists of numbered things do. -/
import Derived.Test.YtbcnifnmccaleaaYRi
import Derived.Test.YtbcnifnmccaleaaYSe
namespace Go.Proofs.Ytbcnifnmccaleaa.Y
open Go Go.RowKit Go.Proofs.Ytbcnifnmccaleaa.E Go.Proofs.Ytbcnifnmccaleaa.Ma Go.Proofs.Ytbcnifnmccaleaa.Fw
set_option linter.unusedVariables false
set_option linter.unusedSimpArgs false
set_option maxRecDepth 4000

abbrev BT := Int × Int × Int × Int × Int × Int × Int × Int × Int × Int × (Nat × (Nat → List AV))
abbrev JT := Int × Int × Int × Int × Int × Int × Int × Int
abbrev CT := Int × Int × Int × Int × Int
theorem bind_to {α β : Type} {x : Option α} {a : α} {f : α → Option β} {r : Option β} (h : x = some a) (h2 : f a = r) : x.bind f = r := by rw [h]; exact h2
theorem cond_t {α : Type} {c : Bool} {a b r : α} (h : c = true) (h2 : a = r) : (bif c then a else b) = r := by rw [h]; exact h2
theorem cond_f {α : Type} {c : Bool} {a b r : α} (h : c = false) (h2 : b = r) : (bif c then a else b) = r := by rw [h]; exact h2
/-- A list, by its length and its elements. -/
def lst {α : Type} (x : Nat × (Nat → α)) : List α := (List.range x.1).map x.2
theorem lst_len {α : Type} (x : Nat × (Nat → α)) : (lst x).length = x.1 := by simp [lst]
theorem lst_get {α : Type} (x : Nat × (Nat → α)) (i : Nat) (h : i < x.1) : (lst x)[i]? = some (x.2 i) := by simp [lst, h]
theorem wrap_nat (i : Nat) (h : i < 9223372036854775807) : IntKind.i64.wrap ((i : Int) + 1) = ((i + 1 : Nat) : Int) := by rw [IntKind.wrap_i64]; omega
theorem in_nat (i n : Nat) (h : i < n) : (decide (0 ≤ (i : Int)) && decide ((i : Int) < ((n : Nat) : Int))) = true := by simp; omega
theorem ge_nat (i : Nat) : (decide (0 ≤ (i : Int)) && true) = true := by simp
theorem lt_nat (i n : Nat) (h : i < n) : decide ((i : Int) < ((n : Nat) : Int)) = true := by simp; omega
theorem nlt_nat (i n : Nat) (h : ¬ i < n) : decide ((i : Int) < ((n : Nat) : Int)) = false := by simp; omega
/-- It gives a Bool, which says whether P. -/
def Tells (x : Option Bool) (P : Prop) : Prop := ∃ b, x = some b ∧ (b = true ↔ P)
theorem Tells.t {x : Option Bool} {P : Prop} (h : Tells x P) (hp : P) : x = some true := by
  obtain ⟨b, h1, h2⟩ := h
  rw [h1, h2.2 hp]
theorem Tells.f {x : Option Bool} {P : Prop} (h : Tells x P) (hp : ¬ P) : x = some false := by
  obtain ⟨b, h1, h2⟩ := h
  cases b with
  | true => exact absurd (h2.1 rfl) hp
  | false => exact h1

section
variable {n : Nat}
/-- The first one of which it is so. -/
theorem scan_index (hn : n ≤ 4611686018427387904) (p : Nat → Bool) (F : Nat → Int → Option Int)
    (hF : ∀ k (v : Int), F (k + 1) v = bif decide (v < (n : Int)) then (bif (decide (0 ≤ v) && decide (v < (n : Int))) then (bif p v.toNat then some v else F k (IntKind.i64.wrap (v + 1))) else none) else some (-1)) :
    ∀ (d i K : Nat), i + d = n → d < K → (∀ j, j < i → p j = false) →
      (∃ q, q < n ∧ p q = true ∧ (∀ j, j < q → p j = false) ∧ F K (i : Int) = some (q : Int)) ∨ ((∀ j, j < n → p j = false) ∧ F K (i : Int) = some (-1))
  | 0, i, K + 1, h, _, hp => by
    rw [hF, nlt_nat i n (by omega), cond_false]
    exact .inr ⟨fun j hj => hp j (by omega), rfl⟩
  | d + 1, i, K + 1, h, hk, hp => by
    rw [hF, lt_nat i n (by omega), cond_true, ge_nat, cond_true, Int.toNat_natCast, wrap_nat i (by omega)]
    cases hpi : p i with
    | true => exact .inl ⟨i, by omega, hpi, hp, rfl⟩
    | false =>
      rw [cond_false]
      refine scan_index hn p F hF d (i + 1) K (by omega) (by omega) fun j hj => ?_
      by_cases e : j = i
      · rw [e]; exact hpi
      · exact hp j (by omega)

theorem map_upd1 {α : Type} (g : Nat → α) (i : Nat) (v : α) : (List.range (i + 1)).map (upd1 g i v) = (List.range i).map g ++ [v] := by
  rw [List.range_succ, List.map_append]
  congr 1
  · apply List.map_congr_left
    intro t ht
    have : t < i := by simpa using ht
    unfold upd1
    rw [if_neg (by omega)]
  · simp [upd1]
/-- Those of which it isn't so are moved together. -/
theorem scan_delete {α R : Type} (hn : n ≤ 4611686018427387904) (p : α → Bool) (g0 : Nat → α) (F : Nat → (Nat → α) → Int → Int → Option R) (E : (Nat → α) → Int → Option R)
    (hF : ∀ k g (i j : Int), F (k + 1) g i j = bif decide (j < (n : Int)) then (bif (decide (0 ≤ j) && decide (j < (n : Int))) then (bif (!(p (g j.toNat))) then (bif (decide (0 ≤ i) && decide (i < (n : Int))) then F k (upd1 g i.toNat (g j.toNat)) (IntKind.i64.wrap (i + 1)) (IntKind.i64.wrap (j + 1)) else none) else F k g i (IntKind.i64.wrap (j + 1))) else none) else E g i) :
    ∀ (d i j K : Nat) (g : Nat → α), j + d = n → d < K → i ≤ j → (∀ t, j ≤ t → t < n → g t = g0 t) → (List.range i).map g = ((List.range j).map g0).filter (fun b => !p b) →
      ∃ (m : Nat) (g' : Nat → α), m + j ≤ n + i ∧ (List.range m).map g' = ((List.range n).map g0).filter (fun b => !p b) ∧ F K g (i : Int) (j : Int) = E g' (m : Int)
  | 0, i, j, K + 1, g, h, _, hij, hg, hl => by
    have e : j = n := by omega
    subst e
    exact ⟨i, g, by omega, hl, by rw [hF, nlt_nat j j (by omega), cond_false]⟩
  | d + 1, i, j, K + 1, g, h, hk, hij, hg, hl => by
    have e0 : g j = g0 j := hg j (Nat.le_refl _) (by omega)
    have hsucc : ((List.range (j + 1)).map g0).filter (fun b => !p b) = ((List.range j).map g0).filter (fun b => !p b) ++ (if (!p (g0 j)) = true then [g0 j] else []) := by
      rw [List.range_succ, List.map_append, List.filter_append]
      congr 1
      clear hF
      simp only [List.map_cons, List.map_nil, List.filter_cons, List.filter_nil]
    rw [hF, lt_nat j n (by omega), cond_true, ge_nat, cond_true, Int.toNat_natCast, wrap_nat j (by omega), e0]
    cases hp : p (g0 j) with
    | true =>
      rw [Bool.not_true, cond_false]
      obtain ⟨m, g', h1, h2, h3⟩ := scan_delete hn p g0 F E hF d i (j + 1) K g (by omega) (by omega) (by omega) (fun t h1 h2 => hg t (by omega) h2) (by rw [hl, hsucc, hp]; simp)
      exact ⟨m, g', by omega, h2, h3⟩
    | false =>
      rw [Bool.not_false, cond_true, in_nat i n (by omega), cond_true, Int.toNat_natCast, wrap_nat i (by omega)]
      obtain ⟨m, g', h1, h2, h3⟩ := scan_delete hn p g0 F E hF d (i + 1) (j + 1) K (upd1 g i (g0 j)) (by omega) (by omega) (by omega) (fun t h1 h2 => by
        unfold upd1; rw [if_neg (by omega)]; exact hg t (by omega) h2) (by rw [map_upd1, hl, hsucc, hp]; simp)
      exact ⟨m, g', by omega, h2, h3⟩

def mid (i j : Int) : Int := IntKind.i64.wrap (Int.fdiv (IntKind.u64.wrap (IntKind.i64.wrap (i + j))) (2 ^ 1))
theorem mid_nat (i j : Nat) (h : i + j < 1000000000000) : mid i j = (((i + j) / 2 : Nat) : Int) := by
  unfold mid
  have e1 : IntKind.i64.wrap ((i : Int) + j) = (i : Int) + j := by rw [IntKind.wrap_i64]; omega
  have e2 : IntKind.u64.wrap ((i : Int) + j) = (i : Int) + j := by unfold IntKind.wrap; simp [IntKind.bits, IntKind.signed]; omega
  rw [e1, e2, IntKind.wrap_i64]
  have : Int.fdiv ((i : Int) + j) (2 ^ 1) = ((i : Int) + j) / 2 := by rw [Int.fdiv_eq_ediv_of_nonneg _ (by decide)]; rfl
  rw [this]
  omega
def cmpI (a b : Int) : Int := if a < b then -1 else if b < a then 1 else 0
/-- Where a number stands, or would. -/
theorem scan_bs (hn : n ≤ 100000000) (key : Nat → Int) (x : Int) (F : Nat → Int → Int → Option (Int × Bool))
    (hF : ∀ k (i j : Int), F (k + 1) i j = bif decide (i < j) then (bif (decide (0 ≤ mid i j) && decide (mid i j < (n : Int))) then (bif decide (cmpI (key (mid i j).toNat) x < 0) then F k (IntKind.i64.wrap (mid i j + 1)) j else F k i (mid i j)) else none)
      else (bif decide (i < (n : Int)) then (bif (decide (0 ≤ i) && decide (i < (n : Int))) then some (i, cmpI (key i.toNat) x == 0) else none) else some (i, false)))
    (hs : ∀ a b, a < b → b < n → key a < key b) :
    ∀ (d i j K : Nat), j ≤ i + d → d < K → i ≤ j → j ≤ n → (∀ a, a < i → key a < x) → (∀ a, j ≤ a → a < n → x ≤ key a) →
      ∃ p : Nat, p ≤ n ∧ (∀ a, a < p → key a < x) ∧ (∀ a, p ≤ a → a < n → x ≤ key a) ∧ ∃ b : Bool, (b = true ↔ (p < n ∧ key p = x)) ∧ F K (i : Int) (j : Int) = some ((p : Int), b)
  | d, i, j, K + 1, h, hk, hij, hjn, h1, h2 => by
    rw [hF]
    by_cases hlt : i < j
    · have hd : 1 ≤ d := by omega
      obtain ⟨d', rfl⟩ : ∃ d', d = d' + 1 := ⟨d - 1, by omega⟩
      rw [lt_nat i j hlt, cond_true, mid_nat i j (by omega), in_nat _ n (by omega), cond_true, Int.toNat_natCast]
      by_cases hc : key ((i + j) / 2) < x
      · have : decide (cmpI (key ((i + j) / 2)) x < 0) = true := by unfold cmpI; simp [hc]
        rw [this, cond_true, wrap_nat _ (by omega)]
        refine scan_bs hn key x F hF hs d' ((i + j) / 2 + 1) j K (by omega) (by omega) (by omega) hjn (fun a ha => ?_) h2
        by_cases e : a = (i + j) / 2
        · rw [e]; exact hc
        · have := hs a ((i + j) / 2) (by omega) (by omega); omega
      · have : decide (cmpI (key ((i + j) / 2)) x < 0) = false := by unfold cmpI; rw [if_neg hc]; split <;> simp
        rw [this, cond_false]
        refine scan_bs hn key x F hF hs d' i ((i + j) / 2) K (by omega) (by omega) (by omega) (by omega) h1 (fun a ha hn' => ?_)
        by_cases e : a = (i + j) / 2
        · rw [e]; omega
        · have := hs ((i + j) / 2) a (by omega) hn'; omega
    · have e : i = j := by omega
      subst e
      rw [nlt_nat i i (by omega), cond_false]
      refine ⟨i, hjn, h1, h2, ?_⟩
      by_cases hin : i < n
      · rw [lt_nat i n hin, cond_true, ge_nat, cond_true, Int.toNat_natCast]
        refine ⟨_, ?_, rfl⟩
        have := h2 i (Nat.le_refl _) hin
        unfold cmpI
        rw [beq_iff_eq]
        constructor
        · intro he; refine ⟨hin, ?_⟩; repeat' split at he
          all_goals omega
        · intro he; rw [he.2]; simp
      · rw [nlt_nat i n hin, cond_false]
        exact ⟨false, by simp [hin], rfl⟩

/-- Are numbers rising? -/
theorem scan_rise (hn : n ≤ 4611686018427387904) (key : Nat → Int) (next : Int) (F : Nat → Int → Int → Option Bool)
    (hF : ∀ k (last i : Int), F (k + 1) last i = bif decide (i < (n : Int)) then (bif (decide (0 ≤ i) && decide (i < (n : Int))) then (bif decide (key i.toNat ≤ last) then some false else bif decide (key i.toNat ≥ next) then some false else F k (key i.toNat) (IntKind.i64.wrap (i + 1))) else none) else some (decide (next ≥ 1))) :
    ∀ (d i K : Nat) (last : Int), i + d = n → d < K → Tells (F K last (i : Int)) ((∀ t, i ≤ t → t < n → (if t = i then last else key (t - 1)) < key t ∧ key t < next) ∧ 1 ≤ next)
  | 0, i, K + 1, last, h, _ => by
    rw [hF, nlt_nat i n (by omega), cond_false]
    refine ⟨_, rfl, ?_⟩
    rw [decide_eq_true_eq]
    exact ⟨fun h1 => ⟨fun t h2 h3 => by omega, h1⟩, fun h1 => h1.2⟩
  | d + 1, i, K + 1, last, h, hk => by
    rw [hF, lt_nat i n (by omega), cond_true, ge_nat, cond_true, Int.toNat_natCast, wrap_nat i (by omega)]
    by_cases h1 : key i ≤ last
    · rw [decide_eq_true h1, cond_true]
      refine ⟨false, rfl, by simp only [Bool.false_eq_true, false_iff]; intro hq; have := (hq.1 i (Nat.le_refl _) (by omega)).1; rw [if_pos rfl] at this; omega⟩
    · rw [decide_eq_false h1, cond_false]
      by_cases h2 : key i ≥ next
      · rw [decide_eq_true h2, cond_true]
        refine ⟨false, rfl, by simp only [Bool.false_eq_true, false_iff]; intro hq; have := (hq.1 i (Nat.le_refl _) (by omega)).2; omega⟩
      · rw [decide_eq_false h2, cond_false]
        obtain ⟨b, hb1, hb2⟩ := scan_rise hn key next F hF d (i + 1) K (key i) (by omega) (by omega)
        refine ⟨b, hb1, hb2.trans ⟨fun hq => ⟨fun t ht htn => ?_, hq.2⟩, fun hq => ⟨fun t ht htn => ?_, hq.2⟩⟩⟩
        · by_cases e : t = i
          · subst e; rw [if_pos rfl]; omega
          · rw [if_neg e]
            have := hq.1 t (by omega) htn
            by_cases e2 : t = i + 1
            · rw [if_pos e2] at this; subst e2; exact this
            · rw [if_neg e2] at this; exact this
        · have := hq.1 t (by omega) htn
          rw [if_neg (by omega)] at this
          by_cases e2 : t = i + 1
          · rw [if_pos e2]; subst e2; exact this
          · rw [if_neg e2]; exact this

/-- Is it so of all? Then what comes behind. -/
theorem scan_all {R : Type} (hn : n ≤ 4611686018427387904) (p : Nat → Prop) (F : Nat → Int → Option R) (no : Option R) (E : Option R)
    (hF : ∀ k (i : Nat), i < n → (p i ∧ F (k + 1) (i : Int) = F k ((i + 1 : Nat) : Int)) ∨ (¬ p i ∧ F (k + 1) (i : Int) = no)) (hE : ∀ k, F (k + 1) (n : Int) = E) :
    ∀ (d i K : Nat), i + d = n → d < K → ((∀ t, i ≤ t → t < n → p t) ∧ F K (i : Int) = E) ∨ ((∃ t, i ≤ t ∧ t < n ∧ ¬ p t) ∧ F K (i : Int) = no)
  | 0, i, K + 1, h, _ => by
    have : i = n := by omega
    subst this
    exact .inl ⟨fun t h1 h2 => by omega, hE K⟩
  | d + 1, i, K + 1, h, hk => by
    rcases hF K i (by omega) with ⟨h1, h2⟩ | ⟨h1, h2⟩
    · rw [h2]
      rcases scan_all hn p F no E hF hE d (i + 1) K (by omega) (by omega) with ⟨g1, g2⟩ | ⟨⟨t, g1, g3, g4⟩, g2⟩
      · refine .inl ⟨fun t ht htn => ?_, g2⟩
        by_cases e : t = i
        · rw [e]; exact h1
        · exact g1 t (by omega) htn
      · exact .inr ⟨⟨t, by omega, g3, g4⟩, g2⟩
    · exact .inr ⟨⟨i, Nat.le_refl _, by omega, h1⟩, h2⟩
end
end Go.Proofs.Ytbcnifnmccaleaa.Y
