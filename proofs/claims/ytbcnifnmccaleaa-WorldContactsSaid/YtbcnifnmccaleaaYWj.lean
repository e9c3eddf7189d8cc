/- Worlds: contacts are found, and removed with their bodies. -/
import Derived.Test.YtbcnifnmccaleaaYWg
import Derived.Test.YtbcnifnmccaleaaYWz
namespace Go.Proofs.Ytbcnifnmccaleaa.Y
open Go Go.RowKit Go.Proofs.Ytbcnifnmccaleaa.E Go.Proofs.Ytbcnifnmccaleaa.Ma Go.Proofs.Ytbcnifnmccaleaa.Fw
set_option linter.unusedVariables false
set_option linter.unusedSimpArgs false
set_option maxRecDepth 10000

theorem order_eq2 (a b : CT) : ∃ o, world.order.f (a, b) = some o ∧ (o < 0 ↔ CLt a b) ∧ (o = 0 ↔ a.1 = b.1 ∧ a.2.1 = b.2.1 ∧ a.2.2.1 = b.2.2.1) := by
  have e : world.order.f (a, b) = (cmp.Compare_int.f (a.1, b.1)).bind fun r1 => (cmp.Compare_int.f (a.2.1, b.2.1)).bind fun r2 => (cmp.Compare_int.f (a.2.2.1, b.2.2.1)).bind fun r3 =>
      (cmp.Or_int.f (3, (fun i => cloL (List.getD (List.map Ri.enc [r1, r2, r3]) i (Ri.enc 0))))).bind fun r4 => some r4 := world.order.eq _ _ _ _ _ _ _ _ _ _
  rw [e, cmp_eq, Option.bind_some, cmp_eq, Option.bind_some, cmp_eq, Option.bind_some, Or_eq, Option.bind_some]
  refine ⟨_, rfl, ?_, ?_⟩
  · unfold cmpI CLt
    repeat' split
    all_goals omega
  · unfold cmpI
    repeat' split
    all_goals omega
/-- Where something stands, or would. -/
theorem scan_bs2 {n : Nat} (p e : Nat → Bool) (F : Nat → Int → Int → Option (Int × Bool))
    (hF : ∀ k (i j : Nat), i ≤ j → j ≤ n → F (k + 1) (i : Int) (j : Int) = if i < j then (if p ((i + j) / 2) = true then F k (((i + j) / 2 + 1 : Nat) : Int) (j : Int) else F k (i : Int) (((i + j) / 2 : Nat) : Int)) else some ((i : Int), decide (i < n) && e i))
    (hs : ∀ a b, a < b → b < n → p b = true → p a = true) :
    ∀ (d i j K : Nat), j ≤ i + d → d < K → i ≤ j → j ≤ n → (∀ a, a < i → p a = true) → (∀ a, j ≤ a → a < n → p a = false) →
      ∃ q : Nat, q ≤ n ∧ (∀ a, a < q → p a = true) ∧ (∀ a, q ≤ a → a < n → p a = false) ∧ F K (i : Int) (j : Int) = some ((q : Int), decide (q < n) && e q)
  | d, i, j, K + 1, h, hk, hij, hjn, h1, h2 => by
    rw [hF K i j hij hjn]
    by_cases hlt : i < j
    · obtain ⟨d', rfl⟩ : ∃ d', d = d' + 1 := ⟨d - 1, by omega⟩
      rw [if_pos hlt]
      by_cases hc : p ((i + j) / 2) = true
      · rw [if_pos hc]
        refine scan_bs2 p e F hF hs d' ((i + j) / 2 + 1) j K (by omega) (by omega) (by omega) hjn (fun a ha => ?_) h2
        by_cases e : a = (i + j) / 2
        · rw [e]; exact hc
        · exact hs a ((i + j) / 2) (by omega) (by omega) hc
      · rw [if_neg hc]
        refine scan_bs2 p e F hF hs d' i ((i + j) / 2) K (by omega) (by omega) (by omega) (by omega) h1 (fun a ha hn' => ?_)
        by_cases e : a = (i + j) / 2
        · rw [e]; simpa using hc
        · cases hpa : p a with
          | false => rfl
          | true => exact absurd (hs ((i + j) / 2) a (by omega) hn' hpa) hc
    · rw [if_neg hlt]
      have e : i = j := by omega
      subst e
      exact ⟨i, hjn, h1, h2, rfl⟩
attribute [local irreducible] world.order.f world.Contact.f
def SameKey (a b : CT) : Prop := a.1 = b.1 ∧ a.2.1 = b.2.1 ∧ a.2.2.1 = b.2.2.1
instance (a b : CT) : Decidable (SameKey a b) := by unfold SameKey; infer_instance
instance (a b : CT) : Decidable (CLt a b) := by unfold CLt; infer_instance
section
variable {w : Wd}
theorem Contact_w (w : Wd) (hn : w.cs.1 ≤ 900000) (hs : ∀ a b, a < b → b < w.cs.1 → CLt (w.cs.2 a) (w.cs.2 b)) (A B Ky : Int) :
    (∃ q, q < w.cs.1 ∧ SameKey (w.cs.2 q) (A, B, Ky, 0, 0) ∧ world.Contact.f (w.raw, A, B, Ky) = some (w.cs.2 q, true)) ∨
      ((∀ q, q < w.cs.1 → ¬ SameKey (w.cs.2 q) (A, B, Ky, 0, 0)) ∧ world.Contact.f (w.raw, A, B, Ky) = some ((0, 0, 0, 0, 0), false)) := by
  obtain ⟨q, q1, q2, q3, q4⟩ := scan_bs2 (n := w.cs.1) (fun i => decide (CLt (w.cs.2 i) (A, B, Ky, 0, 0))) (fun i => decide (SameKey (w.cs.2 i) (A, B, Ky, 0, 0)))
    (fun K i j => slices.BinarySearchFunc_lContact_Contact_Contact.l0 1000000 K A B Ky 0 0 w.cs.1 (fun i => Riiiii.enc (w.cs.2 i)) (w.cs.1 : Int) i j) (fun k i j hij hjn => by
      rw [slices.BinarySearchFunc_lContact_Contact_Contact.l0_eq]
      by_cases hlt : i < j
      · have hm := mid_nat i j (by omega)
        unfold mid at hm
        rw [lt_nat i j hlt, cond_true, if_pos hlt]
        simp only [hm]
        rw [in_nat _ _ (by omega), cond_true, Int.toNat_natCast]
        obtain ⟨o, o1, o2, _⟩ := order_eq2 (w.cs.2 ((i + j) / 2)) (A, B, Ky, 0, 0)
        refine bind_to o1 ?_
        rw [wrap_nat _ (by omega)]
        by_cases hc : CLt (w.cs.2 ((i + j) / 2)) (A, B, Ky, 0, 0)
        · rw [decide_eq_true (o2.2 hc), cond_true, decide_eq_true hc, if_pos rfl]
        · rw [decide_eq_false (fun h => hc (o2.1 h)), cond_false, decide_eq_false hc, if_neg (by simp)]
      · rw [nlt_nat i j hlt, cond_false, if_neg hlt]
        by_cases hin : i < w.cs.1
        · rw [lt_nat i _ hin, cond_true, ge_nat, cond_true, Int.toNat_natCast]
          obtain ⟨o, o1, _, o3⟩ := order_eq2 (w.cs.2 i) (A, B, Ky, 0, 0)
          refine bind_to o1 ?_
          congr 2
          rw [Bool.eq_iff_iff, Bool.and_eq_true, decide_eq_true_eq, decide_eq_true_eq, beq_iff_eq]
          exact ⟨fun h => ⟨hin, o3.1 h⟩, fun h => o3.2 h.2⟩
        · rw [nlt_nat i _ hin, cond_false, decide_eq_false hin, Bool.false_and])
    (fun a b hab hb hp => by
      have hp' : CLt (w.cs.2 b) (A, B, Ky, 0, 0) := of_decide_eq_true hp
      exact decide_eq_true ((hs a b hab hb).trans hp'))
    w.cs.1 0 w.cs.1 1000000 (by omega) (by omega) (by omega) (by omega) (fun a ha => by omega) (fun a h1 h2 => by omega)
  have e : slices.BinarySearchFunc_lContact_Contact_Contact.f ((w.cs.1, (fun i => Riiiii.enc (w.cs.2 i))), (A, B, Ky, 0, 0), ()) = slices.BinarySearchFunc_lContact_Contact_Contact.l0 1000000 1000000 A B Ky 0 0 w.cs.1 (fun i => Riiiii.enc (w.cs.2 i)) (w.cs.1 : Int) ((0 : Nat) : Int) (w.cs.1 : Int) := slices.BinarySearchFunc_lContact_Contact_Contact.eq 1000000 _ _ _ _ _ _ _
  have ec : world.Contact.f (w.raw, A, B, Ky) = (slices.BinarySearchFunc_lContact_Contact_Contact.f ((w.cs.1, (fun i => Riiiii.enc (w.cs.2 i))), (A, B, Ky, 0, 0), ())).bind fun r1 =>
      bif (!r1.2) then some ((0, 0, 0, 0, 0), false) else bif ((decide (0 ≤ r1.1)) && (decide (r1.1 < ((w.cs.1 : Nat) : Int)))) then some (w.cs.2 (Int.toNat r1.1), true) else none := world.Contact.eq _ _ _ _ _ _ _ _ _ _ _ _ _ _
  rw [ec, e, q4, Option.bind_some]
  by_cases hq : q < w.cs.1 ∧ SameKey (w.cs.2 q) (A, B, Ky, 0, 0)
  · rw [decide_eq_true hq.1, decide_eq_true hq.2]
    refine .inl ⟨q, hq.1, hq.2, ?_⟩
    rw [Bool.and_self, Bool.not_true, cond_false, in_nat q _ hq.1, cond_true, Int.toNat_natCast]
  · have hf : (decide (q < w.cs.1) && decide (SameKey (w.cs.2 q) (A, B, Ky, 0, 0))) = false := by
      rw [Bool.eq_false_iff]
      intro h
      rw [Bool.and_eq_true, decide_eq_true_eq, decide_eq_true_eq] at h
      exact hq h
    rw [hf]
    refine .inr ⟨fun t ht hk => ?_, rfl⟩
    have nlt : ¬ CLt (w.cs.2 t) (A, B, Ky, 0, 0) := by
      intro h
      obtain ⟨k1, k2, k3⟩ := hk
      unfold CLt at h
      simp only at k1 k2 k3 h
      omega
    have hqt : ¬ t < q := fun h => nlt (of_decide_eq_true (q2 t h))
    by_cases hne : q = t
    · subst hne; exact hq ⟨ht, hk⟩
    · have h1 := hs q t (by omega) ht
      have h2 : ¬ CLt (w.cs.2 q) (A, B, Ky, 0, 0) := of_decide_eq_false (q3 q (Nat.le_refl _) (by omega))
      obtain ⟨k1, k2, k3⟩ := hk
      apply h2
      unfold CLt at h1 ⊢
      simp only at k1 k2 k3 ⊢
      omega
end
/-! ### The loop that adds contacts -/
section
variable {w : Wd} {id : Int} {m : Nat} {c : Nat → CT}
noncomputable def L2f (w : Wd) (id : Int) (m : Nat) (c : Nat → CT) (K : Nat) (last : CT) (cs : Nat × (Nat → CT)) (r : Bool) (i : Int) : Option Bool :=
  law09.WorldContacts.l2 1000000 K w.t w.nb w.nj w.gx w.gy w.bs.1 (fun i => RiiiiiiiiiiL2.enc (w.bs.2 i)) w.js.1 (fun i => Riiiiiiii.enc (w.js.2 i)) last.1 last.2.1 last.2.2.1 last.2.2.2.1 last.2.2.2.2 cs.1 (fun i => Riiiii.enc (cs.2 i)) id ((w.bs.1 : Nat) : Int) r m (fun i => Riiiii.enc (c i)) ((m : Nat) : Int) i
noncomputable def L3f (w : Wd) (id : Int) (K : Nat) (last : CT) (cs : Nat × (Nat → CT)) (i : Int) : Option Bool :=
  law09.WorldContacts.l3 1000000 K w.t w.nb w.nj w.gx w.gy w.bs.1 (fun i => RiiiiiiiiiiL2.enc (w.bs.2 i)) w.js.1 (fun i => Riiiiiiii.enc (w.js.2 i)) last.1 last.2.1 last.2.2.1 last.2.2.2.1 last.2.2.2.2 cs.1 (fun i => Riiiii.enc (cs.2 i)) id ((w.bs.1 : Nat) : Int) ((cs.1 : Nat) : Int) i
noncomputable def L4f (w : Wd) (id : Int) (K : Nat) (last z : CT) (cs : Nat × (Nat → CT)) (k kept i : Int) : Option Bool :=
  law09.WorldContacts.l4 1000000 K w.t w.nb w.nj w.gx w.gy w.bs.1 (fun i => RiiiiiiiiiiL2.enc (w.bs.2 i)) w.js.1 (fun i => Riiiiiiii.enc (w.js.2 i)) last.1 last.2.1 last.2.2.1 last.2.2.2.1 last.2.2.2.2 cs.1 (fun i => Riiiii.enc (cs.2 i)) z.1 z.2.1 z.2.2.1 z.2.2.2.1 z.2.2.2.2 k kept ((cs.1 : Nat) : Int) i
/-- The contact between bodies a and b. -/
def mkC (ia ib : Int) (x : CT) : CT := ((if ib < ia then ib else ia), (if ib > ia then ib else ia), Go.bits .and .i64 x.2.2.1 7, x.2.2.2.1, x.2.2.2.2)
theorem CLt_b (a b : CT) : decide (CLt a b) = (decide (a.1 < b.1) || ((a.1 == b.1) && (decide (a.2.1 < b.2.1) || ((a.2.1 == b.2.1) && decide (a.2.2.1 < b.2.2.1))))) := by
  rw [Bool.eq_iff_iff]
  simp only [decide_eq_true_eq, Bool.or_eq_true, Bool.and_eq_true, beq_iff_eq]
  rfl
theorem L2f_step (K i : Nat) (hi : i < m) (hm : m ≤ 100) {last : CT} {cs : Nat × (Nat → CT)} (hc : cs.1 ≤ 100) (r : Bool) {qa qb : Nat} (ha : Int.tmod (Go.bits .and .i64 (c i).1 255) ((w.bs.1 : Nat) : Int) = (qa : Int)) (hb : Int.tmod (Go.bits .and .i64 (c i).2.1 255) ((w.bs.1 : Nat) : Int) = (qb : Int)) (la : qa < w.bs.1) (lb : qb < w.bs.1) :
    L2f w id m c (K + 1) last cs r (i : Int) = L2f w id m c K (mkC (w.bs.2 qa).1 (w.bs.2 qb).1 (c i)) (cs.1 + 1, upd1 cs.2 cs.1 (mkC (w.bs.2 qa).1 (w.bs.2 qb).1 (c i)))
      (r && ((w.bs.2 qa).1 != (w.bs.2 qb).1) && decide ((c i).2.2.2.1 ≥ 0) && (((i : Int) == 0) || decide (CLt last (mkC (w.bs.2 qa).1 (w.bs.2 qb).1 (c i))))) ((i + 1 : Nat) : Int) := by
  have n0 : decide (((w.bs.1 : Nat) : Int) ≠ 0) = true := by simp; omega
  have hcap : decide ((cs.1 + 1) * 40 ≤ 140737488355328) = true := by simp; omega
  rw [CLt_b]
  unfold L2f mkC
  rw [law09.WorldContacts.l2_eq, lt_nat i m hi, cond_true, ge_nat, cond_true]
  simp only [Int.toNat_natCast, ha, hb, n0, cond_true, in_nat qa _ la, in_nat qb _ lb, hcap, wrap_nat i (show i < 9223372036854775807 by omega), row_upd_ren Riiiii_ren]
  generalize (w.bs.2 qa).1 = ia
  generalize (w.bs.2 qb).1 = ib
  generalize ((if ib < ia then ib else ia)) = mn
  generalize ((if ib > ia then ib else ia)) = mx
  generalize (ia != ib) = c1
  generalize decide ((c i).2.2.2.1 ≥ 0) = c2
  generalize ((i : Int) == 0) = c3
  generalize decide (last.1 < mn) = c4
  generalize (last.1 == mn) = c5
  generalize decide (last.2.1 < mx) = c6
  generalize (last.2.1 == mx) = c7
  generalize decide (last.2.2.1 < Go.bits .and .i64 (c i).2.2.1 7) = c8
  cases c3 <;> cases r <;> cases c1 <;> cases c2 <;> cases c4 <;> cases c5 <;> cases c6 <;> cases c7 <;> rfl
theorem L2f_end (K : Nat) (last : CT) (cs : Nat × (Nat → CT)) (r : Bool) : L2f w id m c (K + 1) last cs r ((m : Nat) : Int) = (world.Right.f ({ w with cs := cs } : Wd).raw).bind fun r3 => bif (!(r3 == r)) then some false else bif (!r) then some true else L3f w id 1000000 last cs 0 := by
  unfold L2f
  rw [law09.WorldContacts.l2_eq, nlt_nat m m (by omega), cond_false]
  rfl
attribute [local irreducible] L2f L3f L4f world.Right.f world.Body.f world.without_Body.f world.without_Joint.f world.without_Contact.f
theorem adjC {n : Nat} {g : Nat → CT} (h : ∀ j, 0 < j → j < n → CLt (g (j - 1)) (g j)) (a b : Nat) (hab : a < b) (hb : b < n) : CLt (g a) (g b) := adj (fun i hi h0 => h i h0 hi) a b hab hb
theorem same_at {n : Nat} {g : Nat → CT} (h : ∀ j, 0 < j → j < n → CLt (g (j - 1)) (g j)) {a b : Nat} (ha : a < n) (hb : b < n) (hk : SameKey (g a) (g b)) : a = b := by
  obtain ⟨k1, k2, k3⟩ := hk
  rcases Nat.lt_trichotomy a b with hlt | rfl | hlt
  · have := adjC h a b hlt hb; unfold CLt at this; omega
  · rfl
  · have := adjC h b a hlt ha; unfold CLt at this; omega
/-- Contacts of one's own. -/
structure Okc (w : Wd) (cs : Nat × (Nat → CT)) : Prop where
  good : Good ({ w with cs := cs } : Wd)
  n : cs.1 ≤ 12
  two : 2 ≤ w.bs.1
theorem Okc.up {cs : Nat × (Nat → CT)} (h : Okc w cs) : ∀ j, 0 < j → j < cs.1 → CLt (cs.2 (j - 1)) (cs.2 j) := fun j h0 hj => pair_lst.1 h.good.right.ac (j - 1) j (by omega) hj
theorem L4f_step (K i : Nat) {last z : CT} {cs : Nat × (Nat → CT)} (hi : i < cs.1) (hn : cs.1 ≤ 12) (k : Int) (kept : Nat) (hk : kept ≤ 100) :
    L4f w id (K + 1) last z cs k (kept : Int) (i : Int) = L4f w id K last z cs k ((kept + (if goneC k (cs.2 i) = true then 0 else 1) : Nat) : Int) ((i + 1 : Nat) : Int) := by
  unfold L4f goneC
  rw [law09.WorldContacts.l4_eq, lt_nat i _ hi, cond_true, ge_nat, cond_true]
  simp only [Int.toNat_natCast, wrap_nat i (show i < 9223372036854775807 by omega), wrap_nat kept (show kept < 9223372036854775807 by omega)]
  have e : ∀ x y : Int, (x != y) = !(x == y) := fun x y => rfl
  simp only [e]
  cases h1 : ((cs.2 i).1 == k) <;> cases h2 : ((cs.2 i).2.1 == k) <;> rfl
theorem L4f_end (K : Nat) {last z : CT} {cs : Nat × (Nat → CT)} (h : Okc w cs) (k : Int) (ht : ThereL w k) (kept : Nat) (hk : kept = ((lst cs).filter (fun b => !goneC k b)).length) : L4f w id (K + 1) last z cs k (kept : Int) ((cs.1 : Nat) : Int) = some true := by
  have hg := h.good
  have hb := hg.b
  have hj := hg.j
  unfold L4f
  rw [law09.WorldContacts.l4_eq, nlt_nat _ _ (by omega), cond_false]
  rcases Body_w ({ w with cs := cs } : Wd) (by show w.bs.1 ≤ _; have : w.bs.1 ≤ 1024 := hb; omega) hg.right.ab k with ⟨p, p1, p2, p3⟩ | ⟨p1, _⟩
  · refine bind_to p3 ?_
    refine cond_f rfl ?_
    obtain ⟨y1, a1, a2⟩ := withoutB w.bs.1 (by have : w.bs.1 ≤ 1024 := hb; omega) w.bs.2 k
    obtain ⟨y2, b1, b2⟩ := withoutJ w.js.1 (by have : w.js.1 ≤ 1024 := hj; omega) w.js.2 k
    obtain ⟨y3, c1, c2⟩ := withoutC cs.1 (by have := h.n; omega) cs.2 k
    refine bind_to a1 ?_
    refine bind_to b1 ?_
    refine bind_to c1 ?_
    have hl : y3.1 = kept := by
      have := congrArg List.length c2
      rw [lst_len] at this
      rw [this, hk]
    refine cond_t (by rw [hl]; simp) ?_
    refine bind_to (good_removeB hg k a2 b2 c2).tells rfl
  · obtain ⟨b, hb1, hb2⟩ := ht
    exact absurd hb2 (p1 b hb1)
theorem L4f_run {last z : CT} {cs : Nat × (Nat → CT)} (h : Okc w cs) (k : Int) (ht : ThereL w k) : ∀ (d i K kept : Nat), i + d = cs.1 → d < K → kept = (((List.range i).map cs.2).filter (fun b => !goneC k b)).length → L4f w id K last z cs k (kept : Int) (i : Int) = some true
  | 0, i, K + 1, kept, e, _, hk => by
    have : i = cs.1 := by omega
    subst this
    exact L4f_end K h k ht kept hk
  | d + 1, i, K + 1, kept, e, hK, hk => by
    have hn := h.n
    have hle : kept ≤ i := by
      have := List.length_filter_le (fun b => !goneC k b) ((List.range i).map cs.2)
      rw [List.length_map, List.length_range] at this
      omega
    rw [L4f_step K i (by omega) hn k kept (by omega)]
    refine L4f_run h k ht d (i + 1) K _ (by omega) (by omega) ?_
    rw [List.range_succ, List.map_append, List.filter_append, List.length_append, ← hk]
    congr 1
    cases hq : goneC k (cs.2 i) <;> simp [hq]
theorem L3f_step (K i : Nat) {last : CT} {cs : Nat × (Nat → CT)} (h : Okc w cs) (hi : i < cs.1) : L3f w id (K + 1) last cs (i : Int) = L3f w id K last cs ((i + 1 : Nat) : Int) := by
  have hn := h.n
  unfold L3f
  rw [law09.WorldContacts.l3_eq, lt_nat i _ hi, cond_true, ge_nat, cond_true]
  simp only [Int.toNat_natCast, wrap_nat i (show i < 9223372036854775807 by omega)]
  rcases Contact_w ({ w with cs := cs } : Wd) (by show cs.1 ≤ _; omega) (adjC h.up) (cs.2 i).1 (cs.2 i).2.1 (cs.2 i).2.2.1 with ⟨q, q1, q2, q3⟩ | ⟨q1, _⟩
  · have e : q = i := same_at h.up q1 hi q2
    subst e
    refine bind_to q3 ?_
    refine cond_f rfl ?_
    exact cond_f (by simp) rfl
  · exact absurd (show SameKey (cs.2 i) ((cs.2 i).1, (cs.2 i).2.1, (cs.2 i).2.2.1, 0, 0) from ⟨rfl, rfl, rfl⟩) (q1 i hi)
theorem L3f_end (K : Nat) {last : CT} {cs : Nat × (Nat → CT)} (h : Okc w cs) : L3f w id (K + 1) last cs ((cs.1 : Nat) : Int) = some true := by
  have hn := h.n
  have h2 := h.two
  have hb : w.bs.1 ≤ 1024 := h.good.b
  unfold L3f
  rw [law09.WorldContacts.l3_eq, nlt_nat _ _ (by omega), cond_false]
  rcases Contact_w ({ w with cs := cs } : Wd) (by show cs.1 ≤ _; omega) (adjC h.up) w.nb (IntKind.i64.wrap (w.nb + 1)) 0 with ⟨q, q1, q2, q3⟩ | ⟨_, q3⟩
  · obtain ⟨_, _, _, ⟨b, hb1, hb2⟩, _⟩ := h.good.right.rc _ (mem_lst.2 ⟨q, q1, rfl⟩)
    have h3 := (h.good.right.pb b hb1).2
    have h4 : (cs.2 q).1 = w.nb := q2.1
    have hb2' : b.1 = (cs.2 q).1 := hb2
    have h3' : b.1 < w.nb := h3
    omega
  · refine bind_to q3 ?_
    refine cond_f rfl ?_
    refine cond_f rfl ?_
    refine cond_t (by simp; omega) ?_
    obtain ⟨q, hq, hql⟩ : ∃ q : Nat, Int.tmod (Go.bits .and .i64 id 255) ((w.bs.1 : Nat) : Int) = (q : Int) ∧ q < w.bs.1 := by
      rw [m8]
      have e1 := Int.tmod_nonneg (w.bs.1 : Int) (show 0 ≤ id % 256 by omega)
      have e2 := Int.tmod_lt_of_pos (id % 256) (show 0 < (w.bs.1 : Int) by omega)
      exact ⟨(Int.tmod (id % 256) (w.bs.1 : Int)).toNat, by omega, by omega⟩
    rw [hq, in_nat q _ hql, cond_true, Int.toNat_natCast]
    have e := L4f_run (id := id) (last := last) (z := (0, 0, 0, 0, 0)) h (w.bs.2 q).1 ⟨_, mem_lst.2 ⟨q, hql, rfl⟩, rfl⟩ cs.1 0 1000000 0 (by omega) (by omega) rfl
    unfold L4f at e
    exact e
theorem L3f_run {last : CT} {cs : Nat × (Nat → CT)} (h : Okc w cs) : ∀ (d i K : Nat), i + d = cs.1 → d < K → L3f w id K last cs (i : Int) = some true
  | 0, i, K + 1, e, _ => by
    have : i = cs.1 := by omega
    subst this
    exact L3f_end K h
  | d + 1, i, K + 1, e, hK => by
    rw [L3f_step K i h (by omega)]
    exact L3f_run h d (i + 1) K (by omega) (by omega)

/-- What is so at the head of the loop that adds contacts. -/
structure CInv (w : Wd) (i : Nat) (last : CT) (cs : Nat × (Nat → CT)) (r : Bool) : Prop where
  n : cs.1 = i
  last : 0 < i → last = cs.2 (i - 1)
  ids : ∀ j, j < i → ThereL w (cs.2 j).1 ∧ ThereL w (cs.2 j).2.1 ∧ 0 ≤ (cs.2 j).2.2.1
  r : r = true ↔ (∀ j, j < i → (cs.2 j).1 < (cs.2 j).2.1 ∧ 0 ≤ (cs.2 j).2.2.2.1) ∧ ∀ j, 0 < j → j < i → CLt (cs.2 (j - 1)) (cs.2 j)
theorem mkC_there {ia ib : Int} (x : CT) (ha : ThereL w ia) (hb : ThereL w ib) : ThereL w (mkC ia ib x).1 ∧ ThereL w (mkC ia ib x).2.1 := by
  unfold mkC
  refine ⟨?_, ?_⟩
  · show ThereL w (if ib < ia then ib else ia)
    split <;> assumption
  · show ThereL w (if ib > ia then ib else ia)
    split <;> assumption
theorem mkC_lt {ia ib : Int} (x : CT) : (mkC ia ib x).1 < (mkC ia ib x).2.1 ↔ ia ≠ ib := by
  unfold mkC
  show (if ib < ia then ib else ia) < (if ib > ia then ib else ia) ↔ _
  repeat' split
  all_goals omega
theorem CInv.step {i : Nat} {last : CT} {cs : Nat × (Nat → CT)} {r : Bool} (h : CInv w i last cs r) {ia ib : Int} (x : CT) (ha : ThereL w ia) (hb : ThereL w ib) :
    CInv w (i + 1) (mkC ia ib x) (cs.1 + 1, upd1 cs.2 cs.1 (mkC ia ib x)) (r && (ia != ib) && decide (x.2.2.2.1 ≥ 0) && (((i : Int) == 0) || decide (CLt last (mkC ia ib x)))) := by
  obtain ⟨hn, hl, hids, hr⟩ := h
  have at1 : ∀ j, j < i → upd1 cs.2 cs.1 (mkC ia ib x) j = cs.2 j := fun j hj => by unfold upd1; rw [if_neg (by omega)]
  have at2 : upd1 cs.2 cs.1 (mkC ia ib x) i = mkC ia ib x := by unfold upd1; rw [if_pos hn.symm]
  refine ⟨by show cs.1 + 1 = i + 1; omega, fun _ => by show _ = upd1 cs.2 cs.1 (mkC ia ib x) (i + 1 - 1); rw [Nat.add_sub_cancel, at2], fun j hj => ?_, ?_⟩
  · show ThereL w (upd1 cs.2 cs.1 (mkC ia ib x) j).1 ∧ ThereL w (upd1 cs.2 cs.1 (mkC ia ib x) j).2.1 ∧ 0 ≤ (upd1 cs.2 cs.1 (mkC ia ib x) j).2.2.1
    by_cases e : j = i
    · subst e
      rw [at2]
      have hk : 0 ≤ (mkC ia ib x).2.2.1 := by
        show 0 ≤ Go.bits .and .i64 x.2.2.1 7
        have : Go.bits .and .i64 x.2.2.1 7 = x.2.2.1 % 8 := mask (m := 3) (by omega) _
        omega
      exact ⟨(mkC_there x ha hb).1, (mkC_there x ha hb).2, hk⟩
    · rw [at1 j (by omega)]
      exact hids j (by omega)
  · show _ ↔ (∀ j, j < i + 1 → (upd1 cs.2 cs.1 (mkC ia ib x) j).1 < (upd1 cs.2 cs.1 (mkC ia ib x) j).2.1 ∧ 0 ≤ (upd1 cs.2 cs.1 (mkC ia ib x) j).2.2.2.1) ∧ ∀ j, 0 < j → j < i + 1 → CLt (upd1 cs.2 cs.1 (mkC ia ib x) (j - 1)) (upd1 cs.2 cs.1 (mkC ia ib x) j)
    simp only [Bool.and_eq_true, Bool.or_eq_true, bne_iff_ne, decide_eq_true_eq, beq_iff_eq]
    rw [hr]
    constructor
    · rintro ⟨⟨⟨⟨h1, h2⟩, h3⟩, h4⟩, h5⟩
      refine ⟨fun j hj => ?_, fun j h0 hj => ?_⟩
      · by_cases e : j = i
        · subst e; rw [at2]; exact ⟨(mkC_lt x).2 h3, h4⟩
        · rw [at1 j (by omega)]; exact h1 j (by omega)
      · by_cases e : j = i
        · subst e
          rw [at2, at1 (j - 1) (by omega)]
          rcases h5 with h5 | h5
          · omega
          · rw [hl h0] at h5; exact h5
        · rw [at1 j (by omega), at1 (j - 1) (by omega)]; exact h2 j h0 (by omega)
    · rintro ⟨h1, h2⟩
      have hi := h1 i (by omega)
      rw [at2] at hi
      refine ⟨⟨⟨⟨fun j hj => ?_, fun j h0 hj => ?_⟩, (mkC_lt x).1 hi.1⟩, hi.2⟩, ?_⟩
      · have := h1 j (by omega); rw [at1 j hj] at this; exact this
      · have := h2 j h0 (by omega); rw [at1 j hj, at1 (j - 1) (by omega)] at this; exact this
      · by_cases h0 : 0 < i
        · right
          have := h2 i h0 (by omega)
          rw [at2, at1 (i - 1) (by omega)] at this
          rw [hl h0]; exact this
        · left; omega
theorem CInv.tells {i : Nat} {last : CT} {cs : Nat × (Nat → CT)} {r : Bool} (h : CInv w i last cs r) (hg : Good w) (hi : i ≤ 12) : FineW ({ w with cs := cs } : Wd) ∧ (r = true ↔ RightW ({ w with cs := cs } : Wd)) := by
  obtain ⟨hn, hl, hids, hr⟩ := h
  have R := hg.right
  refine ⟨⟨hg.fine.gx, hg.fine.gy, hg.fine.b, hg.fine.j, by show cs.1 ≤ _; omega⟩, ?_⟩
  rw [hr]
  constructor
  · rintro ⟨h1, h2⟩
    refine ⟨R.t0, R.t1, R.nb1, R.nj1, R.lb, R.lj, R.gr, R.nb0, R.nj0, R.pb, R.pj, R.ab, R.aj, R.rb, R.rj, fun c hc => ?_, pair_lst.2 fun a b hab hb => adjC (g := cs.2) (n := cs.1) (fun j h0 hj => h2 j h0 (by omega)) a b hab hb⟩
    obtain ⟨j, hj, rfl⟩ := mem_lst.1 hc
    have hj' : j < i := by have : j < cs.1 := hj; omega
    exact ⟨(h1 j hj').1, (hids j hj').2.2, (h1 j hj').2, (hids j hj').1, (hids j hj').2.1⟩
  · intro hR
    refine ⟨fun j hj => ?_, fun j h0 hj => pair_lst.1 hR.ac (j - 1) j (by omega) (by show j < cs.1; omega)⟩
    have := hR.rc (cs.2 j) (mem_lst.2 ⟨j, by show j < cs.1; omega, rfl⟩)
    exact ⟨this.1, this.2.2.1⟩
theorem L2f_run (hg : Good w) (h2 : 2 ≤ w.bs.1) (hm : m ≤ 12) : ∀ (d i K : Nat) (last : CT) (cs : Nat × (Nat → CT)) (r : Bool), i + d = m → d < K → CInv w i last cs r → L2f w id m c K last cs r (i : Int) = some true
  | 0, i, K + 1, last, cs, r, e, _, hI => by
    have : i = m := by omega
    subst this
    rw [L2f_end]
    obtain ⟨hf, hr⟩ := hI.tells hg hm
    obtain ⟨b, b1, b2⟩ := Right_tells hf
    rw [b1, Option.bind_some]
    have hbr : b = r := by
      rw [Bool.eq_iff_iff]
      exact b2.trans hr.symm
    subst hbr
    have e0 : (!(b == b)) = false := by simp
    rw [e0, cond_false]
    cases hb : b with
    | false => rfl
    | true =>
      rw [Bool.not_true, cond_false]
      have hn := hI.n
      exact L3f_run ⟨⟨hf, b2.1 hb⟩, by omega, h2⟩ cs.1 0 1000000 (by omega) (by omega)
  | d + 1, i, K + 1, last, cs, r, e, hK, hI => by
    have ix : ∀ x : Int, ∃ q : Nat, Int.tmod (Go.bits .and .i64 x 255) ((w.bs.1 : Nat) : Int) = (q : Int) ∧ q < w.bs.1 := fun x => by
      rw [m8]
      have e1 := Int.tmod_nonneg (w.bs.1 : Int) (show 0 ≤ x % 256 by omega)
      have e2 := Int.tmod_lt_of_pos (x % 256) (show 0 < (w.bs.1 : Int) by omega)
      exact ⟨(Int.tmod (x % 256) (w.bs.1 : Int)).toNat, by omega, by omega⟩
    obtain ⟨qa, ha, la⟩ := ix (c i).1
    obtain ⟨qb, hb, lb⟩ := ix (c i).2.1
    have hn := hI.n
    rw [L2f_step K i (by omega) (by omega) (by omega) r ha hb la lb]
    exact L2f_run hg h2 hm d (i + 1) K _ _ _ (by omega) (by omega) (hI.step (c i) ⟨_, mem_lst.2 ⟨qa, la, rfl⟩, rfl⟩ ⟨_, mem_lst.2 ⟨qb, lb, rfl⟩, rfl⟩)
end
theorem Contacts_eq {n : Nat} {ds : Nat → DT} (hd : ∀ i, i < n → FineD (ds i)) (m : Nat) (c : Nat → CT) (id : Int) :
    law09.WorldContacts.f ((n, fun i => RiiiiiiiiiiiiiiiiiiiiiiiiiiiiiL2.enc (ds i)), (m, fun i => Riiiii.enc (c i)), id) = some true := by
  have e : law09.WorldContacts.f ((n, fun i => RiiiiiiiiiiiiiiiiiiiiiiiiiiiiiL2.enc (ds i)), (m, fun i => Riiiii.enc (c i)), id) = law09.WorldContacts.g 1000000 ((n, fun i => RiiiiiiiiiiiiiiiiiiiiiiiiiiiiiL2.enc (ds i)), (m, fun i => Riiiii.enc (c i)), id) := rfl
  rw [e, law09.WorldContacts.eq]
  refine bind_to fit_true ?_
  refine cond_f rfl ?_
  by_cases hm : ((m : Nat) : Int) > 12
  · rw [decide_eq_true hm]; rfl
  rw [decide_eq_false hm, cond_false]
  obtain ⟨w, hw, hM⟩ := Made_eq_z hd 10 (by omega)
  refine bind_to hM ?_
  by_cases h2 : ((w.bs.1 : Nat) : Int) < 2
  · refine cond_t (decide_eq_true h2) rfl
  refine cond_f (decide_eq_false h2) ?_
  have hr := L2f_run (w := w) (id := id) (m := m) (c := c) hw.good (by omega) (by omega) m 0 1000000 (0, 0, 0, 0, 0) (0, fun _ => (0, 0, 0, 0, 0)) true (by omega) (by omega)
    ⟨rfl, fun h => by omega, fun j hj => by omega, by simp only [true_iff]; exact ⟨fun j hj => by omega, fun j h0 hj => by omega⟩⟩
  unfold L2f at hr
  exact hr
theorem WorldContacts_true (n : Nat) (ds : Nat → DT) (m : Nat) (c : Nat → CT) (id : Int) (wn : n ≤ maxLen) (w0 : ∀ i, i < n → DeedWf (ds i)) (wm : m ≤ maxLen) (w1 : ∀ i, i < m → (Lit.int .i64 (c i).1).wf = true ∧ (Lit.int .i64 (c i).2.1).wf = true ∧ (Lit.int .i64 (c i).2.2.1).wf = true ∧ (Lit.int .i64 (c i).2.2.2.1).wf = true ∧ (Lit.int .i64 (c i).2.2.2.2).wf = true) (w2 : (Lit.int .i64 id).wf = true) :
    law09.WorldContacts.f ((n, fun i => RiiiiiiiiiiiiiiiiiiiiiiiiiiiiiL2.enc (ds i)), (m, fun i => Riiiii.enc (c i)), id) = some true := Contacts_eq (fun i hi => (w0 i hi).fine) m c id
end Go.Proofs.Ytbcnifnmccaleaa.Y
