/- Which shapes may be: what shape.Right tells of corners that lie near, and of their turns. -/
import Derived.OpenShut
import Derived.Test.YtbdkcjikphlgfaaPShx2
import Derived.Test.YtbdkcjikphlgfaaPShx4
import Derived.Test.YtbdkcjikphlgfaaSa
set_option linter.unusedSimpArgs false
set_option linter.unusedVariables false
namespace Go.Proofs.Ytbdkcjikphlgfaa.Sr
open Go.RowKit Go.Proofs.YtbdkcjikphlgfaaW.PrintWords Go.Proofs.YtbdkcjikphlgfaaW.PrintLast Go.Proofs.YtbdkcjikphlgfaaW.PrintMore Go.Proofs.Ytbdkcjikphlgfaa.PSh Go.Proofs.Ytbdkcjikphlgfaa.Ma Go.Proofs.Ytbdkcjikphlgfaa.Fx Go.Proofs.Ytbdkcjikphlgfaa.Dv Go.Proofs.Ytbdkcjikphlgfaa.Vc Go.Proofs.Ytbdkcjikphlgfaa.Tm Go.Proofs.Ytbdkcjikphlgfaa.Ln Go.Proofs.Ytbdkcjikphlgfaa.Sh

theorem abs_within {x : Int} (h : I64 x) : (abs x ≤ 274877906944) ↔ (-274877906944 ≤ x ∧ x ≤ 274877906944) := by
  by_cases hs : S63 x
  · rw [abs_val hs]; split <;> omega
  · have hx : x = -9223372036854775808 := by unfold I64 at h; unfold S63 at hs; omega
    subst hx
    have : abs (-9223372036854775808) = 9223372036854775807 := by decide +kernel
    rw [this]; omega
abbrev Fit2 (x y : Int) : Prop := (-274877906944 ≤ x ∧ x ≤ 274877906944) ∧ (-274877906944 ≤ y ∧ y ≤ 274877906944)
theorem within_yes {x y : Int} (hx : I64 x) (hy : I64 y) (h : Fit2 x y) : shape_within.f x y = some true := by
  unfold shape_within.f
  rw [abs_eq hx, Option.bind_some, if_pos ((abs_within hx).2 h.1), abs_eq hy, Option.bind_some, decide_eq_true ((abs_within hy).2 h.2)]
theorem within_no {x y : Int} (hx : I64 x) (hy : I64 y) (h : ¬ Fit2 x y) : shape_within.f x y = some false := by
  unfold shape_within.f
  rw [abs_eq hx, Option.bind_some]
  by_cases h1 : abs x ≤ 274877906944
  · rw [if_pos h1, abs_eq hy, Option.bind_some, decide_eq_false]
    intro h2
    exact h ⟨(abs_within hx).1 h1, (abs_within hy).1 h2⟩
  · rw [if_neg h1]
/-- The turn at corner i from side i to corner j. -/
def cr (l : List P2) (i q j : Nat) : Int :=
  cross (Ma.sub (rd_T34 l (q : Int)).f0 (rd_T34 l (i : Int)).f0) (Ma.sub (rd_T34 l (q : Int)).f1 (rd_T34 l (i : Int)).f1)
    (Ma.sub (rd_T34 l (j : Int)).f0 (rd_T34 l (i : Int)).f0) (Ma.sub (rd_T34 l (j : Int)).f1 (rd_T34 l (i : Int)).f1)
theorem tmod_next {i n : Nat} (h : i < n) (hn : n ≤ 1000) : Int.tmod (wrap64 ((i : Int) + 1)) (n : Int) = (((i + 1) % n : Nat) : Int) := by
  rw [w64 (by unfold I64; omega), Int.tmod_eq_emod_of_nonneg (by omega)]; rfl
theorem right_l2 (l : List P2) (h3 : 3 ≤ l.length) (hl : l.length ≤ 1000) (hw : ∀ p ∈ l, I64 p.f0 ∧ I64 p.f1) (i : Nat) (hi : i < l.length) (K : Nat) (r : Bool) (x0 x1 : Int)
    (hnext : ∀ k, K ≤ k → shape_Right.l1 k (l.length : Int) l (l.length : Int) (((i + 1 : Nat)) : Int) x0 x1 l = some r)
    (hc : ∀ j, j < l.length → j ≠ i → j ≠ (i + 1) % l.length → 0 < cr l i ((i + 1) % l.length) j) : ∀ (d j k : Nat), j + d = l.length → K + 2 * d + 70 ≤ k →
    shape_Right.l2 k (l.length : Int) (i : Int) (((i + 1) % l.length : Nat) : Int) l (l.length : Int) (i : Int) l (l.length : Int) (j : Int) x0 x1 l (rd_T34 l (i : Int)).f0 (rd_T34 l (i : Int)).f1 = some r
  | 0, j, k, h1, h2 => by
    obtain ⟨k, rfl⟩ : ∃ m, k = m + 1 := ⟨k - 1, by omega⟩
    simp only [shape_Right.l2]
    rw [if_neg (by omega), w64 (by unfold I64; omega), show ((i : Int) + 1) = ((i + 1 : Nat) : Int) by omega]
    exact hnext _ (by omega)
  | d + 1, j, k, h1, h2 => by
    obtain ⟨k, rfl⟩ : ∃ m, k = m + 2 := ⟨k - 2, by omega⟩
    have hj : j < l.length := by omega
    have hq : (i + 1) % l.length < l.length := Nat.mod_lt _ (by omega)
    have wi := hw _ (rd_mem hi); have wj := hw _ (rd_mem hj); have wq := hw _ (rd_mem hq)
    have go := right_l2 l h3 hl hw i hi K r x0 x1 hnext hc d (j + 1) k (by omega) (by omega)
    have e : wrap64 ((j : Int) + 1) = ((j + 1 : Nat) : Int) := by rw [w64 (by unfold I64; omega)]; omega
    have ei : wrap64 ((i : Int) + 1) = ((i + 1 : Nat) : Int) := by rw [w64 (by unfold I64; omega)]; omega
    simp only [shape_Right.l2]
    rw [if_pos (by omega), if_pos (by omega), if_pos (by omega)]
    by_cases hji : j = i
    · rw [if_pos (by omega)]; simp only [shape_Right.j3]; rw [if_pos trivial, e]; exact go
    · rw [if_neg (by omega)]; simp only [shape_Right.j3]
      by_cases hjq : j = (i + 1) % l.length
      · rw [if_pos (by rw [beq_iff_eq]; omega), e]; exact go
      · rw [if_neg (by rw [beq_iff_eq]; omega), if_pos (by omega), if_pos (by omega), vSub_eq (by omega) wq.1 wq.2 wi.1 wi.2, Option.bind_some, vSub_eq (by omega) wj.1 wj.2 wi.1 wi.2, Option.bind_some, vCross_eq (by omega) (sub_i _ _) (sub_i _ _) (sub_i _ _) (sub_i _ _), Option.bind_some]
        have := hc j hj hji hjq
        unfold cr at this
        rw [if_neg (by omega), e, ei]
        by_cases hn : (l.length : Int) = 3
        · rw [if_pos hn]; exact hnext _ (by omega)
        · rw [if_neg hn]; exact go
theorem right_l1 (l : List P2) (h3 : 3 ≤ l.length) (hl : l.length ≤ 8) (hw : ∀ p ∈ l, I64 p.f0 ∧ I64 p.f1) (x0 x1 : Int)
    (hc : ∀ i j, i < l.length → j < l.length → j ≠ i → j ≠ (i + 1) % l.length → 0 < cr l i ((i + 1) % l.length) j) : ∀ (d i k : Nat), i + d = l.length → 1 + 100 * d ≤ k →
    shape_Right.l1 k (l.length : Int) l (l.length : Int) (i : Int) x0 x1 l = some true
  | 0, i, k, h1, h2 => by
    obtain ⟨k, rfl⟩ : ∃ m, k = m + 1 := ⟨k - 1, by omega⟩
    simp only [shape_Right.l1]; rw [if_neg (by omega)]
  | d + 1, i, k, h1, h2 => by
    obtain ⟨k, rfl⟩ : ∃ m, k = m + 1 := ⟨k - 1, by omega⟩
    have hi : i < l.length := by omega
    simp only [shape_Right.l1]
    rw [if_pos (by omega), if_pos (by omega), if_pos (by omega), if_neg (by omega), tmod_next hi (by omega)]
    exact right_l2 l h3 (by omega) hw i hi (1 + 100 * d) true x0 x1 (fun k hk => right_l1 l h3 hl hw x0 x1 hc d (i + 1) k (by omega) hk) (fun j hj => hc i j hi hj) l.length 0 k (by omega) (by omega)
theorem right_l0 (l : List P2) (hl : l.length ≤ 1000) (hw : ∀ p ∈ l, I64 p.f0 ∧ I64 p.f1) (hf : ∀ p ∈ l, Fit2 p.f0 p.f1) (K : Nat) (r : Bool) (x0 x1 : Int)
    (hnext : ∀ k, K ≤ k → shape_Right.l1 k (l.length : Int) l (l.length : Int) 0 x0 x1 l = some r) : ∀ (d i k : Nat), i + d = l.length → K + d + 1 ≤ k →
    shape_Right.l0 k (l.length : Int) l (l.length : Int) (i : Int) x0 x1 l = some r
  | 0, i, k, h1, h2 => by
    obtain ⟨k, rfl⟩ : ∃ m, k = m + 1 := ⟨k - 1, by omega⟩
    simp only [shape_Right.l0]; rw [if_neg (by omega)]; exact hnext _ (by omega)
  | d + 1, i, k, h1, h2 => by
    obtain ⟨k, rfl⟩ : ∃ m, k = m + 1 := ⟨k - 1, by omega⟩
    have hi : i < l.length := by omega
    have wi := hw _ (rd_mem hi)
    simp only [shape_Right.l0]
    rw [if_pos (by omega), if_pos (by omega), if_pos (by omega), within_yes wi.1 wi.2 (hf _ (rd_mem hi)), Option.bind_some, if_pos rfl, w64 (by unfold I64; omega), show ((i : Int) + 1) = ((i + 1 : Nat) : Int) by omega]
    exact right_l0 l hl hw hf K r x0 x1 hnext d (i + 1) k (by omega) (by omega)
/-- Corners that lie near, each turn to the left: they may be. -/
theorem Right_yes {k : Nat} (hk : 1100 ≤ k) (l : List P2) (h3 : 3 ≤ l.length) (hl : l.length ≤ 8) (hw : ∀ p ∈ l, I64 p.f0 ∧ I64 p.f1) (hf : ∀ p ∈ l, Fit2 p.f0 p.f1)
    (hc : ∀ i j, i < l.length → j < l.length → j ≠ i → j ≠ (i + 1) % l.length → 0 < cr l i ((i + 1) % l.length) j) : shape_Right.f k 2 0 l = some true := by
  unfold shape_Right.f
  rw [if_neg (by decide), if_pos rfl, if_pos rfl, if_neg (by omega), if_neg (by omega)]
  exact right_l0 l (by omega) hw hf (1 + 100 * l.length) true 2 0 (fun k hk => right_l1 l h3 hl hw 2 0 hc l.length 0 k (by omega) hk) l.length 0 k (by omega) (by omega)
/-- The first turn isn't to the left: they may not be. -/
theorem Right_no {k : Nat} (hk : 1100 ≤ k) (l : List P2) (h3 : 3 ≤ l.length) (hl : l.length ≤ 8) (hw : ∀ p ∈ l, I64 p.f0 ∧ I64 p.f1) (hf : ∀ p ∈ l, Fit2 p.f0 p.f1)
    (hc : cr l 0 1 2 ≤ 0) : shape_Right.f k 2 0 l = some false := by
  unfold shape_Right.f
  rw [if_neg (by decide), if_pos rfl, if_pos rfl, if_neg (by omega), if_neg (by omega)]
  refine right_l0 l (by omega) hw hf 200 false 2 0 (fun k hk => ?_) l.length 0 k (by omega) (by omega)
  obtain ⟨k, rfl⟩ : ∃ m, k = m + 7 := ⟨k - 7, by omega⟩
  have w0 : I64 (rd_T34 l 0).f0 ∧ I64 (rd_T34 l 0).f1 := hw _ (rd_mem (show 0 < l.length by omega))
  have w1 : I64 (rd_T34 l 1).f0 ∧ I64 (rd_T34 l 1).f1 := hw _ (rd_mem (show 1 < l.length by omega))
  have w2 : I64 (rd_T34 l 2).f0 ∧ I64 (rd_T34 l 2).f1 := hw _ (rd_mem (show 2 < l.length by omega))
  have e1 : Int.tmod (wrap64 (0 + 1)) (l.length : Int) = 1 := by
    rw [w64 (by unfold I64; omega), Int.tmod_eq_emod_of_nonneg (by omega), Int.emod_eq_of_lt (by omega) (by omega)]; rfl
  have g1 : wrap64 (0 + 1) = 1 := by rw [w64 (by unfold I64; omega)]; rfl
  have g2 : wrap64 (1 + 1) = 2 := by rw [w64 (by unfold I64; omega)]; rfl
  simp only [shape_Right.l1]
  rw [if_pos (by omega), if_pos (by omega), if_pos (by omega), if_neg (by omega), e1]
  simp only [shape_Right.l2]
  rw [if_pos (by omega), if_pos (by omega), if_pos (by omega), if_pos trivial]
  simp only [shape_Right.j3]
  rw [if_pos trivial, g1]
  simp only [shape_Right.l2]
  rw [if_pos (by omega), if_pos (by omega), if_pos (by omega), if_neg (by omega)]
  simp only [shape_Right.j3]
  rw [if_pos (by decide), g2]
  simp only [shape_Right.l2]
  rw [if_pos (by omega), if_pos (by omega), if_pos (by omega), if_neg (by omega)]
  simp only [shape_Right.j3]
  unfold cr at hc
  rw [if_neg (by decide), if_pos (by omega), if_pos (by omega), vSub_eq (by omega) w1.1 w1.2 w0.1 w0.2, Option.bind_some, vSub_eq (by omega) w2.1 w2.2 w0.1 w0.2, Option.bind_some, vCross_eq (by omega) (sub_i _ _) (sub_i _ _) (sub_i _ _) (sub_i _ _), Option.bind_some]
  exact if_pos hc
/-- The first corner lies far: they may not be. -/
theorem Right_far {k : Nat} (hk : 2 ≤ k) (l : List P2) (h3 : 3 ≤ l.length) (hl : l.length ≤ 8) (hw : ∀ p ∈ l, I64 p.f0 ∧ I64 p.f1) (hf : ¬ Fit2 (rd_T34 l (0 : Int)).f0 (rd_T34 l (0 : Int)).f1) : shape_Right.f k 2 0 l = some false := by
  unfold shape_Right.f
  rw [if_neg (by decide), if_pos rfl, if_pos rfl, if_neg (by omega), if_neg (by omega)]
  obtain ⟨k, rfl⟩ : ∃ m, k = m + 1 := ⟨k - 1, by omega⟩
  have w0 : I64 (rd_T34 l 0).f0 ∧ I64 (rd_T34 l 0).f1 := hw _ (rd_mem (show 0 < l.length by omega))
  simp only [shape_Right.l0]
  rw [if_pos (by omega), if_pos (by omega), if_pos (by omega), within_no w0.1 w0.2 hf, Option.bind_some, if_neg (by decide)]

end Go.Proofs.Ytbdkcjikphlgfaa.Sr
