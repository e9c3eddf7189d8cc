/- For every body that a seed, a place and an angle make: it lies within its rectangle, and touches all its sides; no condition. -/
import Derived.OpenShut
import Derived.Test.YtlbkpfcidpnhgaaPBox3
import Derived.Test.YtlbkpfcidpnhgaaPBox5
import Derived.Test.YtlbkpfcidpnhgaaPBox6
import Derived.Test.YtlbkpfcidpnhgaaPBox9
import Derived.Test.YtlbkpfcidpnhgaaSh
namespace Go.Proofs.Ytlbkpfcidpnhgaa.Pure
open Go.RowKit Go.Proofs.YtlbkpfcidpnhgaaW.PrintWords Go.Proofs.YtlbkpfcidpnhgaaW.PrintLast Go.Proofs.YtlbkpfcidpnhgaaW.PrintMore Go.Proofs.Ytlbkpfcidpnhgaa.PBo Go.Proofs.Ytlbkpfcidpnhgaa.Ma Go.Proofs.Ytlbkpfcidpnhgaa.Fx Go.Proofs.Ytlbkpfcidpnhgaa.Dv Go.Proofs.Ytlbkpfcidpnhgaa.Vc Go.Proofs.Ytlbkpfcidpnhgaa.Tm Go.Proofs.Ytlbkpfcidpnhgaa.Ln Go.Proofs.Ytlbkpfcidpnhgaa.Sh

theorem fit_eq {k : Nat} (hk : 200 ≤ k) : bagatellelaw06_fit.f k = some true :=
  at_rounds bagatellelaw06_fit.mono hk (by decide +kernel)
theorem nb {a b c d : Int} (h1 : a = c) (h2 : b = d) : ¬ ((!(a == c) || (!(b == d))) = true) := by rw [h1, h2]; simp
theorem yb {a b c d : Int} (h1 : a = c) (h2 : b = d) : (a == c && (b == d)) = true := by rw [h1, h2]; simp
theorem Grow_eq {k : Nat} (hk : 60 ≤ k) {a b c d g : Int} (ha : I64 a) (hb : I64 b) (hc : I64 c) (hd : I64 d) (hg : I64 g) : box_Grow.f k a b c d g = some (Ma.sub a g, Ma.sub b g, Ma.add c g, Ma.add d g) := by
  unfold box_Grow.f; rw [vSub_eq hk ha hb hg hg, Option.bind_some, vAdd_eq hk hc hd hg hg, Option.bind_some]
/-- The least and the greatest parts of places, from a rectangle on. -/
def grow1 (s : Int × Int × Int × Int) (p : P2) : Int × Int × Int × Int := (mn s.1 p.f0, mn s.2.1 p.f1, mx s.2.2.1 p.f0, mx s.2.2.2 p.f1)
def hull (l : List P2) (s : Int × Int × Int × Int) : Int × Int × Int × Int := l.foldl grow1 s
theorem of_loop (l : List P2) (hl : l.length ≤ 1000) : ∀ (d i k : Nat) (s : Int × Int × Int × Int), i + d = l.length → d < k → box_Of.l0 k l (l.length : Int) (i : Int) s.1 s.2.1 s.2.2.1 s.2.2.2 = some (hull (l.drop i) s)
  | 0, i, k, s, h1, h2 => by
    obtain ⟨k, rfl⟩ : ∃ m, k = m + 1 := ⟨k - 1, by omega⟩
    simp only [box_Of.l0]
    rw [if_neg (by omega), List.drop_of_length_le (by omega)]; rfl
  | d + 1, i, k, s, h1, h2 => by
    obtain ⟨k, rfl⟩ : ∃ m, k = m + 1 := ⟨k - 1, by omega⟩
    simp only [box_Of.l0]
    unfold box_low.f box_high.f
    rw [if_pos (by omega), if_pos (by omega), if_pos (by omega), Option.bind_some, Option.bind_some, w64 (by unfold I64; omega), show ((i : Int) + 1) = ((i + 1 : Nat) : Int) by omega]
    have := of_loop l hl d (i + 1) k (grow1 s (rd_T24 l (i : Int))) (by omega) (by omega)
    rw [drop_get (by omega : i < l.length)]
    exact this
/-- A body's rectangle. -/
def boxOf (l : List P2) (r px py an : Int) (kd : Int) : Int × Int × Int × Int :=
  if kd = 1 then (Ma.sub px r, Ma.sub py r, Ma.add px r, Ma.add py r) else hull (corners l px py an) ((rd_T24 (corners l px py an) 0).f0, (rd_T24 (corners l px py an) 0).f1, (rd_T24 (corners l px py an) 0).f0, (rd_T24 (corners l px py an) 0).f1)
theorem corners_len (l : List P2) (px py an : Int) : (corners l px py an).length = l.length := by unfold corners; rw [List.length_map]
theorem Of_round {k : Nat} (hk : 60 ≤ k) {px py r : Int} (hx : I64 px) (hy : I64 py) (hr : I64 r) (a b c d e f : Int) (l : List P2) : box_Of.f k a px py b c d e f 1 r l = some (boxOf l r px py d 1) := by
  unfold box_Of.f boxOf; rw [if_pos rfl, Grow_eq hk hx hy hx hy hr, Option.bind_some, if_pos rfl]
theorem Of_poly {k : Nat} (hk : 1100 ≤ k) {px py : Int} (hx : I64 px) (hy : I64 py) (a b c an e f r : Int) (l : List P2) (hl : l.length ≤ 1000) (h0 : 0 < l.length) (hw : ∀ p ∈ l, I64 p.f0 ∧ I64 p.f1) : box_Of.f k a px py b c an e f 2 r l = some (boxOf l r px py an 2) := by
  unfold box_Of.f boxOf
  rw [if_neg (by decide), Corners_eq (by omega) hx hy r an l hl hw, Option.bind_some, if_pos (by rw [corners_len]; omega), if_neg (by decide)]
  have := of_loop (corners l px py an) (by rw [corners_len]; exact hl) (corners l px py an).length 0 k ((rd_T24 (corners l px py an) 0).f0, (rd_T24 (corners l px py an) 0).f1, (rd_T24 (corners l px py an) 0).f0, (rd_T24 (corners l px py an) 0).f1) (by omega) (by rw [corners_len]; omega)
  rw [List.drop_zero] at this; exact this
theorem mn_le (a b : Int) : mn a b ≤ a ∧ mn a b ≤ b := by unfold mn; split <;> omega
theorem mx_le (a b : Int) : a ≤ mx a b ∧ b ≤ mx a b := by unfold mx; split <;> omega
def In (s : Int × Int × Int × Int) (p : P2) : Prop := s.1 ≤ p.f0 ∧ s.2.1 ≤ p.f1 ∧ p.f0 ≤ s.2.2.1 ∧ p.f1 ≤ s.2.2.2
theorem hull_cons (p : P2) (l : List P2) (s : Int × Int × Int × Int) : hull (p :: l) s = hull l (grow1 s p) := rfl
theorem g1 (s : Int × Int × Int × Int) (p : P2) : (grow1 s p).1 ≤ s.1 ∧ (grow1 s p).1 ≤ p.f0 := mn_le _ _
theorem g2 (s : Int × Int × Int × Int) (p : P2) : (grow1 s p).2.1 ≤ s.2.1 ∧ (grow1 s p).2.1 ≤ p.f1 := mn_le _ _
theorem g3 (s : Int × Int × Int × Int) (p : P2) : s.2.2.1 ≤ (grow1 s p).2.2.1 ∧ p.f0 ≤ (grow1 s p).2.2.1 := mx_le _ _
theorem g4 (s : Int × Int × Int × Int) (p : P2) : s.2.2.2 ≤ (grow1 s p).2.2.2 ∧ p.f1 ≤ (grow1 s p).2.2.2 := mx_le _ _
theorem hull_mono : ∀ (l : List P2) (s : Int × Int × Int × Int), (hull l s).1 ≤ s.1 ∧ (hull l s).2.1 ≤ s.2.1 ∧ s.2.2.1 ≤ (hull l s).2.2.1 ∧ s.2.2.2 ≤ (hull l s).2.2.2
  | [], s => ⟨Int.le_refl _, Int.le_refl _, Int.le_refl _, Int.le_refl _⟩
  | p :: l, s => by
    have h := hull_mono l (grow1 s p)
    have a1 := g1 s p; have a2 := g2 s p; have a3 := g3 s p; have a4 := g4 s p
    rw [hull_cons]; omega
theorem hull_in : ∀ (l : List P2) (s : Int × Int × Int × Int) (p : P2), p ∈ l → In (hull l s) p
  | q :: l, s, p, h => by
    rcases List.mem_cons.1 h with rfl | h
    · have h := hull_mono l (grow1 s p)
      have a1 := g1 s p; have a2 := g2 s p; have a3 := g3 s p; have a4 := g4 s p
      rw [hull_cons]; unfold In; omega
    · rw [hull_cons]; exact hull_in l (grow1 s q) p h
theorem Holds_in {s : Int × Int × Int × Int} {p : P2} (h : In s p) : box_Holds.f s.1 s.2.1 s.2.2.1 s.2.2.2 p.f0 p.f1 = some true := by
  obtain ⟨h1, h2, h3, h4⟩ := h
  unfold box_Holds.f; rw [if_pos h1, if_pos h3, if_pos h2, decide_eq_true h4]
theorem Holds_eq {a b c d x y : Int} (h1 : a ≤ x) (h2 : x ≤ c) (h3 : b ≤ y) (h4 : y ≤ d) : box_Holds.f a b c d x y = some true := by
  unfold box_Holds.f; rw [if_pos h1, if_pos h2, if_pos h3, decide_eq_true h4]
theorem bodies_loop (l : List P2) (hl : l.length ≤ 1000) (s : Int × Int × Int × Int) : ∀ (d i k : Nat) (t : Int × Int × Int × Int), i + d = l.length → d < k → (∀ p ∈ l, In s p) → hull (l.drop i) t = s →
    bagatellelaw06_BoxBodies.l0 k l (l.length : Int) (i : Int) s.1 s.2.1 s.2.2.1 s.2.2.2 t.1 t.2.1 t.2.2.1 t.2.2.2 = some true
  | 0, i, k, t, h1, h2, hin, hh => by
    obtain ⟨k, rfl⟩ : ∃ m, k = m + 1 := ⟨k - 1, by omega⟩
    simp only [bagatellelaw06_BoxBodies.l0]
    rw [List.drop_of_length_le (by omega)] at hh
    have hs : t = s := hh
    rw [if_neg (by omega), hs]; simp
  | d + 1, i, k, t, h1, h2, hin, hh => by
    obtain ⟨k, rfl⟩ : ∃ m, k = m + 1 := ⟨k - 1, by omega⟩
    simp only [bagatellelaw06_BoxBodies.l0]
    have hlt : i < l.length := by omega
    rw [if_pos (by omega), if_pos (by omega), if_pos (by omega), Holds_in (hin _ (rd_mem hlt)), Option.bind_some, if_pos rfl, w64 (by unfold I64; omega), show ((i : Int) + 1) = ((i + 1 : Nat) : Int) by omega]
    have := bodies_loop l hl s d (i + 1) k (grow1 t (rd_T24 l (i : Int))) (by omega) (by omega) hin (by rw [← hh, drop_get hlt]; rfl)
    exact this
theorem BoxBodies : bagatellelaw06_BoxBodies.Pure := by
  intro a b c d x y an _ _ _ _ _ _ _
  refine ⟨1203, ?_⟩
  unfold bagatellelaw06_BoxBodies.f
  have bx := bring_b (a := x) (m := 4294967296000) (by omega)
  have bY := bring_b (a := y) (m := 4294967296000) (by omega)
  rw [fit_eq (by omega), Option.bind_some, if_pos rfl, Place_eq (by omega), Option.bind_some]
  simp only
  have hs := seedy a b c d
  generalize seed a b c d = S at *
  obtain ⟨kd, r, l⟩ := S
  generalize bring x 4294967296000 = px at *
  generalize bring y 4294967296000 = py at *
  have hx : I64 px := by unfold I64; omega
  have hy : I64 py := by unfold I64; omega
  have hn := hs.near
  rcases hs.kinds with ⟨h1, h2, h3, h4⟩ | ⟨h1, h2, h3, h4⟩
  · simp only at h1 h2 h3 h4 hn ⊢
    subst h1 h2
    have hr : I64 r := by unfold I64; omega
    rw [Of_round (by omega) hx hy hr, Option.bind_some, if_pos rfl, vSub_eq (by omega) hx hy hr hr, Option.bind_some]
    unfold boxOf
    rw [if_pos rfl, if_pos (by simp), vAdd_eq (by omega) hx hy hr hr, Option.bind_some]
    simp
  · simp only at h1 h2 h3 h4 hn ⊢
    subst h1 h2
    have hw : ∀ p ∈ l, I64 p.f0 ∧ I64 p.f1 := fun p hp => (hn p hp).i
    rw [Of_poly (by omega) hx hy _ _ _ _ _ _ _ l (by omega) (by omega) hw, Option.bind_some, if_neg (by decide), Corners_eq (by omega) hx hy 0 _ l (by omega) hw, Option.bind_some, if_pos (by rw [corners_len]; omega)]
    unfold boxOf; rw [if_neg (by decide)]
    have hq : (corners l px py (an % 4294967296)).length ≤ 1000 := by rw [corners_len]; omega
    generalize corners l px py (an % 4294967296) = q at *
    exact bodies_loop q hq _ q.length 0 1203 ((rd_T24 q 0).f0, (rd_T24 q 0).f1, (rd_T24 q 0).f0, (rd_T24 q 0).f1) (by omega) (by omega) (fun p hp => hull_in q _ p hp) (by rw [List.drop_zero])

end Go.Proofs.Ytlbkpfcidpnhgaa.Pure
