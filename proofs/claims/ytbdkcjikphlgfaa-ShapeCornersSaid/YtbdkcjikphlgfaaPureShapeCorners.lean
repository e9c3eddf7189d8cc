/- For every shape of a seed, every place and every angle: its corners in place are turned and moved, and it reaches as far as its farthest corner; no condition. -/
import Derived.OpenShut
import Derived.Test.YtbdkcjikphlgfaaPShx12
import Derived.Test.YtbdkcjikphlgfaaPShx13
import Derived.Test.YtbdkcjikphlgfaaPShx9
import Derived.Test.YtbdkcjikphlgfaaSg
set_option linter.unusedSimpArgs false
set_option linter.unusedVariables false
namespace Go.Proofs.Ytbdkcjikphlgfaa.Pure
open Go.RowKit Go.Proofs.YtbdkcjikphlgfaaW.PrintWords Go.Proofs.YtbdkcjikphlgfaaW.PrintLast Go.Proofs.YtbdkcjikphlgfaaW.PrintMore Go.Proofs.Ytbdkcjikphlgfaa.PSh Go.Proofs.Ytbdkcjikphlgfaa.Ma Go.Proofs.Ytbdkcjikphlgfaa.Fx Go.Proofs.Ytbdkcjikphlgfaa.Dv Go.Proofs.Ytbdkcjikphlgfaa.Vc Go.Proofs.Ytbdkcjikphlgfaa.Tm Go.Proofs.Ytbdkcjikphlgfaa.Ln Go.Proofs.Ytbdkcjikphlgfaa.Sh

theorem fit_eq {k : Nat} (hk : 200 ≤ k) : bagatellelaw04_fit.f k = some true :=
  at_rounds bagatellelaw04_fit.mono hk (by decide +kernel)
theorem nb {a b c d : Int} (h1 : a = c) (h2 : b = d) : ¬ ((!(a == c) || (!(b == d))) = true) := by rw [h1, h2]; simp
def far (m : Int) (l : List P2) : Int := l.foldl (fun m p => mx m (len p.f0 p.f1)) m
theorem far_cons (m : Int) (p : P2) (l : List P2) : far m (p :: l) = far (mx m (len p.f0 p.f1)) l := by unfold far; rw [List.foldl_cons]
theorem rd_map {l : List P2} (f : P2 → P2) {i : Nat} (h : i < l.length) : rd_T34 (l.map f) (i : Int) = f (rd_T34 l (i : Int)) := by
  rw [rd_get (by rw [List.length_map]; exact h), rd_get h, List.getElem_map]
theorem reach_loop (l : List P2) (hl : l.length ≤ 1000) (hw : ∀ p ∈ l, I64 p.f0 ∧ I64 p.f1) : ∀ (d i k : Nat) (m : Int), i + d = l.length → d + 60 < k →
    shape_Reach.l0 k m l (l.length : Int) (i : Int) = some (far m (l.drop i))
  | 0, i, k, m, h1, h2 => by
    obtain ⟨k, rfl⟩ : ∃ m, k = m + 1 := ⟨k - 1, by omega⟩
    simp only [shape_Reach.l0]
    rw [if_neg (by omega), List.drop_of_length_le (by omega)]; rfl
  | d + 1, i, k, m, h1, h2 => by
    obtain ⟨k, rfl⟩ : ∃ m, k = m + 1 := ⟨k - 1, by omega⟩
    have hlt : i < l.length := by omega
    obtain ⟨w0, w1⟩ := hw _ (rd_mem hlt)
    simp only [shape_Reach.l0]
    rw [if_pos (by omega), if_pos (by omega), if_pos (by omega), vLen_eq (by omega) w0 w1, Option.bind_some, w64 (by unfold I64; omega), show ((i : Int) + 1) = ((i + 1 : Nat) : Int) by omega, drop_get hlt, far_cons]
    exact reach_loop l hl hw d (i + 1) k _ (by omega) (by omega)
theorem law_loop {C S px py : Int} (hC : I64 C) (hS : I64 S) (hx : I64 px) (hy : I64 py) (l : List P2) (hl : l.length ≤ 100) (hw : ∀ p ∈ l, I64 p.f0 ∧ I64 p.f1) (kd r F : Int)
    (hF : ∀ k, 200 ≤ k → shape_Reach.f k kd r l = some F) : ∀ (d i k : Nat) (m : Int), i + d = l.length → d + 210 < k → far m (l.drop i) = F →
    bagatellelaw04_ShapeCorners.l0 k (l.map (placed C S px py)) m l (l.length : Int) (i : Int) px py kd r l C S = some true
  | 0, i, k, m, h1, h2, h3 => by
    obtain ⟨k, rfl⟩ : ∃ m, k = m + 1 := ⟨k - 1, by omega⟩
    simp only [bagatellelaw04_ShapeCorners.l0]
    rw [List.drop_of_length_le (by omega)] at h3
    have h3' : m = F := h3
    rw [if_neg (by omega), hF k (by omega), Option.bind_some, h3']; simp
  | d + 1, i, k, m, h1, h2, h3 => by
    obtain ⟨k, rfl⟩ : ∃ m, k = m + 1 := ⟨k - 1, by omega⟩
    have hlt : i < l.length := by omega
    obtain ⟨w0, w1⟩ := hw _ (rd_mem hlt)
    rw [drop_get hlt, far_cons] at h3
    simp only [bagatellelaw04_ShapeCorners.l0]
    rw [if_pos (by omega), if_pos (by omega), if_pos (by omega), if_pos (by rw [List.length_map]; omega), vApply_eq (by omega) hC hS w0 w1, Option.bind_some, vAdd_eq (by omega) hx hy (sub_i _ _) (add_i _ _), Option.bind_some, rd_map _ hlt]
    refine (if_neg (nb rfl rfl)).trans ?_
    rw [vLen_eq (by omega) w0 w1, Option.bind_some, w64 (by unfold I64; omega), show ((i : Int) + 1) = ((i + 1 : Nat) : Int) by omega]
    exact law_loop hC hS hx hy l hl hw kd r F hF d (i + 1) k _ (by omega) (by omega) h3
theorem ShapeCorners : bagatellelaw04_ShapeCorners.Pure := by
  intro a b c d x y an _ _ _ _ wx wy _
  have hx : I64 x := bounds_i64 wx
  have hy : I64 y := bounds_i64 wy
  refine ⟨1203, ?_⟩
  unfold bagatellelaw04_ShapeCorners.f
  rw [fit_eq (by omega), Option.bind_some, if_pos rfl, Seed_eq (by omega), Option.bind_some]
  have hs := seedy a b c d
  generalize seed a b c d = S at *
  obtain ⟨kd, r, l⟩ := S
  have hn := hs.near
  rcases hs.kinds with ⟨h1, h2, h3, h4⟩ | ⟨h1, h2, h3, h4⟩
  · simp only at h1 h2 h3 h4 hn ⊢
    subst h1 h2
    rw [Corners_none (by decide), Option.bind_some, if_pos rfl, Of_eq (by omega), Option.bind_some]
    refine law_loop (l := []) (sn_S (stp an + 256)).i (sn_S (stp an)).i hx hy (by simp) (by simp) 1 r r (fun k _ => ?_) 0 0 1203 r rfl (by omega) rfl
    unfold shape_Reach.f; rw [if_pos rfl]
  · simp only at h1 h2 h3 h4 hn ⊢
    subst h1 h2
    have hw : ∀ p ∈ l, I64 p.f0 ∧ I64 p.f1 := fun p hp => (hn p hp).i
    rw [Corners_eq (by omega) hx hy 0 an l (by omega) hw, Option.bind_some]
    unfold corners
    rw [if_pos (by rw [List.length_map]), Of_eq (by omega), Option.bind_some]
    refine law_loop (sn_S (stp an + 256)).i (sn_S (stp an)).i hx hy l (by omega) hw 2 0 (far 0 l) (fun k hk => ?_) l.length 0 1203 0 (by omega) (by omega) (by rw [List.drop_zero])
    unfold shape_Reach.f; rw [if_neg (by decide)]
    have := reach_loop l (by omega) hw l.length 0 k 0 (by omega) (by omega)
    rw [List.drop_zero] at this; exact this

end Go.Proofs.Ytbdkcjikphlgfaa.Pure
