/- For every body that a seed, a place and an angle make, and every way: its rectangle lies within its shape's reach and a little more; moved, its rectangle moves with it; no condition. -/
import Derived.OpenShut
import Derived.Test.YtlbkpfcidpnhgaaPBox10
import Derived.Test.YtlbkpfcidpnhgaaPBox11
import Derived.Test.YtlbkpfcidpnhgaaPBox3
import Derived.Test.YtlbkpfcidpnhgaaPBox5
import Derived.Test.YtlbkpfcidpnhgaaPBox6
import Derived.Test.YtlbkpfcidpnhgaaSh
import Derived.Test.YtlbkpfcidpnhgaaTq
namespace Go.Proofs.Ytlbkpfcidpnhgaa.Pure
open Go.RowKit Go.Proofs.YtlbkpfcidpnhgaaW.PrintWords Go.Proofs.YtlbkpfcidpnhgaaW.PrintLast Go.Proofs.YtlbkpfcidpnhgaaW.PrintMore Go.Proofs.Ytlbkpfcidpnhgaa.PBo Go.Proofs.Ytlbkpfcidpnhgaa.Ma Go.Proofs.Ytlbkpfcidpnhgaa.Fx Go.Proofs.Ytlbkpfcidpnhgaa.Dv Go.Proofs.Ytlbkpfcidpnhgaa.Vc Go.Proofs.Ytlbkpfcidpnhgaa.Tm Go.Proofs.Ytlbkpfcidpnhgaa.Ln Go.Proofs.Ytlbkpfcidpnhgaa.Sh Go.Proofs.Ytlbkpfcidpnhgaa.Tq

theorem fit_eq {k : Nat} (hk : 200 ≤ k) : bagatellelaw06_fit.f k = some true :=
  at_rounds bagatellelaw06_fit.mono hk (by decide +kernel)
theorem nb {a b c d : Int} (h1 : a = c) (h2 : b = d) : ¬ ((!(a == c) || (!(b == d))) = true) := by rw [h1, h2]; simp
theorem yb {a b c d : Int} (h1 : a = c) (h2 : b = d) : (a == c && (b == d)) = true := by rw [h1, h2]; simp
theorem Grow_eq {k : Nat} (hk : 60 ≤ k) {a b c d g : Int} (ha : I64 a) (hb : I64 b) (hc : I64 c) (hd : I64 d) (hg : I64 g) : box_Grow.f k a b c d g = some (Ma.sub a g, Ma.sub b g, Ma.add c g, Ma.add d g) := by
  unfold box_Grow.f; rw [vSub_eq hk ha hb hg hg, Option.bind_some, vAdd_eq hk hc hd hg hg, Option.bind_some]
/-- The least and the greatest parts of places, from a rectangle on. -/
def grow1 (s : Int × Int × Int × Int) (p : P2) : Int × Int × Int × Int := (mn s.1 p.f0, mn s.2.1 p.f1, mx s.2.2.1 p.f0, mx s.2.2.2 p.f1)
def hull (l : List P2) (s : Int × Int × Int × Int) : Int × Int × Int × Int := l.foldl grow1 s
theorem of_loop (l : List P2) (hl : l.length ≤ 1000) : ∀ (d i k : Nat) (s : Int × Int × Int × Int), i + d = l.length → d < k → box_Of.l0 k l (l.length : Int) (i : Int) s.1 s.2.1 s.2.2.1 s.2.2.2 = some (hull (l.drop i) s)
  | 0, i, k, s, h1, h2 => by
    obtain ⟨k, rfl⟩ : ∃ m, k = m + 1 := ⟨k - 1, by omega⟩
    simp only [box_Of.l0]
    rw [if_neg (by omega), List.drop_of_length_le (by omega)]; rfl
  | d + 1, i, k, s, h1, h2 => by
    obtain ⟨k, rfl⟩ : ∃ m, k = m + 1 := ⟨k - 1, by omega⟩
    simp only [box_Of.l0]
    unfold box_low.f box_high.f
    rw [if_pos (by omega), if_pos (by omega), if_pos (by omega), Option.bind_some, Option.bind_some, w64 (by unfold I64; omega), show ((i : Int) + 1) = ((i + 1 : Nat) : Int) by omega]
    have := of_loop l hl d (i + 1) k (grow1 s (rd_T24 l (i : Int))) (by omega) (by omega)
    rw [drop_get (by omega : i < l.length)]
    exact this
/-- A body's rectangle. -/
def boxOf (l : List P2) (r px py an : Int) (kd : Int) : Int × Int × Int × Int :=
  if kd = 1 then (Ma.sub px r, Ma.sub py r, Ma.add px r, Ma.add py r) else hull (corners l px py an) ((rd_T24 (corners l px py an) 0).f0, (rd_T24 (corners l px py an) 0).f1, (rd_T24 (corners l px py an) 0).f0, (rd_T24 (corners l px py an) 0).f1)
theorem corners_len (l : List P2) (px py an : Int) : (corners l px py an).length = l.length := by unfold corners; rw [List.length_map]
theorem Of_round {k : Nat} (hk : 60 ≤ k) {px py r : Int} (hx : I64 px) (hy : I64 py) (hr : I64 r) (a b c d e f : Int) (l : List P2) : box_Of.f k a px py b c d e f 1 r l = some (boxOf l r px py d 1) := by
  unfold box_Of.f boxOf; rw [if_pos rfl, Grow_eq hk hx hy hx hy hr, Option.bind_some, if_pos rfl]
theorem Of_poly {k : Nat} (hk : 1100 ≤ k) {px py : Int} (hx : I64 px) (hy : I64 py) (a b c an e f r : Int) (l : List P2) (hl : l.length ≤ 1000) (h0 : 0 < l.length) (hw : ∀ p ∈ l, I64 p.f0 ∧ I64 p.f1) : box_Of.f k a px py b c an e f 2 r l = some (boxOf l r px py an 2) := by
  unfold box_Of.f boxOf
  rw [if_neg (by decide), Corners_eq (by omega) hx hy r an l hl hw, Option.bind_some, if_pos (by rw [corners_len]; omega), if_neg (by decide)]
  have := of_loop (corners l px py an) (by rw [corners_len]; exact hl) (corners l px py an).length 0 k ((rd_T24 (corners l px py an) 0).f0, (rd_T24 (corners l px py an) 0).f1, (rd_T24 (corners l px py an) 0).f0, (rd_T24 (corners l px py an) 0).f1) (by omega) (by rw [corners_len]; omega)
  rw [List.drop_zero] at this; exact this
theorem mn_le (a b : Int) : mn a b ≤ a ∧ mn a b ≤ b := by unfold mn; split <;> omega
theorem mx_le (a b : Int) : a ≤ mx a b ∧ b ≤ mx a b := by unfold mx; split <;> omega
def In (s : Int × Int × Int × Int) (p : P2) : Prop := s.1 ≤ p.f0 ∧ s.2.1 ≤ p.f1 ∧ p.f0 ≤ s.2.2.1 ∧ p.f1 ≤ s.2.2.2
theorem hull_cons (p : P2) (l : List P2) (s : Int × Int × Int × Int) : hull (p :: l) s = hull l (grow1 s p) := rfl
theorem g1 (s : Int × Int × Int × Int) (p : P2) : (grow1 s p).1 ≤ s.1 ∧ (grow1 s p).1 ≤ p.f0 := mn_le _ _
theorem g2 (s : Int × Int × Int × Int) (p : P2) : (grow1 s p).2.1 ≤ s.2.1 ∧ (grow1 s p).2.1 ≤ p.f1 := mn_le _ _
theorem g3 (s : Int × Int × Int × Int) (p : P2) : s.2.2.1 ≤ (grow1 s p).2.2.1 ∧ p.f0 ≤ (grow1 s p).2.2.1 := mx_le _ _
theorem g4 (s : Int × Int × Int × Int) (p : P2) : s.2.2.2 ≤ (grow1 s p).2.2.2 ∧ p.f1 ≤ (grow1 s p).2.2.2 := mx_le _ _
theorem hull_mono : ∀ (l : List P2) (s : Int × Int × Int × Int), (hull l s).1 ≤ s.1 ∧ (hull l s).2.1 ≤ s.2.1 ∧ s.2.2.1 ≤ (hull l s).2.2.1 ∧ s.2.2.2 ≤ (hull l s).2.2.2
  | [], s => ⟨Int.le_refl _, Int.le_refl _, Int.le_refl _, Int.le_refl _⟩
  | p :: l, s => by
    have h := hull_mono l (grow1 s p)
    have a1 := g1 s p; have a2 := g2 s p; have a3 := g3 s p; have a4 := g4 s p
    rw [hull_cons]; omega
theorem hull_in : ∀ (l : List P2) (s : Int × Int × Int × Int) (p : P2), p ∈ l → In (hull l s) p
  | q :: l, s, p, h => by
    rcases List.mem_cons.1 h with rfl | h
    · have h := hull_mono l (grow1 s p)
      have a1 := g1 s p; have a2 := g2 s p; have a3 := g3 s p; have a4 := g4 s p
      rw [hull_cons]; unfold In; omega
    · rw [hull_cons]; exact hull_in l (grow1 s q) p h
theorem Holds_in {s : Int × Int × Int × Int} {p : P2} (h : In s p) : box_Holds.f s.1 s.2.1 s.2.2.1 s.2.2.2 p.f0 p.f1 = some true := by
  obtain ⟨h1, h2, h3, h4⟩ := h
  unfold box_Holds.f; rw [if_pos h1, if_pos h3, if_pos h2, decide_eq_true h4]
theorem Holds_eq {a b c d x y : Int} (h1 : a ≤ x) (h2 : x ≤ c) (h3 : b ≤ y) (h4 : y ≤ d) : box_Holds.f a b c d x y = some true := by
  unfold box_Holds.f; rw [if_pos h1, if_pos h2, if_pos h3, decide_eq_true h4]
theorem mx_up {a b m : Int} (h1 : a ≤ m) (h2 : b ≤ m) : mx a b ≤ m := by unfold mx; split <;> omega
theorem reach_loop (l : List P2) (hl : l.length ≤ 1000) (hw : ∀ p ∈ l, I64 p.f0 ∧ I64 p.f1) : ∀ (d i k : Nat) (m : Int), i + d = l.length → d + 60 < k →
    ∃ r, shape_Reach.l0 k m l (l.length : Int) (i : Int) = some r ∧ m ≤ r ∧ (∀ p ∈ l.drop i, len p.f0 p.f1 ≤ r) ∧ (∀ t, m ≤ t → (∀ p ∈ l, len p.f0 p.f1 ≤ t) → r ≤ t)
  | 0, i, k, m, h1, h2 => by
    obtain ⟨k, rfl⟩ : ∃ m, k = m + 1 := ⟨k - 1, by omega⟩
    simp only [shape_Reach.l0]
    rw [if_neg (by omega), List.drop_of_length_le (by omega)]
    exact ⟨m, rfl, Int.le_refl m, (fun p h => absurd h (by simp)), (fun t h _ => h)⟩
  | d + 1, i, k, m, h1, h2 => by
    obtain ⟨k, rfl⟩ : ∃ m, k = m + 1 := ⟨k - 1, by omega⟩
    have hlt : i < l.length := by omega
    obtain ⟨w0, w1⟩ := hw _ (rd_mem hlt)
    simp only [shape_Reach.l0]
    rw [if_pos (by omega), if_pos (by omega), if_pos (by omega), vLen_eq (by omega) w0 w1, Option.bind_some, w64 (by unfold I64; omega), show ((i : Int) + 1) = ((i + 1 : Nat) : Int) by omega]
    obtain ⟨r, e, h3, h4, h5⟩ := reach_loop l hl hw d (i + 1) k (mx m (len (rd_T24 l (i : Int)).f0 (rd_T24 l (i : Int)).f1)) (by omega) (by omega)
    have hm := mx_le m (len (rd_T24 l (i : Int)).f0 (rd_T24 l (i : Int)).f1)
    refine ⟨r, e, by omega, ?_, fun t t1 t2 => h5 t (mx_up t1 (t2 _ (rd_mem hlt))) t2⟩
    rw [drop_get hlt]
    intro p hp
    rcases List.mem_cons.1 hp with rfl | hp
    · omega
    · exact h4 p hp
theorem Reach_poly {k : Nat} (hk : 1100 ≤ k) (r : Int) (l : List P2) (hl : l.length ≤ 1000) (hw : ∀ p ∈ l, I64 p.f0 ∧ I64 p.f1) :
    ∃ R, shape_Reach.f k 2 r l = some R ∧ 0 ≤ R ∧ (∀ p ∈ l, len p.f0 p.f1 ≤ R) ∧ (∀ t, 0 ≤ t → (∀ p ∈ l, len p.f0 p.f1 ≤ t) → R ≤ t) := by
  obtain ⟨R, e, h1, h2, h3⟩ := reach_loop l hl hw l.length 0 k 0 (by omega) (by omega)
  rw [List.drop_zero] at h2
  refine ⟨R, ?_, h1, h2, h3⟩
  unfold shape_Reach.f; rw [if_neg (by decide)]; exact e
theorem hull_keep {a b c d : Int} : ∀ (l : List P2) (s : Int × Int × Int × Int), (∀ p ∈ l, (a ≤ p.f0 ∧ p.f0 ≤ b) ∧ (c ≤ p.f1 ∧ p.f1 ≤ d)) → (a ≤ s.1 ∧ s.1 ≤ b) → (c ≤ s.2.1 ∧ s.2.1 ≤ d) → (a ≤ s.2.2.1 ∧ s.2.2.1 ≤ b) → (c ≤ s.2.2.2 ∧ s.2.2.2 ≤ d) →
    ((a ≤ (hull l s).1 ∧ (hull l s).1 ≤ b) ∧ (c ≤ (hull l s).2.1 ∧ (hull l s).2.1 ≤ d)) ∧ ((a ≤ (hull l s).2.2.1 ∧ (hull l s).2.2.1 ≤ b) ∧ (c ≤ (hull l s).2.2.2 ∧ (hull l s).2.2.2 ≤ d))
  | [], s, _, h1, h2, h3, h4 => ⟨⟨h1, h2⟩, h3, h4⟩
  | p :: l, s, h, h1, h2, h3, h4 => by
    have hp := h p (List.mem_cons_self ..)
    have mnk : ∀ x y lo hi : Int, (lo ≤ x ∧ x ≤ hi) → (lo ≤ y ∧ y ≤ hi) → (lo ≤ mn x y ∧ mn x y ≤ hi) := by intro x y lo hi h h'; unfold mn; split <;> omega
    have mxk : ∀ x y lo hi : Int, (lo ≤ x ∧ x ≤ hi) → (lo ≤ y ∧ y ≤ hi) → (lo ≤ mx x y ∧ mx x y ≤ hi) := by intro x y lo hi h h'; unfold mx; split <;> omega
    rw [hull_cons]
    exact hull_keep l (grow1 s p) (fun q hq => h q (List.mem_cons_of_mem _ hq)) (mnk _ _ _ _ h1 hp.1) (mnk _ _ _ _ h2 hp.2) (mxk _ _ _ _ h3 hp.1) (mxk _ _ _ _ h4 hp.2)
def shft (x y : Int) (s : Int × Int × Int × Int) : Int × Int × Int × Int := (s.1 + x, s.2.1 + y, s.2.2.1 + x, s.2.2.2 + y)
theorem hull_shift (x y : Int) : ∀ (l : List P2) (s : Int × Int × Int × Int), hull (l.map fun p => (⟨p.f0 + x, p.f1 + y⟩ : P2)) (shft x y s) = shft x y (hull l s)
  | [], s => rfl
  | p :: l, s => by
    have e1 : ∀ a b z : Int, mn (a + z) (b + z) = mn a b + z := by intro a b z; unfold mn; split <;> split <;> omega
    have e2 : ∀ a b z : Int, mx (a + z) (b + z) = mx a b + z := by intro a b z; unfold mx; split <;> split <;> omega
    rw [List.map_cons, hull_cons, hull_cons, ← hull_shift x y l (grow1 s p)]
    congr 1
    unfold grow1 shft
    simp only [e1, e2]
theorem corners_eq (l : List P2) (hn : ∀ p ∈ l, Near p) (an : Int) {px py : Int} (hx : -8796093022208 ≤ px ∧ px ≤ 8796093022208) (hy : -8796093022208 ≤ py ∧ py ≤ 8796093022208) :
    corners l px py an = (l.map fun p => (⟨tu (stp an) p.f0 p.f1, tv (stp an) p.f0 p.f1⟩ : P2)).map fun p => (⟨p.f0 + px, p.f1 + py⟩ : P2) := by
  unfold corners
  rw [List.map_map]
  refine List.map_congr_left fun p hp => ?_
  have h := hn p hp
  unfold Near at h
  have hs := stp_b an
  obtain ⟨b1, b2, b3, b4, e1, e2⟩ := turned_b (n := stp an) (x := p.f0) (y := p.f1) hs.1 hs.2 (by omega) (by omega)
  have hl : len p.f0 p.f1 < 281474976710656 := (len_spec (by omega) (by omega) (by omega) (by omega)).2.1
  show placed _ _ _ _ _ = _
  unfold placed
  rw [e1, e2, add_id (by unfold S63; omega) (by unfold S63; omega) (by unfold S63; omega), add_id (by unfold S63; omega) (by unfold S63; omega) (by unfold S63; omega), Int.add_comm px, Int.add_comm py]
  rfl
theorem rd_map {l : List P2} (f : P2 → P2) {i : Nat} (h : i < l.length) : rd_T24 (l.map f) (i : Int) = f (rd_T24 l (i : Int)) := by
  rw [rd_get (by rw [List.length_map]; exact h), rd_get h, List.getElem_map]
theorem BoxReaches : bagatellelaw06_BoxReaches.Pure := by
  intro a b c d x y an bx bY _ _ _ _ _ _ _ _ _
  refine ⟨1203, ?_⟩
  unfold bagatellelaw06_BoxReaches.f
  have hpx := bring_b (a := x) (m := 4294967296000) (by omega)
  have hpy := bring_b (a := y) (m := 4294967296000) (by omega)
  have hbx := bring_b (a := bx) (m := 4294967296000) (by omega)
  have hby := bring_b (a := bY) (m := 4294967296000) (by omega)
  rw [fit_eq (by omega), Option.bind_some, if_pos rfl, Place_eq (by omega), Option.bind_some, vBring_eq (by omega) (by omega), Option.bind_some]
  simp only
  have hs := seedy a b c d
  generalize seed a b c d = S at *
  obtain ⟨kd, r, l⟩ := S
  generalize bring x 4294967296000 = px at *
  generalize bring y 4294967296000 = py at *
  generalize bring bx 4294967296000 = qx at *
  generalize bring bY 4294967296000 = qy at *
  have sx : S63 px := by unfold S63; omega
  have sy : S63 py := by unfold S63; omega
  have tx : S63 qx := by unfold S63; omega
  have ty : S63 qy := by unfold S63; omega
  have ax : Ma.add px qx = px + qx := add_id sx tx (by unfold S63; omega)
  have ay : Ma.add py qy = py + qy := add_id sy ty (by unfold S63; omega)
  have hn := hs.near
  rcases hs.kinds with ⟨h1, h2, h3, h4⟩ | ⟨h1, h2, h3, h4⟩
  · simp only at h1 h2 h3 h4 hn ⊢
    subst h1 h2
    have sr : S63 r := by unfold S63; omega
    have sg : S63 (r + 1048576) := by unfold S63; omega
    have re : shape_Reach.f 1203 1 r ([] : List P2) = some r := by unfold shape_Reach.f; rw [if_pos rfl]
    have ws : wrap64 (r + 1048576) = r + 1048576 := w64 sg.i
    have sX : S63 (px + qx) := by unfold S63; omega
    have sY : S63 (py + qy) := by unfold S63; omega
    have i1 : Ma.sub px r = px - r := sub_id sx sr (by unfold S63; omega)
    have i2 : Ma.sub py r = py - r := sub_id sy sr (by unfold S63; omega)
    have i3 : Ma.add px r = px + r := add_id sx sr (by unfold S63; omega)
    have i4 : Ma.add py r = py + r := add_id sy sr (by unfold S63; omega)
    have j1 : Ma.sub px (r + 1048576) = px - (r + 1048576) := sub_id sx sg (by unfold S63; omega)
    have j2 : Ma.sub py (r + 1048576) = py - (r + 1048576) := sub_id sy sg (by unfold S63; omega)
    have j3 : Ma.add px (r + 1048576) = px + (r + 1048576) := add_id sx sg (by unfold S63; omega)
    have j4 : Ma.add py (r + 1048576) = py + (r + 1048576) := add_id sy sg (by unfold S63; omega)
    have m1 : Ma.sub (px + qx) r = px + qx - r := sub_id sX sr (by unfold S63; omega)
    have m2 : Ma.sub (py + qy) r = py + qy - r := sub_id sY sr (by unfold S63; omega)
    have m3 : Ma.add (px + qx) r = px + qx + r := add_id sX sr (by unfold S63; omega)
    have m4 : Ma.add (py + qy) r = py + qy + r := add_id sY sr (by unfold S63; omega)
    have n1 : Ma.add (px - r) qx = px - r + qx := add_id (by unfold S63; omega) tx (by unfold S63; omega)
    have n2 : Ma.add (py - r) qy = py - r + qy := add_id (by unfold S63; omega) ty (by unfold S63; omega)
    have n3 : Ma.add (px + r) qx = px + r + qx := add_id (by unfold S63; omega) tx (by unfold S63; omega)
    have n4 : Ma.add (py + r) qy = py + r + qy := add_id (by unfold S63; omega) ty (by unfold S63; omega)
    rw [Of_round (by omega) sx.i sy.i sr.i, Option.bind_some, re, Option.bind_some, ws, Grow_eq (by omega) sx.i sy.i sx.i sy.i sg.i, Option.bind_some]
    unfold boxOf
    rw [if_pos rfl, i1, i2, i3, i4, j1, j2, j3, j4]
    simp only
    rw [Holds_eq (by omega) (by omega) (by omega) (by omega), Option.bind_some, if_pos rfl, Option.bind_some, ws, Grow_eq (by omega) sx.i sy.i sx.i sy.i sg.i, Option.bind_some, j1, j2, j3, j4]
    simp only
    rw [Holds_eq (by omega) (by omega) (by omega) (by omega), Option.bind_some, if_pos rfl,
      vAdd_eq (by omega) sx.i sy.i tx.i ty.i, Option.bind_some, ax, ay, Of_round (by omega) sX.i sY.i sr.i, Option.bind_some, vAdd_eq (by omega) (show S63 (px - r) by unfold S63; omega).i (show S63 (py - r) by unfold S63; omega).i tx.i ty.i, Option.bind_some,
      vAdd_eq (by omega) (show S63 (px + r) by unfold S63; omega).i (show S63 (py + r) by unfold S63; omega).i tx.i ty.i, Option.bind_some]
    unfold boxOf
    rw [if_pos rfl, m1, m2, m3, m4, n1, n2, n3, n4]
    simp only [show px - r + qx = px + qx - r by omega, show py - r + qy = py + qy - r by omega, show px + r + qx = px + qx + r by omega, show py + r + qy = py + qy + r by omega, beq_self_eq_true, Bool.and_self]
  · simp only at h1 h2 h3 h4 hn ⊢
    subst h1 h2
    have hw : ∀ p ∈ l, I64 p.f0 ∧ I64 p.f1 := fun p hp => (hn p hp).i
    obtain ⟨R, er, r0, r1, r2⟩ := Reach_poly (k := 1203) (by omega) 0 l (by omega) hw
    have hR : R ≤ 68719476736 := by
      refine r2 _ (by omega) fun p hp => ?_
      have h := hn p hp
      unfold Near at h
      have s := len_spec (x := p.f0) (y := p.f1) (by omega) (by omega) (by omega) (by omega)
      refine le_of_sq (by omega) ?_
      have := sq_le_of (x := p.f0) (m := 17448304640) (by omega) (by omega)
      have := sq_le_of (x := p.f1) (m := 17448304640) (by omega) (by omega)
      omega
    have hl0 : 0 < l.length := by omega
    generalize an % 4294967296 = ag at *
    -- the corners around the position
    let L : List P2 := l.map fun p => (⟨tu (stp ag) p.f0 p.f1, tv (stp ag) p.f0 p.f1⟩ : P2)
    have hL : L = l.map fun p => (⟨tu (stp ag) p.f0 p.f1, tv (stp ag) p.f0 p.f1⟩ : P2) := rfl
    have hLl : 0 < L.length := by rw [hL, List.length_map]; exact hl0
    have nearL : ∀ p ∈ L, (-(R + 94740) ≤ p.f0 ∧ p.f0 ≤ R + 94740) ∧ (-(R + 94740) ≤ p.f1 ∧ p.f1 ≤ R + 94740) := by
      intro p hp
      rw [hL, List.mem_map] at hp
      obtain ⟨q, hq, rfl⟩ := hp
      have h := hn q hq
      unfold Near at h
      have hs := stp_b ag
      obtain ⟨b1, b2, b3, b4, _, _⟩ := turned_b (n := stp ag) (x := q.f0) (y := q.f1) hs.1 hs.2 (by omega) (by omega)
      have := r1 q hq
      simp only
      omega
    have c1 := corners_eq l hn ag (px := px) (py := py) (by omega) (by omega)
    have c2 := corners_eq l hn ag (px := px + qx) (py := py + qy) (by omega) (by omega)
    rw [← hL] at c1 c2
    have z0 : (0 : Int) = ((0 : Nat) : Int) := rfl
    let h0 : P2 := rd_T24 L ((0 : Nat) : Int)
    have hh0 : h0 = rd_T24 L ((0 : Nat) : Int) := rfl
    have hm0 : h0 ∈ L := rd_mem hLl
    let H : Int × Int × Int × Int := hull L (h0.f0, h0.f1, h0.f0, h0.f1)
    have hH : H = hull L (h0.f0, h0.f1, h0.f0, h0.f1) := rfl
    have k0 := nearL h0 hm0
    have kH := hull_keep L (h0.f0, h0.f1, h0.f0, h0.f1) nearL k0.1 k0.2 k0.1 k0.2
    rw [← hH] at kH
    have B : ∀ vx vy : Int, (-8796093022208 ≤ vx ∧ vx ≤ 8796093022208) → (-8796093022208 ≤ vy ∧ vy ≤ 8796093022208) → boxOf l 0 vx vy ag 2 = shft vx vy H := by
      intro vx vy hvx hvy
      have c := corners_eq l hn ag (px := vx) (py := vy) hvx hvy
      rw [← hL] at c
      unfold boxOf
      rw [if_neg (by decide), c, z0, rd_map _ hLl, ← hh0]
      exact hull_shift vx vy L (h0.f0, h0.f1, h0.f0, h0.f1)
    have B1 := B px py (by omega) (by omega)
    have B2 := B (px + qx) (py + qy) (by omega) (by omega)
    clear c1 c2 B
    clear_value H
    clear hH hm0 hh0
    obtain ⟨H1, H2, H3, H4⟩ := H
    simp only at kH
    unfold shft at B1 B2
    simp only at B1 B2
    have sX : S63 (px + qx) := by unfold S63; omega
    have sY : S63 (py + qy) := by unfold S63; omega
    have sg : S63 (R + 1048576) := by unfold S63; omega
    have ws : wrap64 (R + 1048576) = R + 1048576 := w64 sg.i
    have j1 : Ma.sub px (R + 1048576) = px - (R + 1048576) := sub_id sx sg (by unfold S63; omega)
    have j2 : Ma.sub py (R + 1048576) = py - (R + 1048576) := sub_id sy sg (by unfold S63; omega)
    have j3 : Ma.add px (R + 1048576) = px + (R + 1048576) := add_id sx sg (by unfold S63; omega)
    have j4 : Ma.add py (R + 1048576) = py + (R + 1048576) := add_id sy sg (by unfold S63; omega)
    have s1 : S63 (H1 + px) := by unfold S63; omega
    have s2 : S63 (H2 + py) := by unfold S63; omega
    have s3 : S63 (H3 + px) := by unfold S63; omega
    have s4 : S63 (H4 + py) := by unfold S63; omega
    have n1 : Ma.add (H1 + px) qx = H1 + px + qx := add_id s1 tx (by unfold S63; omega)
    have n2 : Ma.add (H2 + py) qy = H2 + py + qy := add_id s2 ty (by unfold S63; omega)
    have n3 : Ma.add (H3 + px) qx = H3 + px + qx := add_id s3 tx (by unfold S63; omega)
    have n4 : Ma.add (H4 + py) qy = H4 + py + qy := add_id s4 ty (by unfold S63; omega)
    rw [Of_poly (by omega) sx.i sy.i _ _ _ _ _ _ _ l (by omega) hl0 hw, Option.bind_some, er, Option.bind_some, ws, Grow_eq (by omega) sx.i sy.i sx.i sy.i sg.i, Option.bind_some, B1, j1, j2, j3, j4]
    simp only
    rw [Holds_eq (by omega) (by omega) (by omega) (by omega), Option.bind_some, if_pos rfl, Option.bind_some, ws, Grow_eq (by omega) sx.i sy.i sx.i sy.i sg.i, Option.bind_some, j1, j2, j3, j4]
    simp only
    rw [Holds_eq (by omega) (by omega) (by omega) (by omega), Option.bind_some, if_pos rfl,
      vAdd_eq (by omega) sx.i sy.i tx.i ty.i, Option.bind_some, ax, ay, Of_poly (by omega) sX.i sY.i _ _ _ _ _ _ _ l (by omega) hl0 hw, Option.bind_some, vAdd_eq (by omega) s1.i s2.i tx.i ty.i, Option.bind_some, vAdd_eq (by omega) s3.i s4.i tx.i ty.i, Option.bind_some, B2, n1, n2, n3, n4]
    simp only [Int.add_assoc, beq_self_eq_true, Bool.and_self]

end Go.Proofs.Ytlbkpfcidpnhgaa.Pure
