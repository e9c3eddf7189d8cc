/- For every body that a seed, a place and an angle make, and each number of quarters: a circle's rectangle does not know the angle; half a turn mirrors a polygon's; after an odd quarter it still meets what it was; no condition. -/
import Derived.OpenShut
import Derived.Test.YtlbkpfcidpnhgaaPBox10
import Derived.Test.YtlbkpfcidpnhgaaPBox11
import Derived.Test.YtlbkpfcidpnhgaaPBox3
import Derived.Test.YtlbkpfcidpnhgaaPBox5
import Derived.Test.YtlbkpfcidpnhgaaPBox6
import Derived.Test.YtlbkpfcidpnhgaaSh
import Derived.Test.YtlbkpfcidpnhgaaTq
namespace Go.Proofs.Ytlbkpfcidpnhgaa.Pure
open Go.RowKit Go.Proofs.YtlbkpfcidpnhgaaW.PrintWords Go.Proofs.YtlbkpfcidpnhgaaW.PrintLast Go.Proofs.YtlbkpfcidpnhgaaW.PrintMore Go.Proofs.Ytlbkpfcidpnhgaa.PBo Go.Proofs.Ytlbkpfcidpnhgaa.Ma Go.Proofs.Ytlbkpfcidpnhgaa.Fx Go.Proofs.Ytlbkpfcidpnhgaa.Dv Go.Proofs.Ytlbkpfcidpnhgaa.Vc Go.Proofs.Ytlbkpfcidpnhgaa.Tm Go.Proofs.Ytlbkpfcidpnhgaa.Ln Go.Proofs.Ytlbkpfcidpnhgaa.Sh Go.Proofs.Ytlbkpfcidpnhgaa.Tq

theorem fit_eq {k : Nat} (hk : 200 ≤ k) : bagatellelaw06_fit.f k = some true :=
  at_rounds bagatellelaw06_fit.mono hk (by decide +kernel)
theorem nb {a b c d : Int} (h1 : a = c) (h2 : b = d) : ¬ ((!(a == c) || (!(b == d))) = true) := by rw [h1, h2]; simp
theorem yb {a b c d : Int} (h1 : a = c) (h2 : b = d) : (a == c && (b == d)) = true := by rw [h1, h2]; simp
theorem Grow_eq {k : Nat} (hk : 60 ≤ k) {a b c d g : Int} (ha : I64 a) (hb : I64 b) (hc : I64 c) (hd : I64 d) (hg : I64 g) : box_Grow.f k a b c d g = some (Ma.sub a g, Ma.sub b g, Ma.add c g, Ma.add d g) := by
  unfold box_Grow.f; rw [vSub_eq hk ha hb hg hg, Option.bind_some, vAdd_eq hk hc hd hg hg, Option.bind_some]
/-- The least and the greatest parts of places, from a rectangle on. -/
def grow1 (s : Int × Int × Int × Int) (p : P2) : Int × Int × Int × Int := (mn s.1 p.f0, mn s.2.1 p.f1, mx s.2.2.1 p.f0, mx s.2.2.2 p.f1)
def hull (l : List P2) (s : Int × Int × Int × Int) : Int × Int × Int × Int := l.foldl grow1 s
theorem of_loop (l : List P2) (hl : l.length ≤ 1000) : ∀ (d i k : Nat) (s : Int × Int × Int × Int), i + d = l.length → d < k → box_Of.l0 k l (l.length : Int) (i : Int) s.1 s.2.1 s.2.2.1 s.2.2.2 = some (hull (l.drop i) s)
  | 0, i, k, s, h1, h2 => by
    obtain ⟨k, rfl⟩ : ∃ m, k = m + 1 := ⟨k - 1, by omega⟩
    simp only [box_Of.l0]
    rw [if_neg (by omega), List.drop_of_length_le (by omega)]; rfl
  | d + 1, i, k, s, h1, h2 => by
    obtain ⟨k, rfl⟩ : ∃ m, k = m + 1 := ⟨k - 1, by omega⟩
    simp only [box_Of.l0]
    unfold box_low.f box_high.f
    rw [if_pos (by omega), if_pos (by omega), if_pos (by omega), Option.bind_some, Option.bind_some, w64 (by unfold I64; omega), show ((i : Int) + 1) = ((i + 1 : Nat) : Int) by omega]
    have := of_loop l hl d (i + 1) k (grow1 s (rd_T24 l (i : Int))) (by omega) (by omega)
    rw [drop_get (by omega : i < l.length)]
    exact this
/-- A body's rectangle. -/
def boxOf (l : List P2) (r px py an : Int) (kd : Int) : Int × Int × Int × Int :=
  if kd = 1 then (Ma.sub px r, Ma.sub py r, Ma.add px r, Ma.add py r) else hull (corners l px py an) ((rd_T24 (corners l px py an) 0).f0, (rd_T24 (corners l px py an) 0).f1, (rd_T24 (corners l px py an) 0).f0, (rd_T24 (corners l px py an) 0).f1)
theorem corners_len (l : List P2) (px py an : Int) : (corners l px py an).length = l.length := by unfold corners; rw [List.length_map]
theorem Of_round {k : Nat} (hk : 60 ≤ k) {px py r : Int} (hx : I64 px) (hy : I64 py) (hr : I64 r) (a b c d e f : Int) (l : List P2) : box_Of.f k a px py b c d e f 1 r l = some (boxOf l r px py d 1) := by
  unfold box_Of.f boxOf; rw [if_pos rfl, Grow_eq hk hx hy hx hy hr, Option.bind_some, if_pos rfl]
theorem Of_poly {k : Nat} (hk : 1100 ≤ k) {px py : Int} (hx : I64 px) (hy : I64 py) (a b c an e f r : Int) (l : List P2) (hl : l.length ≤ 1000) (h0 : 0 < l.length) (hw : ∀ p ∈ l, I64 p.f0 ∧ I64 p.f1) : box_Of.f k a px py b c an e f 2 r l = some (boxOf l r px py an 2) := by
  unfold box_Of.f boxOf
  rw [if_neg (by decide), Corners_eq (by omega) hx hy r an l hl hw, Option.bind_some, if_pos (by rw [corners_len]; omega), if_neg (by decide)]
  have := of_loop (corners l px py an) (by rw [corners_len]; exact hl) (corners l px py an).length 0 k ((rd_T24 (corners l px py an) 0).f0, (rd_T24 (corners l px py an) 0).f1, (rd_T24 (corners l px py an) 0).f0, (rd_T24 (corners l px py an) 0).f1) (by omega) (by rw [corners_len]; omega)
  rw [List.drop_zero] at this; exact this
theorem mn_le (a b : Int) : mn a b ≤ a ∧ mn a b ≤ b := by unfold mn; split <;> omega
theorem mx_le (a b : Int) : a ≤ mx a b ∧ b ≤ mx a b := by unfold mx; split <;> omega
def In (s : Int × Int × Int × Int) (p : P2) : Prop := s.1 ≤ p.f0 ∧ s.2.1 ≤ p.f1 ∧ p.f0 ≤ s.2.2.1 ∧ p.f1 ≤ s.2.2.2
theorem hull_cons (p : P2) (l : List P2) (s : Int × Int × Int × Int) : hull (p :: l) s = hull l (grow1 s p) := rfl
theorem g1 (s : Int × Int × Int × Int) (p : P2) : (grow1 s p).1 ≤ s.1 ∧ (grow1 s p).1 ≤ p.f0 := mn_le _ _
theorem g2 (s : Int × Int × Int × Int) (p : P2) : (grow1 s p).2.1 ≤ s.2.1 ∧ (grow1 s p).2.1 ≤ p.f1 := mn_le _ _
theorem g3 (s : Int × Int × Int × Int) (p : P2) : s.2.2.1 ≤ (grow1 s p).2.2.1 ∧ p.f0 ≤ (grow1 s p).2.2.1 := mx_le _ _
theorem g4 (s : Int × Int × Int × Int) (p : P2) : s.2.2.2 ≤ (grow1 s p).2.2.2 ∧ p.f1 ≤ (grow1 s p).2.2.2 := mx_le _ _
theorem hull_mono : ∀ (l : List P2) (s : Int × Int × Int × Int), (hull l s).1 ≤ s.1 ∧ (hull l s).2.1 ≤ s.2.1 ∧ s.2.2.1 ≤ (hull l s).2.2.1 ∧ s.2.2.2 ≤ (hull l s).2.2.2
  | [], s => ⟨Int.le_refl _, Int.le_refl _, Int.le_refl _, Int.le_refl _⟩
  | p :: l, s => by
    have h := hull_mono l (grow1 s p)
    have a1 := g1 s p; have a2 := g2 s p; have a3 := g3 s p; have a4 := g4 s p
    rw [hull_cons]; omega
theorem hull_in : ∀ (l : List P2) (s : Int × Int × Int × Int) (p : P2), p ∈ l → In (hull l s) p
  | q :: l, s, p, h => by
    rcases List.mem_cons.1 h with rfl | h
    · have h := hull_mono l (grow1 s p)
      have a1 := g1 s p; have a2 := g2 s p; have a3 := g3 s p; have a4 := g4 s p
      rw [hull_cons]; unfold In; omega
    · rw [hull_cons]; exact hull_in l (grow1 s q) p h
theorem Holds_in {s : Int × Int × Int × Int} {p : P2} (h : In s p) : box_Holds.f s.1 s.2.1 s.2.2.1 s.2.2.2 p.f0 p.f1 = some true := by
  obtain ⟨h1, h2, h3, h4⟩ := h
  unfold box_Holds.f; rw [if_pos h1, if_pos h3, if_pos h2, decide_eq_true h4]
theorem Holds_eq {a b c d x y : Int} (h1 : a ≤ x) (h2 : x ≤ c) (h3 : b ≤ y) (h4 : y ≤ d) : box_Holds.f a b c d x y = some true := by
  unfold box_Holds.f; rw [if_pos h1, if_pos h2, if_pos h3, decide_eq_true h4]
theorem hull_keep {a b c d : Int} : ∀ (l : List P2) (s : Int × Int × Int × Int), (∀ p ∈ l, (a ≤ p.f0 ∧ p.f0 ≤ b) ∧ (c ≤ p.f1 ∧ p.f1 ≤ d)) → (a ≤ s.1 ∧ s.1 ≤ b) → (c ≤ s.2.1 ∧ s.2.1 ≤ d) → (a ≤ s.2.2.1 ∧ s.2.2.1 ≤ b) → (c ≤ s.2.2.2 ∧ s.2.2.2 ≤ d) →
    ((a ≤ (hull l s).1 ∧ (hull l s).1 ≤ b) ∧ (c ≤ (hull l s).2.1 ∧ (hull l s).2.1 ≤ d)) ∧ ((a ≤ (hull l s).2.2.1 ∧ (hull l s).2.2.1 ≤ b) ∧ (c ≤ (hull l s).2.2.2 ∧ (hull l s).2.2.2 ≤ d))
  | [], s, _, h1, h2, h3, h4 => ⟨⟨h1, h2⟩, h3, h4⟩
  | p :: l, s, h, h1, h2, h3, h4 => by
    have hp := h p (List.mem_cons_self ..)
    have mnk : ∀ x y lo hi : Int, (lo ≤ x ∧ x ≤ hi) → (lo ≤ y ∧ y ≤ hi) → (lo ≤ mn x y ∧ mn x y ≤ hi) := by intro x y lo hi h h'; unfold mn; split <;> omega
    have mxk : ∀ x y lo hi : Int, (lo ≤ x ∧ x ≤ hi) → (lo ≤ y ∧ y ≤ hi) → (lo ≤ mx x y ∧ mx x y ≤ hi) := by intro x y lo hi h h'; unfold mx; split <;> omega
    rw [hull_cons]
    exact hull_keep l (grow1 s p) (fun q hq => h q (List.mem_cons_of_mem _ hq)) (mnk _ _ _ _ h1 hp.1) (mnk _ _ _ _ h2 hp.2) (mxk _ _ _ _ h3 hp.1) (mxk _ _ _ _ h4 hp.2)
def shft (x y : Int) (s : Int × Int × Int × Int) : Int × Int × Int × Int := (s.1 + x, s.2.1 + y, s.2.2.1 + x, s.2.2.2 + y)
theorem hull_shift (x y : Int) : ∀ (l : List P2) (s : Int × Int × Int × Int), hull (l.map fun p => (⟨p.f0 + x, p.f1 + y⟩ : P2)) (shft x y s) = shft x y (hull l s)
  | [], s => rfl
  | p :: l, s => by
    have e1 : ∀ a b z : Int, mn (a + z) (b + z) = mn a b + z := by intro a b z; unfold mn; split <;> split <;> omega
    have e2 : ∀ a b z : Int, mx (a + z) (b + z) = mx a b + z := by intro a b z; unfold mx; split <;> split <;> omega
    rw [List.map_cons, hull_cons, hull_cons, ← hull_shift x y l (grow1 s p)]
    congr 1
    unfold grow1 shft
    simp only [e1, e2]
theorem corners_eq (l : List P2) (hn : ∀ p ∈ l, Near p) (an : Int) {px py : Int} (hx : -8796093022208 ≤ px ∧ px ≤ 8796093022208) (hy : -8796093022208 ≤ py ∧ py ≤ 8796093022208) :
    corners l px py an = (l.map fun p => (⟨tu (stp an) p.f0 p.f1, tv (stp an) p.f0 p.f1⟩ : P2)).map fun p => (⟨p.f0 + px, p.f1 + py⟩ : P2) := by
  unfold corners
  rw [List.map_map]
  refine List.map_congr_left fun p hp => ?_
  have h := hn p hp
  unfold Near at h
  have hs := stp_b an
  obtain ⟨b1, b2, b3, b4, e1, e2⟩ := turned_b (n := stp an) (x := p.f0) (y := p.f1) hs.1 hs.2 (by omega) (by omega)
  have hl : len p.f0 p.f1 < 281474976710656 := (len_spec (by omega) (by omega) (by omega) (by omega)).2.1
  show placed _ _ _ _ _ = _
  unfold placed
  rw [e1, e2, add_id (by unfold S63; omega) (by unfold S63; omega) (by unfold S63; omega), add_id (by unfold S63; omega) (by unfold S63; omega) (by unfold S63; omega), Int.add_comm px, Int.add_comm py]
  rfl
theorem rd_map {l : List P2} (f : P2 → P2) {i : Nat} (h : i < l.length) : rd_T24 (l.map f) (i : Int) = f (rd_T24 l (i : Int)) := by
  rw [rd_get (by rw [List.length_map]; exact h), rd_get h, List.getElem_map]
theorem m32' (x : Int) : Go.bits .and .i64 x 4294967295 = x % 4294967296 := m32 x
theorem td_mono {a b : Int} (h : a ≤ b) : Int.tdiv a 4294967296 ≤ Int.tdiv b 4294967296 := by
  have t : ∀ x : Int, (0 ≤ x → Int.tdiv x 4294967296 = x / 4294967296) ∧ (x ≤ 0 → Int.tdiv x 4294967296 = -((-x) / 4294967296)) := by
    intro x
    refine ⟨fun h => Int.tdiv_eq_ediv_of_nonneg h, fun h => ?_⟩
    have : x = -(-x) := by omega
    rw [this, Int.neg_tdiv, Int.tdiv_eq_ediv_of_nonneg (by omega), Int.neg_neg]
  have ta := t a; have tb := t b
  rcases Int.le_total 0 a with ha | ha <;> rcases Int.le_total 0 b with hb | hb
  · rw [ta.1 ha, tb.1 hb]; omega
  · rw [ta.1 ha, tb.2 hb]; omega
  · rw [ta.2 ha, tb.1 hb]; omega
  · rw [ta.2 ha, tb.2 hb]; omega
theorem td_neg (a : Int) : Int.tdiv (-a) 4294967296 = -Int.tdiv a 4294967296 := Int.neg_tdiv _ _
theorem mul_td {a b : Int} (ha : -4294967296 ≤ a ∧ a ≤ 4294967296) (hb : -1099511627776 ≤ b ∧ b ≤ 1099511627776) : Ma.mul a b = Int.tdiv (a * b) 4294967296 := by
  have sa : S63 a := by unfold S63; omega
  have sb : S63 b := by unfold S63; omega
  have z := prod_b ha.1 ha.2 hb.1 hb.2
  have z1 := td_mono (a := a * b) (b := 4722366482869645213696) (by omega)
  have z2 := td_mono (a := -4722366482869645213696) (b := a * b) (by omega)
  rw [mul_tdiv sa.i sb.i, wh_id sa, wh_id sb, clamp_id]
  have e1 : Int.tdiv 4722366482869645213696 4294967296 = 1099511627776 := by decide +kernel
  have e2 : Int.tdiv (-4722366482869645213696) 4294967296 = -1099511627776 := by decide +kernel
  rw [e1] at z1; rw [e2] at z2
  unfold S63; omega
theorem tu_td {n x y : Int} (hx : -1099511627776 ≤ x ∧ x ≤ 1099511627776) (hy : -1099511627776 ≤ y ∧ y ≤ 1099511627776) : tu n x y = Int.tdiv (sn (n + 256) * x) 4294967296 - Int.tdiv (sn n * y) 4294967296 := by
  unfold tu; rw [mul_td (sn_b _) hx, mul_td (sn_b _) hy]
theorem tv_td {n x y : Int} (hx : -1099511627776 ≤ x ∧ x ≤ 1099511627776) (hy : -1099511627776 ≤ y ∧ y ≤ 1099511627776) : tv n x y = Int.tdiv (sn n * x) 4294967296 + Int.tdiv (sn (n + 256) * y) 4294967296 := by
  unfold tv; rw [mul_td (sn_b _) hx, mul_td (sn_b _) hy]
theorem tu_le {n x y : Int} (hx : -1099511627776 ≤ x ∧ x ≤ 1099511627776) (hy : -1099511627776 ≤ y ∧ y ≤ 1099511627776) (h : sn (n + 256) * x + -sn n * y ≤ 0) : tu n x y ≤ 0 := by
  rw [tu_td hx hy]; rw [Int.neg_mul] at h; have := td_mono (show sn (n + 256) * x ≤ sn n * y by omega); omega
theorem tu_ge {n x y : Int} (hx : -1099511627776 ≤ x ∧ x ≤ 1099511627776) (hy : -1099511627776 ≤ y ∧ y ≤ 1099511627776) (h : -sn (n + 256) * x + sn n * y ≤ 0) : 0 ≤ tu n x y := by
  rw [tu_td hx hy]; rw [Int.neg_mul] at h; have := td_mono (show sn n * y ≤ sn (n + 256) * x by omega); omega
theorem tv_le {n x y : Int} (hx : -1099511627776 ≤ x ∧ x ≤ 1099511627776) (hy : -1099511627776 ≤ y ∧ y ≤ 1099511627776) (h : sn n * x + sn (n + 256) * y ≤ 0) : tv n x y ≤ 0 := by
  rw [tv_td hx hy]; have := td_mono (show sn n * x ≤ -(sn (n + 256) * y) by omega); rw [td_neg] at this; omega
theorem tv_ge {n x y : Int} (hx : -1099511627776 ≤ x ∧ x ≤ 1099511627776) (hy : -1099511627776 ≤ y ∧ y ≤ 1099511627776) (h : -sn n * x + -sn (n + 256) * y ≤ 0) : 0 ≤ tv n x y := by
  rw [tv_td hx hy]; rw [Int.neg_mul, Int.neg_mul] at h; have := td_mono (show -(sn (n + 256) * y) ≤ sn n * x by omega); rw [td_neg] at this; omega
/-- To each side there is a corner: 0, 0 lies within. -/
def Around (l : List P2) : Prop := ∀ c s : Int, ∃ p, p ∈ l ∧ c * p.f0 + s * p.f1 ≤ 0
theorem tri {x1 y1 x2 y2 x3 y3 : Int} (h1 : 0 ≤ x2 * y3 - y2 * x3) (h2 : 0 ≤ x3 * y1 - y3 * x1) (h3 : 0 ≤ x1 * y2 - y1 * x2) (h : 0 < (x2 * y3 - y2 * x3) + (x3 * y1 - y3 * x1) + (x1 * y2 - y1 * x2)) (c s : Int) :
    c * x1 + s * y1 ≤ 0 ∨ c * x2 + s * y2 ≤ 0 ∨ c * x3 + s * y3 ≤ 0 := by
  have key : (x2 * y3 - y2 * x3) * (c * x1 + s * y1) + (x3 * y1 - y3 * x1) * (c * x2 + s * y2) + (x1 * y2 - y1 * x2) * (c * x3 + s * y3) = 0 := by grind
  generalize x2 * y3 - y2 * x3 = a1 at *
  generalize x3 * y1 - y3 * x1 = a2 at *
  generalize x1 * y2 - y1 * x2 = a3 at *
  generalize c * x1 + s * y1 = b1 at *
  generalize c * x2 + s * y2 = b2 at *
  generalize c * x3 + s * y3 = b3 at *
  by_cases g1 : b1 ≤ 0
  · exact .inl g1
  · by_cases g2 : b2 ≤ 0
    · exact .inr (.inl g2)
    · by_cases g3 : b3 ≤ 0
      · exact .inr (.inr g3)
      · have k1 := Int.mul_nonneg h1 (show 0 ≤ b1 - 1 by omega)
        have k2 := Int.mul_nonneg h2 (show 0 ≤ b2 - 1 by omega)
        have k3 := Int.mul_nonneg h3 (show 0 ≤ b3 - 1 by omega)
        rw [Int.mul_sub, Int.mul_one] at k1 k2 k3
        omega
theorem base_tri : ∀ (m : Fin 6) (tt : Fin 10), ∃ i j k : Fin 8, i.val < 3 + m.val ∧ j.val < 3 + m.val ∧ k.val < 3 + m.val ∧
    (0 ≤ (pick (3 + m.val) tt.val j.val).1 * (pick (3 + m.val) tt.val k.val).2 - (pick (3 + m.val) tt.val j.val).2 * (pick (3 + m.val) tt.val k.val).1 ∧
     0 ≤ (pick (3 + m.val) tt.val k.val).1 * (pick (3 + m.val) tt.val i.val).2 - (pick (3 + m.val) tt.val k.val).2 * (pick (3 + m.val) tt.val i.val).1 ∧
     0 ≤ (pick (3 + m.val) tt.val i.val).1 * (pick (3 + m.val) tt.val j.val).2 - (pick (3 + m.val) tt.val i.val).2 * (pick (3 + m.val) tt.val j.val).1 ∧
     0 < ((pick (3 + m.val) tt.val j.val).1 * (pick (3 + m.val) tt.val k.val).2 - (pick (3 + m.val) tt.val j.val).2 * (pick (3 + m.val) tt.val k.val).1)
       + ((pick (3 + m.val) tt.val k.val).1 * (pick (3 + m.val) tt.val i.val).2 - (pick (3 + m.val) tt.val k.val).2 * (pick (3 + m.val) tt.val i.val).1)
       + ((pick (3 + m.val) tt.val i.val).1 * (pick (3 + m.val) tt.val j.val).2 - (pick (3 + m.val) tt.val i.val).2 * (pick (3 + m.val) tt.val j.val).1)) := by decide +kernel
theorem around_scaled {s : Int} (hs : 0 ≤ s) {m tt : Nat} (h3 : 3 ≤ m) (h8 : m ≤ 8) (ht : tt < 10) : Around (scaled s (base m tt)) := by
  intro c d
  have ok := base_tri ⟨m - 3, by omega⟩ ⟨tt, ht⟩
  simp only [show 3 + (m - 3) = m by omega] at ok
  obtain ⟨i, j, k, hi, hj, hk, o1, o2, o3, o4⟩ := ok
  have fin : ∀ e : Nat, e < m → c * (pick m tt e).1 + d * (pick m tt e).2 ≤ 0 → ∃ p, p ∈ scaled s (base m tt) ∧ c * p.f0 + d * p.f1 ≤ 0 := by
    intro e he h
    refine ⟨⟨(pick m tt e).1 * s, (pick m tt e).2 * s⟩, ?_, ?_⟩
    · simp only [scaled, base, List.map_map, List.mem_map]
      exact ⟨e, List.mem_range.2 he, rfl⟩
    · have g := Int.mul_nonneg (show 0 ≤ -(c * (pick m tt e).1 + d * (pick m tt e).2) by omega) hs
      have e' : c * ((pick m tt e).1 * s) + d * ((pick m tt e).2 * s) = -(-(c * (pick m tt e).1 + d * (pick m tt e).2) * s) := by grind
      simp only
      rw [e']; omega
  rcases tri o1 o2 o3 o4 c d with h | h | h
  · exact fin _ hi h
  · exact fin _ hj h
  · exact fin _ hk h
theorem around_box (w h : Int) : Around (boxPts w h) := by
  intro c s
  rcases Int.le_total (c * w + s * h) 0 with g | g
  · exact ⟨⟨w, h⟩, by simp [boxPts], g⟩
  · refine ⟨⟨-w, -h⟩, by simp [boxPts], ?_⟩
    simp only
    rw [Int.mul_neg, Int.mul_neg]; omega
theorem around_seed (a b c d : Int) (h : (seed a b c d).1 = 2) : Around (seed a b c d).2.2 := by
  unfold seed at h ⊢
  by_cases h0 : a % 4 = 0
  · rw [if_pos h0] at h; exact absurd (show (1 : Int) = 2 from h) (by decide)
  · rw [if_neg h0]
    by_cases h1 : a % 4 = 1
    · rw [if_pos h1]; exact around_box _ _
    · rw [if_neg h1]; exact around_scaled (by omega) (by omega) (by omega) (by omega)
def turnd (n : Int) (l : List P2) : List P2 := l.map fun p => (⟨tu n p.f0 p.f1, tv n p.f0 p.f1⟩ : P2)
theorem zero_in {l : List P2} (hn : ∀ p ∈ l, Near p) (ha : Around l) (n : Int) (s : Int × Int × Int × Int) : (hull (turnd n l) s).1 ≤ 0 ∧ (hull (turnd n l) s).2.1 ≤ 0 ∧ 0 ≤ (hull (turnd n l) s).2.2.1 ∧ 0 ≤ (hull (turnd n l) s).2.2.2 := by
  have m : ∀ p, p ∈ l → In (hull (turnd n l) s) ⟨tu n p.f0 p.f1, tv n p.f0 p.f1⟩ := fun p hp => hull_in _ _ _ (List.mem_map.2 ⟨p, hp, rfl⟩)
  have r : ∀ p, p ∈ l → (-1099511627776 ≤ p.f0 ∧ p.f0 ≤ 1099511627776) ∧ (-1099511627776 ≤ p.f1 ∧ p.f1 ≤ 1099511627776) := by
    intro p hp; have := hn p hp; unfold Near at this; omega
  obtain ⟨p1, q1, g1⟩ := ha (sn (n + 256)) (-sn n)
  obtain ⟨p2, q2, g2⟩ := ha (-sn (n + 256)) (sn n)
  obtain ⟨p3, q3, g3⟩ := ha (sn n) (sn (n + 256))
  obtain ⟨p4, q4, g4⟩ := ha (-sn n) (-sn (n + 256))
  have a1 := m p1 q1; have a2 := m p2 q2; have a3 := m p3 q3; have a4 := m p4 q4
  have b1 := tu_le (r p1 q1).1 (r p1 q1).2 g1
  have b2 := tu_ge (r p2 q2).1 (r p2 q2).2 g2
  have b3 := tv_le (r p3 q3).1 (r p3 q3).2 g3
  have b4 := tv_ge (r p4 q4).1 (r p4 q4).2 g4
  unfold In at a1 a2 a3 a4
  simp only at a1 a2 a3 a4
  omega
def ngp (p : P2) : P2 := ⟨-p.f0, -p.f1⟩
def ngs (s : Int × Int × Int × Int) : Int × Int × Int × Int := (-s.2.2.1, -s.2.2.2, -s.1, -s.2.1)
theorem hull_neg : ∀ (l : List P2) (s : Int × Int × Int × Int), hull (l.map ngp) (ngs s) = ngs (hull l s)
  | [], s => rfl
  | p :: l, s => by
    have e1 : ∀ a b : Int, mn (-a) (-b) = -mx a b := by intro a b; unfold mn mx; split <;> split <;> omega
    have e2 : ∀ a b : Int, mx (-a) (-b) = -mn a b := by intro a b; unfold mn mx; split <;> split <;> omega
    rw [List.map_cons, hull_cons, hull_cons, ← hull_neg l (grow1 s p)]
    congr 1
    unfold grow1 ngs ngp
    simp only [e1, e2]
theorem turnd_half {n n2 : Int} (h : n2 % 1024 = (n + 512) % 1024) (l : List P2) (hn : ∀ p ∈ l, Near p) : turnd n2 l = (turnd n l).map ngp := by
  unfold turnd
  rw [List.map_map]
  refine List.map_congr_left fun p hp => ?_
  have hp := hn p hp
  unfold Near at hp
  have i0 : I64 p.f0 := by unfold I64; omega
  have i1 : I64 p.f1 := by unfold I64; omega
  have e1 : sn n2 = -sn n := by rw [sn_congr h, sn_half]
  have e2 : sn (n2 + 256) = -sn (n + 256) := by rw [sn_congr (show (n2 + 256) % 1024 = (n + 256 + 512) % 1024 by omega), sn_half]
  show _ = ngp _
  unfold ngp tu tv
  rw [e1, e2, Ma.neg_mul (sn_S _) i0, Ma.neg_mul (sn_S _) i1, Ma.neg_mul (sn_S _) i0, Ma.neg_mul (sn_S _) i1]
  simp only
  congr 1 <;> omega
theorem j0_true (k : Nat) (q a b c d e f g h i j : Int) (l : List P2) (p1 p2 p3 p4 q1 q2 q3 q4 : Int) : bagatellelaw06_BoxTurns.j0 (k + 1) q true a b c d e f g h i j l p1 p2 p3 p4 q1 q2 q3 q4 = some ((p1 == q1 && (p2 == q2)) && ((p3 == q3 && (p4 == q4)))) := by
  simp only [bagatellelaw06_BoxTurns.j0]; rfl
theorem BoxTurns : bagatellelaw06_BoxTurns.Pure := by
  intro a b c d x y an q _ _ _ _ _ _ _ wq
  have hq := bounds_u8 wq
  obtain ⟨k, hk⟩ : ∃ k : Nat, k = 1203 := ⟨_, rfl⟩
  refine ⟨k + 1, ?_⟩
  unfold bagatellelaw06_BoxTurns.f
  have hpx := bring_b (a := x) (m := 4294967296000) (by omega)
  have hpy := bring_b (a := y) (m := 4294967296000) (by omega)
  rw [fit_eq (by omega), Option.bind_some, if_pos rfl, Place_eq (by omega), Option.bind_some]
  simp only
  have h0 : 0 ≤ an % 4294967296 ∧ an % 4294967296 < 4294967296 := by omega
  generalize hag : an % 4294967296 = ag at *
  have ae : Go.bits .and .i64 (wrap64 (ag + (wrap64 (Int.tdiv (wrap64 ((wrap64 q) * 4294967296)) 4)))) 4294967295 = (ag + q * 1073741824) % 4294967296 := by
    have e : Int.tdiv (q * 4294967296) 4 = q * 1073741824 := by rw [Int.tdiv_eq_ediv_of_nonneg (by omega)]; omega
    rw [m32', w64 (x := q) (by unfold I64; omega), w64 (x := q * 4294967296) (by unfold I64; omega), e, w64 (x := q * 1073741824) (by unfold I64; omega), w64 (by unfold I64; omega)]
  rw [ae]
  have hst : stp ((ag + q * 1073741824) % 4294967296) % 1024 = (stp ag + 256 * q) % 1024 := by unfold stp; omega
  have hsb := stp_b ag
  have hsc := stp_b ((ag + q * 1073741824) % 4294967296)
  generalize (ag + q * 1073741824) % 4294967296 = ah at *
  have hs := seedy a b c d
  have har := around_seed a b c d
  generalize seed a b c d = S at *
  obtain ⟨kd, r, l⟩ := S
  generalize bring x 4294967296000 = px at *
  generalize bring y 4294967296000 = py at *
  have sx : S63 px := by unfold S63; omega
  have sy : S63 py := by unfold S63; omega
  have hn := hs.near
  rcases hs.kinds with ⟨h1, h2, h3, h4⟩ | ⟨h1, h2, h3, h4⟩
  · simp only at h1 h2 h3 h4 hn ⊢
    subst h1 h2
    have sr : S63 r := by unfold S63; omega
    rw [Of_round (by omega) sx.i sy.i sr.i, Option.bind_some, Of_round (by omega) sx.i sy.i sr.i, Option.bind_some, if_pos rfl, j0_true]
    unfold boxOf
    rw [if_pos rfl, if_pos rfl]
    simp only [beq_self_eq_true, Bool.and_self]
  · simp only at h1 h2 h3 h4 hn har ⊢
    subst h1 h2
    have har := har rfl
    have hw : ∀ p ∈ l, I64 p.f0 ∧ I64 p.f1 := fun p hp => (hn p hp).i
    have hl0 : 0 < l.length := by omega
    have B : ∀ an : Int, ∃ h0 : P2, h0 = rd_T24 (turnd (stp an) l) ((0 : Nat) : Int) ∧ h0 ∈ turnd (stp an) l ∧ boxOf l 0 px py an 2 = shft px py (hull (turnd (stp an) l) (h0.f0, h0.f1, h0.f0, h0.f1)) := by
      intro an
      have hLl : 0 < (turnd (stp an) l).length := by unfold turnd; rw [List.length_map]; exact hl0
      refine ⟨_, rfl, rd_mem hLl, ?_⟩
      have c := corners_eq l hn an (px := px) (py := py) (by omega) (by omega)
      have c' : corners l px py an = (turnd (stp an) l).map fun p => (⟨p.f0 + px, p.f1 + py⟩ : P2) := c
      unfold boxOf
      rw [if_neg (by decide), c', show (0 : Int) = ((0 : Nat) : Int) from rfl, rd_map _ hLl]
      exact hull_shift px py (turnd (stp an) l) ((rd_T24 (turnd (stp an) l) ((0 : Nat) : Int)).f0, (rd_T24 (turnd (stp an) l) ((0 : Nat) : Int)).f1, (rd_T24 (turnd (stp an) l) ((0 : Nat) : Int)).f0, (rd_T24 (turnd (stp an) l) ((0 : Nat) : Int)).f1)
    rw [Of_poly (by omega) sx.i sy.i _ _ _ _ _ _ _ l (by omega) hl0 hw, Option.bind_some, Of_poly (by omega) sx.i sy.i _ _ _ _ _ _ _ l (by omega) hl0 hw, Option.bind_some, if_neg (by decide)]
    have tm : Int.tmod q 4 = q % 4 := Int.tmod_eq_emod_of_nonneg (by omega)
    by_cases g0 : q % 4 = 0
    · have e : stp ah = stp ag := by omega
      have ec : boxOf l 0 px py ah 2 = boxOf l 0 px py ag 2 := by unfold boxOf corners; rw [e]
      rw [show (Int.tmod q 4 == 0) = true by rw [tm, g0]; rfl, j0_true, ec]
      simp only [beq_self_eq_true, Bool.and_self]
    · have gf : (Int.tmod q 4 == 0) = false := by rw [tm]; exact beq_eq_false_iff_ne.2 g0
      obtain ⟨u0, hu0, um, B1⟩ := B ag
      obtain ⟨v0, hv0, vm, B2⟩ := B ah
      have R : ∀ n p, 0 ≤ n → n < 1024 → p ∈ turnd n l → (-72057594037927936 ≤ p.f0 ∧ p.f0 ≤ 72057594037927936) ∧ (-72057594037927936 ≤ p.f1 ∧ p.f1 ≤ 72057594037927936) := by
        intro n p n0 n1 hp
        unfold turnd at hp
        obtain ⟨o, ho, rfl⟩ := List.mem_map.1 hp
        have h := hn o ho
        unfold Near at h
        obtain ⟨b1, b2, b3, b4, _, _⟩ := turned_b (n := n) (x := o.f0) (y := o.f1) n0 n1 (by omega) (by omega)
        have := (len_spec (x := o.f0) (y := o.f1) (by omega) (by omega) (by omega) (by omega)).2.1
        simp only; omega
      have ru := R _ _ hsb.1 hsb.2 um
      have rv := R _ _ hsc.1 hsc.2 vm
      have K1 := hull_keep (turnd (stp ag) l) (u0.f0, u0.f1, u0.f0, u0.f1) (fun p hp => R _ p hsb.1 hsb.2 hp) ru.1 ru.2 ru.1 ru.2
      have K2 := hull_keep (turnd (stp ah) l) (v0.f0, v0.f1, v0.f0, v0.f1) (fun p hp => R _ p hsc.1 hsc.2 hp) rv.1 rv.2 rv.1 rv.2
      rw [gf, B1, B2]
      simp only [bagatellelaw06_BoxTurns.j0]
      rw [if_neg (by decide)]
      by_cases g2 : q % 4 = 2
      · have ht := turnd_half (n := stp ag) (n2 := stp ah) (by omega) l hn
        have hv : v0 = ngp u0 := by
          rw [hv0, hu0, ht]
          refine rd_map ngp ?_
          unfold turnd; rw [List.length_map]; exact hl0
        have hh : hull (turnd (stp ah) l) (v0.f0, v0.f1, v0.f0, v0.f1) = ngs (hull (turnd (stp ag) l) (u0.f0, u0.f1, u0.f0, u0.f1)) := by
          rw [ht, hv]; exact hull_neg (turnd (stp ag) l) (u0.f0, u0.f1, u0.f0, u0.f1)
        rw [hh]
        clear hh ht K2 hv hv0 hu0 B1 B2 B R ru rv um vm
        generalize hull (turnd (stp ag) l) (u0.f0, u0.f1, u0.f0, u0.f1) = H at *
        obtain ⟨H1, H2, H3, H4⟩ := H
        unfold shft ngs
        simp only at K1 ⊢
        have s3 : S63 (H3 + px) := by unfold S63; omega
        have s4 : S63 (H4 + py) := by unfold S63; omega
        have t3 : S63 (-H3 + px) := by unfold S63; omega
        have t4 : S63 (-H4 + py) := by unfold S63; omega
        have d1 : Ma.sub (H3 + px) px = H3 := by rw [sub_id s3 sx (by unfold S63; omega)]; omega
        have d2 : Ma.sub (H4 + py) py = H4 := by rw [sub_id s4 sy (by unfold S63; omega)]; omega
        have d3 : Ma.sub px (-H3 + px) = H3 := by rw [sub_id sx t3 (by unfold S63; omega)]; omega
        have d4 : Ma.sub py (-H4 + py) = H4 := by rw [sub_id sy t4 (by unfold S63; omega)]; omega
        have z : ∀ v : Int, wrap64 (v - v) = 0 := by intro v; rw [Int.sub_self, w64 (by unfold I64; omega)]
        have az : fix_Abs.f 0 = some 0 := by rw [abs_eq (by unfold I64; omega)]; rfl
        rw [if_pos (by rw [tm]; exact g2), vSub_eq (by omega) s3.i s4.i sx.i sy.i, Option.bind_some, vSub_eq (by omega) sx.i sy.i t3.i t4.i, Option.bind_some, d1, d2, d3, d4]
        simp only
        rw [z, az, Option.bind_some, if_pos (by decide), Option.bind_some, Option.bind_some, z, az, Option.bind_some]
        rfl
      · have Z1 := zero_in hn har (stp ag) (u0.f0, u0.f1, u0.f0, u0.f1)
        have Z2 := zero_in hn har (stp ah) (v0.f0, v0.f1, v0.f0, v0.f1)
        generalize hull (turnd (stp ag) l) (u0.f0, u0.f1, u0.f0, u0.f1) = H at *
        generalize hull (turnd (stp ah) l) (v0.f0, v0.f1, v0.f0, v0.f1) = I at *
        unfold shft box_Meet.f
        simp only
        rw [if_neg (by rw [tm]; exact g2), if_pos (by omega), if_pos (by omega), if_pos (by omega), Option.bind_some, decide_eq_true (by omega)]

end Go.Proofs.Ytlbkpfcidpnhgaa.Pure
