/- For every shape of a seed: each side's normal is the way along it, turned to the right, of length one, and no corner lies beyond a side; no condition. -/
import Derived.OpenShut
import Derived.Test.YtbdkcjikphlgfaaPShx10
import Derived.Test.YtbdkcjikphlgfaaPShx8
import Derived.Test.YtbdkcjikphlgfaaPShx9
import Derived.Test.YtbdkcjikphlgfaaSd
import Derived.Test.YtbdkcjikphlgfaaTp
set_option linter.unusedSimpArgs false
set_option linter.unusedVariables false
namespace Go.Proofs.Ytbdkcjikphlgfaa.Pure
open Go.RowKit Go.Proofs.YtbdkcjikphlgfaaW.PrintWords Go.Proofs.YtbdkcjikphlgfaaW.PrintLast Go.Proofs.YtbdkcjikphlgfaaW.PrintMore Go.Proofs.Ytbdkcjikphlgfaa.PSh Go.Proofs.Ytbdkcjikphlgfaa.Ma Go.Proofs.Ytbdkcjikphlgfaa.Fx Go.Proofs.Ytbdkcjikphlgfaa.Dv Go.Proofs.Ytbdkcjikphlgfaa.Vc Go.Proofs.Ytbdkcjikphlgfaa.Tm Go.Proofs.Ytbdkcjikphlgfaa.Ln Go.Proofs.Ytbdkcjikphlgfaa.Sh Go.Proofs.Ytbdkcjikphlgfaa.Tq

theorem fit_eq {k : Nat} (hk : 200 ≤ k) : bagatellelaw04_fit.f k = some true :=
  at_rounds bagatellelaw04_fit.mono hk (by decide +kernel)
theorem nb {a b c d : Int} (h1 : a = c) (h2 : b = d) : ¬ ((!(a == c) || (!(b == d))) = true) := by rw [h1, h2]; simp
def gx (l : List P2) (i : Nat) : Int := (rd_T34 l (i : Int)).f0
def gy (l : List P2) (i : Nat) : Int := (rd_T34 l (i : Int)).f1
def un (a b : Int) : Int × Int × Bool := if len a b = 0 then (0, 0, false) else (Ma.div a (len a b), Ma.div b (len a b), true)
def nrm (l : List P2) (i : Nat) : P2 :=
  ⟨(un (Ma.sub (gy l ((i + 1) % l.length)) (gy l i)) (Ma.neg (Ma.sub (gx l ((i + 1) % l.length)) (gx l i)))).1, (un (Ma.sub (gy l ((i + 1) % l.length)) (gy l i)) (Ma.neg (Ma.sub (gx l ((i + 1) % l.length)) (gx l i)))).2.1⟩
theorem tmod_next {i n : Nat} (h : i < n) (hn : n ≤ 1000) : Int.tmod (wrap64 ((i : Int) + 1)) (n : Int) = (((i + 1) % n : Nat) : Int) := by
  rw [w64 (by unfold I64; omega), Int.tmod_eq_emod_of_nonneg (by omega)]; rfl
theorem normals_loop (l : List P2) (hl : l.length ≤ 1000) (hw : ∀ p ∈ l, I64 p.f0 ∧ I64 p.f1) : ∀ (d i k : Nat) (acc : List P2), i + d = l.length → acc.length = i → d + 200 < k →
    shape_Normals.l0 k l acc l (l.length : Int) (i : Int) = some (acc ++ (List.range' i d).map (nrm l))
  | 0, i, k, acc, h1, h2, h3 => by
    obtain ⟨k, rfl⟩ : ∃ m, k = m + 1 := ⟨k - 1, by omega⟩
    simp only [shape_Normals.l0]; rw [if_neg (by omega)]; simp
  | d + 1, i, k, acc, h1, h2, h3 => by
    obtain ⟨k, rfl⟩ : ∃ m, k = m + 1 := ⟨k - 1, by omega⟩
    have hi : i < l.length := by omega
    have hq : (i + 1) % l.length < l.length := Nat.mod_lt _ (by omega)
    have wi := hw _ (rd_mem hi); have wq := hw _ (rd_mem hq)
    simp only [shape_Normals.l0]
    rw [tmod_next hi hl, if_pos (by omega), if_pos (by omega), if_pos (by omega), if_neg (by omega), if_pos (by omega), if_pos (by omega), vSub_eq (by omega) wq.1 wq.2 wi.1 wi.2, Option.bind_some, neg_eq (sub_i _ _), Option.bind_some, vUnit_eq (by omega) (sub_i _ _) (neg_i (sub_i _ _)), Option.bind_some, if_pos (by omega), w64 (by unfold I64; omega), show ((i : Int) + 1) = ((i + 1 : Nat) : Int) by omega]
    have := normals_loop l hl hw d (i + 1) k (acc ++ [nrm l i]) (by omega) (by simp; omega) (by omega)
    rw [List.range'_succ, List.map_cons]
    rw [List.append_assoc] at this
    exact this
theorem Normals_eq {k : Nat} (hk : 1300 ≤ k) (l : List P2) (hl : l.length ≤ 1000) (hw : ∀ p ∈ l, I64 p.f0 ∧ I64 p.f1) : shape_Normals.f k l = some ((List.range l.length).map (nrm l)) := by
  unfold shape_Normals.f
  have := normals_loop l hl hw l.length 0 k [] (by omega) rfl (by omega)
  rw [List.nil_append, ← List.range_eq_range'] at this; exact this
/-- What is so of the corners that a seed makes. -/
structure Good (l : List P2) : Prop where
  near : ∀ p ∈ l, Near p
  side : ∀ i, i < l.length → (1048576 ≤ gx l ((i + 1) % l.length) - gx l i ∨ gx l ((i + 1) % l.length) - gx l i ≤ -1048576) ∨ (1048576 ≤ gy l ((i + 1) % l.length) - gy l i ∨ gy l ((i + 1) % l.length) - gy l i ≤ -1048576)
  turn : ∀ i j, i < l.length → j < l.length → 0 ≤ (gx l ((i + 1) % l.length) - gx l i) * (gy l j - gy l i) - (gy l ((i + 1) % l.length) - gy l i) * (gx l j - gx l i)
theorem tdiv_near {x n : Int} (hn : 0 < n) : -n < x - n * Int.tdiv x n ∧ x - n * Int.tdiv x n < n := by
  rcases Int.le_total 0 x with h | h
  · rw [Int.tdiv_eq_ediv_of_nonneg h]
    have a := Int.emod_nonneg x (show n ≠ 0 by omega); have b := Int.emod_lt_of_pos x hn
    rw [Int.emod_def] at a b; omega
  · have e : Int.tdiv x n = -((-x) / n) := by
      have : x = -(-x) := by omega
      rw [this, Int.neg_tdiv, Int.tdiv_eq_ediv_of_nonneg (by omega), Int.neg_neg]
    have a := Int.emod_nonneg (-x) (show n ≠ 0 by omega); have b := Int.emod_lt_of_pos (-x) hn
    rw [Int.emod_def] at a b
    rw [e, Int.mul_neg]; omega
theorem div_near {x n : Int} (hx : -1099511627776 ≤ x ∧ x ≤ 1099511627776) (h0 : 900000 ≤ n) (h1 : n < 281474976710656) (h2 : x < n + 92683) (h3 : -x < n + 92683) :
    (-n < x * 4294967296 - n * Ma.div x n ∧ x * 4294967296 - n * Ma.div x n < n) ∧ -17179869184 ≤ Ma.div x n ∧ Ma.div x n ≤ 17179869184 := by
  have t := tdiv_near (x := x * 4294967296) (n := n) (by omega)
  have sn : S63 n := by unfold S63; omega
  have sx : S63 x := by unfold S63; omega
  have b1 : Int.tdiv (x * 4294967296) n ≤ 17179869184 := by
    rcases Int.lt_or_le 17179869184 (Int.tdiv (x * 4294967296) n) with h | h
    · have := Int.mul_le_mul_of_nonneg_left (c := n) (show 17179869184 ≤ Int.tdiv (x * 4294967296) n by omega) (by omega)
      omega
    · exact h
  have b2 : -17179869184 ≤ Int.tdiv (x * 4294967296) n := by
    rcases Int.lt_or_le (Int.tdiv (x * 4294967296) n) (-17179869184) with h | h
    · have := Int.mul_le_mul_of_nonneg_left (c := n) (show Int.tdiv (x * 4294967296) n ≤ -17179869184 by omega) (by omega)
      omega
    · exact h
  rw [div_tdiv sx.i (by omega), wh_id sx, wh_id sn, clamp_id (by unfold S63; omega)]
  exact ⟨t, b2, b1⟩
theorem dot_small {dx dy wx wy n : Int} (h0 : 900000 ≤ n) (h1 : n < 281474976710656) (hdx : -68719476736 ≤ dx ∧ dx ≤ 68719476736) (hdy : -68719476736 ≤ dy ∧ dy ≤ 68719476736)
    (hwx : -68719476736 ≤ wx ∧ wx ≤ 68719476736) (hwy : -68719476736 ≤ wy ∧ wy ≤ 68719476736) (p1 : dy < n + 92683) (p2 : -dy < n + 92683) (p3 : -dx < n + 92683) (p4 : dx < n + 92683)
    (hc : 0 ≤ dx * wy - dy * wx) : dot (Ma.div dy n) (Ma.div (-dx) n) wx wy ≤ 4294967 := by
  obtain ⟨a1, a2, a3⟩ := div_near (x := dy) (n := n) (by omega) h0 h1 p1 p2
  obtain ⟨b1, b2, b3⟩ := div_near (x := -dx) (n := n) (by omega) h0 h1 p3 (by omega)
  generalize Ma.div dy n = u at *
  generalize Ma.div (-dx) n = v at *
  have su : S63 u := by unfold S63; omega
  have sv : S63 v := by unfold S63; omega
  have sx : S63 wx := by unfold S63; omega
  have sy : S63 wy := by unfold S63; omega
  have z1 := prod_b (A := 17179869184) (B := 68719476736) a2 a3 hwx.1 hwx.2
  have z2 := prod_b (A := 17179869184) (B := 68719476736) b2 b3 hwy.1 hwy.2
  have e1 := mul_near su sx (by omega) (by omega)
  have e2 := mul_near sv sy (by omega) (by omega)
  have w1 := mul_s su.i sx.i; have w2 := mul_s sv.i sy.i
  have c1 := prod_b (a := dy * 4294967296 - n * u) (A := n) (b := wx) (B := 68719476736) (by omega) (by omega) hwx.1 hwx.2
  have c2 := prod_b (a := -dx * 4294967296 - n * v) (A := n) (b := wy) (B := 68719476736) (by omega) (by omega) hwy.1 hwy.2
  have key : n * (u * wx + v * wy) = -(4294967296 * (dx * wy - dy * wx)) - (dy * 4294967296 - n * u) * wx - (-dx * 4294967296 - n * v) * wy := by grind
  have fin : u * wx + v * wy ≤ 137438953472 := by
    rcases Int.lt_or_le 137438953472 (u * wx + v * wy) with h | h
    · have := Int.mul_le_mul_of_nonneg_left (c := n) (show 137438953473 ≤ u * wx + v * wy by omega) (by omega)
      generalize n * (u * wx + v * wy) = z at *
      generalize (dy * 4294967296 - n * u) * wx = z3 at *
      generalize (-dx * 4294967296 - n * v) * wy = z4 at *
      generalize dx * wy - dy * wx = z5 at *
      omega
    · exact h
  unfold dot
  generalize u * wx = q1 at *
  generalize v * wy = q2 at *
  rw [add_id w1 w2 (by unfold S63; omega)]
  omega
theorem law_l1 (l : List P2) (hl : l.length ≤ 1000) (hw : ∀ p ∈ l, I64 p.f0 ∧ I64 p.f1) (q : List P2) (kd r ux uy : Int) (hux : I64 ux) (huy : I64 uy) (i : Nat) (hi : i < l.length) (K : Nat)
    (hd : ∀ j, j < l.length → dot ux uy (Ma.sub (gx l j) (gx l i)) (Ma.sub (gy l j) (gy l i)) ≤ 4294967)
    (hnext : ∀ k, K ≤ k → bagatellelaw04_ShapeNormals.l0 k q l (l.length : Int) (((i + 1 : Nat)) : Int) kd r l = some true) : ∀ (d j k : Nat), j + d = l.length → K + d + 100 < k →
    bagatellelaw04_ShapeNormals.l1 k q l (l.length : Int) (i : Int) l (l.length : Int) (j : Int) kd r l (rd_T34 l (i : Int)).f0 (rd_T34 l (i : Int)).f1 ux uy = some true
  | 0, j, k, h1, h2 => by
    obtain ⟨k, rfl⟩ : ∃ m, k = m + 1 := ⟨k - 1, by omega⟩
    simp only [bagatellelaw04_ShapeNormals.l1]
    rw [if_neg (by omega), w64 (by unfold I64; omega), show ((i : Int) + 1) = ((i + 1 : Nat) : Int) by omega]
    exact hnext _ (by omega)
  | d + 1, j, k, h1, h2 => by
    obtain ⟨k, rfl⟩ : ∃ m, k = m + 1 := ⟨k - 1, by omega⟩
    have hj : j < l.length := by omega
    have wi := hw _ (rd_mem hi); have wj := hw _ (rd_mem hj)
    have := hd j hj
    unfold gx gy at this
    simp only [bagatellelaw04_ShapeNormals.l1]
    rw [if_pos (by omega), if_pos (by omega), if_pos (by omega), vSub_eq (by omega) wj.1 wj.2 wi.1 wi.2, Option.bind_some, vDot_eq (by omega) hux huy (sub_i _ _) (sub_i _ _), Option.bind_some, if_neg (by omega), w64 (by unfold I64; omega), show ((j : Int) + 1) = ((j + 1 : Nat) : Int) by omega]
    exact law_l1 l hl hw q kd r ux uy hux huy i hi K hd hnext d (j + 1) k (by omega) (by omega)
theorem rd_range (l : List P2) {i : Nat} (h : i < l.length) : rd_T34 ((List.range l.length).map (nrm l)) (i : Int) = nrm l i := by
  rw [rd_get (by simp; exact h), List.getElem_map, List.getElem_range]
theorem law_l0 (l : List P2) (hl : l.length ≤ 8) (g : Good l) (kd r : Int) : ∀ (d i k : Nat), i + d = l.length → 1400 + 200 * d < k →
    bagatellelaw04_ShapeNormals.l0 k ((List.range l.length).map (nrm l)) l (l.length : Int) (i : Int) kd r l = some true
  | 0, i, k, h1, h2 => by
    obtain ⟨k, rfl⟩ : ∃ m, k = m + 1 := ⟨k - 1, by omega⟩
    simp only [bagatellelaw04_ShapeNormals.l0]
    rw [if_neg (by omega), Normals_eq (by omega) [] (by simp) (by simp), Option.bind_some]; rfl
  | d + 1, i, k, h1, h2 => by
    obtain ⟨k, rfl⟩ : ∃ m, k = m + 1 := ⟨k - 1, by omega⟩
    have hw : ∀ p ∈ l, I64 p.f0 ∧ I64 p.f1 := fun p hp => (g.near p hp).i
    have hi : i < l.length := by omega
    have hq : (i + 1) % l.length < l.length := Nat.mod_lt _ (by omega)
    have wi := hw _ (rd_mem hi); have wq := hw _ (rd_mem hq)
    have ni := g.near _ (rd_mem hi); have nq := g.near _ (rd_mem hq)
    have ex : ∀ {a b : Int}, (-17448304640 ≤ a ∧ a ≤ 17448304640) → (-17448304640 ≤ b ∧ b ≤ 17448304640) → Ma.sub a b = a - b := fun ha hb => sub_id (by unfold S63; omega) (by unfold S63; omega) (by unfold S63; omega)
    unfold Near at ni nq
    have dxe := ex ⟨nq.1, nq.2.1⟩ ⟨ni.1, ni.2.1⟩
    have dye := ex ⟨nq.2.2.1, nq.2.2.2⟩ ⟨ni.2.2.1, ni.2.2.2⟩
    have sd := g.side i hi
    have tn := g.turn i
    simp only [bagatellelaw04_ShapeNormals.l0]
    rw [tmod_next hi (by omega), if_pos (by omega), if_pos (by omega), if_pos (by omega), if_neg (by omega), if_pos (by omega), if_pos (by omega), vSub_eq (by omega) wq.1 wq.2 wi.1 wi.2, Option.bind_some]
    simp only
    have ng : wrap64 (-(Ma.sub (rd_T34 l (((i + 1) % l.length : Nat) : Int)).f0 (rd_T34 l (i : Int)).f0)) = Ma.neg (Ma.sub (rd_T34 l (((i + 1) % l.length : Nat) : Int)).f0 (rd_T34 l (i : Int)).f0) := by
      rw [dxe, neg_id (by unfold S63; omega), w64 (by unfold I64; omega)]
    rw [ng, vUnit_eq (by omega) (sub_i _ _) (neg_i (sub_i _ _)), Option.bind_some]
    have hN := rd_range l hi
    obtain ⟨P, hP⟩ : ∃ P, P = nrm l i := ⟨_, rfl⟩
    rw [← hP] at hN
    unfold nrm un gx gy at hP
    have negd : Ma.neg (Ma.sub (rd_T34 l (((i + 1) % l.length : Nat) : Int)).f0 (rd_T34 l (i : Int)).f0) = -((rd_T34 l (((i + 1) % l.length : Nat) : Int)).f0 - (rd_T34 l (i : Int)).f0) := by
      rw [dxe, neg_id (by unfold S63; omega)]
    rw [negd, dye] at hP ⊢
    unfold gx gy at sd
    have tn' : ∀ j, j < l.length → 0 ≤ ((rd_T34 l (((i + 1) % l.length : Nat) : Int)).f0 - (rd_T34 l (i : Int)).f0) * (gy l j - gy l i) - ((rd_T34 l (((i + 1) % l.length : Nat) : Int)).f1 - (rd_T34 l (i : Int)).f1) * (gx l j - gx l i) := fun j hj => tn j hi hj
    have vdx : -68719476736 ≤ (rd_T34 l (((i + 1) % l.length : Nat) : Int)).f0 - (rd_T34 l (i : Int)).f0 ∧ (rd_T34 l (((i + 1) % l.length : Nat) : Int)).f0 - (rd_T34 l (i : Int)).f0 ≤ 68719476736 := by omega
    have vdy : -68719476736 ≤ (rd_T34 l (((i + 1) % l.length : Nat) : Int)).f1 - (rd_T34 l (i : Int)).f1 ∧ (rd_T34 l (((i + 1) % l.length : Nat) : Int)).f1 - (rd_T34 l (i : Int)).f1 ≤ 68719476736 := by omega
    clear dxe dye negd ng tn
    generalize (rd_T34 l (((i + 1) % l.length : Nat) : Int)).f0 - (rd_T34 l (i : Int)).f0 = dx at *
    generalize (rd_T34 l (((i + 1) % l.length : Nat) : Int)).f1 - (rd_T34 l (i : Int)).f1 = dy at *
    obtain ⟨n0, n1, _, _⟩ := len_spec (x := dy) (y := -dx) (by omega) (by omega) (by omega) (by omega)
    obtain ⟨g1, g2, g3, g4⟩ := part_up (x := dy) (y := -dx) (by omega) (by omega) (by omega) (by omega)
    have nb0 : 900000 ≤ len dy (-dx) := by omega
    rw [if_neg (show ¬ len dy (-dx) = 0 by omega)] at hP ⊢
    have su := div_s (a := dy) (b := len dy (-dx)) (by unfold I64; omega) (by unfold I64; omega)
    have sv := div_s (a := -dx) (b := len dy (-dx)) (by unfold I64; omega) (by unfold I64; omega)
    have hd : ∀ j, j < l.length → dot (Ma.div dy (len dy (-dx))) (Ma.div (-dx) (len dy (-dx))) (Ma.sub (gx l j) (gx l i)) (Ma.sub (gy l j) (gy l i)) ≤ 4294967 := by
      intro j hj
      have nj := g.near _ (rd_mem hj)
      unfold Near at nj
      have x1 : Ma.sub (gx l j) (gx l i) = gx l j - gx l i := ex ⟨nj.1, nj.2.1⟩ ⟨ni.1, ni.2.1⟩
      have x2 : Ma.sub (gy l j) (gy l i) = gy l j - gy l i := ex ⟨nj.2.2.1, nj.2.2.2⟩ ⟨ni.2.2.1, ni.2.2.2⟩
      have b1 : -68719476736 ≤ gx l j - gx l i ∧ gx l j - gx l i ≤ 68719476736 := by unfold gx; omega
      have b2 : -68719476736 ≤ gy l j - gy l i ∧ gy l j - gy l i ≤ 68719476736 := by unfold gy; omega
      rw [x1, x2]
      exact dot_small nb0 n1 vdx vdy b1 b2 g1 g2 (by omega) (by omega) (tn' j hj)
    rw [if_pos rfl, if_pos (by simp; exact hi), hN, hP]
    refine (if_neg (nb rfl rfl)).trans ?_
    exact law_l1 l (by omega) hw _ kd r _ _ su.i sv.i i hi (1401 + 200 * d) hd (fun k hk => law_l0 l hl g kd r d (i + 1) k (by omega) (by omega)) l.length 0 k (by omega) (by omega)
theorem good_nil : Good [] := ⟨fun p h => by simp at h, fun i h => absurd h (Nat.not_lt_zero i), fun i j h _ => absurd h (Nat.not_lt_zero i)⟩
theorem nn_of {e p : Int} (hp : 0 ≤ p) (h : e = 0 ∨ e = 4 * p) : 0 ≤ e := by omega
theorem good_box {w h : Int} (hw : 1048576 ≤ w) (hh : 1048576 ≤ h) (hn : ∀ p ∈ boxPts w h, Near p) : Good (boxPts w h) := by
  have e0 : gx (boxPts w h) 0 = -w ∧ gy (boxPts w h) 0 = -h := ⟨rfl, rfl⟩
  have e1 : gx (boxPts w h) 1 = w ∧ gy (boxPts w h) 1 = -h := ⟨rfl, rfl⟩
  have e2 : gx (boxPts w h) 2 = w ∧ gy (boxPts w h) 2 = h := ⟨rfl, rfl⟩
  have e3 : gx (boxPts w h) 3 = -w ∧ gy (boxPts w h) 3 = h := ⟨rfl, rfl⟩
  have hl : (boxPts w h).length = 4 := rfl
  have p := Int.mul_nonneg (show 0 ≤ w by omega) (show 0 ≤ h by omega)
  refine ⟨hn, ?_, ?_⟩
  · intro i hi
    rw [hl] at hi ⊢
    have hi' : i = 0 ∨ i = 1 ∨ i = 2 ∨ i = 3 := by omega
    rcases hi' with rfl | rfl | rfl | rfl <;> simp only [show (0 + 1) % 4 = 1 from rfl, show (1 + 1) % 4 = 2 from rfl, show (2 + 1) % 4 = 3 from rfl, show (3 + 1) % 4 = 0 from rfl, e0, e1, e2, e3] <;> omega
  · intro i j hi hj
    rw [hl] at hi hj ⊢
    have hi' : i = 0 ∨ i = 1 ∨ i = 2 ∨ i = 3 := by omega
    have hj' : j = 0 ∨ j = 1 ∨ j = 2 ∨ j = 3 := by omega
    rcases hi' with rfl | rfl | rfl | rfl <;> rcases hj' with rfl | rfl | rfl | rfl <;> simp only [show (0 + 1) % 4 = 1 from rfl, show (1 + 1) % 4 = 2 from rfl, show (2 + 1) % 4 = 3 from rfl, show (3 + 1) % 4 = 0 from rfl, e0, e1, e2, e3] <;> (refine nn_of p ?_; first | exact .inl (by grind) | exact .inr (by grind))
theorem base_ok : ∀ (m : Fin 6) (tt : Fin 10) (i j : Fin 8), i.val < 3 + m.val → j.val < 3 + m.val →
    (0 ≤ ((pick (3 + m.val) tt.val ((i.val + 1) % (3 + m.val))).1 - (pick (3 + m.val) tt.val i.val).1) * ((pick (3 + m.val) tt.val j.val).2 - (pick (3 + m.val) tt.val i.val).2) - ((pick (3 + m.val) tt.val ((i.val + 1) % (3 + m.val))).2 - (pick (3 + m.val) tt.val i.val).2) * ((pick (3 + m.val) tt.val j.val).1 - (pick (3 + m.val) tt.val i.val).1))
    ∧ ((pick (3 + m.val) tt.val ((i.val + 1) % (3 + m.val))).1 ≠ (pick (3 + m.val) tt.val i.val).1 ∨ (pick (3 + m.val) tt.val ((i.val + 1) % (3 + m.val))).2 ≠ (pick (3 + m.val) tt.val i.val).2) := by decide +kernel
theorem scaled_len (s : Int) (m tt : Nat) : (scaled s (base m tt)).length = m := by simp [scaled, base]
theorem scaled_get (s : Int) (m tt : Nat) {i : Nat} (h : i < m) : rd_T34 (scaled s (base m tt)) (i : Int) = ⟨(pick m tt i).1 * s, (pick m tt i).2 * s⟩ := by
  rw [rd_get (by rw [scaled_len]; exact h)]; simp [scaled, base]
theorem far_side {a b s : Int} (hs : 1048576 ≤ s) (h : a ≠ b) : 1048576 ≤ a * s - b * s ∨ a * s - b * s ≤ -1048576 := by
  rw [← Int.sub_mul]
  rcases Int.lt_or_le (a - b) 0 with h' | h'
  · right
    have := Int.mul_le_mul_of_nonneg_right (show a - b ≤ -1 by omega) (show 0 ≤ s by omega); omega
  · left
    have := Int.mul_le_mul_of_nonneg_right (show 1 ≤ a - b by omega) (show 0 ≤ s by omega); omega
theorem good_scaled {s : Int} (hs : 1048576 ≤ s) {m tt : Nat} (h3 : 3 ≤ m) (h8 : m ≤ 8) (ht : tt < 10) (hn : ∀ p ∈ scaled s (base m tt), Near p) : Good (scaled s (base m tt)) := by
  have ok := fun i j (hi : i < m) (hj : j < m) => base_ok ⟨m - 3, by omega⟩ ⟨tt, ht⟩ ⟨i, by omega⟩ ⟨j, by omega⟩ (by simp only; omega) (by simp only; omega)
  have em : 3 + (m - 3) = m := by omega
  simp only [em] at ok
  refine ⟨hn, ?_, ?_⟩
  · intro i hi
    rw [scaled_len] at hi ⊢
    have hq : (i + 1) % m < m := Nat.mod_lt _ (by omega)
    have := (ok i i hi hi).2
    unfold gx gy
    rw [scaled_get s m tt hi, scaled_get s m tt hq]
    rcases this with h | h
    · exact .inl (far_side hs h)
    · exact .inr (far_side hs h)
  · intro i j hi hj
    rw [scaled_len] at hi hj ⊢
    have hq : (i + 1) % m < m := Nat.mod_lt _ (by omega)
    have := (ok i j hi hj).1
    unfold gx gy
    rw [scaled_get s m tt hi, scaled_get s m tt hq, scaled_get s m tt hj]
    simp only
    generalize (pick m tt ((i + 1) % m)) = q at *
    generalize (pick m tt i) = p at *
    generalize (pick m tt j) = o at *
    have e : (q.1 * s - p.1 * s) * (o.2 * s - p.2 * s) - (q.2 * s - p.2 * s) * (o.1 * s - p.1 * s) = ((q.1 - p.1) * (o.2 - p.2) - (q.2 - p.2) * (o.1 - p.1)) * (s * s) := by grind
    rw [e]
    exact Int.mul_nonneg this (Int.mul_nonneg (by omega) (by omega))
theorem good_seed (a b c d : Int) : Good (seed a b c d).2.2 := by
  have hn := (seedy a b c d).near
  unfold seed at hn ⊢
  by_cases h0 : a % 4 = 0
  · rw [if_pos h0]; exact good_nil
  · rw [if_neg h0] at hn ⊢
    by_cases h1 : a % 4 = 1
    · rw [if_pos h1] at hn ⊢
      exact good_box (by omega) (by omega) hn
    · rw [if_neg h1] at hn ⊢
      exact good_scaled (by omega) (by omega) (by omega) (by omega) hn
theorem ShapeNormals : bagatellelaw04_ShapeNormals.Pure := by
  intro a b c d _ _ _ _
  refine ⟨3203, ?_⟩
  unfold bagatellelaw04_ShapeNormals.f
  rw [fit_eq (by omega), Option.bind_some, if_pos rfl, Seed_eq (by omega), Option.bind_some]
  have hs := seedy a b c d
  have hg := good_seed a b c d
  generalize seed a b c d = S at *
  obtain ⟨kd, r, l⟩ := S
  have hn := hs.near
  have hl : l.length ≤ 8 := by
    rcases hs.kinds with ⟨_, h2, _, _⟩ | ⟨_, _, _, h4⟩
    · simp only at h2; rw [h2]; simp
    · exact h4
  simp only at hn hg ⊢
  rw [Normals_eq (by omega) l (by omega) (fun p hp => (hn p hp).i), Option.bind_some, if_pos (by simp)]
  exact law_l0 l hl hg kd r l.length 0 3203 (by omega) (by omega)

end Go.Proofs.Ytbdkcjikphlgfaa.Pure
