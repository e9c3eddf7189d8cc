/- ShapeRights: seeds are right; the law's own fit; what the law gives. -/
import Derived.Test.YtbdkcjikphlgfaaYSe
import Derived.Test.YtbdkcjikphlgfaaYRl
import Derived.Test.YtbdkcjikphlgfaaYDv
import Derived.OpenShut
namespace Go.Proofs.Ytbdkcjikphlgfaa.Y
open Go Go.RowKit Go.Proofs.Ytbdkcjikphlgfaa.E Go.Proofs.Ytbdkcjikphlgfaa.Ma Go.Proofs.Ytbdkcjikphlgfaa.Fw
set_option linter.unusedVariables false
set_option linter.unusedSimpArgs false

/-- A product of multiples of s, when s times s is t whole ones. -/
theorem mul_ex {s t : Int} (hs : s * s = 4294967296 * t) (ht : 0 ≤ t) (a b : Int) (ha : S63 (a * s)) (hb : S63 (b * s)) (h : S63 (a * b * t)) : mul (a * s) (b * s) = a * b * t := by
  have e : Ma.abs (a * s) * Ma.abs (b * s) = 4294967296 * (if a * s < 0 then (if b * s < 0 then a * b * t else -(a * b * t)) else (if b * s < 0 then -(a * b * t) else a * b * t)) := by
    unfold Ma.abs
    rw [neg_id ha, neg_id hb]
    have k : a * s * (b * s) = 4294967296 * (a * b * t) := by
      have : a * s * (b * s) = a * b * (s * s) := by grind
      rw [this, hs]; grind
    repeat' split
    all_goals (first | rw [Int.neg_mul_neg] | rw [Int.neg_mul] | rw [Int.mul_neg] | skip)
    all_goals rw [k]
    all_goals omega
  have n : 0 ≤ Ma.abs (a * s) * Ma.abs (b * s) := Int.mul_nonneg (abs_s ha.i).1 (abs_s hb.i).1
  unfold mul
  rw [e] at n ⊢
  rw [Int.mul_ediv_cancel_left _ (by omega)]
  unfold sgn sg top
  unfold S63 at h
  by_cases h1 : a * s < 0 <;> by_cases h2 : b * s < 0 <;> simp only [h1, h2, if_true, if_false, decide_true, decide_false] at n ⊢ <;> simp <;> (repeat' split) <;> omega
theorem cr_ex {s t : Int} (hs : s * s = 4294967296 * t) (ht : 0 ≤ t) (a b c d : Int) (ha : S63 (a * s)) (hb : S63 (b * s)) (hc : S63 (c * s)) (hd : S63 (d * s)) (h1 : S63 (a * d * t)) (h2 : S63 (b * c * t)) (h3 : S63 ((a * d - b * c) * t)) :
    cross (a * s, b * s) (c * s, d * s) = (a * d - b * c) * t := by
  unfold cross
  simp only
  rw [mul_ex hs ht _ _ ha hd h1, mul_ex hs ht _ _ hb hc h2, sub_id h1 h2 (by rw [← Int.sub_mul]; exact h3), Int.sub_mul]
theorem sub_near {p q : P2} (hp : Near p) (hq : Near q) : vsub p q = (p.1 - q.1, p.2 - q.2) := by
  unfold Near at hp hq
  unfold vsub
  rw [sub_id (by unfold S63; omega) (by unfold S63; omega) (by unfold S63; omega), sub_id (by unfold S63; omega) (by unfold S63; omega) (by unfold S63; omega)]

/-- The way of corners, in small numbers. -/
def turnOf (p q r : P2) : Int := (q.1 - p.1) * (r.2 - p.2) - (q.2 - p.2) * (r.1 - p.1)
theorem ring_turn : ∀ m : Fin 9, 3 ≤ m.val → ∀ tt : Fin 10, ∀ i : Fin m.val, ∀ j : Fin m.val, j.val ≠ i.val → j.val ≠ (i.val + 1) % m.val →
    0 < turnOf (pick m.val tt.val i.val) (pick m.val tt.val ((i.val + 1) % m.val)) (pick m.val tt.val j.val) := by decide +kernel
theorem small_b {x y A B : Int} (hA : 0 ≤ A) (hB : 0 ≤ B) (h1 : -A ≤ x) (h2 : x ≤ A) (h3 : -B ≤ y) (h4 : y ≤ B) : -(A * B) ≤ x * y ∧ x * y ≤ A * B := by
  have a := Int.mul_nonneg (show 0 ≤ A - x by omega) (show 0 ≤ B - y by omega)
  have b := Int.mul_nonneg (show 0 ≤ A + x by omega) (show 0 ≤ B + y by omega)
  have c := Int.mul_nonneg (show 0 ≤ A - x by omega) (show 0 ≤ B + y by omega)
  have d := Int.mul_nonneg (show 0 ≤ A + x by omega) (show 0 ≤ B - y by omega)
  have e1 : (A - x) * (B - y) = A * B - A * y - x * B + x * y := by grind
  have e2 : (A + x) * (B + y) = A * B + A * y + x * B + x * y := by grind
  have e3 : (A - x) * (B + y) = A * B + A * y - x * B - x * y := by grind
  have e4 : (A + x) * (B - y) = A * B - A * y + x * B - x * y := by grind
  rw [e1] at a; rw [e2] at b; rw [e3] at c; rw [e4] at d
  omega
theorem seed_ring {a b c d : Int} (h0 : a % 4 ≠ 0) (h1 : a % 4 ≠ 1) (i j : Nat) (hi : i < seedN a b) (hj : j < seedN a b) (hji : j ≠ i) (hjq : j ≠ (i + 1) % seedN a b) : 0 < cr (seedPt a b c d) i ((i + 1) % seedN a b) j := by
  have hn : seedN a b = (3 + b % 256 % 6).toNat := by unfold seedN; rw [if_neg h0, if_neg h1]
  have hq : (i + 1) % seedN a b < seedN a b := Nat.mod_lt _ (by omega)
  have ni := seed_near a b c d i hi
  have nj := seed_near a b c d j hj
  have nq := seed_near a b c d _ hq
  unfold cr
  rw [sub_near nq ni, sub_near nj ni]
  have hm3 : 3 ≤ seedN a b := by omega
  have hm9 : seedN a b < 9 := by omega
  have ht : (d % 256 % 10).toNat < 10 := by omega
  have T := ring_turn ⟨seedN a b, hm9⟩ hm3 ⟨(d % 256 % 10).toNat, ht⟩ ⟨i, hi⟩ ⟨j, hj⟩ hji hjq
  have e : ∀ k, seedPt a b c d k = ((pick (seedN a b) (d % 256 % 10).toNat k).1 * (1 + c % 64) * 4194304, (pick (seedN a b) (d % 256 % 10).toNat k).2 * (1 + c % 64) * 4194304) := fun k => by
    unfold seedPt; rw [if_neg h1, hn, Int.mul_assoc, Int.mul_assoc]
  rw [e, e, e]
  have pi := pick_b (seedN a b) (d % 256 % 10).toNat i
  have pj := pick_b (seedN a b) (d % 256 % 10).toNat j
  have pq := pick_b (seedN a b) (d % 256 % 10).toNat ((i + 1) % seedN a b)
  simp only at T ⊢
  unfold turnOf at T
  generalize pick (seedN a b) (d % 256 % 10).toNat i = p at *
  generalize pick (seedN a b) (d % 256 % 10).toNat j = r at *
  generalize pick (seedN a b) (d % 256 % 10).toNat ((i + 1) % seedN a b) = q at *
  have hk : 1 ≤ 1 + c % 64 ∧ 1 + c % 64 ≤ 64 := by omega
  generalize 1 + c % 64 = k at *
  have f : ∀ x y : Int, x * k * 4194304 - y * k * 4194304 = (x - y) * k * 4194304 := fun x y => by grind
  rw [f, f, f, f]
  have b1 : -130 ≤ q.1 - p.1 ∧ q.1 - p.1 ≤ 130 := by omega
  have b2 : -130 ≤ q.2 - p.2 ∧ q.2 - p.2 ≤ 130 := by omega
  have b3 : -130 ≤ r.1 - p.1 ∧ r.1 - p.1 ≤ 130 := by omega
  have b4 : -130 ≤ r.2 - p.2 ∧ r.2 - p.2 ≤ 130 := by omega
  generalize q.1 - p.1 = x1 at *
  generalize q.2 - p.2 = x2 at *
  generalize r.1 - p.1 = y1 at *
  generalize r.2 - p.2 = y2 at *
  have c1 := small_b (A := 130) (B := 64) (by omega) (by omega) b1.1 b1.2 (show -64 ≤ k by omega) hk.2
  have c2 := small_b (A := 130) (B := 64) (by omega) (by omega) b2.1 b2.2 (show -64 ≤ k by omega) hk.2
  have c3 := small_b (A := 130) (B := 64) (by omega) (by omega) b3.1 b3.2 (show -64 ≤ k by omega) hk.2
  have c4 := small_b (A := 130) (B := 64) (by omega) (by omega) b4.1 b4.2 (show -64 ≤ k by omega) hk.2
  have d1 := small_b (A := 8320) (B := 8320) (by omega) (by omega) (by omega) (by omega) (by omega) (by omega) (x := x1 * k) (y := y2 * k)
  have d2 := small_b (A := 8320) (B := 8320) (by omega) (by omega) (by omega) (by omega) (by omega) (by omega) (x := x2 * k) (y := y1 * k)
  rw [cr_ex (s := 4194304) (t := 4096) (by omega) (by omega) (x1 * k) (x2 * k) (y1 * k) (y2 * k) (by unfold S63; omega) (by unfold S63; omega) (by unfold S63; omega) (by unfold S63; omega) (by unfold S63; omega) (by unfold S63; omega) (by unfold S63; omega)]
  have e : x1 * k * (y2 * k) - x2 * k * (y1 * k) = (x1 * y2 - x2 * y1) * (k * k) := by grind
  have kk : 0 < k * k := Int.mul_pos (by omega) (by omega)
  rw [e]
  exact Int.mul_pos (Int.mul_pos T kk) (by omega)
theorem box_turn : ∀ i j : Fin 4, j.val ≠ i.val → j.val ≠ (i.val + 1) % 4 → 0 < turnOf ((boxPts 1 1).getD i.val (0, 0)) ((boxPts 1 1).getD ((i.val + 1) % 4) (0, 0)) ((boxPts 1 1).getD j.val (0, 0)) := by decide
theorem box_cr {u v : Int} (hu : 1 ≤ u ∧ u ≤ 64) (hv : 1 ≤ v ∧ v ≤ 64) (g : Nat → P2) (hg : ∀ i, i < 4 → g i = (boxPts (u * 268435456) (v * 268435456)).getD i (0, 0)) (i j : Nat) (hi : i < 4) (hj : j < 4) (hji : j ≠ i) (hjq : j ≠ (i + 1) % 4) :
    0 < cr g i ((i + 1) % 4) j := by
  have hq : (i + 1) % 4 < 4 := Nat.mod_lt _ (by omega)
  have near : ∀ k, k < 4 → Near (g k) := fun k hk => by
    rw [hg k hk]
    have : k = 0 ∨ k = 1 ∨ k = 2 ∨ k = 3 := by omega
    rcases this with rfl | rfl | rfl | rfl <;> simp [boxPts, Near] <;> omega
  unfold cr
  rw [sub_near (near _ hq) (near _ hi), sub_near (near _ hj) (near _ hi), hg _ hi, hg _ hj, hg _ hq]
  have pos : 0 < u * v := Int.mul_pos (by omega) (by omega)
  have bd := small_b (A := 64) (B := 64) (x := u) (y := v) (by omega) (by omega) (by omega) (by omega) (by omega) (by omega)
  have key : ∀ x1 x2 y1 y2 : Int, -2 ≤ x1 → x1 ≤ 2 → -2 ≤ x2 → x2 ≤ 2 → -2 ≤ y1 → y1 ≤ 2 → -2 ≤ y2 → y2 ≤ 2 → 0 < x1 * y2 - x2 * y1 →
      0 < cross (x1 * u * 268435456, x2 * v * 268435456) (y1 * u * 268435456, y2 * v * 268435456) := by
    intro x1 x2 y1 y2 a1 a2 a3 a4 a5 a6 a7 a8 hp
    have c1 := small_b (A := 2) (B := 64) (by omega) (by omega) a1 a2 (show -64 ≤ u by omega) hu.2
    have c2 := small_b (A := 2) (B := 64) (by omega) (by omega) a3 a4 (show -64 ≤ v by omega) hv.2
    have c3 := small_b (A := 2) (B := 64) (by omega) (by omega) a5 a6 (show -64 ≤ u by omega) hu.2
    have c4 := small_b (A := 2) (B := 64) (by omega) (by omega) a7 a8 (show -64 ≤ v by omega) hv.2
    have d1 := small_b (A := 128) (B := 128) (by omega) (by omega) (by omega) (by omega) (by omega) (by omega) (x := x1 * u) (y := y2 * v)
    have d2 := small_b (A := 128) (B := 128) (by omega) (by omega) (by omega) (by omega) (by omega) (by omega) (x := x2 * v) (y := y1 * u)
    rw [cr_ex (s := 268435456) (t := 16777216) (by omega) (by omega) (x1 * u) (x2 * v) (y1 * u) (y2 * v) (by unfold S63; omega) (by unfold S63; omega) (by unfold S63; omega) (by unfold S63; omega) (by unfold S63; omega) (by unfold S63; omega) (by unfold S63; omega)]
    have e : x1 * u * (y2 * v) - x2 * v * (y1 * u) = (x1 * y2 - x2 * y1) * (u * v) := by grind
    rw [e]
    exact Int.mul_pos (Int.mul_pos hp pos) (by omega)
  have sm : ∀ k, k < 4 → ∃ x y : Int, -1 ≤ x ∧ x ≤ 1 ∧ -1 ≤ y ∧ y ≤ 1 ∧ (boxPts 1 1).getD k (0, 0) = (x, y) ∧ (boxPts (u * 268435456) (v * 268435456)).getD k (0, 0) = (x * u * 268435456, y * v * 268435456) := fun k hk => by
    have : k = 0 ∨ k = 1 ∨ k = 2 ∨ k = 3 := by omega
    rcases this with rfl | rfl | rfl | rfl
    · exact ⟨-1, -1, by omega, by omega, by omega, by omega, rfl, by simp [boxPts, Int.neg_mul]⟩
    · exact ⟨1, -1, by omega, by omega, by omega, by omega, rfl, by simp [boxPts, Int.neg_mul]⟩
    · exact ⟨1, 1, by omega, by omega, by omega, by omega, rfl, by simp [boxPts, Int.neg_mul]⟩
    · exact ⟨-1, 1, by omega, by omega, by omega, by omega, rfl, by simp [boxPts, Int.neg_mul]⟩
  have T := box_turn ⟨i, hi⟩ ⟨j, hj⟩ hji hjq
  simp only at T
  obtain ⟨xi, yi, i1, i2, i3, i4, i5, i6⟩ := sm i hi
  obtain ⟨xj, yj, j1, j2, j3, j4, j5, j6⟩ := sm j hj
  obtain ⟨xq, yq, q1, q2, q3, q4, q5, q6⟩ := sm _ hq
  rw [i5, j5, q5] at T
  rw [i6, j6, q6]
  unfold turnOf at T
  simp only at T ⊢
  have f : ∀ x y k : Int, x * k * 268435456 - y * k * 268435456 = (x - y) * k * 268435456 := fun x y k => by grind
  rw [f, f, f, f]
  exact key _ _ _ _ (by omega) (by omega) (by omega) (by omega) (by omega) (by omega) (by omega) (by omega) T
theorem box_poly {u v : Int} (hu : 1 ≤ u ∧ u ≤ 64) (hv : 1 ≤ v ∧ v ≤ 64) (g : Nat → P2) (hg : ∀ i, i < 4 → g i = (boxPts (u * 268435456) (v * 268435456)).getD i (0, 0)) : PolyOk 4 g := fun i hi =>
  ⟨by
    rw [hg i hi]
    have : i = 0 ∨ i = 1 ∨ i = 2 ∨ i = 3 := by omega
    rcases this with rfl | rfl | rfl | rfl <;> simp [boxPts, Fit2] <;> omega, fun j hj h1 h2 => box_cr hu hv g hg i j hi hj h1 h2⟩
theorem polyOk_congr {n : Nat} {g h : Nat → P2} (e : ∀ i, i < n → g i = h i) (hp : PolyOk n h) : PolyOk n g := fun i hi => by
  obtain ⟨h1, h2⟩ := hp i hi
  refine ⟨by rw [e i hi]; exact h1, fun j hj a b => ?_⟩
  have := h2 j hj a b
  unfold cr at this ⊢
  rw [e i hi, e j hj, e _ (Nat.mod_lt _ (by omega))]
  exact this
theorem seed_right (a b c d : Int) : RightP (seedKd a) (seedR a c) (seedN a b) (seedPt a b c d) := by
  unfold RightP
  by_cases h0 : a % 4 = 0
  · have e1 : seedKd a = 1 := by unfold seedKd; rw [if_pos h0]
    have e2 : seedR a c = (1 + c % 64) * 268435456 := by unfold seedR; rw [if_pos h0]
    have e3 : seedN a b = 0 := by unfold seedN; rw [if_pos h0]
    rw [e1, e2, e3, if_pos rfl]; omega
  · have e1 : seedKd a = 2 := by unfold seedKd; rw [if_neg h0]
    have e2 : seedR a c = 0 := by unfold seedR; rw [if_neg h0]
    rw [e1, e2, if_neg (by omega)]
    by_cases h1 : a % 4 = 1
    · have e3 : seedN a b = 4 := by unfold seedN; rw [if_neg h0, if_pos h1]
      rw [e3]
      refine ⟨rfl, rfl, by omega, by omega, box_poly (u := 1 + c % 64) (v := 1 + d % 32) (by omega) (by omega) _ fun i hi => ?_⟩
      unfold seedPt; rw [if_pos h1]
    · have e3 : seedN a b = (3 + b % 256 % 6).toNat := by unfold seedN; rw [if_neg h0, if_neg h1]
      exact ⟨rfl, rfl, by omega, by omega, fun i hi => ⟨(seed_near a b c d i hi).fit, fun j hj x y => seed_ring h0 h1 i j hi hj x y⟩⟩
theorem right_congr {kd r : Int} {n : Nat} {g h : Nat → P2} (e : ∀ i, i < n → g i = h i) (hp : RightP kd r n h) : RightP kd r n g := by
  unfold RightP at *
  split
  · rename_i hk; rw [if_pos hk] at hp; exact hp
  · rename_i hk; rw [if_neg hk] at hp; exact ⟨hp.1, hp.2.1, hp.2.2.1, hp.2.2.2.1, polyOk_congr e hp.2.2.2.2⟩

/-! ### Normals, the fit, the law -/
def normOf (n : Nat) (g : Nat → P2) (i : Nat) : P2 := (vunit ((vsub (g ((i + 1) % n)) (g i)).2, neg (vsub (g ((i + 1) % n)) (g i)).1)).1
theorem normals_loop (n : Nat) (hn : n ≤ 1000) (g : Nat → P2) (hg : ∀ i, i < n → I2 (g i)) (k0 : Nat) : ∀ (d i k : Nat) (G : Nat → P2), i + d = n → d < k →
    ∃ g', shape.Normals.l2 k0 k i (fun i => Rii.enc (G i)) n (fun i => Rii.enc (g i)) n i = some (n, g') ∧ (∀ j, j < i → g' j = G j) ∧ ∀ j, i ≤ j → j < n → g' j = normOf n g j
  | 0, i, k, G, h1, h3 => by
    obtain ⟨k, rfl⟩ : ∃ m, k = m + 1 := ⟨k - 1, by omega⟩
    have : i = n := by omega
    subst this
    refine ⟨G, ?_, fun _ _ => rfl, fun j h1 h2 => absurd h1 (by omega)⟩
    rw [shape.Normals.l2_eq]
    simp only [Bool.cond_decide]
    rw [if_neg (by omega), dec_tTL, decRows_enc Rii_dec]
  | d + 1, i, k, G, h1, h3 => by
    obtain ⟨k, rfl⟩ : ∃ m, k = m + 1 := ⟨k - 1, by omega⟩
    have hi : i < n := by omega
    have hq : (i + 1) % n < n := Nat.mod_lt _ (by omega)
    have hs := vsub_s (g ((i + 1) % n)) (g i)
    obtain ⟨g', g1, g2, g3⟩ := normals_loop n hn g hg k0 d (i + 1) k (upd1 G i (normOf n g i)) (by omega) (by omega)
    refine ⟨g', ?_, fun j hj => ?_, fun j h4 h5 => ?_⟩
    · rw [shape.Normals.l2_eq]
      simp only [tmod_next hi hn]
      simp only [Bool.cond_decide, ix_ok hi, ix_ok hq, cond_true, Int.toNat_natCast, row_upd_ren Rii_ren, wsucc hi hn]
      rw [if_pos (by omega), if_pos (by omega), vsub_eq (a := g ((i + 1) % n)) (b := g i) (hg _ hq) (hg _ hi), Option.bind_some, neg_eq hs.1.i, Option.bind_some, unit_eq (a := ((vsub (g ((i + 1) % n)) (g i)).2, neg (vsub (g ((i + 1) % n)) (g i)).1)) ⟨hs.2.i, (neg_s hs.1.i).i⟩, Option.bind_some, if_pos (by omega)]
      exact g1
    · rw [g2 j (by omega)]; unfold upd1; rw [if_neg (by omega)]
    · by_cases hji : j = i
      · subst hji
        rw [g2 j (by omega)]; unfold upd1; rw [if_pos rfl]
      · exact g3 j (by omega) h5
theorem Normals_eq (n : Nat) (hn : n ≤ 1000) (g : Nat → P2) (hg : ∀ i, i < n → I2 (g i)) : ∃ g', shape.Normals.f (n, fun i => Rii.enc (g i)) = some (n, g') ∧ ∀ j, j < n → g' j = normOf n g j := by
  obtain ⟨g', g1, _, g3⟩ := normals_loop n hn g hg 1000000 n 0 1000000 (fun _ => (0, 0)) (by omega) (by omega)
  refine ⟨g', ?_, fun j hj => g3 j (by omega) hj⟩
  show shape.Normals.g 1000000 _ = _
  rw [shape.Normals.eq]
  exact g1
theorem right0 : shape.Right.f (2, 0, (0, fun _ => [])) = some false := by kernel_rfl
theorem reach0 : shape.Reach.f (1, 5, (0, fun _ => [])) = some 5 := by kernel_rfl
theorem fit_eq : law04.fit.f () = some true := by
  obtain ⟨g, g1, g2⟩ := Box_eq (w := 4294967296) (h := 4294967296) (by unfold S63; omega) (by unfold S63; omega)
  have hp : PolyOk 4 g := box_poly (u := 16) (v := 16) (by omega) (by omega) g g2
  have hR : RightP 2 0 4 g := ⟨rfl, rfl, by omega, by omega, hp⟩
  have hi : ∀ i, i < 4 → I2 (g i) := fun i hi => by have := (hp i hi).1; unfold Fit2 at this; unfold I2 I64; omega
  obtain ⟨g', n1, _⟩ := Normals_eq 4 (by omega) g hi
  rw [law04.fit.eq, g1, Option.bind_some]
  simp only
  rw [Right_eq 2 0 4 g hi, decide_eq_true hR, right0, reach0, n1]
  rfl
theorem law_eq (kd r : Int) (n : Nat) (g : Nat → P2) (hw : ∀ i, i < n → I2 (g i)) (a b c d : Int) : law04.ShapeRights.f ((kd, r, (n, fun i => Rii.enc (g i))), (a, b, c, d)) = some true := by
  obtain ⟨s, s1, s2⟩ := Seed_eq a b c d
  have hR := right_congr s2 (seed_right a b c d)
  have hi : ∀ i, i < seedN a b → I2 (s i) := fun i hi => by rw [s2 i hi]; exact (seed_near a b c d i hi).i
  rw [law04.ShapeRights.eq, fit_eq, Option.bind_some]
  simp only [Bool.not_true, cond_false, Bool.cond_decide]
  split
  · rfl
  · rw [Right_eq kd r n g hw, right_eq kd r n g hw, s1]
    simp only [Option.bind_some]
    rw [Right_eq _ _ _ s hi, right_eq _ _ _ s hi, decide_eq_true hR]
    simp
theorem ShapeRights_true (kd r : Int) (n : Nat) (g : Nat → P2) (a b c d : Int) (w0 : (Lit.int .i64 kd).wf = true) (w1 : (Lit.int .i64 r).wf = true) (wn : n ≤ maxLen) (wg : ∀ i, i < n → (Lit.int .i64 (g i).1).wf = true ∧ (Lit.int .i64 (g i).2).wf = true)
    (w2 : (Lit.int .i64 a).wf = true) (w3 : (Lit.int .i64 b).wf = true) (w4 : (Lit.int .i64 c).wf = true) (w5 : (Lit.int .i64 d).wf = true) : law04.ShapeRights.f ((kd, r, (n, fun i => Rii.enc (g i))), (a, b, c, d)) = some true :=
  law_eq kd r n g (fun i hi => ⟨bounds_i64 (wg i hi).1, bounds_i64 (wg i hi).2⟩) a b c d
end Go.Proofs.Ytbdkcjikphlgfaa.Y
