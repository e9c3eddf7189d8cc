/- ShapeTurned: the corners in another order. -/
import Derived.Test.YtbdkcjikphlgfaaYRs
namespace Go.Proofs.Ytbdkcjikphlgfaa.Y
open Go Go.RowKit Go.Proofs.Ytbdkcjikphlgfaa.E Go.Proofs.Ytbdkcjikphlgfaa.Ma Go.Proofs.Ytbdkcjikphlgfaa.Fw
set_option linter.unusedVariables false
set_option linter.unusedSimpArgs false

theorem Copy_eq (kd r : Int) (n : Nat) (hn : n ≤ 1000) (g : Nat → P2) : shape.Copy.f (kd, r, (n, fun i => Rii.enc (g i))) = some ((kd, r), (n, g)) := by
  show shape.Copy.g 0 _ = _
  rw [shape.Copy.eq]
  simp only [Bool.cond_decide]
  rw [if_pos (by omega)]
  have e : (fun i => cloL (if i < 0 then (fun _ => Rii.enc (0, 0)) i else (fun i => Rii.enc (g i)) (i - 0))) = fun i => Rii.enc (g i) := by
    funext i
    rw [if_neg (by omega)]
    exact Rii_clo _
  rw [e]
  exact own_dec (T := OwnT.mk (tCons (tI .i64) (tOne (tI .i64))) Rii 34 2 (0, 0)) rfl rfl Rii_dec n g

/-! ### Reach is the greatest length -/
def far (g : Nat → P2) : Nat → Nat → Int → Int
  | 0, _, m => m
  | d + 1, i, m => far g d (i + 1) (if vlen (g i) > m then vlen (g i) else m)
theorem far_spec (g : Nat → P2) : ∀ (d i : Nat) (m : Int), m ≤ far g d i m ∧ (∀ j, i ≤ j → j < i + d → vlen (g j) ≤ far g d i m) ∧ (far g d i m = m ∨ ∃ j, i ≤ j ∧ j < i + d ∧ far g d i m = vlen (g j))
  | 0, i, m => ⟨Int.le_refl _, fun j h1 h2 => absurd h2 (by omega), .inl rfl⟩
  | d + 1, i, m => by
    obtain ⟨h1, h2, h3⟩ := far_spec g d (i + 1) (if vlen (g i) > m then vlen (g i) else m)
    unfold far
    generalize far g d (i + 1) (if vlen (g i) > m then vlen (g i) else m) = M at *
    refine ⟨?_, fun j h4 h5 => ?_, ?_⟩
    · split at h1 <;> omega
    · by_cases e : j = i
      · subst e; split at h1 <;> omega
      · exact h2 j (by omega) (by omega)
    · rcases h3 with h3 | ⟨j, h4, h5, h6⟩
      · by_cases hv : vlen (g i) > m
        · rw [if_pos hv] at h3; exact .inr ⟨i, by omega, by omega, h3⟩
        · rw [if_neg hv] at h3; exact .inl h3
      · exact .inr ⟨j, by omega, by omega, h6⟩
theorem far_perm {g h : Nat → P2} {n : Nat} (e1 : ∀ i, i < n → ∃ j, j < n ∧ h i = g j) (e2 : ∀ i, i < n → ∃ j, j < n ∧ g i = h j) : far g n 0 0 = far h n 0 0 := by
  obtain ⟨a1, a2, a3⟩ := far_spec g n 0 0
  obtain ⟨b1, b2, b3⟩ := far_spec h n 0 0
  have le : ∀ {A B : Int} {g h : Nat → P2}, (∀ i, i < n → ∃ j, j < n ∧ g i = h j) → (A = 0 ∨ ∃ j, 0 ≤ j ∧ j < 0 + n ∧ A = vlen (g j)) → 0 ≤ B → (∀ j, 0 ≤ j → j < 0 + n → vlen (h j) ≤ B) → A ≤ B := by
    intro A B g h e ha hb hB
    rcases ha with rfl | ⟨j, _, h2, rfl⟩
    · exact hb
    · obtain ⟨k, k1, k2⟩ := e j (by omega)
      rw [k2]
      exact hB k (by omega) (by omega)
  exact Int.le_antisymm (le e2 a3 b1 b2) (le e1 b3 a1 a2)
theorem reach_loop (kd r : Int) (n : Nat) (hn : n ≤ 1000) (g : Nat → P2) (hg : ∀ i, i < n → I2 (g i)) (k0 : Nat) : ∀ (d i K : Nat) (m : Int), i + d = n → d < K → shape.Reach.l0 k0 K kd r n (fun i => Rii.enc (g i)) m (n : Int) (i : Int) = some (far g d i m)
  | 0, i, K, m, h1, h2 => by
    obtain ⟨K, rfl⟩ : ∃ x, K = x + 1 := ⟨K - 1, by omega⟩
    have : i = n := by omega
    subst this
    rw [shape.Reach.l0_eq]
    simp only [Bool.cond_decide]
    rw [if_neg (by omega)]
    rfl
  | d + 1, i, K, m, h1, h2 => by
    obtain ⟨K, rfl⟩ : ∃ x, K = x + 1 := ⟨K - 1, by omega⟩
    have hi : i < n := by omega
    rw [shape.Reach.l0_eq]
    simp only [Bool.cond_decide, ix_ok hi, cond_true, Int.toNat_natCast, wsucc hi hn]
    rw [if_pos (by omega), len_eq (a := g i) (hg i hi), Option.bind_some, reach_loop kd r n hn g hg k0 d (i + 1) K _ (by omega) (by omega)]
    rfl
theorem Reach_eq (r : Int) (n : Nat) (hn : n ≤ 1000) (g : Nat → P2) (hg : ∀ i, i < n → I2 (g i)) : shape.Reach.f (2, r, (n, fun i => Rii.enc (g i))) = some (far g n 0 0) := by
  show shape.Reach.g 1000000 _ = _
  rw [shape.Reach.eq]
  simp only [show ((2 : Int) == 1) = false from rfl, cond_false]
  exact reach_loop 2 r n hn g hg 1000000 n 0 1000000 0 (by omega) (by omega)

/-! ### Corners that begin elsewhere -/
theorem rot_next {n t i : Nat} (hn : 0 < n) : ((i + 1) % n + t) % n = ((i + t) % n + 1) % n := by
  rw [Nat.mod_add_mod, Nat.mod_add_mod]
  congr 1
  omega
theorem rot_inj {n t i j : Nat} (hi : i < n) (hj : j < n) (h : (i + t) % n = (j + t) % n) : i = j := by
  have hh : ((i + t) : Int) % n = ((j + t) : Int) % n := by exact_mod_cast h
  have := Int.emod_emod_of_dvd (i : Int) (Int.dvd_refl (n : Int))
  have e := Int.emod_eq_emod_iff_emod_sub_eq_zero.1 hh
  have d := Int.dvd_of_emod_eq_zero e
  obtain ⟨c, hc⟩ := d
  have : (i : Int) - j = n * c := by omega
  by_cases c0 : c = 0
  · subst c0; omega
  · exfalso
    by_cases cp : 0 < c
    · have := Int.mul_le_mul_of_nonneg_left (show 1 ≤ c by omega) (show (0 : Int) ≤ n by omega)
      omega
    · have := Int.mul_le_mul_of_nonneg_left (show c ≤ -1 by omega) (show (0 : Int) ≤ n by omega)
      omega
theorem rot_poly {n t : Nat} {g : Nat → P2} (h : PolyOk n g) : PolyOk n fun i => g ((i + t) % n) := fun i hi => by
  have hn : 0 < n := by omega
  have hi' : (i + t) % n < n := Nat.mod_lt _ hn
  obtain ⟨h1, h2⟩ := h _ hi'
  refine ⟨h1, fun j hj a b => ?_⟩
  have hq : (i + 1) % n < n := Nat.mod_lt _ hn
  have := h2 ((j + t) % n) (Nat.mod_lt _ hn) (fun e => a (rot_inj hj hi e)) fun e => b (rot_inj hj hq (e.trans (rot_next hn).symm))
  unfold cr at this ⊢
  simp only
  rw [rot_next hn]
  exact this
theorem rot_onto {n t i : Nat} (hi : i < n) : ∃ j, j < n ∧ (j + t) % n = i := by
  have hn : 0 < n := by omega
  refine ⟨(i + (n - t % n)) % n, Nat.mod_lt _ hn, ?_⟩
  rw [Nat.mod_add_mod]
  have ht := Nat.mod_lt t hn
  have e := Nat.div_add_mod t n
  have : i + (n - t % n) + t = i + n * (t / n + 1) := by rw [Nat.mul_add]; omega
  rw [this, Nat.add_mul_mod_self_left, Nat.mod_eq_of_lt hi]

/-! ### Corners that go round the other way -/
theorem turn_swap (p q r : P2) : turnOf q p r = -turnOf p q r := by unfold turnOf; grind
theorem seed_cr {a b c d : Int} (h0 : a % 4 ≠ 0) (h1 : a % 4 ≠ 1) (i q j : Nat) (hi : i < seedN a b) (hq : q < seedN a b) (hj : j < seedN a b) :
    cr (seedPt a b c d) i q j = turnOf (pick (seedN a b) (d % 256 % 10).toNat i) (pick (seedN a b) (d % 256 % 10).toNat q) (pick (seedN a b) (d % 256 % 10).toNat j) * ((1 + c % 64) * (1 + c % 64)) * 4096 := by
  have hn : seedN a b = (3 + b % 256 % 6).toNat := by unfold seedN; rw [if_neg h0, if_neg h1]
  have ni := seed_near a b c d i hi
  have nj := seed_near a b c d j hj
  have nq := seed_near a b c d _ hq
  unfold cr
  rw [sub_near nq ni, sub_near nj ni]
  have e : ∀ k, seedPt a b c d k = ((pick (seedN a b) (d % 256 % 10).toNat k).1 * (1 + c % 64) * 4194304, (pick (seedN a b) (d % 256 % 10).toNat k).2 * (1 + c % 64) * 4194304) := fun k => by
    unfold seedPt; rw [if_neg h1, hn, Int.mul_assoc, Int.mul_assoc]
  rw [e, e, e]
  have pi := pick_b (seedN a b) (d % 256 % 10).toNat i
  have pj := pick_b (seedN a b) (d % 256 % 10).toNat j
  have pq := pick_b (seedN a b) (d % 256 % 10).toNat q
  unfold turnOf
  simp only
  generalize pick (seedN a b) (d % 256 % 10).toNat i = p at *
  generalize pick (seedN a b) (d % 256 % 10).toNat j = r at *
  generalize pick (seedN a b) (d % 256 % 10).toNat q = q at *
  have hk : 1 ≤ 1 + c % 64 ∧ 1 + c % 64 ≤ 64 := by omega
  generalize 1 + c % 64 = k at *
  have f : ∀ x y : Int, x * k * 4194304 - y * k * 4194304 = (x - y) * k * 4194304 := fun x y => by grind
  rw [f, f, f, f]
  have b1 : -130 ≤ q.1 - p.1 ∧ q.1 - p.1 ≤ 130 := by omega
  have b2 : -130 ≤ q.2 - p.2 ∧ q.2 - p.2 ≤ 130 := by omega
  have b3 : -130 ≤ r.1 - p.1 ∧ r.1 - p.1 ≤ 130 := by omega
  have b4 : -130 ≤ r.2 - p.2 ∧ r.2 - p.2 ≤ 130 := by omega
  generalize q.1 - p.1 = x1 at *
  generalize q.2 - p.2 = x2 at *
  generalize r.1 - p.1 = y1 at *
  generalize r.2 - p.2 = y2 at *
  have c1 := small_b (A := 130) (B := 64) (by omega) (by omega) b1.1 b1.2 (show -64 ≤ k by omega) hk.2
  have c2 := small_b (A := 130) (B := 64) (by omega) (by omega) b2.1 b2.2 (show -64 ≤ k by omega) hk.2
  have c3 := small_b (A := 130) (B := 64) (by omega) (by omega) b3.1 b3.2 (show -64 ≤ k by omega) hk.2
  have c4 := small_b (A := 130) (B := 64) (by omega) (by omega) b4.1 b4.2 (show -64 ≤ k by omega) hk.2
  have d1 := small_b (A := 8320) (B := 8320) (by omega) (by omega) (by omega) (by omega) (by omega) (by omega) (x := x1 * k) (y := y2 * k)
  have d2 := small_b (A := 8320) (B := 8320) (by omega) (by omega) (by omega) (by omega) (by omega) (by omega) (x := x2 * k) (y := y1 * k)
  rw [cr_ex (s := 4194304) (t := 4096) (by omega) (by omega) (x1 * k) (x2 * k) (y1 * k) (y2 * k) (by unfold S63; omega) (by unfold S63; omega) (by unfold S63; omega) (by unfold S63; omega) (by unfold S63; omega) (by unfold S63; omega) (by unfold S63; omega)]
  have e : x1 * k * (y2 * k) - x2 * k * (y1 * k) = (x1 * y2 - x2 * y1) * (k * k) := by grind
  rw [e]
theorem box_crf {u v : Int} (hu : 1 ≤ u ∧ u ≤ 64) (hv : 1 ≤ v ∧ v ≤ 64) (g : Nat → P2) (hg : ∀ i, i < 4 → g i = (boxPts (u * 268435456) (v * 268435456)).getD i (0, 0)) (i q j : Nat) (hi : i < 4) (hq : q < 4) (hj : j < 4) :
    cr g i q j = turnOf ((boxPts 1 1).getD i (0, 0)) ((boxPts 1 1).getD q (0, 0)) ((boxPts 1 1).getD j (0, 0)) * (u * v) * 16777216 := by
  have near : ∀ k, k < 4 → Near (g k) := fun k hk => by
    rw [hg k hk]
    have : k = 0 ∨ k = 1 ∨ k = 2 ∨ k = 3 := by omega
    rcases this with rfl | rfl | rfl | rfl <;> simp [boxPts, Near] <;> omega
  unfold cr
  rw [sub_near (near _ hq) (near _ hi), sub_near (near _ hj) (near _ hi), hg _ hi, hg _ hj, hg _ hq]
  have bd := small_b (A := 64) (B := 64) (x := u) (y := v) (by omega) (by omega) (by omega) (by omega) (by omega) (by omega)
  have key : ∀ x1 x2 y1 y2 : Int, -2 ≤ x1 → x1 ≤ 2 → -2 ≤ x2 → x2 ≤ 2 → -2 ≤ y1 → y1 ≤ 2 → -2 ≤ y2 → y2 ≤ 2 →
      cross (x1 * u * 268435456, x2 * v * 268435456) (y1 * u * 268435456, y2 * v * 268435456) = (x1 * y2 - x2 * y1) * (u * v) * 16777216 := by
    intro x1 x2 y1 y2 a1 a2 a3 a4 a5 a6 a7 a8
    have c1 := small_b (A := 2) (B := 64) (by omega) (by omega) a1 a2 (show -64 ≤ u by omega) hu.2
    have c2 := small_b (A := 2) (B := 64) (by omega) (by omega) a3 a4 (show -64 ≤ v by omega) hv.2
    have c3 := small_b (A := 2) (B := 64) (by omega) (by omega) a5 a6 (show -64 ≤ u by omega) hu.2
    have c4 := small_b (A := 2) (B := 64) (by omega) (by omega) a7 a8 (show -64 ≤ v by omega) hv.2
    have d1 := small_b (A := 128) (B := 128) (by omega) (by omega) (by omega) (by omega) (by omega) (by omega) (x := x1 * u) (y := y2 * v)
    have d2 := small_b (A := 128) (B := 128) (by omega) (by omega) (by omega) (by omega) (by omega) (by omega) (x := x2 * v) (y := y1 * u)
    rw [cr_ex (s := 268435456) (t := 16777216) (by omega) (by omega) (x1 * u) (x2 * v) (y1 * u) (y2 * v) (by unfold S63; omega) (by unfold S63; omega) (by unfold S63; omega) (by unfold S63; omega) (by unfold S63; omega) (by unfold S63; omega) (by unfold S63; omega)]
    have e : x1 * u * (y2 * v) - x2 * v * (y1 * u) = (x1 * y2 - x2 * y1) * (u * v) := by grind
    rw [e]
  have sm : ∀ k, k < 4 → ∃ x y : Int, -1 ≤ x ∧ x ≤ 1 ∧ -1 ≤ y ∧ y ≤ 1 ∧ (boxPts 1 1).getD k (0, 0) = (x, y) ∧ (boxPts (u * 268435456) (v * 268435456)).getD k (0, 0) = (x * u * 268435456, y * v * 268435456) := fun k hk => by
    have : k = 0 ∨ k = 1 ∨ k = 2 ∨ k = 3 := by omega
    rcases this with rfl | rfl | rfl | rfl
    · exact ⟨-1, -1, by omega, by omega, by omega, by omega, rfl, by simp [boxPts, Int.neg_mul]⟩
    · exact ⟨1, -1, by omega, by omega, by omega, by omega, rfl, by simp [boxPts, Int.neg_mul]⟩
    · exact ⟨1, 1, by omega, by omega, by omega, by omega, rfl, by simp [boxPts, Int.neg_mul]⟩
    · exact ⟨-1, 1, by omega, by omega, by omega, by omega, rfl, by simp [boxPts, Int.neg_mul]⟩
  obtain ⟨xi, yi, i1, i2, i3, i4, i5, i6⟩ := sm i hi
  obtain ⟨xj, yj, j1, j2, j3, j4, j5, j6⟩ := sm j hj
  obtain ⟨xq, yq, q1, q2, q3, q4, q5, q6⟩ := sm _ hq
  rw [i5, j5, q5, i6, j6, q6]
  unfold turnOf
  simp only
  have f : ∀ x y k : Int, x * k * 268435456 - y * k * 268435456 = (x - y) * k * 268435456 := fun x y k => by grind
  rw [f, f, f, f]
  exact key _ _ _ _ (by omega) (by omega) (by omega) (by omega) (by omega) (by omega) (by omega) (by omega)
/-- The other way round is the other sign. -/
theorem seed_swap {a b c d : Int} (h0 : a % 4 ≠ 0) (i q j : Nat) (hi : i < seedN a b) (hq : q < seedN a b) (hj : j < seedN a b) : cr (seedPt a b c d) q i j = -cr (seedPt a b c d) i q j := by
  by_cases h1 : a % 4 = 1
  · have e3 : seedN a b = 4 := by unfold seedN; rw [if_neg h0, if_pos h1]
    rw [e3] at hi hq hj
    have hg : ∀ k, k < 4 → seedPt a b c d k = (boxPts ((1 + c % 64) * 268435456) ((1 + d % 32) * 268435456)).getD k (0, 0) := fun k _ => by unfold seedPt; rw [if_pos h1]
    rw [box_crf (u := 1 + c % 64) (v := 1 + d % 32) (by omega) (by omega) _ hg q i j hq hi hj, box_crf (u := 1 + c % 64) (v := 1 + d % 32) (by omega) (by omega) _ hg i q j hi hq hj, turn_swap, Int.neg_mul, Int.neg_mul]
  · rw [seed_cr h0 h1 q i j hq hi hj, seed_cr h0 h1 i q j hi hq hj, turn_swap, Int.neg_mul, Int.neg_mul]
theorem rev_not {a b c d : Int} (h0 : a % 4 ≠ 0) (hp : PolyOk (seedN a b) (seedPt a b c d)) (h3 : 3 ≤ seedN a b) : ¬ PolyOk (seedN a b) fun i => seedPt a b c d (seedN a b - 1 - i) := by
  intro h
  have s := seed_swap (b := b) (c := c) (d := d) h0 (seedN a b - 2) (seedN a b - 1) (seedN a b - 3) (by omega) (by omega) (by omega)
  generalize hnn : seedN a b = n at *
  have m1 : (0 + 1) % n = 1 := Nat.mod_eq_of_lt (by omega)
  have m2 : (n - 2 + 1) % n = n - 1 := by rw [show n - 2 + 1 = n - 1 by omega]; exact Nat.mod_eq_of_lt (by omega)
  have p1 := (h 0 (by omega)).2 2 (by omega) (by omega) (by rw [m1]; omega)
  have p2 := (hp (n - 2) (by omega)).2 (n - 3) (by omega) (by omega) (by rw [m2]; omega)
  rw [m1] at p1
  rw [m2] at p2
  have e : cr (fun i => seedPt a b c d (n - 1 - i)) 0 1 2 = cr (seedPt a b c d) (n - 1) (n - 2) (n - 3) := by
    unfold cr
    simp only
    rw [show n - 1 - 0 = n - 1 by omega, show n - 1 - 1 = n - 2 by omega, show n - 1 - 2 = n - 3 by omega]
  rw [e] at p1
  omega

/-! ### The law -/
theorem tmod_rot {i n : Nat} (p : Int) (hi : i < n) (hn : n ≤ 1000) : Int.tmod (IntKind.i64.wrap ((i : Int) + (Go.bits .and .i64 p 255))) (n : Int) = (((i + (p % 256).toNat) % n : Nat) : Int) := by
  rw [m8, w64 (by unfold I64; omega), Int.tmod_eq_emod_of_nonneg (by omega), Int.natCast_emod]
  congr 1
  omega
theorem rev_ix {i n : Nat} (hi : i < n) (hn : n ≤ 1000) : IntKind.i64.wrap ((IntKind.i64.wrap ((n : Int) - 1)) - (i : Int)) = ((n - 1 - i : Nat) : Int) := by
  rw [w64 (x := (n : Int) - 1) (by unfold I64; omega), w64 (by unfold I64; omega)]
  omega
section
variable {kd r : Int} {n : Nat} (g : Nat → P2) (t : Nat)
theorem turned_end (hn : n ≤ 8) (hg : ∀ i, i < n → I2 (g i)) (hR : RightP 2 r n g) (hB : ¬ RightP 2 r n fun i => g (n - 1 - i)) (A B : Nat → P2) (hA : ∀ j, j < n → A j = g ((j + t) % n)) (hBj : ∀ j, j < n → B j = g (n - 1 - j)) (k0 K : Nat) (x1 x2 x3 x4 p : Int) :
    law04.ShapeTurned.l0 k0 (K + 1) x1 x2 x3 x4 2 r n (fun i => Rii.enc (g i)) n (fun i => Rii.enc (A i)) n (fun i => Rii.enc (B i)) 2 r 2 r p (n : Int) (n : Int) = some true := by
  have hn3 : 3 ≤ n := by unfold RightP at hR; rw [if_neg (by omega)] at hR; exact hR.2.2.1
  have iA : ∀ i, i < n → I2 (A i) := fun i hi => by rw [hA i hi]; exact hg _ (Nat.mod_lt _ (by omega))
  have iB : ∀ i, i < n → I2 (B i) := fun i hi => by rw [hBj i hi]; exact hg _ (by omega)
  have rA : RightP 2 r n A := right_congr hA (by
    unfold RightP at hR ⊢
    rw [if_neg (by omega)] at hR ⊢
    exact ⟨hR.1, hR.2.1, hR.2.2.1, hR.2.2.2.1, rot_poly hR.2.2.2.2⟩)
  have rB : ¬ RightP 2 r n B := fun h => hB (right_congr (fun i hi => (hBj i hi).symm) h)
  have f1 : far A n 0 0 = far g n 0 0 := far_perm (fun i hi => by
    obtain ⟨j, h1, h2⟩ := rot_onto (t := t) hi
    exact ⟨j, h1, by rw [hA j h1, h2]⟩) fun i hi => ⟨_, Nat.mod_lt _ (by omega), hA i hi⟩
  have f2 : far B n 0 0 = far g n 0 0 := far_perm (fun i hi => ⟨n - 1 - i, by omega, by rw [hBj _ (by omega)]; congr 1; omega⟩) fun i hi => ⟨n - 1 - i, by omega, hBj i hi⟩
  rw [law04.ShapeTurned.l0_eq]
  simp only [Bool.cond_decide]
  rw [if_neg (by omega), Right_eq 2 r n A iA, decide_eq_true rA, Option.bind_some]
  simp only [cond_true]
  rw [Right_eq 2 r n B iB, decide_eq_false rB, Option.bind_some]
  simp only [Bool.not_false, cond_true]
  rw [Reach_eq r n (by omega) A iA, Reach_eq r n (by omega) g hg, Option.bind_some, Option.bind_some, f1]
  simp only [BEq.rfl, cond_true]
  rw [Reach_eq r n (by omega) B iB, Option.bind_some, Option.bind_some, f2]
  simp only [BEq.rfl]
theorem turned_loop (hn : n ≤ 8) (hg : ∀ i, i < n → I2 (g i)) (hR : RightP 2 r n g) (hB : ¬ RightP 2 r n fun i => g (n - 1 - i)) (k0 : Nat) (x1 x2 x3 x4 p : Int) (ht : t = (p % 256).toNat) : ∀ (d i K : Nat) (A B : Nat → P2), i + d = n → d < K → (∀ j, j < i → A j = g ((j + t) % n)) → (∀ j, j < i → B j = g (n - 1 - j)) →
    law04.ShapeTurned.l0 k0 K x1 x2 x3 x4 2 r n (fun i => Rii.enc (g i)) n (fun i => Rii.enc (A i)) n (fun i => Rii.enc (B i)) 2 r 2 r p (n : Int) (i : Int) = some true
  | 0, i, K, A, B, h1, h2, hA, hBj => by
    obtain ⟨K, rfl⟩ : ∃ x, K = x + 1 := ⟨K - 1, by omega⟩
    have : i = n := by omega
    subst this
    exact turned_end g t hn hg hR hB A B hA hBj k0 K x1 x2 x3 x4 p
  | d + 1, i, K, A, B, h1, h2, hA, hBj => by
    obtain ⟨K, rfl⟩ : ∃ x, K = x + 1 := ⟨K - 1, by omega⟩
    have hi : i < n := by omega
    have hm : (i + t) % n < n := Nat.mod_lt _ (by omega)
    rw [law04.ShapeTurned.l0_eq]
    simp only [tmod_rot p hi (show n ≤ 1000 by omega), rev_ix hi (show n ≤ 1000 by omega), ← ht]
    simp only [Bool.cond_decide, ix_ok hi, ix_ok hm, ix_ok (show n - 1 - i < n by omega), cond_true, Int.toNat_natCast, row_upd_ren Rii_ren, wsucc hi (show n ≤ 1000 by omega)]
    rw [if_pos (by omega), if_pos (show (n : Int) ≠ 0 by omega)]
    refine turned_loop hn hg hR hB k0 x1 x2 x3 x4 p ht d (i + 1) K _ _ (by omega) (by omega) (fun j hj => ?_) (fun j hj => ?_)
    · unfold upd1
      split
      · rename_i e; rw [e]
      · exact hA j (by omega)
    · unfold upd1
      split
      · rename_i e; rw [e]
      · exact hBj j (by omega)
end
theorem turned_eq (a b c d p : Int) : law04.ShapeTurned.f ((a, b, c, d), p) = some true := by
  obtain ⟨s, s1, s2⟩ := Seed_eq a b c d
  have hR := seed_right a b c d
  have hi : ∀ i, i < seedN a b → I2 (s i) := fun i hi => by rw [s2 i hi]; exact (seed_near a b c d i hi).i
  show law04.ShapeTurned.g 1000000 _ = _
  rw [law04.ShapeTurned.eq, fit_eq, Option.bind_some]
  simp only [Bool.not_true, cond_false]
  rw [s1, Option.bind_some]
  simp only
  by_cases h0 : a % 4 = 0
  · have e3 : seedN a b = 0 := by unfold seedN; rw [if_pos h0]
    have hR' := right_congr s2 hR
    rw [e3] at hR' hi ⊢
    rw [show (((0 : Nat) : Int) == 0) = true from rfl, cond_true, Right_eq _ _ 0 s hi, decide_eq_true hR', Option.bind_some]
  · have e1 : seedKd a = 2 := by unfold seedKd; rw [if_neg h0]
    rw [e1] at hR ⊢
    have hn : 3 ≤ seedN a b ∧ seedN a b ≤ 8 ∧ PolyOk (seedN a b) (seedPt a b c d) := by
      unfold RightP at hR; rw [if_neg (by omega)] at hR; exact ⟨hR.2.2.1, hR.2.2.2.1, hR.2.2.2.2⟩
    have e0 : (((seedN a b : Nat) : Int) == 0) = false := by simp; omega
    rw [e0, cond_false, Copy_eq 2 _ _ (by omega) s, Option.bind_some, Option.bind_some]
    have hB : ¬ RightP 2 (seedR a c) (seedN a b) fun i => s (seedN a b - 1 - i) := fun h => by
      unfold RightP at h
      rw [if_neg (by omega)] at h
      exact rev_not h0 hn.2.2 hn.1 (polyOk_congr (fun i hi => (s2 _ (by omega)).symm) h.2.2.2.2)
    exact turned_loop s _ hn.2.1 hi (right_congr s2 hR) hB 1000000 a b c d p rfl (seedN a b) 0 1000000 s s (by omega) (by omega) (fun j hj => absurd hj (by omega)) fun j hj => absurd hj (by omega)
theorem ShapeTurned_true (a b c d p : Int) : law04.ShapeTurned.f ((a, b, c, d), p) = some true := turned_eq a b c d p
end Go.Proofs.Ytbdkcjikphlgfaa.Y
