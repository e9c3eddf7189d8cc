/- Areas of polygons whose corners are whole multiples of a small length: exact; MassDense, MassBoxes, MassTurned. -/
import Derived.Test.YtneighaelofnhaaYMs
namespace Go.Proofs.Ytneighaelofnhaa.Y
open Go Go.RowKit Go.Proofs.Ytneighaelofnhaa.E Go.Proofs.Ytneighaelofnhaa.Ma Go.Proofs.Ytneighaelofnhaa.Fw
set_option linter.unusedVariables false
set_option linter.unusedSimpArgs false

/-! ### Products and quotients of numbers that are not negative -/
theorem mulx {s t : Int} (hs : s * s = 4294967296 * t) (ht : 0 ≤ t) (a b : Int) (ha : S63 (a * s)) (hb : S63 (b * s)) (h : S63 (a * b * t)) : mul (a * s) (b * s) = a * b * t := by
  have e : Ma.abs (a * s) * Ma.abs (b * s) = 4294967296 * (if a * s < 0 then (if b * s < 0 then a * b * t else -(a * b * t)) else (if b * s < 0 then -(a * b * t) else a * b * t)) := by
    unfold Ma.abs
    rw [neg_id ha, neg_id hb]
    have k : a * s * (b * s) = 4294967296 * (a * b * t) := by
      have : a * s * (b * s) = a * b * (s * s) := by grind
      rw [this, hs]; grind
    repeat' split
    all_goals (first | rw [Int.neg_mul_neg] | rw [Int.neg_mul] | rw [Int.mul_neg] | skip)
    all_goals rw [k]
    all_goals omega
  have n : 0 ≤ Ma.abs (a * s) * Ma.abs (b * s) := Int.mul_nonneg (abs_s ha.i).1 (abs_s hb.i).1
  unfold mul
  rw [e] at n ⊢
  rw [Int.mul_ediv_cancel_left _ (by omega)]
  unfold sgn sg top
  unfold S63 at h
  by_cases h1 : a * s < 0 <;> by_cases h2 : b * s < 0 <;> simp only [h1, h2, if_true, if_false, decide_true, decide_false] at n ⊢ <;> simp <;> (repeat' split) <;> omega
theorem smallb {x y A B : Int} (hA : 0 ≤ A) (hB : 0 ≤ B) (h1 : -A ≤ x) (h2 : x ≤ A) (h3 : -B ≤ y) (h4 : y ≤ B) : -(A * B) ≤ x * y ∧ x * y ≤ A * B := by
  have a := Int.mul_nonneg (show 0 ≤ A - x by omega) (show 0 ≤ B - y by omega)
  have b := Int.mul_nonneg (show 0 ≤ A + x by omega) (show 0 ≤ B + y by omega)
  have c := Int.mul_nonneg (show 0 ≤ A - x by omega) (show 0 ≤ B + y by omega)
  have d := Int.mul_nonneg (show 0 ≤ A + x by omega) (show 0 ≤ B - y by omega)
  have e1 : (A - x) * (B - y) = A * B - A * y - x * B + x * y := by grind
  have e2 : (A + x) * (B + y) = A * B + A * y + x * B + x * y := by grind
  have e3 : (A - x) * (B + y) = A * B + A * y - x * B - x * y := by grind
  have e4 : (A + x) * (B - y) = A * B - A * y + x * B - x * y := by grind
  rw [e1] at a; rw [e2] at b; rw [e3] at c; rw [e4] at d
  omega
theorem mul_nn {a b : Int} (ha : 0 ≤ a) (hb : 0 ≤ b) (h : a * b < 39614081257132168796771975168) : mul a b = a * b / 4294967296 := by
  have hq : a * b / 4294967296 < 9223372036854775808 := by omega
  unfold mul
  rw [abs_nn ha, abs_nn hb]
  unfold sgn sg top
  rw [decide_eq_false (by omega), decide_eq_false (by omega), if_pos hq]
  simp
theorem div_nn {a b : Int} (ha : 0 ≤ a) (hb : 0 < b) (h : a * 4294967296 / b < 9223372036854775808) : div a b = a * 4294967296 / b := by
  unfold div
  rw [abs_nn ha, abs_nn (by omega)]
  by_cases h0 : a = 0
  · subst h0; simp
  · rw [if_neg h0, if_neg (by omega)]
    unfold sgn sg top
    rw [decide_eq_false (by omega), decide_eq_false (by omega), if_pos h]
    simp
theorem top_mono {x y : Int} (h : x ≤ y) : top x ≤ top y := by unfold top; split <;> split <;> omega
theorem div_anti {x y : Int} (h0 : 1 ≤ x) (h : x ≤ y) : div 4294967296 y ≤ div 4294967296 x := by
  unfold div
  rw [abs_nn (by omega : (0 : Int) ≤ 4294967296), abs_nn (by omega : 0 ≤ x), abs_nn (by omega : 0 ≤ y), if_neg (by omega), if_neg (by omega), if_neg (by omega), if_neg (by omega)]
  have sx : ∀ z : Int, 0 ≤ z → sg 4294967296 z = false := fun z hz => by unfold sg; rw [decide_eq_false (by omega), decide_eq_false (by omega)]; rfl
  rw [sx x (by omega), sx y (by omega)]
  unfold sgn
  rw [if_neg (by decide), if_neg (by decide)]
  refine top_mono ?_
  refine Int.le_ediv_of_mul_le (by omega) ?_
  have hq : 0 ≤ 4294967296 * 4294967296 / y := Int.ediv_nonneg (by omega) (by omega)
  exact Int.le_trans (Int.mul_le_mul_of_nonneg_left h hq) (Int.ediv_mul_le _ (by omega))

/-! ### Sums -/
def isum (f : Nat → Int) : Nat → Int
  | 0 => 0
  | n + 1 => isum f n + f n
theorem isum_congr {f h : Nat → Int} : ∀ (n : Nat), (∀ i, i < n → f i = h i) → isum f n = isum h n
  | 0, _ => rfl
  | n + 1, e => by unfold isum; rw [isum_congr n (fun i hi => e i (by omega)), e n (by omega)]
theorem isum_le {f h : Nat → Int} : ∀ (n : Nat), (∀ i, i < n → f i ≤ h i) → isum f n ≤ isum h n
  | 0, _ => by unfold isum; omega
  | n + 1, e => by
    unfold isum
    have := isum_le n (fun i hi => e i (by omega))
    have := e n (by omega)
    omega
theorem isum_nn {f : Nat → Int} {C : Int} : ∀ (n : Nat), (∀ i, i < n → 0 ≤ f i ∧ f i ≤ C) → 0 ≤ isum f n ∧ isum f n ≤ n * C
  | 0, _ => by unfold isum; omega
  | n + 1, e => by
    unfold isum
    have a := isum_nn n (fun i hi => e i (by omega))
    have b := e n (by omega)
    have : ((n + 1 : Nat) : Int) * C = n * C + C := by rw [Int.natCast_add, Int.add_mul]; simp
    omega
theorem isum_tail (f : Nat → Int) : ∀ (m : Nat), isum (fun i => f (i + 1)) m = isum f (m + 1) - f 0
  | 0 => by simp [isum]
  | m + 1 => by
    rw [isum, isum_tail f m]
    show _ = isum f (m + 1) + f (m + 1) - f 0
    omega
theorem isum_shift (f : Nat → Int) (n : Nat) : isum (fun i => f ((i + 1) % n)) n = isum f n := by
  cases n with
  | zero => rfl
  | succ m =>
    rw [isum, isum_congr m (f := fun i => f ((i + 1) % (m + 1))) (h := fun i => f (i + 1)) (fun i hi => by show f _ = f _; rw [Nat.mod_eq_of_lt (by omega)]), isum_tail]
    simp
theorem isum_rot (n : Nat) : ∀ (t : Nat) (f : Nat → Int), isum (fun i => f ((i + t) % n)) n = isum f n
  | 0, f => isum_congr n fun i hi => by show f _ = f _; rw [Nat.add_zero, Nat.mod_eq_of_lt hi]
  | t + 1, f => by
    rw [← isum_rot n t f, ← isum_shift (fun i => f ((i + t) % n)) n]
    refine isum_congr n fun i hi => ?_
    show f _ = f _
    congr 1
    rw [show i + (t + 1) = i + 1 + t by omega, Nat.mod_add_mod]
/-- The sum over the sides, where nothing is too great. -/
theorem sumS_isum {T : P2 → P2 → Int} {n : Nat} {g : Nat → P2} {f : Nat → Int} {C : Int} (hf : ∀ i, i < n → T (g i) (g ((i + 1) % n)) = f i) (hC : ∀ i, i < n → 0 ≤ f i ∧ f i ≤ C) (hb : (n : Int) * C ≤ 9223372036854775807) (h0 : 0 ≤ C) :
    ∀ (d i : Nat), i + d = n → sumS T n g d i (isum f i) = isum f n
  | 0, i, h => by
    have : i = n := by omega
    subst this; rfl
  | d + 1, i, h => by
    unfold sumS
    have a := isum_nn i (fun j hj => hC j (by omega))
    have b := isum_nn (i + 1) (fun j hj => hC j (by omega))
    have c : ((i + 1 : Nat) : Int) * C ≤ n * C := Int.mul_le_mul_of_nonneg_right (by omega) h0
    have c' : ((i : Nat) : Int) * C ≤ n * C := Int.mul_le_mul_of_nonneg_right (by omega) h0
    have e : isum f (i + 1) = isum f i + f i := rfl
    have hi := hC i (by omega)
    have ff : f i ≤ isum f (i + 1) := by omega
    rw [hf i (by omega), add_id (by unfold S63; omega) (by unfold S63; omega) (by unfold S63; omega), ← e]
    exact sumS_isum hf hC hb h0 d (i + 1) (by omega)

/-! ### Corners that are whole multiples of s -/
def kOf (p q : P2) : Int := p.1 * q.2 - p.2 * q.1
def dOf (p q : P2) : Int := p.1 * q.1 + p.2 * q.2
def fOf (p q : P2) : Int := dOf p p + dOf p q + dOf q q
def InB (B : Int) (p : P2) : Prop := -B ≤ p.1 ∧ p.1 ≤ B ∧ -B ≤ p.2 ∧ p.2 ≤ B
def sc2 (s : Int) (p : P2) : P2 := (p.1 * s, p.2 * s)
theorem kOf_b {B : Int} (hB : 0 ≤ B) {p q : P2} (hp : InB B p) (hq : InB B q) : -(2 * (B * B)) ≤ kOf p q ∧ kOf p q ≤ 2 * (B * B) := by
  have a := smallb hB hB hp.1 hp.2.1 hq.2.2.1 hq.2.2.2
  have b := smallb hB hB hp.2.2.1 hp.2.2.2 hq.1 hq.2.1
  unfold kOf
  omega
theorem dOf_b {B : Int} (hB : 0 ≤ B) {p q : P2} (hp : InB B p) (hq : InB B q) : -(2 * (B * B)) ≤ dOf p q ∧ dOf p q ≤ 2 * (B * B) := by
  have a := smallb hB hB hp.1 hp.2.1 hq.1 hq.2.1
  have b := smallb hB hB hp.2.2.1 hp.2.2.2 hq.2.2.1 hq.2.2.2
  unfold dOf
  omega
theorem sq_nn (x : Int) : 0 ≤ x * x := by
  rcases Int.le_total 0 x with h | h
  · exact Int.mul_nonneg h h
  · have := Int.mul_nonneg (show 0 ≤ -x by omega) (show 0 ≤ -x by omega)
    rwa [Int.neg_mul_neg] at this
theorem fOf_nn (p q : P2) : 0 ≤ fOf p q := by
  have e : 2 * fOf p q = (p.1 + q.1) * (p.1 + q.1) + (p.2 + q.2) * (p.2 + q.2) + p.1 * p.1 + p.2 * p.2 + q.1 * q.1 + q.2 * q.2 := by unfold fOf dOf; grind
  have a := sq_nn (p.1 + q.1)
  have b := sq_nn (p.2 + q.2)
  have c := sq_nn p.1
  have d := sq_nn p.2
  have x := sq_nn q.1
  have y := sq_nn q.2
  omega
theorem S63_mul {B x s : Int} (hB : 0 ≤ B) (hs : 0 ≤ s) (h1 : -B ≤ x) (h2 : x ≤ B) (h : B * s ≤ 9223372036854775807) : S63 (x * s) := by
  have := smallb (A := B) (B := s) hB hs h1 h2 (by omega) (Int.le_refl _)
  unfold S63; omega
section
variable {s t B : Int} (hs : s * s = 4294967296 * t) (ht : 0 ≤ t) (s0 : 0 ≤ s) (hB : 0 ≤ B) (b1 : B * s ≤ 9223372036854775807) (b2 : 2 * (B * B) * t ≤ 9223372036854775807) {p q : P2} (hp : InB B p) (hq : InB B q)
include hs ht s0 hB b1 b2 hp hq
theorem cross_lat : cross (sc2 s p) (sc2 s q) = kOf p q * t := by
  have x1 := S63_mul hB s0 hp.1 hp.2.1 b1
  have x2 := S63_mul hB s0 hp.2.2.1 hp.2.2.2 b1
  have y1 := S63_mul hB s0 hq.1 hq.2.1 b1
  have y2 := S63_mul hB s0 hq.2.2.1 hq.2.2.2 b1
  have a := smallb hB hB hp.1 hp.2.1 hq.2.2.1 hq.2.2.2
  have b := smallb hB hB hp.2.2.1 hp.2.2.2 hq.1 hq.2.1
  have bb : 0 ≤ B * B := Int.mul_nonneg hB hB
  have a' := S63_mul (B := 2 * (B * B)) (by omega) ht (x := p.1 * q.2) (by omega) (by omega) b2
  have b' := S63_mul (B := 2 * (B * B)) (by omega) ht (x := p.2 * q.1) (by omega) (by omega) b2
  have c := S63_mul (B := 2 * (B * B)) (by omega) ht (x := p.1 * q.2 - p.2 * q.1) (by omega) (by omega) b2
  unfold cross sc2 kOf
  simp only
  rw [mulx hs ht _ _ x1 y2 a', mulx hs ht _ _ x2 y1 b', sub_id a' b' (by rw [← Int.sub_mul]; exact c), Int.sub_mul]
theorem dot_lat : dot (sc2 s p) (sc2 s q) = dOf p q * t := by
  have x1 := S63_mul hB s0 hp.1 hp.2.1 b1
  have x2 := S63_mul hB s0 hp.2.2.1 hp.2.2.2 b1
  have y1 := S63_mul hB s0 hq.1 hq.2.1 b1
  have y2 := S63_mul hB s0 hq.2.2.1 hq.2.2.2 b1
  have a := smallb hB hB hp.1 hp.2.1 hq.1 hq.2.1
  have b := smallb hB hB hp.2.2.1 hp.2.2.2 hq.2.2.1 hq.2.2.2
  have bb : 0 ≤ B * B := Int.mul_nonneg hB hB
  have a' := S63_mul (B := 2 * (B * B)) (by omega) ht (x := p.1 * q.1) (by omega) (by omega) b2
  have b' := S63_mul (B := 2 * (B * B)) (by omega) ht (x := p.2 * q.2) (by omega) (by omega) b2
  have c := S63_mul (B := 2 * (B * B)) (by omega) ht (x := p.1 * q.1 + p.2 * q.2) (by omega) (by omega) b2
  unfold dot sc2 dOf
  simp only
  rw [mulx hs ht _ _ x1 y1 a', mulx hs ht _ _ x2 y2 b', add_id a' b' (by rw [← Int.add_mul]; exact c), Int.add_mul]
theorem areaT_lat (hk : 0 ≤ kOf p q) : areaT (sc2 s p) (sc2 s q) = kOf p q * t / 2 := by
  have c := (kOf_b hB hp hq).2
  have bb : 0 ≤ B * B := Int.mul_nonneg hB hB
  have d := S63_mul (B := 2 * (B * B)) (by omega) ht (x := kOf p q) (by omega) (by omega) b2
  have n := Int.mul_nonneg hk ht
  unfold areaT
  rw [cross_lat hs ht s0 hB b1 b2 hp hq]
  unfold S63 at d
  have e : kOf p q * t * 4294967296 / 8589934592 = kOf p q * t / 2 := by omega
  rw [div_nn n (by omega) (by omega), e]
end
/-- How a side counts, at most so far away. -/
def rT (p q : P2) : Int := kOf p q * 4096 * (fOf p q * 4096) / 4294967296 / 12
theorem roundT_lat {p q : P2} (hp : InB 8320 p) (hq : InB 8320 q) (hk : 0 ≤ kOf p q) : roundT (sc2 4194304 p) (sc2 4194304 q) = rT p q ∧ 0 ≤ rT p q ∧ rT p q ≤ 100000000000000 := by
  have hs : (4194304 : Int) * 4194304 = 4294967296 * 4096 := by decide
  have L1 := cross_lat (B := 8320) hs (by omega) (by omega) (by omega) (by omega) (by omega) hp hq
  have L2 := dot_lat (B := 8320) hs (by omega) (by omega) (by omega) (by omega) (by omega) hp hp
  have L3 := dot_lat (B := 8320) hs (by omega) (by omega) (by omega) (by omega) (by omega) hp hq
  have L4 := dot_lat (B := 8320) hs (by omega) (by omega) (by omega) (by omega) (by omega) hq hq
  have c := kOf_b (by omega) hp hq
  have c1 := dOf_b (by omega) hp hp
  have c2 := dOf_b (by omega) hp hq
  have c3 := dOf_b (by omega) hq hq
  have f0 := fOf_nn p q
  have f1 : fOf p q ≤ 415334400 := by unfold fOf; omega
  have eF : farOf (sc2 4194304 p) (sc2 4194304 q) = fOf p q * 4096 := by
    unfold farOf
    rw [L2, L3, L4, add_id (a := dOf p p * 4096) (b := dOf p q * 4096) (by unfold S63; omega) (by unfold S63; omega) (by unfold S63; omega), add_id (by unfold S63; omega) (by unfold S63; omega) (by unfold S63; omega)]
    unfold fOf; omega
  have kf : 0 ≤ kOf p q * 4096 * (fOf p q * 4096) ∧ kOf p q * 4096 * (fOf p q * 4096) ≤ 567103979520 * 1701209702400 := by
    have := smallb (A := 567103979520) (B := 1701209702400) (x := kOf p q * 4096) (y := fOf p q * 4096) (by omega) (by omega) (by omega) (by omega) (by omega) (by omega)
    exact ⟨Int.mul_nonneg (by omega) (by omega), this.2⟩
  have hm : mul (kOf p q * 4096) (fOf p q * 4096) = kOf p q * 4096 * (fOf p q * 4096) / 4294967296 := mul_nn (by omega) (by omega) (by omega)
  have r : roundT (sc2 4194304 p) (sc2 4194304 q) = rT p q := by
    unfold roundT rT
    rw [L1, eF, hm]
    generalize kOf p q * 4096 * (fOf p q * 4096) = z at *
    have e : z / 4294967296 * 4294967296 / 51539607552 = z / 4294967296 / 12 := by omega
    rw [div_nn (by omega) (by omega) (by omega), e]
  refine ⟨r, ?_, ?_⟩
  · unfold rT; omega
  · unfold rT
    generalize kOf p q * 4096 * (fOf p q * 4096) = z at *
    omega

/-- A polygon of such corners, that goes round to the left. -/
structure Lat (n : Nat) (q : Nat → P2) : Prop where
  le : n ≤ 8
  b : ∀ i, i < n → InB 8320 (q i)
  k : ∀ i, i < n → 0 ≤ kOf (q i) (q ((i + 1) % n))
def aS (n : Nat) (q : Nat → P2) : Int := isum (fun i => kOf (q i) (q ((i + 1) % n)) * 4096 / 2) n
def rS (n : Nat) (q : Nat → P2) : Int := isum (fun i => rT (q i) (q ((i + 1) % n))) n
theorem Lat.area {n : Nat} {q : Nat → P2} (h : Lat n q) {kd r : Int} (hk : kd ≠ 1) {g : Nat → P2} (hg : ∀ i, i < n → g i = sc2 4194304 (q i)) : areaV kd r n g = aS n q ∧ 0 ≤ aS n q ∧ aS n q ≤ 4000000000000 := by
  have hs : (4194304 : Int) * 4194304 = 4294967296 * 4096 := by decide
  have hn := h.le
  have bd : ∀ i, i < n → 0 ≤ kOf (q i) (q ((i + 1) % n)) * 4096 / 2 ∧ kOf (q i) (q ((i + 1) % n)) * 4096 / 2 ≤ 283551989760 := fun i hi => by
    have c := kOf_b (by omega) (h.b i hi) (h.b _ (Nat.mod_lt (i + 1) (show 0 < n by omega)))
    have := h.k i hi
    omega
  have hC : (n : Int) * 283551989760 ≤ 2268415918080 := by omega
  have e := sumS_isum (T := areaT) (n := n) (g := g) (f := fun i => kOf (q i) (q ((i + 1) % n)) * 4096 / 2) (C := 283551989760) (fun i hi => by
    have hj := Nat.mod_lt (i + 1) (show 0 < n by omega)
    rw [hg i hi, hg _ hj]
    exact areaT_lat (B := 8320) hs (by omega) (by omega) (by omega) (by omega) (by omega) (h.b i hi) (h.b _ hj) (h.k i hi)) bd (by omega) (by omega) n 0 (by omega)
  have f := isum_nn n bd
  unfold areaV
  rw [if_neg hk]
  exact ⟨e, f.1, by unfold aS; omega⟩
theorem Lat.round {n : Nat} {q : Nat → P2} (h : Lat n q) {kd r : Int} (hk : kd ≠ 1) {g : Nat → P2} (hg : ∀ i, i < n → g i = sc2 4194304 (q i)) : roundV kd r n g = rS n q ∧ 0 ≤ rS n q ∧ rS n q ≤ 1000000000000000 := by
  have hn := h.le
  have bd : ∀ i, i < n → 0 ≤ rT (q i) (q ((i + 1) % n)) ∧ rT (q i) (q ((i + 1) % n)) ≤ 100000000000000 := fun i hi => (roundT_lat (h.b i hi) (h.b _ (Nat.mod_lt (i + 1) (show 0 < n by omega))) (h.k i hi)).2
  have hC : (n : Int) * 100000000000000 ≤ 800000000000000 := by omega
  have e := sumS_isum (T := roundT) (n := n) (g := g) (f := fun i => rT (q i) (q ((i + 1) % n))) (C := 100000000000000) (fun i hi => by
    have hj := Nat.mod_lt (i + 1) (show 0 < n by omega)
    rw [hg i hi, hg _ hj]
    exact (roundT_lat (h.b i hi) (h.b _ hj) (h.k i hi)).1) bd (by omega) (by omega) n 0 (by omega)
  have f := isum_nn n bd
  unfold roundV
  rw [if_neg hk]
  exact ⟨e, f.1, by unfold rS; omega⟩

/-! ### The polygons that seeds make -/
theorem ring_k : ∀ m : Fin 9, 3 ≤ m.val → ∀ tt : Fin 10, ∀ i : Fin m.val, 0 ≤ kOf (pick m.val tt.val i.val) (pick m.val tt.val ((i.val + 1) % m.val)) := by decide +kernel
theorem box_k : ∀ i : Fin 4, 0 ≤ kOf ((boxPts 1 1).getD i.val (0, 0)) ((boxPts 1 1).getD ((i.val + 1) % 4) (0, 0)) := by decide
theorem seed_lat {a b c d : Int} (h0 : a % 4 ≠ 0) : ∃ q : Nat → P2, (∀ i, i < seedN a b → seedPt a b c d i = sc2 4194304 (q i)) ∧ (∀ i, i < seedN a b → InB 4160 (q i)) ∧ (∀ i, i < seedN a b → 0 ≤ kOf (q i) (q ((i + 1) % seedN a b))) ∧ seedN a b ≤ 8 := by
  have hc : 0 ≤ c % 64 ∧ c % 64 < 64 := by omega
  have hd : 0 ≤ d % 32 ∧ d % 32 < 32 := by omega
  by_cases h1 : a % 4 = 1
  · have hn : seedN a b = 4 := by unfold seedN; rw [if_neg h0, if_pos h1]
    refine ⟨fun i => (boxPts ((1 + c % 64) * 64) ((1 + d % 32) * 64)).getD i (0, 0), fun i hi => ?_, fun i hi => ?_, fun i hi => ?_, by omega⟩
    · unfold seedPt
      rw [if_pos h1]
      rw [hn] at hi
      have : i = 0 ∨ i = 1 ∨ i = 2 ∨ i = 3 := by omega
      rcases this with rfl | rfl | rfl | rfl <;> simp [boxPts, sc2] <;> omega
    · rw [hn] at hi
      have : i = 0 ∨ i = 1 ∨ i = 2 ∨ i = 3 := by omega
      rcases this with rfl | rfl | rfl | rfl <;> simp [boxPts, InB] <;> omega
    · rw [hn] at hi ⊢
      have uv : 0 ≤ (1 + c % 64) * 64 * ((1 + d % 32) * 64) := Int.mul_nonneg (by omega) (by omega)
      have vu : (1 + d % 32) * 64 * ((1 + c % 64) * 64) = (1 + c % 64) * 64 * ((1 + d % 32) * 64) := Int.mul_comm _ _
      generalize (1 + c % 64) * 64 = u at *
      generalize (1 + d % 32) * 64 = v at *
      have : i = 0 ∨ i = 1 ∨ i = 2 ∨ i = 3 := by omega
      rcases this with rfl | rfl | rfl | rfl <;> simp [boxPts, kOf, Int.neg_mul, Int.mul_neg] <;> omega
  · have hn : seedN a b = (3 + b % 256 % 6).toNat := by unfold seedN; rw [if_neg h0, if_neg h1]
    refine ⟨fun i => sc2 (1 + c % 64) (pick (3 + b % 256 % 6).toNat (d % 256 % 10).toNat i), fun i hi => ?_, fun i hi => ?_, fun i hi => ?_, by omega⟩
    · unfold seedPt sc2
      rw [if_neg h1]
      simp only [Int.mul_assoc]
    · have pb := pick_b (3 + b % 256 % 6).toNat (d % 256 % 10).toNat i
      have x := smallb (A := 65) (B := 64) (y := 1 + c % 64) (by omega) (by omega) pb.1 pb.2.1 (by omega) (by omega)
      have y := smallb (A := 65) (B := 64) (y := 1 + c % 64) (by omega) (by omega) pb.2.2.1 pb.2.2.2 (by omega) (by omega)
      unfold InB sc2
      simp only
      omega
    · rw [hn] at hi ⊢
      show 0 ≤ kOf (sc2 (1 + c % 64) (pick (3 + b % 256 % 6).toNat (d % 256 % 10).toNat i)) (sc2 (1 + c % 64) (pick (3 + b % 256 % 6).toNat (d % 256 % 10).toNat ((i + 1) % (3 + b % 256 % 6).toNat)))
      have := ring_k ⟨(3 + b % 256 % 6).toNat, by omega⟩ (by simp only; omega) ⟨(d % 256 % 10).toNat, by omega⟩ ⟨i, hi⟩
      simp only at this
      generalize pick (3 + b % 256 % 6).toNat (d % 256 % 10).toNat i = P at *
      generalize pick (3 + b % 256 % 6).toNat (d % 256 % 10).toNat ((i + 1) % (3 + b % 256 % 6).toNat) = Q at *
      have e : kOf (sc2 (1 + c % 64) P) (sc2 (1 + c % 64) Q) = kOf P Q * ((1 + c % 64) * (1 + c % 64)) := by unfold kOf sc2; grind
      rw [e]
      exact Int.mul_nonneg this (Int.mul_nonneg (by omega) (by omega))

/-! ### Circles -/
theorem circ {m : Int} (h0 : 0 ≤ m) (h1 : m ≤ 131072) : ∃ S : Int, mul (m * 1048576) (m * 1048576) = S ∧ S = m * m * 256 ∧ 0 ≤ S ∧ S ≤ 4398046511104 ∧ ∀ (n : Nat) (g : Nat → P2), areaV 1 (m * 1048576) n g = 13493037705 * S / 4294967296 ∧ roundV 1 (m * 1048576) n g = 13493037705 * S / 4294967296 * S / 4294967296 / 2 := by
  have mm := smallb (A := 131072) (B := 131072) (x := m) (y := m) (by omega) (by omega) (by omega) (by omega) (by omega) (by omega)
  have mn := sq_nn m
  have e : mul (m * 1048576) (m * 1048576) = m * m * 256 := mulx (s := 1048576) (t := 256) (by decide) (by omega) m m (by unfold S63; omega) (by unfold S63; omega) (by unfold S63; omega)
  refine ⟨m * m * 256, e, rfl, by omega, by omega, fun n g => ?_⟩
  have eA : areaV 1 (m * 1048576) n g = 13493037705 * (m * m * 256) / 4294967296 := by
    unfold areaV
    rw [if_pos rfl, e]
    generalize m * m = z at *
    rw [mul_nn (by omega) (by omega) (by omega)]
  refine ⟨eA, ?_⟩
  unfold roundV
  rw [if_pos rfl, eA, e]
  generalize hz : m * m * 256 = z at *
  have A0 : 0 ≤ 13493037705 * z / 4294967296 := by omega
  have A1 : 13493037705 * z / 4294967296 ≤ 13816870609930 := by omega
  generalize 13493037705 * z / 4294967296 = A at *
  have Az := smallb (A := 13816870609930) (B := 4398046511104) (x := A) (y := z) (by omega) (by omega) (by omega) (by omega) (by omega) (by omega)
  have An := Int.mul_nonneg A0 (show 0 ≤ z by omega)
  have em : mul A z = A * z / 4294967296 := mul_nn (by omega) (by omega) (by omega)
  rw [em]
  generalize A * z = y at *
  have ed : y / 4294967296 * 4294967296 / 8589934592 = y / 4294967296 / 2 := by omega
  rw [div_nn (by omega) (by omega) (by omega), ed]
/-- What a seed's shape has. -/
theorem seed_ar (a b c d : Int) {g : Nat → P2} (hg : ∀ i, i < seedN a b → g i = seedPt a b c d i) :
    0 ≤ areaV (seedKd a) (seedR a c) (seedN a b) g ∧ areaV (seedKd a) (seedR a c) (seedN a b) g ≤ 4000000000000 ∧ 0 ≤ roundV (seedKd a) (seedR a c) (seedN a b) g ∧ roundV (seedKd a) (seedR a c) (seedN a b) g ≤ 1000000000000000 := by
  by_cases h0 : a % 4 = 0
  · have e1 : seedKd a = 1 := by unfold seedKd; rw [if_pos h0]
    have e2 : seedR a c = (1 + c % 64) * 256 * 1048576 := by unfold seedR; rw [if_pos h0]; omega
    rw [e1, e2]
    obtain ⟨S, _, s1, s2, s3, hA⟩ := circ (m := (1 + c % 64) * 256) (by omega) (by omega)
    obtain ⟨a1, a2⟩ := hA (seedN a b) g
    rw [a1, a2]
    have sS : S ≤ 68719476736 := by
      rw [s1]
      have := smallb (A := 16384) (B := 16384) (x := (1 + c % 64) * 256) (y := (1 + c % 64) * 256) (by omega) (by omega) (by omega) (by omega) (by omega) (by omega)
      omega
    have A0 : 0 ≤ 13493037705 * S / 4294967296 := by omega
    have A1 : 13493037705 * S / 4294967296 ≤ 215888603281 := by omega
    generalize 13493037705 * S / 4294967296 = A at *
    have Az := smallb (A := 215888603281) (B := 68719476736) (x := A) (y := S) (by omega) (by omega) (by omega) (by omega) (by omega) (by omega)
    have An := Int.mul_nonneg A0 s2
    omega
  · have e1 : seedKd a ≠ 1 := by unfold seedKd; rw [if_neg h0]; omega
    obtain ⟨q, q1, q2, q3, q4⟩ := seed_lat (b := b) (c := c) (d := d) h0
    have L : Lat (seedN a b) q := ⟨q4, fun i hi => by have := q2 i hi; unfold InB at this ⊢; omega, q3⟩
    obtain ⟨l1, l2, l3⟩ := L.area (r := seedR a c) e1 (g := g) (fun i hi => by rw [hg i hi, q1 i hi])
    obtain ⟨r1, r2, r3⟩ := L.round (r := seedR a c) e1 (g := g) (fun i hi => by rw [hg i hi, q1 i hi])
    rw [l1, r1]
    exact ⟨l2, l3, r2, r3⟩

/-! ### Twice the density -/
theorem seedR_i (a c : Int) : I64 (seedR a c) := by unfold seedR I64; split <;> omega
theorem seedPt_i {a b c d : Int} {s : Nat → P2} (hs : ∀ i, i < seedN a b → s i = seedPt a b c d i) : ∀ i, i < seedN a b → I2 (s i) := fun i hi => by rw [hs i hi]; exact (seed_near a b c d i hi).i
theorem one1_twice {P x y : Int} (h0 : 0 ≤ P) (hx : x = P / 4294967296) (hy : y = 2 * P / 4294967296) : 1 ≤ one1 x ∧ one1 x ≤ one1 y ∧ one1 y ≤ 2 * one1 x + 1 ∧ one1 y + 1 ≥ 2 * one1 x - 1 ∧ one1 x = (if 1 > P / 4294967296 then 1 else P / 4294967296) := by
  subst hx hy
  unfold one1
  refine ⟨?_, ?_, ?_, ?_, rfl⟩
  all_goals repeat' split
  all_goals omega
theorem dense_eq (a b c d den : Int) : law05.MassDense.f ((a, b, c, d), den) = some true := by
  obtain ⟨s, s1, s2⟩ := Seed_eq a b c d
  have hi := seedPt_i s2
  have hn := seedN_le a b
  have hr := seedR_i a c
  obtain ⟨A0, A1, R0, R1⟩ := seed_ar a b c d s2
  have em : Go.bits .and .i64 den 2199023255551 = den % 2199023255552 := mask (m := 41) (by omega) den
  have e1 : IntKind.i64.wrap (1 + den % 2199023255552) = 1 + den % 2199023255552 := w64 (by unfold I64; omega)
  have e2 : IntKind.i64.wrap (2 * (1 + den % 2199023255552)) = 2 * (1 + den % 2199023255552) := w64 (by unfold I64; omega)
  rw [law05.MassDense.eq, fit_eq, Option.bind_some]
  simp only [Bool.not_true, cond_false]
  rw [s1, Option.bind_some, em, e1, e2]
  obtain ⟨D, hD⟩ : ∃ D, 1 + den % 2199023255552 = D := ⟨_, rfl⟩
  rw [hD]
  have D0 : 1 ≤ D := by omega
  have D1 : D ≤ 2199023255552 := by omega
  simp only
  rw [Of_eq (by unfold I64; omega) (by omega) hr hn hi, Option.bind_some, Of_eq (by unfold I64; omega) (by omega) hr hn hi, Option.bind_some]
  unfold massV
  generalize areaV (seedKd a) (seedR a c) (seedN a b) s = A at *
  generalize roundV (seedKd a) (seedR a c) (seedN a b) s = R at *
  have pA := smallb (A := 2199023255552) (B := 4000000000000) (x := D) (y := A) (by omega) (by omega) (by omega) (by omega) (by omega) (by omega)
  have pR := smallb (A := 2199023255552) (B := 1000000000000000) (x := D) (y := R) (by omega) (by omega) (by omega) (by omega) (by omega) (by omega)
  have nA := Int.mul_nonneg (show 0 ≤ D by omega) A0
  have nR := Int.mul_nonneg (show 0 ≤ D by omega) R0
  have tA : 2 * D * A = 2 * (D * A) := Int.mul_assoc _ _ _
  have tR : 2 * D * R = 2 * (D * R) := Int.mul_assoc _ _ _
  have mA : mul D A = D * A / 4294967296 := mul_nn (by omega) A0 (by omega)
  have mR : mul D R = D * R / 4294967296 := mul_nn (by omega) R0 (by omega)
  have mA2 : mul (2 * D) A = 2 * (D * A) / 4294967296 := by rw [mul_nn (by omega) A0 (by omega), tA]
  have mR2 : mul (2 * D) R = 2 * (D * R) / 4294967296 := by rw [mul_nn (by omega) R0 (by omega), tR]
  obtain ⟨a1, a2, a3, a4, a5⟩ := one1_twice nA mA mA2
  obtain ⟨r1, r2, r3, r4, r5⟩ := one1_twice nR mR mR2
  have x1 := div_anti a1 a2
  have x2 := div_anti r1 r2
  have aB : one1 (mul D A) ≤ 4000000000000000 := by rw [a5]; split <;> omega
  generalize one1 (mul D A) = u at *
  generalize one1 (mul (2 * D) A) = u2 at *
  generalize one1 (mul D R) = v at *
  generalize one1 (mul (2 * D) R) = v2 at *
  simp only
  rw [w64 (x := 2 * u) (by unfold I64; omega), w64 (x := 2 * u + 1) (by unfold I64; omega), w64 (x := 2 * u - 1) (by unfold I64; omega), w64 (x := u2 + 1) (by unfold I64; omega)]
  rw [decide_eq_true (by omega), cond_true, decide_eq_true (by omega), cond_true, decide_eq_true x1, cond_true, decide_eq_true x2, cond_true, decide_eq_true r2]
theorem MassDense_true (a b c d den : Int) (w0 : (Lit.int .i64 a).wf = true) (w1 : (Lit.int .i64 b).wf = true) (w2 : (Lit.int .i64 c).wf = true) (w3 : (Lit.int .i64 d).wf = true) (w4 : (Lit.int .i64 den).wf = true) : law05.MassDense.f ((a, b, c, d), den) = some true := dense_eq a b c d den
end Go.Proofs.Ytneighaelofnhaa.Y
