/- Plain geometry of whole numbers: where two convex polygons lie apart, some side tells it. -/
import Derived.Test.YtejlappndcakeaaYVs
namespace Go.Proofs.Ytejlappndcakeaa.Y
set_option linter.unusedVariables false
set_option linter.unusedSimpArgs false

def crs (a b : Int × Int) : Int := a.1 * b.2 - a.2 * b.1
def dtp (a b : Int × Int) : Int := a.1 * b.1 + a.2 * b.2
def nrm (a : Int × Int) : Int := (a.1.natAbs : Int) + a.2.natAbs
theorem nrm_b (a : Int × Int) : a.1 ≤ nrm a ∧ -nrm a ≤ a.1 ∧ a.2 ≤ nrm a ∧ -nrm a ≤ a.2 ∧ 0 ≤ nrm a := by unfold nrm; omega
theorem le_of_mul {a b c : Int} (ha : 0 < a) (h : a * b ≤ a * c) : b ≤ c := Int.le_of_mul_le_mul_left h ha
theorem mulle {a b c : Int} (ha : 0 ≤ a) (h : b ≤ c) : a * b ≤ a * c := Int.mul_le_mul_of_nonneg_left h ha
theorem muln {a b : Int} (ha : 0 ≤ a) (hb : 0 ≤ b) : 0 ≤ a * b := Int.mul_nonneg ha hb
/-- Both ways are told by corners of one polygon. -/
theorem W_same {c d v : Int × Int} {G E K : Int} (hc : c.2 ≤ 0) (hd : 0 ≤ d.2) (hk : nrm c * nrm d ≤ K * crs c d) (nc : 0 < nrm c) (nd : 0 < nrm d) (h1 : dtp c v ≤ E * nrm c) (h2 : dtp d v ≤ E * nrm d) (hg : G ≤ v.1) (hE : 0 ≤ E) (hK : 0 < K) (hG : 2 * E * K < G) : False := by
  have id : crs c d * v.1 = d.2 * dtp c v + (-c.2) * dtp d v := by unfold crs dtp; grind
  have b1 := mulle hd h1
  have b2 := mulle (show 0 ≤ -c.2 by omega) h2
  have p := Int.mul_pos nc nd
  have hG0 : 0 ≤ G := by have := muln (muln (show (0:Int) ≤ 2 by omega) hE) (show 0 ≤ K by omega); omega
  have hcr : 0 < crs c d := by
    rcases Int.lt_or_le 0 (crs c d) with h | h
    · exact h
    · have := mulle (show 0 ≤ K by omega) h
      rw [Int.mul_zero] at this; omega
  have b3 := mulle (show 0 ≤ crs c d by omega) hg
  have b4 : d.2 * (E * nrm c) ≤ nrm d * (E * nrm c) := Int.mul_le_mul_of_nonneg_right (nrm_b d).2.2.1 (muln hE (by omega))
  have b5 : (-c.2) * (E * nrm d) ≤ nrm c * (E * nrm d) := Int.mul_le_mul_of_nonneg_right (by have := (nrm_b c).2.2.2.1; omega) (muln hE (by omega))
  have b6 : crs c d * G ≤ 2 * E * (nrm c * nrm d) := by grind
  have b7 := mulle (show 0 ≤ K by omega) b6
  have b8 : nrm c * nrm d * G ≤ K * crs c d * G := Int.mul_le_mul_of_nonneg_right hk hG0
  have b9 : (nrm c * nrm d) * G ≤ (nrm c * nrm d) * (2 * E * K) := by grind
  have := le_of_mul p b9
  omega
/-- The one way is told by the one polygon, the other way by the other one. -/
theorem W_mixed {c d f g v : Int × Int} {G E K : Int} (hc : c.2 ≤ 0) (hf : f.2 ≤ 0) (hd : 0 ≤ d.2) (hgg : 0 ≤ g.2) (k1 : nrm c * nrm g ≤ K * crs c g) (k2 : nrm f * nrm d ≤ K * crs f d) (nc : 0 < nrm c) (nd : 0 < nrm d) (nf : 0 < nrm f) (ng : 0 < nrm g)
    (o1 : 0 ≤ crs f c) (o2 : 0 ≤ crs d g) (h1 : dtp c v ≤ E * nrm c) (h2 : dtp d v ≤ E * nrm d) (hg : G ≤ v.1) (hE : 0 ≤ E) (hK : 0 < K) (hG : 2 * E * K < G) : False := by
  have id : crs c d * v.1 = d.2 * dtp c v + (-c.2) * dtp d v := by unfold crs dtp; grind
  have hG0 : 0 ≤ G := by have := muln (muln (show (0:Int) ≤ 2 by omega) hE) (show 0 ≤ K by omega); omega
  have hEK : 0 ≤ E * K := muln hE (by omega)
  -- two bounds below
  have i1 : g.2 * crs c d = d.2 * crs c g + crs d g * (-c.2) := by unfold crs; grind
  have i2 : (-f.2) * crs c d = (-c.2) * crs f d + crs f c * d.2 := by unfold crs; grind
  have c0 : 0 ≤ -c.2 := by omega
  have f0 : 0 ≤ -f.2 := by omega
  have q1 : d.2 * (nrm c * nrm g) ≤ K * (g.2 * crs c d) := by
    have a1 := mulle hd k1
    have a2 := muln (show 0 ≤ K by omega) (muln o2 c0)
    rw [i1, Int.mul_add, show K * (d.2 * crs c g) = d.2 * (K * crs c g) by grind]
    omega
  have q2 : (-c.2) * (nrm f * nrm d) ≤ K * ((-f.2) * crs c d) := by
    have a1 := mulle c0 k2
    have a2 := muln (show 0 ≤ K by omega) (muln o1 hd)
    rw [i2, Int.mul_add, show K * ((-c.2) * crs f d) = (-c.2) * (K * crs f d) by grind]
    omega
  have gb := (nrm_b g).2.2.1
  have fb : -f.2 ≤ nrm f := by have := (nrm_b f).2.2.2.1; omega
  -- crs c d is not below 0
  have g1pos : 0 < g.1 ∨ 0 < g.2 := by
    rcases Int.lt_or_le 0 g.2 with h | h
    · exact .inr h
    · have e : g.2 = 0 := by omega
      have p := Int.mul_pos nc ng
      have : 0 < K * crs c g := by omega
      have hcg : 0 < crs c g := by
        rcases Int.lt_or_le 0 (crs c g) with h | h
        · exact h
        · have := mulle (show 0 ≤ K by omega) h
          rw [Int.mul_zero] at this; omega
      have e2 : crs c g = (-c.2) * g.1 := by unfold crs; rw [e]; grind
      left
      rcases Int.lt_or_le 0 g.1 with h | h
      · exact h
      · have := mulle c0 h
        rw [Int.mul_zero] at this; omega
  have f1pos : 0 < f.1 ∨ f.2 < 0 := by
    rcases Int.lt_or_le f.2 0 with h | h
    · exact .inr h
    · have e : f.2 = 0 := by omega
      have p := Int.mul_pos nf nd
      have hcg : 0 < crs f d := by
        rcases Int.lt_or_le 0 (crs f d) with h | h
        · exact h
        · have := mulle (show 0 ≤ K by omega) h
          rw [Int.mul_zero] at this; omega
      have e2 : crs f d = f.1 * d.2 := by unfold crs; rw [e]; grind
      left
      rcases Int.lt_or_le 0 f.1 with h | h
      · exact h
      · have := Int.mul_le_mul_of_nonneg_right h hd
        rw [Int.zero_mul] at this; omega
  have hcd : 0 ≤ crs c d := by
    rcases Int.lt_or_le 0 g.2 with h | h
    · have a0 : 0 ≤ K * (g.2 * crs c d) := by have := muln hd (muln (show 0 ≤ nrm c by omega) (show 0 ≤ nrm g by omega)); omega
      have a1 : 0 ≤ (K * g.2) * crs c d := by grind
      rcases Int.lt_or_le (crs c d) 0 with h2 | h2
      · have := Int.mul_neg_of_pos_of_neg (Int.mul_pos hK h) h2; omega
      · exact h2
    · have e : g.2 = 0 := by omega
      rcases Int.lt_or_le f.2 0 with h' | h'
      · have a0 : 0 ≤ K * ((-f.2) * crs c d) := by have := muln c0 (muln (show 0 ≤ nrm f by omega) (show 0 ≤ nrm d by omega)); omega
        have a1 : 0 ≤ (K * (-f.2)) * crs c d := by grind
        rcases Int.lt_or_le (crs c d) 0 with h2 | h2
        · have := Int.mul_neg_of_pos_of_neg (Int.mul_pos hK (show 0 < -f.2 by omega)) h2; omega
        · exact h2
      · -- both lie along the way itself
        have e' : f.2 = 0 := by omega
        have gp : 0 < g.1 := by omega
        have fp : 0 < f.1 := by omega
        have d0 : d.2 = 0 := by
          have : crs d g = -(d.2 * g.1) := by unfold crs; rw [e]; grind
          have := Int.mul_nonneg hd (show 0 ≤ g.1 by omega)
          have z : d.2 * g.1 = 0 := by omega
          rcases Int.mul_eq_zero.1 z with z | z <;> omega
        have cz : c.2 = 0 := by
          have : crs f c = f.1 * c.2 := by unfold crs; rw [e']; grind
          rcases Int.lt_or_le c.2 0 with h3 | h3
          · have := Int.mul_neg_of_pos_of_neg fp h3; omega
          · omega
        unfold crs; rw [d0, cz]; grind
  have b1 := mulle hd h1
  have b2 := mulle c0 h2
  have b3 := mulle hcd hg
  have S0 : 0 ≤ d.2 * nrm c + (-c.2) * nrm d := by have := muln hd (show 0 ≤ nrm c by omega); have := muln c0 (show 0 ≤ nrm d by omega); omega
  -- K crs c d is at least half of it
  have r1 : d.2 * nrm c ≤ K * crs c d := by
    have a1 : nrm g * (d.2 * nrm c) ≤ K * (g.2 * crs c d) := by grind
    have a2 : g.2 * (K * crs c d) ≤ nrm g * (K * crs c d) := Int.mul_le_mul_of_nonneg_right gb (muln (by omega) hcd)
    exact le_of_mul ng (by grind)
  have r2 : (-c.2) * nrm d ≤ K * crs c d := by
    have a1 : nrm f * ((-c.2) * nrm d) ≤ K * ((-f.2) * crs c d) := by grind
    have a2 : (-f.2) * (K * crs c d) ≤ nrm f * (K * crs c d) := Int.mul_le_mul_of_nonneg_right fb (muln (by omega) hcd)
    exact le_of_mul nf (by grind)
  have b6 : crs c d * G ≤ E * (d.2 * nrm c + (-c.2) * nrm d) := by grind
  rcases Int.lt_or_le 0 (crs c d) with hp | hp
  · have b7 : E * (d.2 * nrm c + (-c.2) * nrm d) ≤ E * (2 * (K * crs c d)) := mulle hE (by omega)
    have b8 : crs c d * G ≤ crs c d * (2 * E * K) := by grind
    have := le_of_mul hp b8
    omega
  · have z : crs c d = 0 := by omega
    have d0 : d.2 = 0 := by
      rw [z, Int.mul_zero] at r1
      rcases Int.lt_or_le 0 d.2 with h | h
      · have := Int.mul_pos h nc; omega
      · omega
    have c00 : c.2 = 0 := by
      rw [z, Int.mul_zero] at r2
      rcases Int.lt_or_le 0 (-c.2) with h | h
      · have := Int.mul_pos h nd; omega
      · omega
    -- c lies along the way
    have c1 : nrm c = c.1 ∨ c.1 < 0 := by unfold nrm; rw [c00]; omega
    rcases c1 with c1 | c1
    · have e : dtp c v = c.1 * v.1 := by unfold dtp; rw [c00]; grind
      rw [e, c1] at h1
      have : v.1 ≤ E := le_of_mul (show 0 < c.1 by omega) (by grind)
      have : E ≤ E * K := by have := mulle hE (show 1 ≤ K by omega); omega
      have e3 : 2 * E * K = 2 * (E * K) := by grind
      omega
    · -- then its own corner would be turned
      have : crs c g = c.1 * g.2 := by unfold crs; rw [c00]; grind
      have p := Int.mul_pos nc ng
      have h3 : K * crs c g ≤ 0 := by
        have := Int.mul_nonneg (show 0 ≤ -c.1 by omega) hgg
        have := mulle (show 0 ≤ K by omega) (show crs c g ≤ 0 by grind)
        omega
      omega
/-! ### Polygons -/
def sb (a b : Int × Int) : Int × Int := (a.1 - b.1, a.2 - b.2)
def ng (a : Int × Int) : Int × Int := (-a.1, -a.2)
def nxt (n i : Nat) : Nat := (i + 1) % n
def prv (n i : Nat) : Nat := (i + n - 1) % n
theorem nxt_lt {n i : Nat} (h : 0 < n) : nxt n i < n := Nat.mod_lt _ h
theorem prv_lt {n i : Nat} (h : 0 < n) : prv n i < n := Nat.mod_lt _ h
theorem nxt_prv {n i : Nat} (h : i < n) : nxt n (prv n i) = i := by
  unfold nxt prv
  rcases Nat.eq_zero_or_pos i with rfl | h0
  · rw [Nat.zero_add, Nat.mod_eq_of_lt (show n - 1 < n by omega), show n - 1 + 1 = n by omega, Nat.mod_self]
  · rw [show i + n - 1 = (i - 1) + n by omega, Nat.add_mod_right, Nat.mod_eq_of_lt (show i - 1 < n by omega), show i - 1 + 1 = i by omega, Nat.mod_eq_of_lt h]
/-- The outward normal of a side, as long as the side. -/
def Nm (p : Nat → Int × Int) (n i : Nat) : Int × Int := ((p (nxt n i)).2 - (p i).2, -((p (nxt n i)).1 - (p i).1))
structure Cvx (K : Int) (p : Nat → Int × Int) (n : Nat) : Prop where
  pos : 0 < n
  inn : ∀ i k, i < n → k < n → dtp (Nm p n i) (sb (p k) (p i)) ≤ 0
  wed : ∀ i, i < n → nrm (Nm p n i) * nrm (Nm p n (nxt n i)) ≤ K * crs (Nm p n i) (Nm p n (nxt n i))
  len : ∀ i, i < n → 0 < nrm (Nm p n i)
/-- Each side of p has some corner of q near or within it. -/
def Near1 (E : Int) (p : Nat → Int × Int) (n : Nat) (q : Nat → Int × Int) (m : Nat) : Prop := ∀ i, i < n → ∃ j, j < m ∧ dtp (Nm p n i) (sb (q j) (p i)) ≤ E * nrm (Nm p n i)
theorem top_of (f : Nat → Int) : ∀ n, 0 < n → ∃ a, a < n ∧ ∀ k, k < n → f k ≤ f a
  | 1, _ => ⟨0, by omega, fun k hk => by
      have h0 : k = 0 := by omega
      rw [h0]; exact Int.le_refl _⟩
  | n + 2, _ => by
    obtain ⟨a, h1, h2⟩ := top_of f (n + 1) (by omega)
    by_cases h : f a ≤ f (n + 1)
    · exact ⟨n + 1, by omega, fun k hk => by
        rcases Nat.lt_succ_iff_lt_or_eq.1 hk with h3 | rfl
        · have := h2 k h3; omega
        · exact Int.le_refl _⟩
    · exact ⟨a, by omega, fun k hk => by
        rcases Nat.lt_succ_iff_lt_or_eq.1 hk with h3 | rfl
        · exact h2 k h3
        · omega⟩
theorem nrm_ng (a : Int × Int) : nrm (ng a) = nrm a := by unfold nrm ng; simp
theorem crs_ng (a b : Int × Int) : crs (ng a) (ng b) = crs a b := by unfold crs ng; simp only []; grind
theorem wed_x {c g : Int × Int} {K : Int} (hK : 0 < K) (k1 : nrm c * nrm g ≤ K * crs c g) (nc : 0 < nrm c) (ng' : 0 < nrm g) : 0 < crs c g := by
  have p := Int.mul_pos nc ng'
  rcases Int.lt_or_le 0 (crs c g) with h | h
  · exact h
  · have := mulle (show 0 ≤ K by omega) h
    rw [Int.mul_zero] at this; omega
theorem wed_1 {c g : Int × Int} (h : 0 < crs c g) (hg : 0 ≤ g.2) (h0 : c.2 = 0) : 0 < c.1 := by
  unfold crs at h
  rw [h0] at h
  rcases Int.lt_or_le 0 c.1 with h1 | h1
  · exact h1
  · have := Int.mul_le_mul_of_nonneg_right h1 hg
    rw [Int.zero_mul] at this; omega
theorem wed_2 {c g : Int × Int} (h : 0 < crs c g) (hc : c.2 ≤ 0) (h0 : g.2 = 0) : 0 < g.1 := by
  unfold crs at h
  rw [h0] at h
  rcases Int.lt_or_le 0 g.1 with h1 | h1
  · exact h1
  · have := mulle (show 0 ≤ -c.2 by omega) h1
    rw [Int.mul_zero] at this
    have e : -c.2 * g.1 = -(c.2 * g.1) := by grind
    omega
/-- 'a' lies nearer to the way than 'f', clockwise of it. -/
theorem btw1 {a f w : Int × Int} (ha : a.2 ≤ 0) (hf : f.2 ≤ 0) (o : 0 ≤ crs f a) (fa : f.2 = 0 → 0 < f.1) (aa : a.2 = 0 → 0 < a.1) (hw : 0 ≤ w.1) (h : 0 ≤ dtp f w) : 0 ≤ dtp a w := by
  have id : (-f.2) * dtp a w = (-a.2) * dtp f w + crs f a * w.1 := by unfold dtp crs; grind
  have p1 := muln (show 0 ≤ -a.2 by omega) h
  have p2 := muln o hw
  rcases Int.lt_or_le f.2 0 with h1 | h1
  · rcases Int.lt_or_le (dtp a w) 0 with h2 | h2
    · have := Int.mul_neg_of_pos_of_neg (show 0 < -f.2 by omega) h2; omega
    · exact h2
  · have f0 : f.2 = 0 := by omega
    have fp := fa f0
    have a0 : a.2 = 0 := by
      have e : crs f a = f.1 * a.2 := by unfold crs; rw [f0]; grind
      rcases Int.lt_or_le a.2 0 with h3 | h3
      · have := Int.mul_neg_of_pos_of_neg fp h3; omega
      · omega
    have e : dtp a w = a.1 * w.1 := by unfold dtp; rw [a0]; grind
    rw [e]; exact muln (by have := aa a0; omega) hw
theorem btw2 {a f w : Int × Int} (ha : 0 ≤ a.2) (hf : 0 ≤ f.2) (o : 0 ≤ crs a f) (fa : f.2 = 0 → 0 < f.1) (aa : a.2 = 0 → 0 < a.1) (hw : 0 ≤ w.1) (h : 0 ≤ dtp f w) : 0 ≤ dtp a w := by
  have id : f.2 * dtp a w = a.2 * dtp f w + crs a f * w.1 := by unfold dtp crs; grind
  have p1 := muln ha h
  have p2 := muln o hw
  rcases Int.lt_or_le 0 f.2 with h1 | h1
  · rcases Int.lt_or_le (dtp a w) 0 with h2 | h2
    · have := Int.mul_neg_of_pos_of_neg h1 h2; omega
    · exact h2
  · have f0 : f.2 = 0 := by omega
    have fp := fa f0
    have a0 : a.2 = 0 := by
      have e : crs a f = -(a.2 * f.1) := by unfold crs; rw [f0]; grind
      rcases Int.lt_or_le 0 a.2 with h3 | h3
      · have := Int.mul_pos h3 fp; omega
      · omega
    have e : dtp a w = a.1 * w.1 := by unfold dtp; rw [a0]; grind
    rw [e]; exact muln (by have := aa a0; omega) hw
theorem side_0 (p : Nat → Int × Int) (n i : Nat) : dtp (Nm p n i) (sb (p (nxt n i)) (p i)) = 0 := by unfold dtp Nm sb; grind
theorem dtp_split (a x y z : Int × Int) : dtp a (sb x z) = dtp a (sb x y) + dtp a (sb y z) := by unfold dtp sb; grind
theorem dtp_neg (a x y : Int × Int) : dtp (ng a) (sb x y) = dtp a (sb y x) := by unfold dtp sb ng; grind
theorem dtp_self (a x : Int × Int) : dtp a (sb x x) = 0 := by unfold dtp sb; grind
theorem apart {E K G : Int} {p q : Nat → Int × Int} {n m : Nat} (hp : Cvx K p n) (hq : Cvx K q m) (tp : Near1 E p n q m) (tq : Near1 E q m p n) (hE : 0 ≤ E) (hK : 0 < K) (hG : 2 * E * K < G) (hx : ∀ i j, i < n → j < m → G ≤ (q j).1 - (p i).1) : False := by
  obtain ⟨a, ha, ha'⟩ := top_of (fun k => (p k).1) n hp.pos
  obtain ⟨b, hb, hb'⟩ := top_of (fun k => -(q k).1) m hq.pos
  have lp := prv_lt (i := a) hp.pos
  have lq := prv_lt (i := b) hq.pos
  have np := nxt_prv ha
  have nq := nxt_prv hb
  have ln := nxt_lt (i := a) hp.pos
  have lm := nxt_lt (i := b) hq.pos
  have wp := hp.wed _ lp
  have wq := hq.wed _ lq
  rw [np] at wp; rw [nq] at wq
  have l1 := hp.len _ lp
  have l2 := hp.len _ ha
  have l3 := hq.len _ lq
  have l4 := hq.len _ hb
  have s1 := side_0 p n (prv n a)
  have s3 := side_0 q m (prv m b)
  rw [np] at s1; rw [nq] at s3
  -- the four ways
  have y1 : (Nm p n (prv n a)).2 ≤ 0 := by unfold Nm; rw [np]; have := ha' _ lp; simp only; omega
  have y2 : 0 ≤ (Nm p n a).2 := by unfold Nm; have := ha' _ ln; simp only; omega
  have y3 : (ng (Nm q m (prv m b))).2 ≤ 0 := by unfold ng Nm; rw [nq]; have := hb' _ lq; simp only; omega
  have y4 : 0 ≤ (ng (Nm q m b)).2 := by unfold ng Nm; have := hb' _ lm; simp only; omega
  have wq' : nrm (ng (Nm q m (prv m b))) * nrm (ng (Nm q m b)) ≤ K * crs (ng (Nm q m (prv m b))) (ng (Nm q m b)) := by rw [nrm_ng, nrm_ng, crs_ng]; exact wq
  have l3' : 0 < nrm (ng (Nm q m (prv m b))) := by rw [nrm_ng]; exact l3
  have l4' : 0 < nrm (ng (Nm q m b)) := by rw [nrm_ng]; exact l4
  have x1 := wed_x hK wp l1 l2
  have x2 := wed_x hK wq' l3' l4'
  -- what p's and q's corners say
  have p1 : ∀ i, i < n → 0 ≤ dtp (Nm p n (prv n a)) (sb (p a) (p i)) := fun i hi => by
    have h := hp.inn _ i lp hi
    rw [dtp_split _ _ (p a), s1] at h
    have := dtp_split (Nm p n (prv n a)) (p a) (p i) (p a)
    rw [dtp_self] at this; omega
  have p2 : ∀ i, i < n → 0 ≤ dtp (Nm p n a) (sb (p a) (p i)) := fun i hi => by
    have h := hp.inn _ i ha hi
    have := dtp_split (Nm p n a) (p a) (p i) (p a)
    rw [dtp_self] at this; omega
  have q1 : ∀ j, j < m → 0 ≤ dtp (ng (Nm q m (prv m b))) (sb (q j) (q b)) := fun j hj => by
    rw [dtp_neg]
    have h := hq.inn _ j lq hj
    rw [dtp_split _ _ (q b), s3] at h
    have := dtp_split (Nm q m (prv m b)) (q b) (q j) (q b)
    rw [dtp_self] at this; omega
  have q2 : ∀ j, j < m → 0 ≤ dtp (ng (Nm q m b)) (sb (q j) (q b)) := fun j hj => by
    rw [dtp_neg]
    have h := hq.inn _ j hb hj
    have := dtp_split (Nm q m b) (q b) (q j) (q b)
    rw [dtp_self] at this; omega
  have wx : ∀ j, j < m → 0 ≤ (sb (q j) (q b)).1 := fun j hj => by have := hb' j hj; unfold sb; simp only; omega
  have vx : ∀ i, i < n → 0 ≤ (sb (p a) (p i)).1 := fun i hi => by have := ha' i hi; unfold sb; simp only; omega
  have hgx : G ≤ (sb (q b) (p a)).1 := hx a b ha hb
  have tN1 : 0 ≤ crs (ng (Nm q m (prv m b))) (Nm p n (prv n a)) → dtp (Nm p n (prv n a)) (sb (q b) (p a)) ≤ E * nrm (Nm p n (prv n a)) := fun o => by
    obtain ⟨j, hj, h⟩ := tp _ lp
    have := btw1 y1 y3 o (wed_1 x2 y4) (wed_1 x1 y2) (wx j hj) (q1 j hj)
    rw [dtp_split _ _ (p a), s1, dtp_split _ _ (q b)] at h
    omega
  have tF1 : 0 ≤ crs (Nm p n (prv n a)) (ng (Nm q m (prv m b))) → dtp (ng (Nm q m (prv m b))) (sb (q b) (p a)) ≤ E * nrm (ng (Nm q m (prv m b))) := fun o => by
    obtain ⟨i, hi, h⟩ := tq _ lq
    have := btw1 y3 y1 o (wed_1 x1 y2) (wed_1 x2 y4) (vx i hi) (p1 i hi)
    rw [nrm_ng]
    rw [dtp_neg] at this ⊢
    rw [dtp_split _ _ (q b), s3, dtp_split _ _ (p a)] at h
    omega
  have tN2 : 0 ≤ crs (Nm p n a) (ng (Nm q m b)) → dtp (Nm p n a) (sb (q b) (p a)) ≤ E * nrm (Nm p n a) := fun o => by
    obtain ⟨j, hj, h⟩ := tp _ ha
    have := btw2 y2 y4 o (wed_2 x2 y3) (wed_2 x1 y1) (wx j hj) (q2 j hj)
    rw [dtp_split _ _ (q b)] at h
    omega
  have tF2 : 0 ≤ crs (ng (Nm q m b)) (Nm p n a) → dtp (ng (Nm q m b)) (sb (q b) (p a)) ≤ E * nrm (ng (Nm q m b)) := fun o => by
    obtain ⟨i, hi, h⟩ := tq _ hb
    have := btw2 y4 y2 o (wed_2 x1 y1) (wed_2 x2 y3) (vx i hi) (p2 i hi)
    rw [nrm_ng]
    rw [dtp_neg] at this ⊢
    rw [dtp_split _ _ (p a)] at h
    omega
  have anti : ∀ u v : Int × Int, crs u v = -crs v u := fun u v => by unfold crs; grind
  have a1 := anti (ng (Nm q m (prv m b))) (Nm p n (prv n a))
  have a2 := anti (Nm p n a) (ng (Nm q m b))
  rcases Int.lt_or_le (crs (ng (Nm q m (prv m b))) (Nm p n (prv n a))) 0 with c1 | c1 <;> rcases Int.lt_or_le (crs (Nm p n a) (ng (Nm q m b))) 0 with c2 | c2
  · exact W_same y3 y4 wq' l3' l4' (tF1 (by omega)) (tF2 (by omega)) hgx hE hK hG
  · exact W_mixed y3 y1 y2 y4 wq' wp l3' l2 l1 l4' (by omega) c2 (tF1 (by omega)) (tN2 c2) hgx hE hK hG
  · exact W_mixed y1 y3 y4 y2 wp wq' l1 l4' l3' l2 c1 (by omega) (tN1 c1) (tF2 (by omega)) hgx hE hK hG
  · exact W_same y1 y2 wp l1 l2 (tN1 c1) (tN2 c2) hgx hE hK hG
end Go.Proofs.Ytejlappndcakeaa.Y
