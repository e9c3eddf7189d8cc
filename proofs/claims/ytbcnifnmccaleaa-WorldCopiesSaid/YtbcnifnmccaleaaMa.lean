/- Plain mathematics of the fixed point numbers: sums, products, quotients and roots, brought to the range; nothing of the program. -/
import Derived.RowKit
import Derived.Laws.Bits64
import Derived.Laws.BitsLemmas
import Derived.Lib.BitFns
namespace Go.Proofs.Ytbcnifnmccaleaa.Ma
open Go.RowKit

/-- A number of 64 bits. -/
def I64 (a : Int) : Prop := -9223372036854775808 ≤ a ∧ a ≤ 9223372036854775807
/-- A number that may be: the least 64-bit number is none. -/
def S63 (a : Int) : Prop := -9223372036854775807 ≤ a ∧ a ≤ 9223372036854775807
theorem S63.i {a : Int} (h : S63 a) : I64 a := ⟨by have := h.1; omega, h.2⟩
def clamp (x : Int) : Int := if x < -9223372036854775807 then -9223372036854775807 else if 9223372036854775807 < x then 9223372036854775807 else x
def wh (a : Int) : Int := if a < -9223372036854775807 then -9223372036854775807 else a
def add (a b : Int) : Int := clamp (wh a + wh b)
def neg (a : Int) : Int := -(wh a)
def sub (a b : Int) : Int := add a (neg b)
def abs (a : Int) : Int := if a < 0 then neg a else a
def top (x : Int) : Int := if x < 9223372036854775808 then x else 9223372036854775807
def sgn (m : Bool) (x : Int) : Int := if m = true then -(top x) else top x
def sg (a b : Int) : Bool := (decide (a < 0)) != (decide (b < 0))
def mul (a b : Int) : Int := sgn (sg a b) (abs a * abs b / 4294967296)
def div (a b : Int) : Int := if abs a = 0 then 0 else if abs b = 0 then sgn (sg a b) 9223372036854775807 else sgn (sg a b) (abs a * 4294967296 / abs b)
def rt (A : Nat) : Nat → Nat → Nat
  | 0, o => o
  | i + 1, o => if (o + 2 ^ i) * (o + 2 ^ i) ≤ A then rt A i (o + 2 ^ i) else rt A i o
def sqrt (a : Int) : Int := if a ≤ 0 then 0 else ((rt (a.toNat * 4294967296) 48 0 : Nat) : Int)
def ofN (n : Int) : Int := if 2147483648 ≤ n then 9223372036854775807 else if n ≤ -2147483648 then -9223372036854775807 else n * 4294967296

theorem clamp_s (x : Int) : S63 (clamp x) := by unfold clamp S63; repeat' split
                                                all_goals omega
theorem clamp_id {x : Int} (h : S63 x) : clamp x = x := by unfold clamp; unfold S63 at h; rw [if_neg (by omega), if_neg (by omega)]
theorem wh_s {a : Int} (h : I64 a) : S63 (wh a) := by unfold wh S63; unfold I64 at h; split <;> omega
theorem wh_id {a : Int} (h : S63 a) : wh a = a := by unfold wh; unfold S63 at h; rw [if_neg (by omega)]
theorem wh_neg_iff (a : Int) : wh a < 0 ↔ a < 0 := by unfold wh; split <;> omega
theorem neg_s {a : Int} (h : I64 a) : S63 (neg a) := by have := wh_s h; unfold neg; unfold S63 at *; omega
theorem neg_id {a : Int} (h : S63 a) : neg a = -a := by unfold neg; rw [wh_id h]
theorem abs_s {a : Int} (h : I64 a) : 0 ≤ abs a ∧ abs a ≤ 9223372036854775807 := by
  have := neg_s h; unfold abs; unfold neg wh S63 at *; unfold I64 at h; split <;> omega
theorem abs_S {a : Int} (h : I64 a) : S63 (abs a) := by have := abs_s h; unfold S63; omega
theorem abs_nn {a : Int} (h : 0 ≤ a) : abs a = a := by unfold abs; rw [if_neg (by omega)]
theorem abs_ng {a : Int} (h : S63 a) (h0 : a ≤ 0) : abs a = -a := by
  unfold abs; split
  · exact neg_id h
  · omega
theorem abs_wh {a : Int} : abs (wh a) = abs a := by
  unfold abs neg wh; repeat' split
  all_goals omega
theorem abs_zero {a : Int} : abs a = 0 ↔ a = 0 := by
  unfold abs neg wh; repeat' split
  all_goals omega
theorem top_s {x : Int} (h : 0 ≤ x) : 0 ≤ top x ∧ top x ≤ 9223372036854775807 := by unfold top; split <;> omega
theorem sgn_s {m : Bool} {x : Int} (h : 0 ≤ x) : S63 (sgn m x) := by have := top_s h; unfold sgn S63; split <;> omega
theorem add_s (a b : Int) : S63 (add a b) := clamp_s _
theorem sub_s (a b : Int) : S63 (sub a b) := clamp_s _
theorem nn_mul {a b : Int} (ha : I64 a) (hb : I64 b) : 0 ≤ abs a * abs b / 4294967296 := by
  have := Int.mul_nonneg (abs_s ha).1 (abs_s hb).1; omega
theorem mul_s {a b : Int} (ha : I64 a) (hb : I64 b) : S63 (mul a b) := sgn_s (nn_mul ha hb)
theorem div_s {a b : Int} (ha : I64 a) (hb : I64 b) : S63 (div a b) := by
  unfold div; split
  · unfold S63; omega
  · split
    · exact sgn_s (by omega)
    · exact sgn_s (Int.ediv_nonneg (by have := (abs_s ha).1; omega) (abs_s hb).1)
theorem ofN_s (n : Int) : S63 (ofN n) := by unfold ofN S63; repeat' split
                                            all_goals omega
theorem add_eq {a b : Int} (ha : S63 a) (hb : S63 b) : add a b = clamp (a + b) := by unfold add; rw [wh_id ha, wh_id hb]
theorem sub_eq {a b : Int} (ha : S63 a) (hb : S63 b) : sub a b = clamp (a - b) := by
  unfold sub; rw [neg_id hb, add_eq ha (by unfold S63 at *; omega)]; rfl
theorem sub_wh {a b : Int} (hb : I64 b) : sub a b = clamp (wh a - wh b) := by
  unfold sub add; rw [wh_id (neg_s hb)]; rfl
/-- A sum that needs not be brought. -/
theorem add_id {a b : Int} (ha : S63 a) (hb : S63 b) (h : S63 (a + b)) : add a b = a + b := by rw [add_eq ha hb, clamp_id h]
theorem sub_id {a b : Int} (ha : S63 a) (hb : S63 b) (h : S63 (a - b)) : sub a b = a - b := by rw [sub_eq ha hb, clamp_id h]

theorem rt_spec (A : Nat) : ∀ (i o : Nat), o * o ≤ A → A < (o + 2 ^ i) * (o + 2 ^ i) → rt A i o * rt A i o ≤ A ∧ A < (rt A i o + 1) * (rt A i o + 1) ∧ rt A i o < o + 2 ^ i
  | 0, o, h, h' => by simp only [rt]; exact ⟨h, by simpa using h', by simp⟩
  | i + 1, o, h, h' => by
    simp only [rt]
    have e : 2 ^ (i + 1) = 2 ^ i + 2 ^ i := by rw [Nat.pow_succ]; omega
    have p : 0 < 2 ^ i := Nat.two_pow_pos i
    split
    · rename_i hc
      have := rt_spec A i (o + 2 ^ i) hc (by rw [e] at h'; rw [Nat.add_assoc]; exact h')
      exact ⟨this.1, this.2.1, by omega⟩
    · rename_i hc
      have := rt_spec A i o h (by omega)
      exact ⟨this.1, this.2.1, by omega⟩
theorem sq_lt {a b : Nat} (h : a * a < b * b) : a < b := by
  apply Nat.lt_of_not_le; intro hc
  exact absurd (Nat.mul_le_mul hc hc) (by omega)
theorem sqrt_spec {a : Int} (h : 0 ≤ a) (h' : a ≤ 9223372036854775807) : 0 ≤ sqrt a ∧ sqrt a < 281474976710656 ∧ sqrt a * sqrt a ≤ a * 4294967296 ∧ a * 4294967296 < (sqrt a + 1) * (sqrt a + 1) := by
  unfold sqrt
  split
  · have : a = 0 := by omega
    subst this; simp
  · obtain ⟨n, rfl⟩ := Int.eq_ofNat_of_zero_le h
    have e48 : (0 + 2 ^ 48 : Nat) = 281474976710656 := by decide
    have := rt_spec (n * 4294967296) 48 0 (by omega) (by rw [e48]; omega)
    rw [Int.toNat_natCast]
    generalize rt (n * 4294967296) 48 0 = r at *
    obtain ⟨h1, h2, h3⟩ := this
    rw [e48] at h3
    have h1' := Int.ofNat_le.2 h1
    have h2' := Int.ofNat_lt.2 h2
    simp only [Int.natCast_mul, Int.natCast_add] at h1' h2'
    exact ⟨by omega, by omega, h1', h2'⟩
theorem sq_le_int {a b : Int} (ha : 0 ≤ a) (hb : 0 ≤ b) (h : a * a < b * b) : a < b := by
  apply Int.lt_of_not_ge; intro hc
  have := Int.mul_le_mul hc hc hb ha
  omega
/-- The root is the only one. -/
theorem sqrt_uniq {a r : Int} (h : 0 ≤ a) (h' : a ≤ 9223372036854775807) (hr : 0 ≤ r) (h1 : r * r ≤ a * 4294967296) (h2 : a * 4294967296 < (r + 1) * (r + 1)) : sqrt a = r := by
  obtain ⟨s0, _, s1, s2⟩ := sqrt_spec h h'
  have x := sq_le_int s0 (by omega) (Int.lt_of_le_of_lt s1 h2)
  have y := sq_le_int hr (by omega) (Int.lt_of_le_of_lt h1 s2)
  omega
theorem sqrt_mono {a b : Int} (h0 : I64 a) (h1 : I64 b) (h : a ≤ b) : sqrt a ≤ sqrt b := by
  by_cases ha : a ≤ 0
  · have : sqrt a = 0 := by unfold sqrt; rw [if_pos ha]
    rw [this]
    by_cases hb : b ≤ 0
    · unfold sqrt; rw [if_pos hb]; omega
    · exact (sqrt_spec (by omega) h1.2).1
  · obtain ⟨s0, _, s1, s2⟩ := sqrt_spec (a := a) (by omega) h0.2
    obtain ⟨t0, _, t1, t2⟩ := sqrt_spec (a := b) (by omega) h1.2
    have x := sq_le_int s0 (by omega) (Int.lt_of_le_of_lt s1 (Int.lt_of_le_of_lt (by omega : a * 4294967296 ≤ b * 4294967296) t2))
    omega
theorem sqrt_s {a : Int} (h : I64 a) : S63 (sqrt a) := by
  by_cases ha : a ≤ 0
  · unfold sqrt; rw [if_pos ha]; unfold S63; omega
  · have := sqrt_spec (a := a) (by omega) h.2; unfold S63; omega

/-- How many bits a number has, by its bounds. -/
theorem bitLenAux_spec : ∀ (f x : Nat), x < 2 ^ f → x ≠ 0 → 1 ≤ Lib.bitLenAux f x ∧ Lib.bitLenAux f x ≤ f ∧ 2 ^ (Lib.bitLenAux f x - 1) ≤ x ∧ x < 2 ^ Lib.bitLenAux f x
  | 0, x, h, h0 => by simp at h; omega
  | f + 1, x, h, h0 => by
    simp only [Lib.bitLenAux, if_neg h0]
    by_cases hx : x / 2 = 0
    · have : x = 1 := by omega
      subst this
      have : Lib.bitLenAux f (1 / 2) = 0 := by cases f <;> simp [Lib.bitLenAux]
      rw [this]; exact ⟨by omega, by omega, by omega, by decide⟩
    · have e : 2 ^ (f + 1) = 2 * 2 ^ f := by rw [Nat.pow_succ]; omega
      obtain ⟨h1, h2, h3, h4⟩ := bitLenAux_spec f (x / 2) (by omega) hx
      generalize Lib.bitLenAux f (x / 2) = n at *
      obtain ⟨m, rfl⟩ : ∃ m, n = m + 1 := ⟨n - 1, by omega⟩
      have e1 : 1 + (m + 1) - 1 = m + 1 := by omega
      have e2 : (2 : Nat) ^ (1 + (m + 1)) = 2 * 2 ^ (m + 1) := by rw [Nat.pow_add]
      have e3 : (2 : Nat) ^ (m + 1) = 2 * 2 ^ m := by rw [Nat.pow_succ]; omega
      have e4 : m + 1 - 1 = m := by omega
      rw [e4] at h3
      rw [e1, e2]
      refine ⟨by omega, by omega, by omega, by omega⟩
theorem bitLen_spec {x : Nat} (h : x < 18446744073709551616) (h0 : x ≠ 0) : 1 ≤ Lib.bitLen x ∧ Lib.bitLen x ≤ 64 ∧ 2 ^ (Lib.bitLen x - 1) ≤ x ∧ x < 2 ^ Lib.bitLen x :=
  bitLenAux_spec 64 x (by simpa using h) h0
end Go.Proofs.Ytbcnifnmccaleaa.Ma
