/- What the functions of package fix give, in the words of the plain mathematics. -/
import Derived.Test.YtbcnifnmccaleaaE
import Derived.Test.YtbcnifnmccaleaaMa
namespace Go.Proofs.Ytbcnifnmccaleaa.Y
open Go Go.RowKit Go.Proofs.Ytbcnifnmccaleaa.E Go.Proofs.Ytbcnifnmccaleaa.Ma
set_option linter.unusedVariables false
set_option linter.unusedSimpArgs false

theorem w64 {x : Int} (h : I64 x) : IntKind.i64.wrap x = x := by rw [IntKind.wrap_i64]; unfold I64 at h; omega
theorem u64 {x : Int} (h : 0 ≤ x) (h' : x < 18446744073709551616) : IntKind.u64.wrap x = x := by rw [IntKind.wrap_u64]; omega
theorem fdiv_pow {x : Int} (n : Nat) : Int.fdiv x (2 ^ n) = x / 2 ^ n := Int.fdiv_eq_ediv_of_nonneg _ (Int.pow_nonneg (by decide))
theorem or64 (i : Nat) (c b : Nat) (h : b < 2 ^ i) (h' : 2 ^ i * c + b < 18446744073709551616) : Go.bits .or .u64 ((2 ^ i * c : Nat) : Int) (b : Int) = ((2 ^ i * c + b : Nat) : Int) := by
  have hk : ∀ n : Int, 0 ≤ n → n < 2 ^ 64 → IntKind.u64.wrap n = n := fun n h0 h1 => u64 h0 (by simpa using h1)
  rw [(bits_nat .u64 64 (by decide) hk (2 ^ i * c) b (by omega) (by omega)).2, Nat.two_pow_add_eq_or_of_lt h]
theorem and32 {x : Int} (h0 : 0 ≤ x) (h1 : x < 18446744073709551616) : Go.bits .and .u64 x 4294967295 = x % 4294967296 := by
  have hk : ∀ n : Int, 0 ≤ n → n < 2 ^ 64 → IntKind.u64.wrap n = n := fun n h0 h1 => u64 h0 (by simpa using h1)
  have := bits_mask .u64 64 (by decide) hk 32 (by decide) x h0 (by simpa using h1)
  simpa using this

theorem whole_eq (a : Int) : fix.whole.f a = some (wh a) := by rw [fix.whole.eq]; rfl
theorem neg_eq {a : Int} (h : I64 a) : fix.Neg.f a = some (neg a) := by
  have := neg_s h
  rw [fix.Neg.eq, whole_eq, Option.bind_some]
  unfold neg at *; rw [Int.zero_sub, w64 this.i]
theorem abs_eq {a : Int} (h : I64 a) : fix.Abs.f a = some (abs a) := by
  rw [fix.Abs.eq]; simp only [Bool.cond_decide]; unfold abs; split
  · rw [neg_eq h, Option.bind_some]
  · rfl
theorem signed_eq {hi lo : Int} (m : Bool) (h0 : 0 ≤ hi) (l0 : 0 ≤ lo) (l1 : lo < 18446744073709551616) :
    fix.signed.f (hi, lo, m) = some (sgn m (hi * 18446744073709551616 + lo)) := by
  rw [fix.signed.eq]
  unfold sgn top
  by_cases h : hi = 0
  · subst h
    simp only [BEq.rfl, cond_true, Bool.cond_decide, Int.zero_mul, Int.zero_add]
    by_cases hl : lo < 9223372036854775808
    · rw [if_pos hl, if_pos hl, w64 (x := lo) (by unfold I64; omega), Int.zero_sub, w64 (x := -lo) (by unfold I64; omega)]; cases m <;> rfl
    · rw [if_neg hl, if_neg hl]; cases m <;> rfl
  · have hb : (hi == 0) = false := by simpa using h
    have ht : ¬ hi * 18446744073709551616 + lo < 9223372036854775808 := by omega
    rw [hb]; simp only [if_neg ht, cond_false]; cases m <;> rfl
theorem split_mul (x1 x0 y1 y0 : Int) : (x1 * 4294967296 + x0) * (y1 * 4294967296 + y0) = x1 * y1 * 18446744073709551616 + (x1 * y0 + x0 * y1) * 4294967296 + x0 * y0 := by
  have h1 : x1 * 4294967296 * (y1 * 4294967296) = x1 * y1 * 18446744073709551616 := by
    rw [Int.mul_assoc, Int.mul_left_comm 4294967296 y1, ← Int.mul_assoc]; rfl
  have h2 : x1 * 4294967296 * y0 = x1 * y0 * 4294967296 := Int.mul_right_comm _ _ _
  have h3 : x0 * (y1 * 4294967296) = x0 * y1 * 4294967296 := (Int.mul_assoc _ _ _).symm
  rw [Int.add_mul, Int.mul_add, Int.mul_add, h1, h2, h3, Int.add_mul]
  omega
theorem mul64_eq {a b : Int} (a0 : 0 ≤ a) (a1 : a < 18446744073709551616) (b0 : 0 ≤ b) (b1 : b < 18446744073709551616) :
    bits.Mul64.f (a, b) = some (a * b / 18446744073709551616, a * b % 18446744073709551616) := by
  rw [bits.Mul64.eq]
  simp only [fdiv_pow]
  rw [and32 a0 a1, and32 b0 b1]
  have ea : a = a / 4294967296 * 4294967296 + a % 4294967296 := by omega
  have eb : b = b / 4294967296 * 4294967296 + b % 4294967296 := by omega
  have x0 : 0 ≤ a / 4294967296 := by omega
  have x1 : a / 4294967296 ≤ 4294967295 := by omega
  have y0 : 0 ≤ a % 4294967296 := by omega
  have y1 : a % 4294967296 ≤ 4294967295 := by omega
  have z0 : 0 ≤ b / 4294967296 := by omega
  have z1 : b / 4294967296 ≤ 4294967295 := by omega
  have w0 : 0 ≤ b % 4294967296 := by omega
  have w1 : b % 4294967296 ≤ 4294967295 := by omega
  have e : a * b = (a / 4294967296 * (b / 4294967296)) * 18446744073709551616 + (a / 4294967296 * (b % 4294967296) + a % 4294967296 * (b / 4294967296)) * 4294967296 + a % 4294967296 * (b % 4294967296) := by
    conv => lhs; rw [ea, eb]
    exact split_mul _ _ _ _
  have p0 := Int.mul_nonneg x0 z0
  have p1 : a / 4294967296 * (b / 4294967296) ≤ 4294967295 * 4294967295 := Int.mul_le_mul x1 z1 z0 (by omega)
  have q0 := Int.mul_nonneg x0 w0
  have q1 : a / 4294967296 * (b % 4294967296) ≤ 4294967295 * 4294967295 := Int.mul_le_mul x1 w1 w0 (by omega)
  have r0 := Int.mul_nonneg y0 z0
  have r1 : a % 4294967296 * (b / 4294967296) ≤ 4294967295 * 4294967295 := Int.mul_le_mul y1 z1 z0 (by omega)
  have s0 := Int.mul_nonneg y0 w0
  have s1 : a % 4294967296 * (b % 4294967296) ≤ 4294967295 * 4294967295 := Int.mul_le_mul y1 w1 w0 (by omega)
  rw [e]
  rw [show (2 : Int) ^ 32 = 4294967296 from rfl]
  generalize a / 4294967296 * (b / 4294967296) = p at *
  generalize a / 4294967296 * (b % 4294967296) = q at *
  generalize a % 4294967296 * (b / 4294967296) = r at *
  generalize a % 4294967296 * (b % 4294967296) = s at *
  rw [u64 (x := s) s0 (by omega), u64 (x := q) q0 (by omega), u64 (x := r) r0 (by omega), u64 (x := p) p0 (by omega), u64 (x := q + s / 4294967296) (by omega) (by omega), and32 (by omega) (by omega),
    u64 (x := (q + s / 4294967296) % 4294967296 + r) (by omega) (by omega), u64 (x := p + (q + s / 4294967296) / 4294967296) (by omega) (by omega), IntKind.wrap_u64, IntKind.wrap_u64]
  congr 2
  omega
theorem or_parts {p : Int} (h0 : 0 ≤ p) (h1 : p < 85070591730234615865843651857942052864) :
    Go.bits .or .u64 (IntKind.u64.wrap (p / 18446744073709551616 * 4294967296)) (p % 18446744073709551616 / 4294967296) = p / 4294967296 % 18446744073709551616 := by
  obtain ⟨n, rfl⟩ := Int.eq_ofNat_of_zero_le h0
  have e := or64 32 (n / 18446744073709551616 % 4294967296) (n % 18446744073709551616 / 4294967296) (by omega) (by omega)
  have e1 : IntKind.u64.wrap ((n : Int) / 18446744073709551616 * 4294967296) = ((2 ^ 32 * (n / 18446744073709551616 % 4294967296) : Nat) : Int) := by
    rw [IntKind.wrap_u64]; omega
  have e2 : (n : Int) % 18446744073709551616 / 4294967296 = ((n % 18446744073709551616 / 4294967296 : Nat) : Int) := by omega
  rw [e1, e2, e]; omega
theorem mul_eq {a b : Int} (ha : I64 a) (hb : I64 b) : fix.Mul.f (a, b) = some (mul a b) := by
  have a1 := abs_s ha; have b1 := abs_s hb
  rw [fix.Mul.eq, abs_eq ha, Option.bind_some, abs_eq hb, Option.bind_some, u64 a1.1 (by omega), u64 b1.1 (by omega), mul64_eq a1.1 (by omega) b1.1 (by omega), Option.bind_some]
  have p0 := Int.mul_nonneg a1.1 b1.1
  have p1 : abs a * abs b ≤ 9223372036854775807 * 9223372036854775807 := Int.mul_le_mul a1.2 b1.2 b1.1 (by omega)
  unfold mul sg
  generalize abs a * abs b = p at *
  simp only [fdiv_pow]
  rw [show (2 : Int) ^ 32 = 4294967296 from rfl]
  have e : p / 18446744073709551616 / 4294967296 * 18446744073709551616 + p / 4294967296 % 18446744073709551616 = p / 4294967296 := by omega
  rw [or_parts p0 (by omega), signed_eq _ (by omega) (by omega) (by omega), Option.bind_some, e]; rfl
theorem whs {a : Int} (h : I64 a) : I64 (wh a) := (wh_s h).i
theorem add_eq' {a b : Int} (ha : I64 a) (hb : I64 b) : fix.Add.f (a, b) = some (add a b) := by
  rw [fix.Add.eq, whole_eq, Option.bind_some, whole_eq, Option.bind_some]
  have h1 := wh_s ha; have h2 := wh_s hb
  unfold add
  generalize wh a = x at *; generalize wh b = y at *
  simp only [whole_eq, Option.bind_some, Bool.cond_decide, IntKind.wrap_i64]
  unfold S63 at *; unfold clamp wh
  repeat' split
  all_goals first | rfl | (congr 1; omega) | (exfalso; simp at *; done) | (exfalso; omega)
theorem sub_eq' {a b : Int} (ha : I64 a) (hb : I64 b) : fix.Sub.f (a, b) = some (sub a b) := by
  rw [fix.Sub.eq, neg_eq hb, Option.bind_some, add_eq' ha (neg_s hb).i]; rfl
end Go.Proofs.Ytbcnifnmccaleaa.Y
