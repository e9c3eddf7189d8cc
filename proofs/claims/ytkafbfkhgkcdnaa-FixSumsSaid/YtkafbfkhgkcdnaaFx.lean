/- What the printed functions of package fix (and of math/bits) compute, in the words of the plain mathematics; nothing of the program's machine. -/
import Derived.Test.YtkafbfkhgkcdnaaPFixx1
import Derived.Test.YtkafbfkhgkcdnaaMa
namespace Go.Proofs.Ytkafbfkhgkcdnaa.Fx
open Go.RowKit Go.Proofs.YtkafbfkhgkcdnaaW.PrintWords Go.Proofs.YtkafbfkhgkcdnaaW.PrintLast Go.Proofs.YtkafbfkhgkcdnaaW.PrintMore Go.Proofs.Ytkafbfkhgkcdnaa.PFix Go.Proofs.Ytkafbfkhgkcdnaa.Ma

theorem w64 {x : Int} (h : I64 x) : wrap64 x = x := by unfold wrap64; unfold I64 at h; omega
theorem w64s {x : Int} (h : S63 x) : wrap64 x = x := w64 h.i
theorem u64 {x : Int} (h : 0 ≤ x) (h' : x < 18446744073709551616) : IntKind.u64.wrap x = x := by rw [IntKind.wrap_u64]; omega
theorem or64 (i : Nat) (c b : Nat) (h : b < 2 ^ i) (h' : 2 ^ i * c + b < 18446744073709551616) : Go.bits .or .u64 ((2 ^ i * c : Nat) : Int) (b : Int) = ((2 ^ i * c + b : Nat) : Int) := by
  have hk : ∀ n : Int, 0 ≤ n → n < 2 ^ 64 → IntKind.u64.wrap n = n := fun n h0 h1 => u64 h0 (by simpa using h1)
  rw [(bits_nat .u64 64 (by decide) hk (2 ^ i * c) b (by omega) (by omega)).2, Nat.two_pow_add_eq_or_of_lt h]
theorem and32 {x : Int} (h0 : 0 ≤ x) (h1 : x < 18446744073709551616) : Go.bits .and .u64 x 4294967295 = x % 4294967296 := by
  have hk : ∀ n : Int, 0 ≤ n → n < 2 ^ 64 → IntKind.u64.wrap n = n := fun n h0 h1 => u64 h0 (by simpa using h1)
  have := bits_mask .u64 64 (by decide) hk 32 (by decide) x h0 (by simpa using h1)
  simpa using this

theorem whole_eq (a : Int) : fix_whole.f a = some (wh a) := rfl
theorem neg_eq {a : Int} (h : I64 a) : fix_Neg.f a = some (neg a) := by
  have := neg_s h
  unfold fix_Neg.f; rw [whole_eq, Option.bind_some]; unfold neg at *; rw [w64s this]
theorem abs_eq {a : Int} (h : I64 a) : fix_Abs.f a = some (abs a) := by
  unfold fix_Abs.f abs; split
  · rw [neg_eq h, Option.bind_some]
  · rfl
theorem signed_eq {k : Nat} (hk : 1 ≤ k) {hi lo : Int} (m : Bool) (h0 : 0 ≤ hi) (l0 : 0 ≤ lo) (l1 : lo < 18446744073709551616) :
    fix_signed.f k hi lo m = some (sgn m (hi * 18446744073709551616 + lo)) := by
  obtain ⟨k, rfl⟩ : ∃ m, k = m + 1 := ⟨k - 1, by omega⟩
  unfold fix_signed.f sgn
  by_cases h : hi = 0
  · subst h
    rw [if_pos rfl, Int.zero_mul, Int.zero_add]; simp only [fix_signed.j0, decide_eq_true_eq]
    unfold top
    by_cases hl : lo < 9223372036854775808
    · rw [if_pos hl, if_pos hl, w64 (x := lo) (by unfold I64; omega), w64 (x := -lo) (by unfold I64; omega)]; cases m <;> rfl
    · rw [if_neg hl, if_neg hl, w64 (x := -9223372036854775807) (by unfold I64; omega)]; cases m <;> rfl
  · rw [if_neg h]; simp only [fix_signed.j0]
    have ht : top (hi * 18446744073709551616 + lo) = 9223372036854775807 := by unfold top; rw [if_neg (by omega)]
    rw [if_neg (by decide), ht, w64 (x := -9223372036854775807) (by unfold I64; omega)]; cases m <;> rfl
theorem mul64_eq {a b : Int} (a0 : 0 ≤ a) (a1 : a < 18446744073709551616) (b0 : 0 ≤ b) (b1 : b < 18446744073709551616) :
    bits_Mul64.f a b = some (a * b / 18446744073709551616, a * b % 18446744073709551616) := by
  unfold bits_Mul64.f; rw [if_pos a0, if_pos a1, if_pos b0, if_pos b1]
theorem or_parts {p : Int} (h0 : 0 ≤ p) (h1 : p < 85070591730234615865843651857942052864) :
    Go.bits .or .u64 (IntKind.u64.wrap (p / 18446744073709551616 * 4294967296)) (p % 18446744073709551616 / 4294967296) = p / 4294967296 % 18446744073709551616 := by
  obtain ⟨n, rfl⟩ := Int.eq_ofNat_of_zero_le h0
  have e := or64 32 (n / 18446744073709551616 % 4294967296) (n % 18446744073709551616 / 4294967296) (by omega) (by omega)
  have e1 : IntKind.u64.wrap ((n : Int) / 18446744073709551616 * 4294967296) = ((2 ^ 32 * (n / 18446744073709551616 % 4294967296) : Nat) : Int) := by
    rw [IntKind.wrap_u64]; omega
  have e2 : (n : Int) % 18446744073709551616 / 4294967296 = ((n % 18446744073709551616 / 4294967296 : Nat) : Int) := by omega
  rw [e1, e2, e]; omega
theorem mul_eq {k : Nat} (hk : 1 ≤ k) {a b : Int} (ha : I64 a) (hb : I64 b) : fix_Mul.f k a b = some (mul a b) := by
  have a1 := abs_s ha; have b1 := abs_s hb
  unfold fix_Mul.f
  rw [abs_eq ha, Option.bind_some, abs_eq hb, Option.bind_some, u64 a1.1 (by omega), u64 b1.1 (by omega), mul64_eq a1.1 (by omega) b1.1 (by omega), Option.bind_some]
  have p0 := Int.mul_nonneg a1.1 b1.1
  have p1 : abs a * abs b ≤ 9223372036854775807 * 9223372036854775807 := Int.mul_le_mul a1.2 b1.2 b1.1 (by omega)
  unfold mul
  generalize abs a * abs b = p at *
  simp only
  have e : p / 18446744073709551616 / 4294967296 * 18446744073709551616 + p / 4294967296 % 18446744073709551616 = p / 4294967296 := by omega
  rw [or_parts p0 (by omega), signed_eq hk _ (by omega) (by omega) (by omega), Option.bind_some, e]; rfl

theorem sqrt_loop (A : Nat) (hi lo : Int) (hhi : hi = ((A / 18446744073709551616 : Nat) : Int)) (hlo : lo = ((A % 18446744073709551616 : Nat) : Int)) :
    ∀ (i o k : Nat), i ≤ 48 → (∃ c, o = 2 ^ i * c) → o + 2 ^ i ≤ 281474976710656 → i < k → fix_Sqrt.l0 k hi lo (o : Int) ((i : Int) - 1) = some ((rt A i o : Nat) : Int)
  | 0, o, k, _, _, ho, hk => by
    obtain ⟨k, rfl⟩ : ∃ m, k = m + 1 := ⟨k - 1, by omega⟩
    simp only [fix_Sqrt.l0, rt]
    rw [if_neg (by omega), w64 (by unfold I64; omega)]
  | i + 1, o, k, hi', ho', ho, hk => by
    obtain ⟨k, rfl⟩ : ∃ m, k = m + 1 := ⟨k - 1, by omega⟩
    obtain ⟨c, hc⟩ := ho'
    have p : 2 ^ (i + 1) = 2 ^ i + 2 ^ i := by rw [Nat.pow_succ]; omega
    have pp : 0 < 2 ^ i := Nat.two_pow_pos i
    have et : Go.bits .or .u64 (o : Int) (shl .u64 1 (i : Int)) = ((o + 2 ^ i : Nat) : Int) := by
      have es : shl .u64 1 (i : Int) = ((2 ^ i : Nat) : Int) := by
        unfold shl
        have e1 : (1 : Int) * 2 ^ i = ((2 ^ i : Nat) : Int) := by rw [Int.one_mul, Int.natCast_pow]; rfl
        have e2 : min i (IntKind.bits .u64) = i := Nat.min_eq_left (show i ≤ 64 by omega)
        rw [Int.toNat_natCast, e2, e1, u64 (by omega) (by omega)]
      rw [es]
      have := or64 (i + 1) c (2 ^ i) (by omega) (by rw [← hc]; omega)
      rw [← hc] at this; exact this
    have e : ((i + 1 : Nat) : Int) - 1 = (i : Int) := by omega
    rw [e]; simp only [fix_Sqrt.l0, rt]
    rw [if_pos (by omega), if_pos (by omega), et, mul64_eq (by omega) (by omega) (by omega) (by omega), Option.bind_some]
    simp only
    rw [w64 (x := (i : Int) - 1) (by unfold I64; omega)]
    have q : ((o + 2 ^ i : Nat) : Int) * ((o + 2 ^ i : Nat) : Int) = (((o + 2 ^ i) * (o + 2 ^ i) : Nat) : Int) := by exact_mod_cast rfl
    rw [q]
    have r1 := sqrt_loop A hi lo hhi hlo i (o + 2 ^ i) k (by omega) ⟨2 * c + 1, by rw [hc, Nat.pow_succ, Nat.mul_add, Nat.mul_one, Nat.mul_assoc]⟩ (by omega) (by omega)
    have r2 := sqrt_loop A hi lo hhi hlo i o k (by omega) ⟨2 * c, by rw [hc, Nat.pow_succ, Nat.mul_assoc]⟩ (by omega) (by omega)
    rw [r1, r2]
    generalize (o + 2 ^ i) * (o + 2 ^ i) = t at *
    subst hhi hlo
    by_cases ht : t ≤ A
    · rw [if_pos ht]
      by_cases h1 : (t : Int) / 18446744073709551616 < ((A / 18446744073709551616 : Nat) : Int)
      · rw [if_pos h1]
      · rw [if_neg h1, if_pos (by omega), if_pos (by omega)]
    · rw [if_neg ht, if_neg (by omega)]
      by_cases h1 : (t : Int) / 18446744073709551616 = ((A / 18446744073709551616 : Nat) : Int)
      · rw [if_pos h1, if_neg (by omega)]
      · rw [if_neg h1]
theorem sqrt_eq {k : Nat} (hk : 49 ≤ k) {a : Int} (h : I64 a) : fix_Sqrt.f k a = some (sqrt a) := by
  unfold fix_Sqrt.f sqrt
  by_cases h0 : a ≤ 0
  · rw [if_pos h0, if_pos h0]
  · rw [if_neg h0, if_neg h0]
    obtain ⟨n, rfl⟩ := Int.eq_ofNat_of_zero_le (a := a) (by omega)
    have := h.2
    rw [Int.toNat_natCast, u64 (x := (n : Int)) (by omega) (by omega), IntKind.wrap_u64]
    exact sqrt_loop (n * 4294967296) _ _ (by omega) (by omega) 48 0 k (by omega) ⟨0, by simp⟩ (by omega) (by omega)

theorem whs {a : Int} (h : I64 a) : I64 (wh a) := (wh_s h).i
theorem add_eq' {k : Nat} (hk : 1 ≤ k) {a b : Int} (ha : I64 a) (hb : I64 b) : fix_Add.f k a b = some (add a b) := by
  obtain ⟨k, rfl⟩ : ∃ m, k = m + 1 := ⟨k - 1, by omega⟩
  unfold fix_Add.f; rw [whole_eq, Option.bind_some, whole_eq, Option.bind_some]
  have h1 := wh_s ha; have h2 := wh_s hb
  unfold add
  generalize wh a = x at *; generalize wh b = y at *
  simp only [fix_Add.j0, whole_eq, Option.bind_some, decide_eq_true_eq]
  unfold S63 at *; unfold wrap64 clamp wh
  repeat' split
  all_goals first | rfl | (congr 1; omega) | (exfalso; simp at *; done) | (exfalso; omega)
theorem of_eq (n : Int) : fix_Of.f n = some (ofN n) := by
  unfold fix_Of.f ofN
  by_cases h : 2147483648 ≤ n
  · rw [if_pos h, if_pos h]
  · rw [if_neg h, if_neg h]
    by_cases h' : n ≤ -2147483648
    · rw [if_pos h', if_pos h']
    · rw [if_neg h', if_neg h', w64 (by unfold I64; omega)]
end Go.Proofs.Ytkafbfkhgkcdnaa.Fx
