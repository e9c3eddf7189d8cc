/- What the printed functions of package fix (and of math/bits) compute, in the words of the plain mathematics; nothing of the program's machine. -/
import Derived.Test.YtlbkpfcidpnhgaaPBox3
import Derived.Test.YtlbkpfcidpnhgaaPBox4
import Derived.Test.YtlbkpfcidpnhgaaMa
namespace Go.Proofs.Ytlbkpfcidpnhgaa.Fx
open Go.RowKit Go.Proofs.YtlbkpfcidpnhgaaW.PrintWords Go.Proofs.YtlbkpfcidpnhgaaW.PrintLast Go.Proofs.YtlbkpfcidpnhgaaW.PrintMore Go.Proofs.Ytlbkpfcidpnhgaa.PBo Go.Proofs.Ytlbkpfcidpnhgaa.Ma

theorem w64 {x : Int} (h : I64 x) : wrap64 x = x := by unfold wrap64; unfold I64 at h; omega
theorem w64s {x : Int} (h : S63 x) : wrap64 x = x := w64 h.i
theorem u64 {x : Int} (h : 0 ≤ x) (h' : x < 18446744073709551616) : IntKind.u64.wrap x = x := by rw [IntKind.wrap_u64]; omega
theorem or64 (i : Nat) (c b : Nat) (h : b < 2 ^ i) (h' : 2 ^ i * c + b < 18446744073709551616) : Go.bits .or .u64 ((2 ^ i * c : Nat) : Int) (b : Int) = ((2 ^ i * c + b : Nat) : Int) := by
  have hk : ∀ n : Int, 0 ≤ n → n < 2 ^ 64 → IntKind.u64.wrap n = n := fun n h0 h1 => u64 h0 (by simpa using h1)
  rw [(bits_nat .u64 64 (by decide) hk (2 ^ i * c) b (by omega) (by omega)).2, Nat.two_pow_add_eq_or_of_lt h]
theorem and32 {x : Int} (h0 : 0 ≤ x) (h1 : x < 18446744073709551616) : Go.bits .and .u64 x 4294967295 = x % 4294967296 := by
  have hk : ∀ n : Int, 0 ≤ n → n < 2 ^ 64 → IntKind.u64.wrap n = n := fun n h0 h1 => u64 h0 (by simpa using h1)
  have := bits_mask .u64 64 (by decide) hk 32 (by decide) x h0 (by simpa using h1)
  simpa using this

theorem whole_eq (a : Int) : fix_whole.f a = some (wh a) := rfl
theorem neg_eq {a : Int} (h : I64 a) : fix_Neg.f a = some (neg a) := by
  have := neg_s h
  unfold fix_Neg.f; rw [whole_eq, Option.bind_some]; unfold neg at *; rw [w64s this]
theorem abs_eq {a : Int} (h : I64 a) : fix_Abs.f a = some (abs a) := by
  unfold fix_Abs.f abs; split
  · rw [neg_eq h, Option.bind_some]
  · rfl
theorem signed_eq {k : Nat} (hk : 1 ≤ k) {hi lo : Int} (m : Bool) (h0 : 0 ≤ hi) (l0 : 0 ≤ lo) (l1 : lo < 18446744073709551616) :
    fix_signed.f k hi lo m = some (sgn m (hi * 18446744073709551616 + lo)) := by
  obtain ⟨k, rfl⟩ : ∃ m, k = m + 1 := ⟨k - 1, by omega⟩
  unfold fix_signed.f sgn
  by_cases h : hi = 0
  · subst h
    rw [if_pos rfl, Int.zero_mul, Int.zero_add]; simp only [fix_signed.j0, decide_eq_true_eq]
    unfold top
    by_cases hl : lo < 9223372036854775808
    · rw [if_pos hl, if_pos hl, w64 (x := lo) (by unfold I64; omega), w64 (x := -lo) (by unfold I64; omega)]; cases m <;> rfl
    · rw [if_neg hl, if_neg hl, w64 (x := -9223372036854775807) (by unfold I64; omega)]; cases m <;> rfl
  · rw [if_neg h]; simp only [fix_signed.j0]
    have ht : top (hi * 18446744073709551616 + lo) = 9223372036854775807 := by unfold top; rw [if_neg (by omega)]
    rw [if_neg (by decide), ht, w64 (x := -9223372036854775807) (by unfold I64; omega)]; cases m <;> rfl
theorem mul64_eq {a b : Int} (a0 : 0 ≤ a) (a1 : a < 18446744073709551616) (b0 : 0 ≤ b) (b1 : b < 18446744073709551616) :
    bits_Mul64.f a b = some (a * b / 18446744073709551616, a * b % 18446744073709551616) := by
  unfold bits_Mul64.f; rw [if_pos a0, if_pos a1, if_pos b0, if_pos b1]
theorem or_parts {p : Int} (h0 : 0 ≤ p) (h1 : p < 85070591730234615865843651857942052864) :
    Go.bits .or .u64 (IntKind.u64.wrap (p / 18446744073709551616 * 4294967296)) (p % 18446744073709551616 / 4294967296) = p / 4294967296 % 18446744073709551616 := by
  obtain ⟨n, rfl⟩ := Int.eq_ofNat_of_zero_le h0
  have e := or64 32 (n / 18446744073709551616 % 4294967296) (n % 18446744073709551616 / 4294967296) (by omega) (by omega)
  have e1 : IntKind.u64.wrap ((n : Int) / 18446744073709551616 * 4294967296) = ((2 ^ 32 * (n / 18446744073709551616 % 4294967296) : Nat) : Int) := by
    rw [IntKind.wrap_u64]; omega
  have e2 : (n : Int) % 18446744073709551616 / 4294967296 = ((n % 18446744073709551616 / 4294967296 : Nat) : Int) := by omega
  rw [e1, e2, e]; omega
theorem mul_eq {k : Nat} (hk : 1 ≤ k) {a b : Int} (ha : I64 a) (hb : I64 b) : fix_Mul.f k a b = some (mul a b) := by
  have a1 := abs_s ha; have b1 := abs_s hb
  unfold fix_Mul.f
  rw [abs_eq ha, Option.bind_some, abs_eq hb, Option.bind_some, u64 a1.1 (by omega), u64 b1.1 (by omega), mul64_eq a1.1 (by omega) b1.1 (by omega), Option.bind_some]
  have p0 := Int.mul_nonneg a1.1 b1.1
  have p1 : abs a * abs b ≤ 9223372036854775807 * 9223372036854775807 := Int.mul_le_mul a1.2 b1.2 b1.1 (by omega)
  unfold mul
  generalize abs a * abs b = p at *
  simp only
  have e : p / 18446744073709551616 / 4294967296 * 18446744073709551616 + p / 4294967296 % 18446744073709551616 = p / 4294967296 := by omega
  rw [or_parts p0 (by omega), signed_eq hk _ (by omega) (by omega) (by omega), Option.bind_some, e]; rfl

theorem whs {a : Int} (h : I64 a) : I64 (wh a) := (wh_s h).i
theorem add_eq' {k : Nat} (hk : 1 ≤ k) {a b : Int} (ha : I64 a) (hb : I64 b) : fix_Add.f k a b = some (add a b) := by
  obtain ⟨k, rfl⟩ : ∃ m, k = m + 1 := ⟨k - 1, by omega⟩
  unfold fix_Add.f; rw [whole_eq, Option.bind_some, whole_eq, Option.bind_some]
  have h1 := wh_s ha; have h2 := wh_s hb
  unfold add
  generalize wh a = x at *; generalize wh b = y at *
  simp only [fix_Add.j0, whole_eq, Option.bind_some, decide_eq_true_eq]
  unfold S63 at *; unfold wrap64 clamp wh
  repeat' split
  all_goals first | rfl | (congr 1; omega) | (exfalso; simp at *; done) | (exfalso; omega)
end Go.Proofs.Ytlbkpfcidpnhgaa.Fx
