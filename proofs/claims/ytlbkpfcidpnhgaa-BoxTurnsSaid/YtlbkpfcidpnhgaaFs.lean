/- What the printed root and the printed whole numbers of package fix compute. -/
import Derived.Test.YtlbkpfcidpnhgaaPBox12
import Derived.Test.YtlbkpfcidpnhgaaFx
namespace Go.Proofs.Ytlbkpfcidpnhgaa.Fx
open Go.RowKit Go.Proofs.YtlbkpfcidpnhgaaW.PrintWords Go.Proofs.YtlbkpfcidpnhgaaW.PrintLast Go.Proofs.YtlbkpfcidpnhgaaW.PrintMore Go.Proofs.Ytlbkpfcidpnhgaa.PBo Go.Proofs.Ytlbkpfcidpnhgaa.Ma

theorem sqrt_loop (A : Nat) (hi lo : Int) (hhi : hi = ((A / 18446744073709551616 : Nat) : Int)) (hlo : lo = ((A % 18446744073709551616 : Nat) : Int)) :
    ∀ (i o k : Nat), i ≤ 48 → (∃ c, o = 2 ^ i * c) → o + 2 ^ i ≤ 281474976710656 → i < k → fix_Sqrt.l0 k hi lo (o : Int) ((i : Int) - 1) = some ((rt A i o : Nat) : Int)
  | 0, o, k, _, _, ho, hk => by
    obtain ⟨k, rfl⟩ : ∃ m, k = m + 1 := ⟨k - 1, by omega⟩
    simp only [fix_Sqrt.l0, rt]
    rw [if_neg (by omega), w64 (by unfold I64; omega)]
  | i + 1, o, k, hi', ho', ho, hk => by
    obtain ⟨k, rfl⟩ : ∃ m, k = m + 1 := ⟨k - 1, by omega⟩
    obtain ⟨c, hc⟩ := ho'
    have p : 2 ^ (i + 1) = 2 ^ i + 2 ^ i := by rw [Nat.pow_succ]; omega
    have pp : 0 < 2 ^ i := Nat.two_pow_pos i
    have et : Go.bits .or .u64 (o : Int) (shl .u64 1 (i : Int)) = ((o + 2 ^ i : Nat) : Int) := by
      have es : shl .u64 1 (i : Int) = ((2 ^ i : Nat) : Int) := by
        unfold shl
        have e1 : (1 : Int) * 2 ^ i = ((2 ^ i : Nat) : Int) := by rw [Int.one_mul, Int.natCast_pow]; rfl
        have e2 : min i (IntKind.bits .u64) = i := Nat.min_eq_left (show i ≤ 64 by omega)
        rw [Int.toNat_natCast, e2, e1, u64 (by omega) (by omega)]
      rw [es]
      have := or64 (i + 1) c (2 ^ i) (by omega) (by rw [← hc]; omega)
      rw [← hc] at this; exact this
    have e : ((i + 1 : Nat) : Int) - 1 = (i : Int) := by omega
    rw [e]; simp only [fix_Sqrt.l0, rt]
    rw [if_pos (by omega), if_pos (by omega), et, mul64_eq (by omega) (by omega) (by omega) (by omega), Option.bind_some]
    simp only
    rw [w64 (x := (i : Int) - 1) (by unfold I64; omega)]
    have q : ((o + 2 ^ i : Nat) : Int) * ((o + 2 ^ i : Nat) : Int) = (((o + 2 ^ i) * (o + 2 ^ i) : Nat) : Int) := by exact_mod_cast rfl
    rw [q]
    have r1 := sqrt_loop A hi lo hhi hlo i (o + 2 ^ i) k (by omega) ⟨2 * c + 1, by rw [hc, Nat.pow_succ, Nat.mul_add, Nat.mul_one, Nat.mul_assoc]⟩ (by omega) (by omega)
    have r2 := sqrt_loop A hi lo hhi hlo i o k (by omega) ⟨2 * c, by rw [hc, Nat.pow_succ, Nat.mul_assoc]⟩ (by omega) (by omega)
    rw [r1, r2]
    generalize (o + 2 ^ i) * (o + 2 ^ i) = t at *
    subst hhi hlo
    by_cases ht : t ≤ A
    · rw [if_pos ht]
      by_cases h1 : (t : Int) / 18446744073709551616 < ((A / 18446744073709551616 : Nat) : Int)
      · rw [if_pos h1]
      · rw [if_neg h1, if_pos (by omega), if_pos (by omega)]
    · rw [if_neg ht, if_neg (by omega)]
      by_cases h1 : (t : Int) / 18446744073709551616 = ((A / 18446744073709551616 : Nat) : Int)
      · rw [if_pos h1, if_neg (by omega)]
      · rw [if_neg h1]
theorem sqrt_eq {k : Nat} (hk : 49 ≤ k) {a : Int} (h : I64 a) : fix_Sqrt.f k a = some (sqrt a) := by
  unfold fix_Sqrt.f sqrt
  by_cases h0 : a ≤ 0
  · rw [if_pos h0, if_pos h0]
  · rw [if_neg h0, if_neg h0]
    obtain ⟨n, rfl⟩ := Int.eq_ofNat_of_zero_le (a := a) (by omega)
    have := h.2
    rw [Int.toNat_natCast, u64 (x := (n : Int)) (by omega) (by omega), IntKind.wrap_u64]
    exact sqrt_loop (n * 4294967296) _ _ (by omega) (by omega) 48 0 k (by omega) ⟨0, by simp⟩ (by omega) (by omega)

end Go.Proofs.Ytlbkpfcidpnhgaa.Fx
