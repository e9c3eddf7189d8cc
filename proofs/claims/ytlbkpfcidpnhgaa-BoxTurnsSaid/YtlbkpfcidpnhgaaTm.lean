/- Plain mathematics of the turns: masks, the sines of the 1024 steps, out of the table of a quarter; what the printed functions of package turn compute. -/
import Derived.Test.YtlbkpfcidpnhgaaPBox4
import Derived.Test.YtlbkpfcidpnhgaaMa
namespace Go.Proofs.Ytlbkpfcidpnhgaa.Tm
open Go.RowKit Go.Proofs.YtlbkpfcidpnhgaaW.PrintWords Go.Proofs.YtlbkpfcidpnhgaaW.PrintLast Go.Proofs.YtlbkpfcidpnhgaaW.PrintMore Go.Proofs.Ytlbkpfcidpnhgaa.PBo Go.Proofs.Ytlbkpfcidpnhgaa.Ma

theorem v64 {x : Int} (h : I64 x) : wrap64 x = x := by unfold wrap64; unfold I64 at h; omega
/-- A mask of the lower bits is a remainder, of negative numbers too. -/
theorem mask {m : Nat} (hm : m ≤ 62) (x : Int) : Go.bits .and .i64 x (((2 ^ m - 1 : Nat) : Int)) = x % ((2 ^ m : Nat) : Int) := by
  have hp : 2 ^ m ≤ 2 ^ 62 := Nat.pow_le_pow_right (by omega) hm
  have hpos : 0 < 2 ^ m := Nat.two_pow_pos m
  have e62 : (2 : Nat) ^ 62 = 4611686018427387904 := by decide
  have e64 : ((2 ^ IntKind.bits .i64 : Nat) : Int) = 18446744073709551616 := by decide
  unfold Go.bits
  simp only [BitVec.toNat_and, BitVec.ofInt_natCast, BitVec.toNat_ofNat]
  have hy : (2 ^ m - 1) % 2 ^ IntKind.bits .i64 = 2 ^ m - 1 := Nat.mod_eq_of_lt (by rw [show IntKind.bits .i64 = 64 from rfl]; omega)
  rw [hy, Nat.and_two_pow_sub_one_eq_mod, IntKind.wrap_i64]
  have hx : (((BitVec.ofInt (IntKind.bits .i64) x).toNat : Nat) : Int) = x % 18446744073709551616 := by
    rw [BitVec.toNat_ofInt, e64]; omega
  have hd : ((2 ^ m : Nat) : Int) ∣ 18446744073709551616 := by
    have : (2 : Nat) ^ m ∣ 2 ^ 64 := Nat.pow_dvd_pow 2 (by omega)
    exact Int.ofNat_dvd.2 this
  rw [Int.natCast_emod, hx, Int.emod_emod_of_dvd _ hd]
  have h0 := Int.emod_nonneg x (by omega : ((2 ^ m : Nat) : Int) ≠ 0)
  have h1 := Int.emod_lt_of_pos x (by omega : (0 : Int) < ((2 ^ m : Nat) : Int))
  omega
theorem m32 (x : Int) : Go.bits .and .i64 x 4294967295 = x % 4294967296 := mask (m := 32) (by omega) x
theorem m22 (x : Int) : Go.bits .and .i64 x 4194303 = x % 4194304 := mask (m := 22) (by omega) x
theorem m10 (x : Int) : Go.bits .and .i64 x 1023 = x % 1024 := mask (m := 10) (by omega) x
theorem m8 (x : Int) : Go.bits .and .i64 x 255 = x % 256 := mask (m := 8) (by omega) x

/-- The sine of step n, 0 up to 256. -/
def tb (n : Int) : Int := sineTab.getD n.toNat 0
/-- The sine of step n, 0 up to 512. -/
def qh (n : Int) : Int := if n ≤ 256 then tb n else tb (512 - n)
/-- The sine of any step. -/
def sn (n : Int) : Int := if n % 1024 ≤ 512 then qh (n % 1024) else -qh (n % 1024 - 512)
def wrp (a : Int) : Int := a % 4294967296
def stp (a : Int) : Int := a % 4294967296 / 4194304

theorem tab_ok : ∀ i : Fin 257, 0 ≤ sineTab.getD i.val 0 ∧ sineTab.getD i.val 0 ≤ 4294967296 ∧ (i.val < 256 → sineTab.getD i.val 0 < sineTab.getD (i.val + 1) 0) := by decide +kernel
theorem tb_b {n : Int} (h0 : 0 ≤ n) (h1 : n ≤ 256) : 0 ≤ tb n ∧ tb n ≤ 4294967296 := by
  have := tab_ok ⟨n.toNat, by omega⟩
  exact ⟨this.1, this.2.1⟩
theorem tb_step {n : Int} (h0 : 0 ≤ n) (h1 : n < 256) : tb n < tb (n + 1) := by
  have := (tab_ok ⟨n.toNat, by omega⟩).2.2 (by simp only; omega)
  unfold tb; rw [show (n + 1).toNat = n.toNat + 1 by omega]; exact this
theorem tb_lt {m n : Int} (h0 : 0 ≤ m) (h : m < n) (h1 : n ≤ 256) : tb m < tb n := by
  obtain ⟨d, hd⟩ : ∃ d : Nat, n = m + 1 + (d : Int) := ⟨(n - m - 1).toNat, by omega⟩
  subst hd
  clear h
  induction d with
  | zero => rw [Int.natCast_zero, Int.add_zero]; exact tb_step h0 (by omega)
  | succ d ih =>
    have h2 := ih (by omega)
    have h3 := tb_step (n := m + 1 + (d : Int)) (by omega) (by omega)
    rw [show m + 1 + ((d + 1 : Nat) : Int) = m + 1 + (d : Int) + 1 by omega]; omega
theorem tb_inj {m n : Int} (h0 : 0 ≤ m) (h1 : m ≤ 256) (h2 : 0 ≤ n) (h3 : n ≤ 256) (h : tb m = tb n) : m = n := by
  rcases Int.lt_trichotomy m n with h' | h' | h'
  · have := tb_lt h0 h' h3; omega
  · exact h'
  · have := tb_lt h2 h' h1; omega
theorem tb_0 : tb 0 = 0 := by decide +kernel
theorem tb_256 : tb 256 = 4294967296 := by decide +kernel
theorem qh_b {n : Int} (h0 : 0 ≤ n) (h1 : n ≤ 512) : 0 ≤ qh n ∧ qh n ≤ 4294967296 := by
  unfold qh; split
  · exact tb_b h0 (by omega)
  · exact tb_b (by omega) (by omega)
theorem sn_b (n : Int) : -4294967296 ≤ sn n ∧ sn n ≤ 4294967296 := by
  unfold sn; split
  · have := qh_b (n := n % 1024) (by omega) (by omega); omega
  · have := qh_b (n := n % 1024 - 512) (by omega) (by omega); omega
theorem sn_S (n : Int) : S63 (sn n) := by have := sn_b n; unfold S63; omega
theorem sn_mod (n : Int) : sn (n % 1024) = sn n := by unfold sn; rw [Int.emod_emod]
theorem sn_congr {m n : Int} (h : m % 1024 = n % 1024) : sn m = sn n := by unfold sn; rw [h]
theorem qh_512 : qh 512 = 0 := by unfold qh; rw [if_neg (by omega)]; exact tb_0
theorem qh_0 : qh 0 = 0 := by unfold qh; rw [if_pos (by omega)]; exact tb_0
/-- Half a turn turns a sine round. -/
theorem sn_half (n : Int) : sn (n + 512) = -sn n := by
  unfold sn
  by_cases h : n % 1024 ≤ 512
  · rw [if_pos h]
    by_cases h0 : n % 1024 = 0
    · rw [show (n + 512) % 1024 = 512 by omega, if_pos (by omega), h0, qh_512, qh_0]; rfl
    · by_cases h1 : n % 1024 = 512
      · rw [show (n + 512) % 1024 = 0 by omega, if_pos (by omega), h1, qh_512, qh_0]; rfl
      · rw [show (n + 512) % 1024 = n % 1024 + 512 by omega, if_neg (by omega), show n % 1024 + 512 - 512 = n % 1024 by omega]
  · rw [if_neg h, show (n + 512) % 1024 = n % 1024 - 512 by omega, if_pos (by omega)]; omega
/-- The other way round a sine is turned round. -/
theorem sn_neg (n : Int) : sn (-n) = -sn n := by
  by_cases h0 : n % 1024 = 0
  · unfold sn; rw [show (-n) % 1024 = 0 by omega, h0, if_pos (by omega), qh_0]; rfl
  · have e : (-n) % 1024 = 1024 - n % 1024 := by omega
    unfold sn; rw [e]
    by_cases h : n % 1024 ≤ 512
    · rw [if_pos h]
      by_cases h1 : n % 1024 = 512
      · rw [h1, if_pos (by omega), show (1024 : Int) - 512 = 512 by omega, qh_512]; rfl
      · rw [if_neg (by omega), show 1024 - n % 1024 - 512 = 512 - n % 1024 by omega]
        congr 1; unfold qh; repeat' split
        all_goals first | rfl | (congr 1; omega) | (exfalso; omega)
    · rw [if_neg h, if_pos (by omega), Int.neg_neg]
      unfold qh; repeat' split
      all_goals first | rfl | (congr 1; omega) | (exfalso; omega)
theorem Sine_eq {n : Int} (h0 : 0 ≤ n) (h1 : n ≤ 256) : api_Sine.f n = some (tb n) := by
  unfold api_Sine.f; rw [if_neg (by omega), if_neg (by omega)]; rfl
theorem Wrap_eq (a : Int) : turn_Wrap.f a = some (wrp a) := by unfold turn_Wrap.f; rw [m32]; rfl
theorem Step_eq (a : Int) : turn_Step.f a = some (stp a) := by unfold turn_Step.f; rw [Wrap_eq, Option.bind_some]; rfl
theorem stp_b (a : Int) : 0 ≤ stp a ∧ stp a < 1024 := by unfold stp; omega
theorem half_eq {k : Nat} (hk : 1 ≤ k) {n : Int} (h0 : 0 ≤ n) (h1 : n ≤ 512) : turn_sine.f k n = some (qh n) := by
  obtain ⟨k, rfl⟩ : ∃ m, k = m + 1 := ⟨k - 1, by omega⟩
  simp only [turn_sine.f]
  rw [m10, show n % 1024 = n by omega]; unfold qh
  by_cases h : n ≤ 256
  · rw [if_pos h, if_pos h, Sine_eq h0 h, Option.bind_some]
  · rw [if_neg h, if_neg h, if_pos h1, v64 (by unfold I64; omega), Sine_eq (by omega) (by omega), Option.bind_some]
theorem sine_eq {k : Nat} (hk : 2 ≤ k) (n : Int) : turn_sine.f k n = some (sn n) := by
  obtain ⟨k, rfl⟩ : ∃ m, k = m + 1 := ⟨k - 1, by omega⟩
  have hm : 0 ≤ n % 1024 ∧ n % 1024 < 1024 := by omega
  by_cases h : n % 1024 ≤ 512
  · have := half_eq (k := k + 1) (by omega) (n := n % 1024) hm.1 h
    simp only [turn_sine.f, m10, Int.emod_emod] at this ⊢
    rw [this]; unfold sn; rw [if_pos h]
  · simp only [turn_sine.f]
    have hb := qh_b (n := n % 1024 - 512) (by omega) (by omega)
    rw [m10, if_neg (by omega), if_neg h, v64 (by unfold I64; omega), half_eq (by omega) (by omega) (by omega), Option.bind_some, v64 (by unfold I64; omega)]
    unfold sn; rw [if_neg h]
theorem Of_eq {k : Nat} (hk : 2 ≤ k) (a : Int) : turn_Of.f k a = some (sn (stp a + 256), sn (stp a)) := by
  have := stp_b a
  unfold turn_Of.f
  rw [Step_eq, Option.bind_some, sine_eq hk, Option.bind_some, sine_eq hk, Option.bind_some, v64 (by unfold I64; omega)]
end Go.Proofs.Ytlbkpfcidpnhgaa.Tm
