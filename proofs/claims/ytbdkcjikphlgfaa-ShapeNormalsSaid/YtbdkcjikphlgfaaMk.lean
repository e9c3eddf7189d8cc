/- Masks of the lower bits are remainders. -/
import Derived.Test.YtbdkcjikphlgfaaPShx2
import Derived.Test.YtbdkcjikphlgfaaMa
namespace Go.Proofs.Ytbdkcjikphlgfaa.Tm
open Go.RowKit Go.Proofs.YtbdkcjikphlgfaaW.PrintWords Go.Proofs.YtbdkcjikphlgfaaW.PrintLast Go.Proofs.YtbdkcjikphlgfaaW.PrintMore Go.Proofs.Ytbdkcjikphlgfaa.PSh Go.Proofs.Ytbdkcjikphlgfaa.Ma

theorem v64 {x : Int} (h : I64 x) : wrap64 x = x := by unfold wrap64; unfold I64 at h; omega
/-- A mask of the lower bits is a remainder, of negative numbers too. -/
theorem mask {m : Nat} (hm : m ≤ 62) (x : Int) : Go.bits .and .i64 x (((2 ^ m - 1 : Nat) : Int)) = x % ((2 ^ m : Nat) : Int) := by
  have hp : 2 ^ m ≤ 2 ^ 62 := Nat.pow_le_pow_right (by omega) hm
  have hpos : 0 < 2 ^ m := Nat.two_pow_pos m
  have e62 : (2 : Nat) ^ 62 = 4611686018427387904 := by decide
  have e64 : ((2 ^ IntKind.bits .i64 : Nat) : Int) = 18446744073709551616 := by decide
  unfold Go.bits
  simp only [BitVec.toNat_and, BitVec.ofInt_natCast, BitVec.toNat_ofNat]
  have hy : (2 ^ m - 1) % 2 ^ IntKind.bits .i64 = 2 ^ m - 1 := Nat.mod_eq_of_lt (by rw [show IntKind.bits .i64 = 64 from rfl]; omega)
  rw [hy, Nat.and_two_pow_sub_one_eq_mod, IntKind.wrap_i64]
  have hx : (((BitVec.ofInt (IntKind.bits .i64) x).toNat : Nat) : Int) = x % 18446744073709551616 := by
    rw [BitVec.toNat_ofInt, e64]; omega
  have hd : ((2 ^ m : Nat) : Int) ∣ 18446744073709551616 := by
    have : (2 : Nat) ^ m ∣ 2 ^ 64 := Nat.pow_dvd_pow 2 (by omega)
    exact Int.ofNat_dvd.2 this
  rw [Int.natCast_emod, hx, Int.emod_emod_of_dvd _ hd]
  have h0 := Int.emod_nonneg x (by omega : ((2 ^ m : Nat) : Int) ≠ 0)
  have h1 := Int.emod_lt_of_pos x (by omega : (0 : Int) < ((2 ^ m : Nat) : Int))
  omega
theorem m32 (x : Int) : Go.bits .and .i64 x 4294967295 = x % 4294967296 := mask (m := 32) (by omega) x
theorem m22 (x : Int) : Go.bits .and .i64 x 4194303 = x % 4194304 := mask (m := 22) (by omega) x
theorem m10 (x : Int) : Go.bits .and .i64 x 1023 = x % 1024 := mask (m := 10) (by omega) x
theorem m8 (x : Int) : Go.bits .and .i64 x 255 = x % 256 := mask (m := 8) (by omega) x

end Go.Proofs.Ytbdkcjikphlgfaa.Tm
