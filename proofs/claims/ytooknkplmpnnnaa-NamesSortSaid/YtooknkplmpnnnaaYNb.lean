/- Names: what Parse gives; digits in order. -/
import Derived.Test.YtooknkplmpnnnaaYNa
namespace Go.Proofs.Ytooknkplmpnnnaa.Y
open Go Go.RowKit Go.Proofs.Ytooknkplmpnnnaa.E Go.Proofs.Ytooknkplmpnnnaa.Fw
set_option linter.unusedVariables false
set_option linter.unusedSimpArgs false

/-! ### The number of digits -/
def pval (B : Nat → Int) : Nat → Option Int
  | 0 => some 0
  | i + 1 => match pval B i with
    | some v => if hexv (B i) < 0 then none else some (16 * v + hexv (B i))
    | none => none
theorem pval_congr {B C : Nat → Int} : ∀ {n : Nat}, (∀ i, i < n → B i = C i) → pval B n = pval C n
  | 0, _ => rfl
  | n + 1, h => by
    unfold pval
    rw [pval_congr (n := n) fun i hi => h i (by omega), h n (by omega)]
theorem pval_none {B : Nat → Int} {i : Nat} (h : pval B i = none) : ∀ d, pval B (i + d) = none
  | 0 => h
  | d + 1 => by
    show pval B (i + d + 1) = none
    unfold pval
    rw [pval_none h d]
theorem pval_b {B : Nat → Int} : ∀ {i : Nat} {v : Int}, pval B i = some v → 0 ≤ v ∧ v < ((16 ^ i : Nat) : Int)
  | 0, v, h => by
    unfold pval at h
    cases h
    exact ⟨by omega, by decide⟩
  | i + 1, v, h => by
    unfold pval at h
    split at h
    · rename_i v' hv
      obtain ⟨h1, h2⟩ := pval_b hv
      split at h
      · cases h
      · rename_i hk
        cases h
        have := (hexd_hexv (b := B i) (by omega)).2
        have e : ((16 ^ (i + 1) : Nat) : Int) = 16 * ((16 ^ i : Nat) : Int) := by rw [Nat.pow_succ]; omega
        omega
    · cases h
theorem div16 (v : Int) (m : Nat) : v / 16 ^ (m + 1) = v / 16 / 16 ^ m := by
  rw [Int.pow_succ, Int.mul_comm, Int.ediv_ediv_of_nonneg (by omega)]
theorem div16' (v : Int) (m : Nat) : v / 16 ^ (m + 1) = v / 16 ^ m / 16 := by
  rw [Int.pow_succ, Int.ediv_ediv_of_nonneg (Int.pow_nonneg (by decide))]
theorem pval_inv {B : Nat → Int} : ∀ {i : Nat} {v : Int}, pval B i = some v → ∀ j, j < i → B j = hexd (v / 16 ^ (i - 1 - j) % 16)
  | 0, v, h, j, hj => absurd hj (by omega)
  | i + 1, v, h, j, hj => by
    unfold pval at h
    split at h
    · rename_i v' hv
      split at h
      · cases h
      · rename_i hk
        cases h
        obtain ⟨e1, e2⟩ := hexd_hexv (b := B i) (by omega)
        by_cases hji : j = i
        · subst hji
          rw [show j + 1 - 1 - j = 0 by omega, Int.pow_zero, Int.ediv_one]
          rw [show (16 * v' + hexv (B j)) % 16 = hexv (B j) by omega, e1]
        · have := pval_inv hv j (by omega)
          rw [show i + 1 - 1 - j = (i - 1 - j) + 1 by omega, div16, show (16 * v' + hexv (B i)) / 16 = v' by omega]
          exact this
    · cases h
theorem pval_name {B : Nat → Int} {n : Int} (h0 : 0 ≤ n) (h1 : n < 18446744073709551616) (hB : ∀ j, j < 16 → B j = hexd (n / 16 ^ (15 - j) % 16)) : ∀ i, i ≤ 16 → pval B i = some (n / 16 ^ (16 - i))
  | 0, _ => by
    unfold pval
    have : n / 16 ^ (16 - 0) = 0 := Int.ediv_eq_zero_of_lt h0 (by simpa using h1)
    rw [this]
  | i + 1, hi => by
    unfold pval
    rw [pval_name h0 h1 hB i (by omega)]
    simp only
    have hk : hexv (B i) = n / 16 ^ (15 - i) % 16 := by rw [hB i (by omega), hexv_hexd (by omega) (by omega)]
    rw [hk, if_neg (by omega)]
    congr 1
    have : n / 16 ^ (16 - i) = n / 16 ^ (15 - i) / 16 := by rw [show 16 - i = (15 - i) + 1 by omega]; exact div16' n _
    rw [this, show 16 - (i + 1) = 15 - i by omega]
    omega

/-! ### Parse -/
def parseFin (s : ByteArray) : Option Int → Int × Int × Bool
  | some v => if v > 4611686018427387904 then (0, 0, false) else (strB s 0, v, true)
  | none => (0, 0, false)
def parseP (s : ByteArray) : Int × Int × Bool := if s.size = 17 ∧ (strB s 0 = 99 ∨ strB s 0 = 106) then parseFin s (pval (fun i => strB s (i + 1)) 16) else (0, 0, false)
theorem parse_loop {B : Nat → Int} {s : ByteArray} (hs : 0 < s.size) (k0 : Nat) : ∀ (d i K : Nat) (v : Int), i + d = 16 → d < K → pval B i = some v →
    names.Parse.l0 k0 K 16 (fun i => Ry.enc (B i)) s v ((16 : Nat) : Int) (i : Int) = some (parseFin s (pval B 16))
  | 0, i, K, v, h1, h2, hv => by
    obtain ⟨K, rfl⟩ : ∃ x, K = x + 1 := ⟨K - 1, by omega⟩
    have : i = 16 := by omega
    subst this
    obtain ⟨b1, b2⟩ := pval_b hv
    rw [names.Parse.l0_eq, hv]
    simp only [Bool.cond_decide]
    rw [if_neg (by omega), if_pos (show (0 : Int) < ((s.size : Nat) : Int) by omega)]
    show _ = some (if v > 4611686018427387904 then (0, 0, false) else (strB s 0, v, true))
    split
    · rfl
    · rw [w64 (by unfold J64; omega)]
  | d + 1, i, K, v, h1, h2, hv => by
    obtain ⟨K, rfl⟩ : ∃ x, K = x + 1 := ⟨K - 1, by omega⟩
    obtain ⟨b1, b2⟩ := pval_b hv
    have hix := index_eq (B i)
    unfold digs at hix
    rw [names.Parse.l0_eq, digits_eq]
    simp only [Option.bind_some, Bool.cond_decide, Int.toNat_natCast]
    rw [if_pos (by omega), decide_eq_true (show (0 : Int) ≤ (i : Int) by omega), decide_eq_true (show (i : Int) < ((16 : Nat) : Int) by omega)]
    simp only [Bool.and_self, cond_true]
    rw [hix, Option.bind_some]
    have nx : pval B (i + 1) = if hexv (B i) < 0 then none else some (16 * v + hexv (B i)) := by
      show (match pval B i with | some v => if hexv (B i) < 0 then none else some (16 * v + hexv (B i)) | none => none) = _
      rw [hv]
    by_cases hk : hexv (B i) < 0
    · rw [if_pos hk] at nx ⊢
      have := pval_none nx d
      rw [show i + 1 + d = 16 by omega] at this
      rw [this]; rfl
    · rw [if_neg hk] at nx ⊢
      obtain ⟨c1, c2⟩ := pval_b nx
      have hk' := (hexd_hexv (b := B i) (by omega)).2
      have hp : ((16 ^ (i + 1) : Nat) : Int) ≤ 18446744073709551616 := by
        have : 16 ^ (i + 1) ≤ 16 ^ 16 := Nat.pow_le_pow_right (by omega) (by omega)
        have e : (16 : Nat) ^ 16 = 18446744073709551616 := by decide
        omega
      have e1 : v * 2 ^ 4 = 16 * v := by omega
      rw [e1, u64 (x := 16 * v) (by omega) (by omega), u64 (x := hexv (B i)) (by omega) (by omega), or16 b1 (by omega) hk' (by omega), w64 (by unfold J64; omega)]
      exact parse_loop hs k0 d (i + 1) K _ (by omega) (by omega) nx
theorem Parse_eq (s : ByteArray) : names.Parse.f s = some (parseP s) := by
  show names.Parse.g 1000000 s = _
  rw [names.Parse.eq]
  unfold parseP
  by_cases hs : s.size = 17
  · have e1 : (((s.size : Nat) : Int) != 17) = false := by simp; omega
    rw [e1, cond_false]
    simp only [Bool.cond_decide, if_pos (show (0 : Int) < ((s.size : Nat) : Int) by omega), if_pos (show (1 : Int) ≤ ((s.size : Nat) : Int) by omega)]
    have hl : names.Parse.l0 1000000 1000000 (ByteArray.size (ByteArray.extract s 1 (ByteArray.size s))) (fun i => Ry.enc ((strB (ByteArray.extract s 1 (ByteArray.size s))) i)) s 0 (((ByteArray.size (ByteArray.extract s 1 (ByteArray.size s))) : Nat) : Int) 0 = some (parseFin s (pval (fun i => strB s (i + 1)) 16)) := by
      rw [show (ByteArray.extract s 1 (ByteArray.size s)).size = 16 by rw [ext_size, hs]]
      rw [← pval_congr (n := 16) (B := strB (ByteArray.extract s 1 (ByteArray.size s))) fun i hi => ext_B (by omega)]
      exact parse_loop (by omega) 1000000 16 0 1000000 0 (by omega) (by omega) rfl
    by_cases h0 : strB s 0 = 99
    · have e2 : (strB s 0 != 99) = false := by simp [h0]
      rw [e2, cond_false, hl, if_pos (show s.size = 17 ∧ (strB s 0 = 99 ∨ strB s 0 = 106) from ⟨hs, .inl h0⟩)]
    · have e2 : (strB s 0 != 99) = true := by simp [h0]
      rw [e2, cond_true]
      by_cases h1 : strB s 0 = 106
      · have e3 : (strB s 0 != 106) = false := by simp [h1]
        rw [e3, cond_false, hl, if_pos (show s.size = 17 ∧ (strB s 0 = 99 ∨ strB s 0 = 106) from ⟨hs, .inr h1⟩)]
      · have e3 : (strB s 0 != 106) = true := by simp [h1]
        rw [e3, cond_true, if_neg (show ¬ (s.size = 17 ∧ (strB s 0 = 99 ∨ strB s 0 = 106)) from fun h => h.2.elim h0 h1)]
  · have e1 : (((s.size : Nat) : Int) != 17) = true := by simp; omega
    rw [e1, cond_true, if_neg fun h => hs h.1]
/-- A name is parsed as it was. -/
theorem parse_nm {c n : Int} (hc : c = 99 ∨ c = 106) (h0 : 0 ≤ n) (h1 : n ≤ 4611686018427387904) : parseP (nm c n) = (c, n, true) := by
  have hc' : 0 ≤ c ∧ c < 256 := by omega
  have e0 : strB (nm c n) 0 = c := nm_B hc' (by omega)
  have hp : pval (fun i => strB (nm c n) (i + 1)) 16 = some n := by
    have := pval_name (B := fun i => strB (nm c n) (i + 1)) h0 (by omega) (fun j hj => by
      show strB (nm c n) (j + 1) = _
      rw [nm_B hc' (by omega)]
      unfold nameB
      rw [if_neg (by omega), show 16 - (j + 1) = 15 - j by omega]) 16 (by omega)
    exact this.trans (by rw [Nat.sub_self, Int.pow_zero, Int.ediv_one])
  unfold parseP
  rw [if_pos ⟨nm_size c n, by rw [e0]; exact hc⟩, hp]
  unfold parseFin
  simp only
  rw [if_neg (by omega), e0]
/-- What is parsed is a name. -/
theorem nm_of {s : ByteArray} {v : Int} (hs : s.size = 17) (hp : pval (fun i => strB s (i + 1)) 16 = some v) : s = nm (strB s 0) v := by
  have hb := strB_b s 0
  refine str_ext (by rw [hs, nm_size]) fun i hi => ?_
  rw [nm_B hb (by omega)]
  unfold nameB
  split
  · rename_i h; rw [h]
  · have h := pval_inv hp (i - 1) (by omega)
    have h' : strB s (i - 1 + 1) = hexd (v / 16 ^ (16 - 1 - (i - 1)) % 16) := h
    rw [show i - 1 + 1 = i by omega] at h'
    rw [h', show 16 - 1 - (i - 1) = 16 - i by omega]

/-! ### Digits, first the greatest -/
def hexU (k : Int) : UInt8 := UInt8.ofNat (hexd k).toNat
def tl (n : Int) : Nat → List UInt8
  | 0 => []
  | j + 1 => hexU (n / 16 ^ j % 16) :: tl n j
theorem tl_len (n : Int) : ∀ j, (tl n j).length = j
  | 0 => rfl
  | j + 1 => by simp [tl, tl_len n j]
theorem nm_tl (c n : Int) : nm c n = ⟨(UInt8.ofNat c.toNat :: tl n 16).toArray⟩ := by
  unfold nm mkS
  congr 2
theorem hexU_cmp {a b : Int} (a0 : 0 ≤ a) (a1 : a < 16) (b0 : 0 ≤ b) (b1 : b < 16) : (decide (hexU a < hexU b)) = decide (a < b) ∧ (hexU a == hexU b) = decide (a = b) := by
  have : ∀ x y : Fin 16, (decide (hexU (x.val : Int) < hexU (y.val : Int))) = decide ((x.val : Int) < (y.val : Int)) ∧ (hexU (x.val : Int) == hexU (y.val : Int)) = decide ((x.val : Int) = (y.val : Int)) := by decide
  have := this ⟨a.toNat, by omega⟩ ⟨b.toNat, by omega⟩
  simp only [Int.toNat_of_nonneg a0, Int.toNat_of_nonneg b0] at this
  exact this
theorem mod16 (n : Int) (j : Nat) : n % 16 ^ (j + 1) = n / 16 ^ j % 16 * 16 ^ j + n % 16 ^ j := by
  have hp : (0 : Int) < 16 ^ j := Int.pow_pos (by decide)
  have e1 := Int.mul_ediv_add_emod n (16 ^ j)
  have e2 := Int.mul_ediv_add_emod (n / 16 ^ j) 16
  have e3 := Int.mul_ediv_add_emod n (16 ^ (j + 1))
  rw [div16' n j, Int.pow_succ] at e3
  rw [Int.pow_succ]
  generalize (16 : Int) ^ j = p at *
  generalize n / p = q at *
  have e4 : p * q = p * (16 * (q / 16)) + p * (q % 16) := by rw [← Int.mul_add, e2]
  have e5 : p * 16 * (q / 16) = p * (16 * (q / 16)) := by rw [Int.mul_assoc]
  have e6 : q % 16 * p = p * (q % 16) := Int.mul_comm _ _
  omega
theorem less_tl (m n : Int) : ∀ j, Op.bytesLess (tl m j) (tl n j) = decide (m % 16 ^ j < n % 16 ^ j)
  | 0 => by simp [tl, Op.bytesLess]
  | j + 1 => by
    have hp : (0 : Int) < 16 ^ j := Int.pow_pos (by decide)
    obtain ⟨c1, c2⟩ := hexU_cmp (a := m / 16 ^ j % 16) (b := n / 16 ^ j % 16) (by omega) (by omega) (by omega) (by omega)
    simp only [tl, Op.bytesLess]
    rw [c1, c2, less_tl m n j, mod16 m j, mod16 n j]
    have m0 := Int.emod_nonneg m (Int.ne_of_gt hp)
    have m1 := Int.emod_lt_of_pos m hp
    have n0 := Int.emod_nonneg n (Int.ne_of_gt hp)
    have n1 := Int.emod_lt_of_pos n hp
    generalize m / 16 ^ j % 16 = a at *
    generalize n / 16 ^ j % 16 = b at *
    generalize m % 16 ^ j = x at *
    generalize n % 16 ^ j = y at *
    generalize (16 : Int) ^ j = p at *
    by_cases hab : a = b
    · subst hab
      simp
    · by_cases hlt : a < b
      · have : a * p + x < b * p + y := by
          have := Int.mul_le_mul_of_nonneg_right (show a + 1 ≤ b by omega) (show 0 ≤ p by omega)
          rw [Int.add_mul, Int.one_mul] at this
          omega
        simp [hlt, this]
      · have : ¬ a * p + x < b * p + y := by
          have := Int.mul_le_mul_of_nonneg_right (show b + 1 ≤ a by omega) (show 0 ≤ p by omega)
          rw [Int.add_mul, Int.one_mul] at this
          omega
        simp [hlt, hab, this]
theorem less16 {m n : Int} (m0 : 0 ≤ m) (m1 : m < 18446744073709551616) (n0 : 0 ≤ n) (n1 : n < 18446744073709551616) : Op.bytesLess (tl m 16) (tl n 16) = decide (m < n) := by
  have e : (16 : Int) ^ 16 = 18446744073709551616 := by decide
  rw [less_tl, e, Int.emod_eq_of_lt m0 m1, Int.emod_eq_of_lt n0 n1]
theorem tl_inj {m n : Int} (m0 : 0 ≤ m) (m1 : m < 18446744073709551616) (n0 : 0 ≤ n) (n1 : n < 18446744073709551616) (h : tl m 16 = tl n 16) : m = n := by
  have a := less16 m0 m1 n0 n1
  have b := less16 n0 n1 m0 m1
  rw [h] at a b
  rw [less16 n0 n1 n0 n1] at a b
  have a' : ¬ m < n := by simpa using a.symm
  have b' : ¬ n < m := by simpa using b.symm
  omega
end Go.Proofs.Ytooknkplmpnnnaa.Y
