/- Names: strings as rows of bytes; what the functions give. -/
import Derived.Test.YtooknkplmpnnnaaE
import Derived.Laws.Bits64
import Derived.Laws.BitsLemmas
import Derived.Laws.Strings
import Derived.Laws.Strings2
import Derived.Sort.Walk0
namespace Go.Proofs.Ytooknkplmpnnnaa.Y
open Go Go.RowKit Go.Proofs.Ytooknkplmpnnnaa.E Go.Proofs.Ytooknkplmpnnnaa.Fw
set_option linter.unusedVariables false
set_option linter.unusedSimpArgs false

/-! ### Numbers -/
def J64 (x : Int) : Prop := -9223372036854775808 ≤ x ∧ x ≤ 9223372036854775807
theorem w64 {x : Int} (h : J64 x) : IntKind.i64.wrap x = x := by rw [IntKind.wrap_i64]; unfold J64 at h; omega
theorem u64 {x : Int} (h : 0 ≤ x) (h' : x < 18446744073709551616) : IntKind.u64.wrap x = x := by rw [IntKind.wrap_u64]; omega
theorem fdiv_pow {x : Int} (n : Nat) : Int.fdiv x (2 ^ n) = x / 2 ^ n := Int.fdiv_eq_ediv_of_nonneg _ (Int.pow_nonneg (by decide))
theorem or16 {x k : Int} (hx : 0 ≤ x) (hk : 0 ≤ k) (hk' : k < 16) (h : 16 * x + k < 18446744073709551616) : Go.bits .or .u64 (16 * x) k = 16 * x + k := by
  have hk0 : ∀ n : Int, 0 ≤ n → n < 2 ^ 64 → IntKind.u64.wrap n = n := fun n h0 h1 => u64 h0 (by simpa using h1)
  obtain ⟨c, rfl⟩ : ∃ c : Nat, x = c := ⟨x.toNat, by omega⟩
  obtain ⟨b, rfl⟩ : ∃ b : Nat, k = b := ⟨k.toNat, by omega⟩
  have e : (16 * (c : Int)) = ((2 ^ 4 * c : Nat) : Int) := by omega
  rw [e, (bits_nat .u64 64 (by decide) hk0 (2 ^ 4 * c) b (by omega) (by omega)).2, ← Nat.two_pow_add_eq_or_of_lt (by omega : b < 2 ^ 4)]
  omega
theorem mask {m : Nat} (hm : m ≤ 62) (x : Int) : Go.bits .and .i64 x (((2 ^ m - 1 : Nat) : Int)) = x % ((2 ^ m : Nat) : Int) := by
  have hp : 2 ^ m ≤ 2 ^ 62 := Nat.pow_le_pow_right (by omega) hm
  have hpos : 0 < 2 ^ m := Nat.two_pow_pos m
  have e62 : (2 : Nat) ^ 62 = 4611686018427387904 := by decide
  have e64 : ((2 ^ IntKind.bits .i64 : Nat) : Int) = 18446744073709551616 := by decide
  unfold Go.bits
  simp only [BitVec.toNat_and, BitVec.ofInt_natCast, BitVec.toNat_ofNat]
  have hy : (2 ^ m - 1) % 2 ^ IntKind.bits .i64 = 2 ^ m - 1 := Nat.mod_eq_of_lt (by rw [show IntKind.bits .i64 = 64 from rfl]; omega)
  rw [hy, Nat.and_two_pow_sub_one_eq_mod, IntKind.wrap_i64]
  have hx : (((BitVec.ofInt (IntKind.bits .i64) x).toNat : Nat) : Int) = x % 18446744073709551616 := by
    rw [BitVec.toNat_ofInt, e64]; omega
  have hd : ((2 ^ m : Nat) : Int) ∣ 18446744073709551616 := by
    have : (2 : Nat) ^ m ∣ 2 ^ 64 := Nat.pow_dvd_pow 2 (by omega)
    exact Int.ofNat_dvd.2 this
  rw [Int.natCast_emod, hx, Int.emod_emod_of_dvd _ hd]
  have h0 := Int.emod_nonneg x (by omega : ((2 ^ m : Nat) : Int) ≠ 0)
  have h1 := Int.emod_lt_of_pos x (by omega : (0 : Int) < ((2 ^ m : Nat) : Int))
  omega
theorem m4 (x : Int) : Go.bits .and .i64 x 15 = x % 16 := mask (m := 4) (by omega) x
theorem m8 (x : Int) : Go.bits .and .i64 x 255 = x % 256 := mask (m := 8) (by omega) x

/-! ### Strings -/
theorem strB_b (s : ByteArray) (i : Nat) : 0 ≤ strB s i ∧ strB s i < 256 := by
  unfold strB
  have := (s.data.getD i 0).toNat_lt
  omega
theorem strB_get {s : ByteArray} {i : Nat} (h : i < s.data.size) : strB s i = ((s.data[i].toNat : Nat) : Int) := by
  unfold strB
  have h' : i < s.size := h
  simp [Array.getD, h']
theorem str_ext {s t : ByteArray} (hs : s.size = t.size) (h : ∀ i, i < s.size → strB s i = strB t i) : s = t := by
  apply ByteArray.ext
  refine Array.ext hs fun i h1 h2 => ?_
  have := h i h1
  rw [strB_get h1, strB_get h2] at this
  exact UInt8.toNat_inj.1 (by omega)
def mkS (n : Nat) (g : Nat → Int) : ByteArray := ⟨((List.range n).map fun i => UInt8.ofNat (g i).toNat).toArray⟩
theorem mkS_size (n : Nat) (g : Nat → Int) : (mkS n g).size = n := by unfold mkS; simp [ByteArray.size]
theorem mkS_B {n : Nat} {g : Nat → Int} {i : Nat} (hi : i < n) (h0 : 0 ≤ g i) (h1 : g i < 256) : strB (mkS n g) i = g i := by
  have hd : i < (mkS n g).data.size := by have e : (mkS n g).data.size = n := mkS_size n g; omega
  rw [strB_get hd]
  have : (mkS n g).data[i] = UInt8.ofNat (g i).toNat := by simp [mkS]
  rw [this]
  have : (UInt8.ofNat (g i).toNat).toNat = (g i).toNat % 256 := by simp
  rw [this]
  omega
theorem u8ok_enc (n : Nat) (g : Nat → Int) : u8ok n (fun i => Ry.enc (g i)) = true := by
  unfold u8ok
  exact @decide_eq_true _ (Classical.propDecidable _) fun i _ => ⟨g i, rfl⟩
theorem strOf_enc (n : Nat) (g : Nat → Int) : strOf n (fun i => Ry.enc (g i)) = mkS n g := rfl
theorem beq_str (s t : ByteArray) : (ByteArray.toList s == ByteArray.toList t) = decide (s = t) := by
  rw [Bool.eq_iff_iff, beq_iff_eq, decide_eq_true_iff, Go.ByteArray.toList_eq, Go.ByteArray.toList_eq]
  constructor
  · intro h
    exact ByteArray.ext (by rw [← Array.toList_inj]; exact h)
  · rintro rfl; rfl
theorem ext_size (s : ByteArray) : (ByteArray.extract s 1 s.size).size = s.size - 1 := by rw [ByteArray.size_extract]; simp
theorem ext_B {s : ByteArray} {i : Nat} (h : i + 1 < s.size) : strB (ByteArray.extract s 1 s.size) i = strB s (i + 1) := by
  have h1 : i < (ByteArray.extract s 1 s.size).data.size := by have := ext_size s; have e : (ByteArray.extract s 1 s.size).data.size = s.size - 1 := this; omega
  rw [strB_get h1, strB_get (show i + 1 < s.data.size from h)]
  have : (ByteArray.extract s 1 s.size).data[i] = s.data[i + 1] := by
    simp only [ByteArray.data_extract, Array.getElem_extract]
    congr 1
    omega
  rw [this]

/-! ### Digits -/
def digs : List Int := [48, 49, 50, 51, 52, 53, 54, 55, 56, 57, 97, 98, 99, 100, 101, 102]
def hexd (k : Int) : Int := if k < 10 then 48 + k else 87 + k
def hexv (b : Int) : Int := if 48 ≤ b ∧ b ≤ 57 then b - 48 else if 97 ≤ b ∧ b ≤ 102 then b - 87 else -1
theorem hexd_b {k : Int} (h0 : 0 ≤ k) (h1 : k < 16) : 48 ≤ hexd k ∧ hexd k ≤ 102 := by unfold hexd; split <;> omega
theorem hexv_hexd {k : Int} (h0 : 0 ≤ k) (h1 : k < 16) : hexv (hexd k) = k := by
  unfold hexv hexd
  repeat' split
  all_goals omega
theorem hexd_hexv {b : Int} (h : 0 ≤ hexv b) : hexd (hexv b) = b ∧ hexv b < 16 := by
  unfold hexv at h ⊢
  unfold hexd
  by_cases h1 : 48 ≤ b ∧ b ≤ 57
  · rw [if_pos h1, if_pos (by omega)]; omega
  · rw [if_neg h1] at h ⊢
    by_cases h2 : 97 ≤ b ∧ b ≤ 102
    · rw [if_pos h2, if_neg (by omega)]; omega
    · rw [if_neg h2] at h; omega
theorem digs_get {k : Int} (h0 : 0 ≤ k) (h1 : k < 16) : List.getD digs k.toNat 0 = hexd k := by
  have : ∀ m : Fin 16, List.getD digs m.val 0 = hexd (m.val : Int) := by decide
  have := this ⟨k.toNat, by omega⟩
  simp only at this
  rw [this]
  congr 1
  omega
theorem digits_eq : names.digits.f () = some (48, 49, 50, 51, 52, 53, 54, 55, 56, 57, 97, 98, 99, 100, 101, 102) := names.digits.eq

/-! ### name -/
def nameB (c n : Int) (i : Nat) : Int := if i = 0 then c else hexd (n / 16 ^ (16 - i) % 16)
theorem nameB_b {c n : Int} (hc : 0 ≤ c ∧ c < 256) (i : Nat) : 0 ≤ nameB c n i ∧ nameB c n i < 256 := by
  unfold nameB
  split
  · exact hc
  · have := hexd_b (k := n / 16 ^ (16 - i) % 16) (by omega) (by omega)
    omega
def nm (c n : Int) : ByteArray := mkS 17 (nameB c n)
theorem mkS_congr {n : Nat} {g h : Nat → Int} (e : ∀ i, i < n → g i = h i) : mkS n g = mkS n h := by
  unfold mkS
  congr 2
  exact List.map_congr_left fun i hi => by rw [e i (by simpa using hi)]
theorem pow16 (m : Nat) : (2 : Int) ^ (4 * m) = 16 ^ m := by rw [Int.pow_mul]; rfl
theorem name_loop (c n : Int) (k0 : Nat) : ∀ (d i K : Nat) (G : Nat → Int), i + d = 16 → d < K → (∀ j, j ≤ i → G j = nameB c n j) →
    names.name.l1 k0 K (i + 1) (fun i => Ry.enc (G i)) n (60 - 4 * (i : Int)) = some (nm c n)
  | 0, i, K, G, h1, h2, hG => by
    obtain ⟨K, rfl⟩ : ∃ x, K = x + 1 := ⟨K - 1, by omega⟩
    rw [names.name.l1_eq]
    simp only [Bool.cond_decide]
    rw [if_neg (by omega), u8ok_enc, cond_true, strOf_enc]
    have : i = 16 := by omega
    subst this
    congr 1
    exact mkS_congr fun j hj => hG j (by omega)
  | d + 1, i, K, G, h1, h2, hG => by
    obtain ⟨K, rfl⟩ : ∃ x, K = x + 1 := ⟨K - 1, by omega⟩
    rw [names.name.l1_eq, digits_eq]
    simp only [Option.bind_some, Bool.cond_decide, m4]
    have e1 : min (Int.toNat (60 - 4 * (i : Int))) 64 = 4 * (15 - i) := by omega
    rw [e1, fdiv_pow, pow16]
    have h0 : 0 ≤ n / 16 ^ (15 - i) % 16 := by omega
    have h16 : n / 16 ^ (15 - i) % 16 < 16 := by omega
    have hd := digs_get h0 h16
    unfold digs at hd
    rw [hd, if_pos (by omega), if_pos (by omega), if_pos (by omega), decide_eq_true h0, decide_eq_true h16]
    simp only [Bool.and_self, cond_true, row_upd_ren Ry_ren]
    have e2 : IntKind.i64.wrap (60 - 4 * (i : Int) - 4) = 60 - 4 * ((i + 1 : Nat) : Int) := by rw [w64 (by unfold J64; omega)]; omega
    rw [e2]
    refine name_loop c n k0 d (i + 1) K _ (by omega) (by omega) fun j hj => ?_
    unfold upd1
    split
    · rename_i e
      subst e
      unfold nameB
      rw [if_neg (by omega), show 16 - (i + 1) = 15 - i by omega]
    · exact hG j (by omega)
theorem name_eq (c n : Int) : names.name.f (c, n) = some (nm c n) := by
  show names.name.g 1000000 _ = _
  rw [names.name.eq]
  have e : (fun i => renL (lookF [] 1) (List.getD (List.map Ry.enc [c]) i (Ry.enc 0))) = fun i => Ry.enc (([c] : List Int).getD i 0) := lit_rows_ren _ (Ry_ren _) 0 [c]
  rw [e]
  exact name_loop c n 1000000 16 0 1000000 _ (by omega) (by omega) fun j hj => by
    have : j = 0 := by omega
    subst this; rfl
theorem Check_eq (n : Int) : names.Check.f n = some (nm 99 n) := by rw [names.Check.eq, name_eq]; rfl
theorem Segment_eq (n : Int) : names.Segment.f n = some (nm 106 n) := by rw [names.Segment.eq, name_eq]; rfl
theorem nm_size (c n : Int) : (nm c n).size = 17 := mkS_size _ _
theorem nm_B {c n : Int} (hc : 0 ≤ c ∧ c < 256) {i : Nat} (hi : i < 17) : strB (nm c n) i = nameB c n i := mkS_B hi (nameB_b hc i).1 (nameB_b hc i).2

/-! ### Parse -/
theorem index_eq (b : Int) : slices.Index__byte_byte.f ((16, fun i => Ry.enc (List.getD digs i 0)), b) = some (hexv b) := by
  show slices.Index__byte_byte.g 1000000 _ = _
  rw [slices.Index__byte_byte.eq]
  have step : ∀ (k i : Nat), i < 16 → slices.Index__byte_byte.l0 1000000 (k + 1) 16 (fun i => Ry.enc (List.getD digs i 0)) b 16 (i : Int) =
      bif (b == List.getD digs i 0) then some (i : Int) else slices.Index__byte_byte.l0 1000000 k 16 (fun i => Ry.enc (List.getD digs i 0)) b 16 ((i + 1 : Nat) : Int) := by
    intro k i hi
    rw [slices.Index__byte_byte.l0_eq]
    simp only [Bool.cond_decide]
    rw [if_pos (by omega), decide_eq_true (show (0 : Int) ≤ (i : Int) by omega), decide_eq_true (show (i : Int) < ((16 : Nat) : Int) by omega), w64 (by unfold J64; omega)]
    simp only [Bool.and_self, cond_true, Int.toNat_natCast]
    rfl
  have fin : ∀ k : Nat, slices.Index__byte_byte.l0 1000000 (k + 1) 16 (fun i => Ry.enc (List.getD digs i 0)) b 16 ((16 : Nat) : Int) = some (-1) := by
    intro k
    rw [slices.Index__byte_byte.l0_eq]
    simp only [Bool.cond_decide]
    rw [if_neg (by omega)]
  suffices main : ∀ K : Nat, slices.Index__byte_byte.l0 1000000 (K + 16 + 1) 16 (fun i => Ry.enc (List.getD digs i 0)) b 16 ((0 : Nat) : Int) = some (hexv b) from main 999983
  intro K
  rw [step (K + 16) 0 (by omega), step (K + 15) 1 (by omega), step (K + 14) 2 (by omega), step (K + 13) 3 (by omega), step (K + 12) 4 (by omega), step (K + 11) 5 (by omega), step (K + 10) 6 (by omega), step (K + 9) 7 (by omega), step (K + 8) 8 (by omega), step (K + 7) 9 (by omega), step (K + 6) 10 (by omega), step (K + 5) 11 (by omega), step (K + 4) 12 (by omega), step (K + 3) 13 (by omega), step (K + 2) 14 (by omega), step (K + 1) 15 (by omega), fin]
  unfold hexv digs
  simp only [List.getD_cons_zero, List.getD_cons_succ, Bool.cond_eq_ite, beq_iff_eq]
  clear step fin
  by_cases h1 : (48 ≤ b ∧ b ≤ 57) ∨ (97 ≤ b ∧ b ≤ 102)
  · have : b = 48 ∨ b = 49 ∨ b = 50 ∨ b = 51 ∨ b = 52 ∨ b = 53 ∨ b = 54 ∨ b = 55 ∨ b = 56 ∨ b = 57 ∨ b = 97 ∨ b = 98 ∨ b = 99 ∨ b = 100 ∨ b = 101 ∨ b = 102 := by omega
    rcases this with rfl | rfl | rfl | rfl | rfl | rfl | rfl | rfl | rfl | rfl | rfl | rfl | rfl | rfl | rfl | rfl <;> rfl
  · rw [if_neg (by omega), if_neg (by omega), if_neg (by omega), if_neg (by omega), if_neg (by omega), if_neg (by omega), if_neg (by omega), if_neg (by omega), if_neg (by omega), if_neg (by omega), if_neg (by omega), if_neg (by omega), if_neg (by omega), if_neg (by omega), if_neg (by omega), if_neg (by omega), if_neg (by omega), if_neg (by omega)]
end Go.Proofs.Ytooknkplmpnnnaa.Y
