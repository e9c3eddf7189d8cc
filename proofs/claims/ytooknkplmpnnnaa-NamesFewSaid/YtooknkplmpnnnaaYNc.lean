/- Names: the three laws. -/
import Derived.Test.YtooknkplmpnnnaaYNb
namespace Go.Proofs.Ytooknkplmpnnnaa.Y
open Go Go.RowKit Go.Proofs.Ytooknkplmpnnnaa.E Go.Proofs.Ytooknkplmpnnnaa.Fw
set_option linter.unusedVariables false
set_option linter.unusedSimpArgs false

theorem wf_j {n : Int} (h : (Lit.int .i64 n).wf = true) : J64 n := by
  simp [Lit.wf, IntKind.min, IntKind.max, IntKind.signed, IntKind.bits] at h
  unfold J64
  omega
theorem may_eq {n : Int} (h : J64 n) : ∃ m, law18.may.f n = some m ∧ 0 ≤ m ∧ m ≤ 4611686018427387904 := by
  rw [law18.may.eq]
  simp only [Bool.cond_decide]
  unfold J64 at h
  split
  · rw [w64 (x := n + 1) (by unfold J64; omega), w64 (by unfold J64; omega)]
    refine ⟨_, rfl, ?_⟩
    split <;> omega
  · refine ⟨_, rfl, ?_⟩
    split <;> omega
theorem beq_self_str (s : ByteArray) : (ByteArray.toList s == ByteArray.toList s) = true := by rw [beq_str]; exact decide_eq_true rfl
theorem fit_eq : law18.fit.f () = some true := by
  rw [law18.fit.eq, Segment_eq, Option.bind_some, Parse_eq, Option.bind_some, Check_eq, Option.bind_some, parse_nm (.inr rfl) (by omega) (by omega)]
  have e : nm 99 255 = Strc9c2d315 := by kernel_rfl
  rw [e, beq_self_str]
  rfl

/-! ### told -/
def allDigs : List UInt8 := [48, 49, 50, 51, 52, 53, 54, 55, 56, 57, 97, 98, 99, 100, 101, 102]
theorem one_dig {k : Int} (h0 : 0 ≤ k) (h1 : k < 16) : ByteArray.extract Str68c4f033 k.toNat (k + 1).toNat = ⟨[hexU k].toArray⟩ := by
  have e : Str68c4f033 = ⟨allDigs.toArray⟩ := rfl
  rw [e, Go.ByteArray.extract_mk]
  have : ∀ m : Fin 16, (allDigs.drop m.val).take (m.val + 1 - m.val) = [hexU (m.val : Int)] := by decide
  have := this ⟨k.toNat, by omega⟩
  simp only [Int.toNat_of_nonneg h0] at this
  rw [show (k + 1).toNat = k.toNat + 1 by omega, this]
theorem cons_str (x : UInt8) (l : List UInt8) : (ByteArray.mk [x].toArray ++ ByteArray.mk l.toArray) = ⟨(x :: l).toArray⟩ := by
  apply ByteArray.ext
  rw [ByteArray.data_append]
  simp
theorem mk_size (l : List UInt8) : (ByteArray.mk l.toArray).size = l.length := by simp [ByteArray.size]
theorem told_loop (c : UInt8) (n : Int) (k0 : Nat) : ∀ (d i K : Nat), i + d = 16 → d < K →
    law18.told.l0 k0 K ⟨[c].toArray⟩ (n / 16 ^ i) ⟨(tl n i).toArray⟩ (i : Int) = some ⟨(c :: tl n 16).toArray⟩
  | 0, i, K, h1, h2 => by
    obtain ⟨K, rfl⟩ : ∃ x, K = x + 1 := ⟨K - 1, by omega⟩
    have : i = 16 := by omega
    subst this
    rw [law18.told.l0_eq]
    simp only [Bool.cond_decide]
    rw [if_neg (by omega), mk_size, mk_size, tl_len, if_pos (by simp), cons_str]
  | d + 1, i, K, h1, h2 => by
    obtain ⟨K, rfl⟩ : ∃ x, K = x + 1 := ⟨K - 1, by omega⟩
    have a0 : 0 ≤ n / 16 ^ i % 16 := by omega
    have a1 : n / 16 ^ i % 16 < 16 := by omega
    rw [law18.told.l0_eq]
    simp only [Bool.cond_decide, m4]
    rw [if_pos (by omega), w64 (x := n / 16 ^ i % 16 + 1) (by unfold J64; omega), decide_eq_true (show 0 ≤ n / 16 ^ i % 16 + 1 by omega), decide_eq_true (show n / 16 ^ i % 16 + 1 ≤ 16 by omega), decide_eq_true a0, decide_eq_true (show n / 16 ^ i % 16 ≤ n / 16 ^ i % 16 + 1 by omega), one_dig a0 a1]
    simp only [Bool.and_self, cond_true]
    rw [mk_size, mk_size, tl_len, if_pos (by simp; omega), cons_str, w64 (by unfold J64; omega)]
    have e1 : Int.fdiv (n / 16 ^ i) (2 ^ 4) = n / 16 ^ (i + 1) := by rw [fdiv_pow, div16']; rfl
    rw [e1]
    exact told_loop c n k0 d (i + 1) K (by omega) (by omega)
theorem told_eq (c : UInt8) (n : Int) : law18.told.f (⟨#[c]⟩, n) = some (nm (c.toNat : Int) n) := by
  show law18.told.g 1000000 _ = _
  rw [law18.told.eq, nm_tl]
  have := told_loop c n 1000000 16 0 1000000 (by omega) (by omega)
  rw [Int.pow_zero, Int.ediv_one] at this
  have e : UInt8.ofNat ((c.toNat : Nat) : Int).toNat = c := by simp
  rw [e]
  exact this

theorem nm_less {c : Int} {m n : Int} (m0 : 0 ≤ m) (m1 : m < 18446744073709551616) (n0 : 0 ≤ n) (n1 : n < 18446744073709551616) : Op.bytesLess (ByteArray.toList (nm c m)) (ByteArray.toList (nm c n)) = decide (m < n) := by
  rw [nm_tl, nm_tl, Go.ByteArray.toList_mk, Go.ByteArray.toList_mk]
  simp only [Op.bytesLess]
  rw [less16 m0 m1 n0 n1]
  simp
theorem nm_inj {c : Int} (hc : c = 99 ∨ c = 106) {m n : Int} (m0 : 0 ≤ m) (m1 : m ≤ 4611686018427387904) (n0 : 0 ≤ n) (n1 : n ≤ 4611686018427387904) : nm c m = nm c n ↔ m = n := by
  constructor
  · intro h
    have a := parse_nm hc m0 m1
    rw [h, parse_nm hc n0 n1] at a
    have := congrArg (fun p : Int × Int × Bool => p.2.1) a
    exact this.symm
  · rintro rfl; rfl

theorem NamesBack_true (p0 p1 : Int) (w0 : (Lit.int .i64 p0).wf = true) (w1 : (Lit.int .i64 p1).wf = true) : law18.NamesBack.f (p0, p1) = some true := by
  obtain ⟨n, hn, n0, n1⟩ := may_eq (n := p0) (wf_j w0)
  obtain ⟨m, hm, m0, m1⟩ := may_eq (n := p1) (wf_j w1)
  have t1 : law18.told.f (⟨#[99]⟩, n) = some (nm 99 n) := told_eq 99 n
  have t2 : law18.told.f (⟨#[106]⟩, n) = some (nm 106 n) := told_eq 106 n
  rw [law18.NamesBack.eq, fit_eq, Option.bind_some]
  simp only [Bool.not_true, cond_false]
  rw [hn, Option.bind_some, hm, Option.bind_some, Check_eq, Option.bind_some, Segment_eq, Option.bind_some, Parse_eq, Option.bind_some, Parse_eq, Option.bind_some, t1, Option.bind_some, beq_self_str, t2, Option.bind_some, beq_self_str, parse_nm (.inl rfl) n0 n1, parse_nm (.inr rfl) n0 n1, Check_eq, Option.bind_some, Option.bind_some, beq_str]
  rw [nm_less m0 (by omega) n0 (by omega)]
  have e : decide (nm 99 m = nm 99 n) = (m == n) := by
    rw [Bool.eq_iff_iff, decide_eq_true_iff, beq_iff_eq]
    exact nm_inj (.inl rfl) m0 m1 n0 n1
  rw [e]
  simp

/-! ### Any text -/
def allHex (s : ByteArray) : Nat → Nat → Bool
  | 0, _ => true
  | d + 1, i => decide (0 ≤ hexv (strB s i)) && allHex s d (i + 1)
noncomputable def anyFin (s : ByteArray) (r : Bool) : Option Bool :=
  bif (!r) then some true else some (!((Go.Op.bytesLess (ByteArray.toList (ByteArray.extract s 1 s.size)) (ByteArray.toList Str763127e3)) || (ByteArray.toList (ByteArray.extract s 1 s.size) == ByteArray.toList Str763127e3)))
theorem any_loop {s : ByteArray} (hs : s.size = 17) (k0 : Nat) : ∀ (d i K : Nat) (r : Bool), i + d = 17 → d < K → law18.NamesAny.l0 k0 K s r (i : Int) = anyFin s (r && allHex s d i)
  | 0, i, K, r, h1, h2 => by
    obtain ⟨K, rfl⟩ : ∃ x, K = x + 1 := ⟨K - 1, by omega⟩
    rw [law18.NamesAny.l0_eq]
    simp only [Bool.cond_decide]
    rw [if_neg (by omega), if_pos (show (1 : Int) ≤ ((s.size : Nat) : Int) by omega)]
    unfold allHex
    rw [Bool.and_true]
    rfl
  | d + 1, i, K, r, h1, h2 => by
    obtain ⟨K, rfl⟩ : ∃ x, K = x + 1 := ⟨K - 1, by omega⟩
    have ih : ∀ r, law18.NamesAny.l0 k0 K s r ((i + 1 : Nat) : Int) = anyFin s (r && allHex s d (i + 1)) := fun r => any_loop hs k0 d (i + 1) K r (by omega) (by omega)
    rw [law18.NamesAny.l0_eq]
    simp only [decide_eq_true (show (0 : Int) ≤ (i : Int) by omega), decide_eq_true (show (i : Int) < ((s.size : Nat) : Int) by omega), decide_eq_true (show (i : Int) < 17 by omega), Bool.and_self, cond_true, Int.toNat_natCast, w64 (show J64 ((i : Int) + 1) by unfold J64; omega)]
    have e : ((i : Int) + 1) = ((i + 1 : Nat) : Int) := by omega
    rw [e]
    simp only [ih]
    rw [show allHex s (d + 1) i = (decide (0 ≤ hexv (strB s i)) && allHex s d (i + 1)) from rfl]
    generalize allHex s d (i + 1) = z
    unfold hexv
    cases r with
    | false => simp
    | true =>
      simp only [cond_true, Bool.true_and, Bool.false_and, Bool.cond_decide]
      by_cases a : 48 ≤ strB s i ∧ strB s i ≤ 57
      · rw [if_pos a, if_pos (show strB s i ≥ 48 by omega), if_pos a.2, decide_eq_true (show (0 : Int) ≤ strB s i - 48 by omega), Bool.true_and]
      · rw [if_neg a]
        by_cases c : 97 ≤ strB s i ∧ strB s i ≤ 102
        · rw [if_pos c, if_pos (show strB s i ≥ 48 by omega), if_neg (show ¬ strB s i ≤ 57 by omega), if_pos (show strB s i ≥ 97 by omega), decide_eq_true c.2, decide_eq_true (show (0 : Int) ≤ strB s i - 87 by omega), Bool.true_and]
        · rw [if_neg c, decide_eq_false (show ¬ (0 : Int) ≤ -1 by omega), Bool.false_and]
          by_cases h48 : strB s i ≥ 48
          · rw [if_pos h48, if_neg (show ¬ strB s i ≤ 57 by omega)]
            by_cases h97 : strB s i ≥ 97
            · rw [if_pos h97, decide_eq_false (show ¬ strB s i ≤ 102 by omega), Bool.false_and]
            · rw [if_neg h97]
          · rw [if_neg h48, if_neg (show ¬ strB s i ≥ 97 by omega)]
theorem allHex_spec {s : ByteArray} : ∀ {d i : Nat}, allHex s d i = true → ∀ j, i ≤ j → j < i + d → 0 ≤ hexv (strB s j)
  | 0, i, _, j, h1, h2 => absurd h2 (by omega)
  | d + 1, i, h, j, h1, h2 => by
    unfold allHex at h
    rw [Bool.and_eq_true, decide_eq_true_eq] at h
    by_cases e : j = i
    · subst e; exact h.1
    · exact allHex_spec h.2 j (by omega) (by omega)
theorem pval_some {B : Nat → Int} : ∀ (n : Nat), (∀ i, i < n → 0 ≤ hexv (B i)) → ∃ v, pval B n = some v
  | 0, _ => ⟨0, rfl⟩
  | n + 1, h => by
    obtain ⟨v, hv⟩ := pval_some n fun i hi => h i (by omega)
    refine ⟨16 * v + hexv (B n), ?_⟩
    unfold pval
    rw [hv]
    have := h n (by omega)
    simp only
    rw [if_neg (by omega)]
theorem ext_nm (c n : Int) : ByteArray.extract (nm c n) 1 (nm c n).size = ⟨(tl n 16).toArray⟩ := by
  rw [nm_size, nm_tl, Go.ByteArray.extract_mk]
  congr 2
theorem any_fin {s : ByteArray} (hs : s.size = 17) (h0 : strB s 0 = 99 ∨ strB s 0 = 106) (hno : (parseP s).2.2 = false) : anyFin s (allHex s 16 1) = some true := by
  cases hr : allHex s 16 1 with
  | false => rfl
  | true =>
    obtain ⟨v, hv⟩ := pval_some (B := fun i => strB s (i + 1)) 16 fun i hi => allHex_spec hr (i + 1) (by omega) (by omega)
    obtain ⟨b1, b2⟩ := pval_b hv
    have b2' : v < 18446744073709551616 := by simpa using b2
    have hgt : v > 4611686018427387904 := by
      unfold parseP at hno
      rw [if_pos ⟨hs, h0⟩, hv] at hno
      unfold parseFin at hno
      simp only at hno
      by_cases h : v > 4611686018427387904
      · exact h
      · rw [if_neg h] at hno; cases hno
    have e := nm_of hs hv
    have et : ByteArray.extract s 1 s.size = ⟨(tl v 16).toArray⟩ := by
      have := ext_nm (strB s 0) v
      rw [← e] at this; exact this
    have es : Str763127e3 = ⟨(tl 4611686018427387904 16).toArray⟩ := by kernel_rfl
    unfold anyFin
    rw [et, es, Go.ByteArray.toList_mk, Go.ByteArray.toList_mk, less16 b1 b2' (by omega) (by omega), decide_eq_false (by omega)]
    have : (tl v 16 == tl 4611686018427387904 16) = false := by
      rw [beq_eq_false_iff_ne]
      intro h
      have := tl_inj b1 b2' (by omega) (by omega) h
      omega
    rw [this]
    rfl
theorem parse_no {s : ByteArray} (h : (parseP s).2.2 = false) : parseP s = (0, 0, false) := by
  unfold parseP at h ⊢
  split
  · rename_i hc
    rw [if_pos hc] at h
    unfold parseFin at h ⊢
    split
    · rename_i v hv
      rw [hv] at h
      simp only at h
      split
      · rfl
      · rename_i hv'; rw [if_neg hv'] at h; cases h
    · rfl
  · rfl
theorem parse_yes {s : ByteArray} (h : (parseP s).2.2 = true) : ∃ v, (strB s 0 = 99 ∨ strB s 0 = 106) ∧ 0 ≤ v ∧ v ≤ 4611686018427387904 ∧ parseP s = (strB s 0, v, true) ∧ s = nm (strB s 0) v := by
  unfold parseP at h ⊢
  split at h
  · rename_i hc
    rw [if_pos hc]
    cases hv : pval (fun i => strB s (i + 1)) 16 with
    | none => rw [hv] at h; cases h
    | some v =>
      rw [hv] at h
      unfold parseFin at h ⊢
      simp only at h ⊢
      by_cases hb : v > 4611686018427387904
      · rw [if_pos hb] at h; cases h
      · rw [if_neg hb]
        exact ⟨v, hc.2, (pval_b hv).1, by omega, rfl, nm_of hc.1 hv⟩
  · cases h
theorem NamesAny_true (p0 : ByteArray) : law18.NamesAny.f p0 = some true := by
  show law18.NamesAny.g 1000000 p0 = _
  rw [law18.NamesAny.eq, fit_eq, Option.bind_some]
  simp only [Bool.not_true, cond_false]
  rw [Parse_eq, Option.bind_some]
  cases hok : (parseP p0).2.2 with
  | false =>
    rw [parse_no hok]
    simp only [Bool.not_false, cond_true, bne_self_eq_false, cond_false, BEq.rfl]
    by_cases hs : p0.size = 17
    · have e1 : (((p0.size : Nat) : Int) != 17) = false := by simp; omega
      rw [e1, cond_false]
      simp only [Bool.cond_decide, if_pos (show (0 : Int) < ((p0.size : Nat) : Int) by omega)]
      by_cases h0 : strB p0 0 = 99
      · have e2 : (strB p0 0 == 99) = true := by simp [h0]
        rw [e2, cond_true]
        have := any_loop hs 1000000 16 1 1000000 true (by omega) (by omega)
        rw [Bool.true_and, any_fin hs (.inl h0) hok] at this
        exact this
      · have e2 : (strB p0 0 == 99) = false := by simp [h0]
        rw [e2, cond_false]
        have := any_loop hs 1000000 16 1 1000000 (strB p0 0 == 106) (by omega) (by omega)
        refine Eq.trans this ?_
        by_cases h1 : strB p0 0 = 106
        · have e3 : (strB p0 0 == 106) = true := by simp [h1]
          rw [e3, Bool.true_and]
          exact any_fin hs (.inr h1) hok
        · have e3 : (strB p0 0 == 106) = false := by simp [h1]
          rw [e3, Bool.false_and]
          rfl
    · have e1 : (((p0.size : Nat) : Int) != 17) = true := by simp; omega
      rw [e1, cond_true]
  | true =>
    obtain ⟨v, hc, v0, v1, hp, hs⟩ := parse_yes hok
    rw [hp]
    simp only [Bool.not_true, cond_false, Bool.cond_decide]
    rw [if_pos v0, if_pos v1, Check_eq, Segment_eq]
    simp only [Option.bind_some, beq_str]
    rcases hc with h | h
    · rw [h] at hs ⊢
      rw [← hs]
      simp
    · rw [h] at hs ⊢
      rw [← hs]
      simp

/-! ### One sign is another one -/
theorem row_upd_S (s : ByteArray) (k : Nat) (x : Int) : (fun i => if i = k then Ry.enc x else Ry.enc (strB s i)) = fun i => Ry.enc (upd1 (strB s) k x i) := row_upd Ry (strB s) k x
theorem short_no {s : ByteArray} (h : s.size ≠ 17) : (parseP s).2.2 = false := by
  unfold parseP
  rw [if_neg fun hc => h hc.1]
theorem NamesFew_true (p0 p1 p2 : Int) (w0 : (Lit.int .i64 p0).wf = true) (w1 : (Lit.int .i64 p1).wf = true) (w2 : (Lit.int .u8 p2).wf = true) : law18.NamesFew.f (p0, p1, p2) = some true := by
  obtain ⟨n, hn, n0, n1⟩ := may_eq (n := p0) (wf_j w0)
  have hx : 0 ≤ p2 ∧ p2 < 256 := by simp [Lit.wf, IntKind.min, IntKind.max, IntKind.signed, IntKind.bits] at w2; omega
  rw [law18.NamesFew.eq, fit_eq, Option.bind_some]
  simp only [Bool.not_true, cond_false]
  rw [hn, Option.bind_some, Segment_eq, Option.bind_some, nm_size]
  obtain ⟨k, hk⟩ : ∃ k : Nat, k = (p1 % 256 % 17).toNat := ⟨_, rfl⟩
  have hk17 : k < 17 := by omega
  have ek : Int.tmod (Go.bits .and .i64 p1 255) ((17 : Nat) : Int) = (k : Int) := by
    rw [m8, Int.tmod_eq_emod_of_nonneg (by omega)]
    omega
  rw [ek]
  simp only [decide_eq_true (show (((17 : Nat) : Int) ≠ 0) by omega), decide_eq_true (show (0 : Int) ≤ (k : Int) by omega), decide_eq_true (show (k : Int) < ((17 : Nat) : Int) by omega), decide_eq_true (show (k : Int) ≤ ((17 : Nat) : Int) by omega), Bool.and_self, cond_true, Int.toNat_natCast, row_upd_S, u8ok_enc, strOf_enc]
  rw [Parse_eq, Option.bind_some, Parse_eq, Option.bind_some]
  rw [short_no (s := mkS k _) (by rw [mkS_size]; omega)]
  have hs' : (mkS 17 (upd1 (strB (nm 106 n)) k p2)).size = 17 := mkS_size _ _
  have hB : ∀ i, i < 17 → strB (mkS 17 (upd1 (strB (nm 106 n)) k p2)) i = upd1 (strB (nm 106 n)) k p2 i := fun i hi => by
    have hb : 0 ≤ upd1 (strB (nm 106 n)) k p2 i ∧ upd1 (strB (nm 106 n)) k p2 i < 256 := by
      unfold upd1
      split
      · exact hx
      · exact strB_b _ _
    exact mkS_B hi hb.1 hb.2
  generalize mkS 17 (upd1 (strB (nm 106 n)) k p2) = s' at *
  by_cases hw : strB (nm 106 n) k = p2
  · have e : s' = nm 106 n := str_ext (by rw [hs', nm_size]) fun i hi => by
      rw [hB i (by omega)]
      unfold upd1
      split
      · rename_i e; rw [e]; exact hw.symm
      · rfl
    have e1 : (strB (nm 106 n) k == p2) = true := by simp [hw]
    rw [e1, cond_true, e, parse_nm (.inr rfl) n0 n1]
    simp
  · have e1 : (strB (nm 106 n) k == p2) = false := by simp [hw]
    rw [e1, cond_false]
    simp only [Bool.not_false, cond_true]
    cases hok : (parseP s').2.2 with
    | false => simp
    | true =>
      obtain ⟨v, hc, v0, v1, hp, hs⟩ := parse_yes hok
      rw [hp]
      simp only [Bool.not_true, cond_false]
      by_cases h106 : strB s' 0 = 106
      · have e2 : (strB s' 0 != 106) = false := by simp [h106]
        rw [e2, cond_false]
        have : v ≠ n := by
          rintro rfl
          rw [h106] at hs
          have := hB k hk17
          rw [hs] at this
          unfold upd1 at this
          rw [if_pos rfl] at this
          exact hw this
        simp [this]
      · have e2 : (strB s' 0 != 106) = true := by simp [h106]
        rw [e2, cond_true]
end Go.Proofs.Ytooknkplmpnnnaa.Y
