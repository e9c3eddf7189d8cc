/- What the helpers of the statements on package fix compute. -/
import Derived.Test.YtkafbfkhgkcdnaaPFixx2
import Derived.Test.YtkafbfkhgkcdnaaPFixx3
import Derived.Test.YtkafbfkhgkcdnaaPFixx6
import Derived.Test.YtkafbfkhgkcdnaaPFixx7
import Derived.Test.YtkafbfkhgkcdnaaPFixx8
import Derived.Test.YtkafbfkhgkcdnaaMb
import Derived.Test.YtkafbfkhgkcdnaaDv
namespace Go.Proofs.Ytkafbfkhgkcdnaa.Le
open Go.RowKit Go.Proofs.YtkafbfkhgkcdnaaW.PrintWords Go.Proofs.YtkafbfkhgkcdnaaW.PrintLast Go.Proofs.YtkafbfkhgkcdnaaW.PrintMore Go.Proofs.Ytkafbfkhgkcdnaa.PFix Go.Proofs.Ytkafbfkhgkcdnaa.Ma Go.Proofs.Ytkafbfkhgkcdnaa.Fx Go.Proofs.Ytkafbfkhgkcdnaa.Dv

theorem sub_eq' {k : Nat} (hk : 1 ≤ k) {a b : Int} (ha : I64 a) (hb : I64 b) : fix_Sub.f k a b = some (Ma.sub a b) := by
  unfold fix_Sub.f; rw [neg_eq hb, Option.bind_some, add_eq' hk ha (neg_s hb).i, Option.bind_some]; rfl
theorem part_eq {k : Nat} (hk : 20 ≤ k) (a b : Int) : fix_Part.f k a b = some (Ma.div (ofN a) (ofN b)) := by
  unfold fix_Part.f
  rw [of_eq, Option.bind_some, of_eq, Option.bind_some, div_eq hk (ofN_s a).i (ofN_s b).i, Option.bind_some]
theorem bring_eq (a lo hi : Int) : fix_Bring.f a lo hi = some (mn (mx (wh a) lo) hi) := by
  unfold fix_Bring.f; rw [whole_eq, Option.bind_some]
theorem fit_eq {k : Nat} (hk : 100 ≤ k) : bagatellelaw01_fit.f k = some true :=
  at_rounds bagatellelaw01_fit.mono hk (by decide +kernel)
theorem size_eq {a : Int} (h : I64 a) : bagatellelaw01_size.f a = some (Ma.abs a) := by
  unfold I64 at h
  unfold bagatellelaw01_size.f Ma.abs neg wh
  by_cases h1 : a = -9223372036854775808
  · subst h1; rfl
  · rw [if_neg h1]
    by_cases h2 : a < 0
    · rw [if_pos h2, if_pos h2, if_neg (by omega), w64 (by unfold I64; omega), u64 (by omega) (by omega)]
    · rw [if_neg h2, if_neg h2, u64 (by omega) (by omega)]
theorem times_eq {a b : Int} (a0 : 0 ≤ a) (a1 : a < 18446744073709551616) (b0 : 0 ≤ b) (b1 : b < 18446744073709551616) :
    bagatellelaw01_times.f a b = some (false, a * b / 18446744073709551616, a * b % 18446744073709551616) := by
  unfold bagatellelaw01_times.f; rw [mul64_eq a0 a1 b0 b1, Option.bind_some]
theorem cmp_eq {k : Nat} (hk : 1 ≤ k) (x y : Int) : bagatellelaw01_cmp.f k false (x / 18446744073709551616) (x % 18446744073709551616) false (y / 18446744073709551616) (y % 18446744073709551616) = some (if x < y then -1 else if x = y then 0 else 1) := by
  obtain ⟨k, rfl⟩ : ∃ m, k = m + 1 := ⟨k - 1, by omega⟩
  unfold bagatellelaw01_cmp.f
  simp only [bagatellelaw01_cmp.j0, decide_eq_true_eq]
  by_cases h1 : x / 18446744073709551616 < y / 18446744073709551616
  · rw [if_pos h1, if_pos trivial, if_pos (by omega)]
  · rw [if_neg h1]
    by_cases h2 : x / 18446744073709551616 = y / 18446744073709551616
    · rw [if_pos h2, if_pos h2]
      by_cases h3 : x % 18446744073709551616 < y % 18446744073709551616
      · rw [if_pos h3, if_pos (by omega)]
      · rw [if_neg h3, if_neg (show ¬ x < y by omega)]
        by_cases h4 : x % 18446744073709551616 = y % 18446744073709551616
        · rw [if_pos h4, if_pos (by omega)]
        · rw [if_neg h4, if_neg (by omega)]
    · rw [if_neg h2, if_neg (by decide), if_neg h2, if_neg (by omega), if_neg (by omega)]
theorem top_id {x : Int} (h : x ≤ 9223372036854775807) : top x = x := by unfold top; rw [if_pos (by omega)]
theorem bring2_eq {k : Nat} (hk : 1 ≤ k) (m : Bool) {lo : Int} (l0 : 0 ≤ lo) (l1 : lo < 18446744073709551616) : bagatellelaw01_bring.f k m 0 lo = some (sgn m lo) := by
  obtain ⟨k, rfl⟩ : ∃ m, k = m + 1 := ⟨k - 1, by omega⟩
  unfold bagatellelaw01_bring.f sgn top
  rw [if_pos rfl]
  simp only [bagatellelaw01_bring.j0, decide_eq_true_eq]
  by_cases hl : lo < 9223372036854775808
  · rw [if_pos hl, if_pos hl, w64 (x := lo) (by unfold I64; omega), w64 (x := -lo) (by unfold I64; omega)]; cases m <;> rfl
  · rw [if_neg hl, if_neg hl, w64 (x := -9223372036854775807) (by unfold I64; omega)]; cases m <;> rfl
theorem sum_eq {k : Nat} (hk : 1 ≤ k) {a b : Int} (ha : S63 a) (hb : S63 b) : bagatellelaw01_sum.f k a b = some (Ma.add a b) := by
  unfold bagatellelaw01_sum.f
  have h1 := abs_s ha.i; have h2 := abs_s hb.i
  have ea : Ma.abs a = if a < 0 then -a else a := by unfold Ma.abs; rw [neg_id ha]
  have eb : Ma.abs b = if b < 0 then -b else b := by unfold Ma.abs; rw [neg_id hb]
  rw [size_eq ha.i, Option.bind_some, size_eq hb.i, Option.bind_some, Ma.add_eq ha hb]
  unfold S63 at ha hb
  by_cases c1 : a < 0 <;> by_cases c2 : b < 0 <;> simp only [c1, c2, if_true, if_false] at ea eb <;> rw [ea, eb] <;> simp only [c1, c2, decide_true, decide_false]
  · rw [if_pos (show (true == true) = true from rfl), u64 (by omega) (by omega), bring2_eq hk _ (by omega) (by omega), Option.bind_some, sgn_clamp (by omega), if_pos rfl]; congr 2; omega
  · rw [if_neg (by decide)]
    by_cases c3 : -a ≥ b
    · rw [if_pos c3, u64 (by omega) (by omega), bring2_eq hk _ (by omega) (by omega), Option.bind_some, sgn_clamp (by omega), if_pos rfl]; congr 2; omega
    · rw [if_neg c3, u64 (by omega) (by omega), bring2_eq hk _ (by omega) (by omega), Option.bind_some, sgn_clamp (by omega), if_neg (by decide)]; congr 2; omega
  · rw [if_neg (by decide)]
    by_cases c3 : a ≥ -b
    · rw [if_pos c3, u64 (by omega) (by omega), bring2_eq hk _ (by omega) (by omega), Option.bind_some, sgn_clamp (by omega), if_neg (by decide)]; congr 2; omega
    · rw [if_neg c3, u64 (by omega) (by omega), bring2_eq hk _ (by omega) (by omega), Option.bind_some, sgn_clamp (by omega), if_pos rfl]; congr 2; omega
  · rw [if_pos (show (false == false) = true from rfl), u64 (by omega) (by omega), bring2_eq hk _ (by omega) (by omega), Option.bind_some, sgn_clamp (by omega), if_neg (by decide)]
end Go.Proofs.Ytkafbfkhgkcdnaa.Le
