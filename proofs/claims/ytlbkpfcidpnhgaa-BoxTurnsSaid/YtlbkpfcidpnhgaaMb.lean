/- Plain laws of the fixed point numbers: signs, products and quotients as truncated ones, what is monotonic, units. -/
import Derived.Test.YtlbkpfcidpnhgaaMa
namespace Go.Proofs.Ytlbkpfcidpnhgaa.Ma

theorem clamp_mono {x y : Int} (h : x ≤ y) : clamp x ≤ clamp y := by
  unfold clamp; repeat' split
  all_goals omega
theorem clamp_neg (x : Int) : clamp (-x) = -clamp x := by
  unfold clamp; repeat' split
  all_goals omega
theorem wh_mono {a b : Int} (h : a ≤ b) : wh a ≤ wh b := by
  unfold wh; repeat' split
  all_goals omega
theorem clamp_top {q : Int} (h : 0 ≤ q) : clamp q = top q := by
  unfold clamp top; repeat' split
  all_goals omega
theorem sgn_clamp {q : Int} (h : 0 ≤ q) (m : Bool) : sgn m q = clamp (if m = true then -q else q) := by
  unfold sgn; cases m
  · simp only [Bool.false_eq_true, if_false]; exact (clamp_top h).symm
  · simp only [if_true]; rw [clamp_neg, clamp_top h]
theorem sgn_not (m : Bool) (x : Int) : sgn (!m) x = -sgn m x := by unfold sgn; cases m <;> simp
theorem sgn_zero (m : Bool) : sgn m 0 = 0 := by unfold sgn top; cases m <;> simp
theorem abs_sgn {m : Bool} {x : Int} (h : 0 ≤ x) : abs (sgn m x) = top x := by
  have := top_s h
  unfold sgn abs neg wh; repeat' split
  all_goals omega
theorem sgn_lt {m : Bool} {x : Int} (h : 0 ≤ x) (h' : sgn m x ≠ 0) : decide (sgn m x < 0) = m := by
  have := top_s h
  unfold sgn at *; cases m
  · simp only [Bool.false_eq_true, if_false] at *; exact decide_eq_false (by omega)
  · simp only [if_true] at *; exact decide_eq_true (by omega)
theorem wh_abs (a : Int) : wh a = if a < 0 then -abs a else abs a := by
  unfold abs neg wh; repeat' split
  all_goals omega
theorem sg_comm (a b : Int) : sg a b = sg b a := by unfold sg; cases decide (a < 0) <;> cases decide (b < 0) <;> rfl
theorem mul_comm (a b : Int) : mul a b = mul b a := by unfold mul; rw [sg_comm, Int.mul_comm]
/-- A product, as a truncated quotient that is brought. -/
theorem mul_tdiv {a b : Int} (ha : I64 a) (hb : I64 b) : mul a b = clamp (Int.tdiv (wh a * wh b) 4294967296) := by
  have p := Int.mul_nonneg (abs_s ha).1 (abs_s hb).1
  unfold mul; rw [sgn_clamp (nn_mul ha hb), wh_abs a, wh_abs b]; unfold sg
  by_cases h1 : a < 0 <;> by_cases h2 : b < 0 <;> simp only [h1, h2, decide_true, decide_false, if_true, if_false] <;> congr 1
  · rw [Int.neg_mul_neg, Int.tdiv_eq_ediv_of_nonneg p]; rfl
  · rw [Int.neg_mul, Int.neg_tdiv, Int.tdiv_eq_ediv_of_nonneg p]; rfl
  · rw [Int.mul_neg, Int.neg_tdiv, Int.tdiv_eq_ediv_of_nonneg p]; rfl
  · rw [Int.tdiv_eq_ediv_of_nonneg p]; rfl
/-- A quotient, likewise. -/
theorem div_tdiv {a b : Int} (ha : I64 a) (hb0 : b ≠ 0) : div a b = clamp (Int.tdiv (wh a * 4294967296) (wh b)) := by
  have a0 := (abs_s ha).1
  have hb' : abs b ≠ 0 := fun h => hb0 (abs_zero.1 h)
  have b0 : 0 ≤ abs b := by unfold abs neg wh; repeat' split
                            all_goals omega
  have key : div a b = sgn (sg a b) (abs a * 4294967296 / abs b) := by
    unfold div; split
    · rename_i h; rw [h, Int.zero_mul, Int.zero_ediv, sgn_zero]
    · rfl
  have q0 : 0 ≤ abs a * 4294967296 / abs b := Int.ediv_nonneg (by omega) b0
  have p : 0 ≤ abs a * 4294967296 := by omega
  rw [key, sgn_clamp q0, wh_abs a, wh_abs b]; unfold sg
  by_cases h1 : a < 0 <;> by_cases h2 : b < 0 <;> simp only [h1, h2, decide_true, decide_false, if_true, if_false] <;> congr 1
  · rw [Int.neg_mul, Int.neg_tdiv_neg, Int.tdiv_eq_ediv_of_nonneg p]; rfl
  · rw [Int.neg_mul, Int.neg_tdiv, Int.tdiv_eq_ediv_of_nonneg p]; rfl
  · rw [Int.tdiv_neg, Int.tdiv_eq_ediv_of_nonneg p]; rfl
  · rw [Int.tdiv_eq_ediv_of_nonneg p]; rfl
theorem mul_mono {a b d : Int} (ha : I64 a) (hb : I64 b) (hd : I64 d) (d0 : 0 ≤ d) (h : a ≤ b) : mul a d ≤ mul b d := by
  rw [mul_tdiv ha hd, mul_tdiv hb hd]
  refine clamp_mono (Int.tdiv_le_tdiv (by omega) (Int.mul_le_mul_of_nonneg_right (wh_mono h) ?_))
  unfold wh; split <;> omega
theorem div_mono {a b d : Int} (ha : I64 a) (hb : I64 b) (d0 : 0 < d) (h : a ≤ b) : div a d ≤ div b d := by
  rw [div_tdiv ha (by omega), div_tdiv hb (by omega)]
  have := wh_mono h
  refine clamp_mono (Int.tdiv_le_tdiv ?_ (by omega))
  unfold wh; split <;> omega
theorem add_mono {a b c : Int} (h : a ≤ b) : add a c ≤ add b c := by
  have := wh_mono h
  unfold add; exact clamp_mono (by omega)
theorem add_comm (a b : Int) : add a b = add b a := by unfold add; rw [Int.add_comm]
theorem mul_one {a : Int} (h : S63 a) : mul a 4294967296 = a := by
  rw [mul_tdiv h.i (by unfold I64; omega), wh_id h, show wh 4294967296 = 4294967296 from rfl, Int.mul_tdiv_cancel _ (by omega), clamp_id h]
theorem mul_zero (a : Int) : mul a 0 = 0 := by unfold mul; rw [show abs 0 = 0 from rfl, Int.mul_zero, Int.zero_ediv, sgn_zero]
theorem zero_mul (a : Int) : mul 0 a = 0 := by rw [mul_comm, mul_zero]
theorem neg_S {a : Int} (h : S63 a) : S63 (-a) := by unfold S63 at *; omega
theorem neg_mul {a b : Int} (ha : S63 a) (hb : I64 b) : mul (-a) b = -mul a b := by
  rw [mul_tdiv (neg_S ha).i hb, mul_tdiv ha.i hb, wh_id ha, wh_id (neg_S ha), Int.neg_mul, Int.neg_tdiv, clamp_neg]
theorem mul_neg {a b : Int} (ha : I64 a) (hb : S63 b) : mul a (-b) = -mul a b := by rw [mul_comm, neg_mul hb ha, mul_comm]
theorem div_zero_num (b : Int) : div 0 b = 0 := by unfold div; rw [if_pos (show abs 0 = 0 from rfl)]
theorem neg_div {a b : Int} (ha : S63 a) : div (-a) b = -div a b := by
  by_cases hb : b = 0
  · subst hb
    unfold div
    by_cases h0 : a = 0
    · subst h0; rfl
    · have e : abs (-a) = abs a := by
        unfold S63 at ha; unfold abs neg wh; repeat' split
        all_goals omega
      rw [e, if_neg (fun h => h0 (abs_zero.1 h)), if_pos (show abs 0 = 0 from rfl), if_neg (fun h => h0 (abs_zero.1 h)), if_pos (show abs 0 = 0 from rfl), ← sgn_not]
      congr 1
      unfold sg
      by_cases h1 : a < 0
      · simp [h1, show ¬ (0 < a) by omega, show ¬ (0:Int) < 0 by omega]
      · simp [h1, show (0 < a) by omega]
  · rw [div_tdiv (neg_S ha).i hb, div_tdiv ha.i hb, wh_id ha, wh_id (neg_S ha), Int.neg_mul, Int.neg_tdiv, clamp_neg]
theorem div_self {a : Int} (h : S63 a) (h0 : a ≠ 0) : div a a = 4294967296 := by
  rw [div_tdiv h.i h0, wh_id h, Int.mul_comm, Int.mul_tdiv_cancel _ h0]; rfl
theorem div_one {a : Int} (h : S63 a) : div a 4294967296 = a := by
  rw [div_tdiv h.i (by omega), wh_id h, show wh 4294967296 = 4294967296 from rfl, Int.mul_tdiv_cancel _ (by omega), clamp_id h]
theorem add_zero {a : Int} (h : S63 a) : add a 0 = a := by rw [add_eq h (by unfold S63; omega), Int.add_zero, clamp_id h]
theorem sub_self {a : Int} (h : S63 a) : sub a a = 0 := by rw [sub_eq h h, Int.sub_self]; rfl
theorem add_neg {a b : Int} (ha : S63 a) (hb : S63 b) : add (-a) (-b) = -add a b := by
  rw [add_eq (neg_S ha) (neg_S hb), add_eq ha hb, ← clamp_neg]; congr 1; omega
theorem sub_anti {a b : Int} (ha : S63 a) (hb : S63 b) : sub a b = -sub b a := by
  rw [sub_eq ha hb, sub_eq hb ha, ← clamp_neg]; congr 1; omega
end Go.Proofs.Ytlbkpfcidpnhgaa.Ma
