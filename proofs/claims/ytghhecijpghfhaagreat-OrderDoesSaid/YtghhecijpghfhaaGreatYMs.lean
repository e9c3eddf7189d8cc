/- Areas, and how much shapes resist to be spun: what the program and the law compute. -/
import Derived.Test.YtghhecijpghfhaaGreatYSe
import Derived.Test.YtghhecijpghfhaaGreatYDv
namespace Go.Proofs.YtghhecijpghfhaaGreat.Y
open Go Go.RowKit Go.Proofs.YtghhecijpghfhaaGreat.E Go.Proofs.YtghhecijpghfhaaGreat.Ma Go.Proofs.YtghhecijpghfhaaGreat.Fw
set_option linter.unusedVariables false
set_option linter.unusedSimpArgs false

theorem of2 : fix.Of.f 2 = some 8589934592 := by kernel_rfl
theorem of4 : fix.Of.f 4 = some 17179869184 := by kernel_rfl
theorem of12 : fix.Of.f 12 = some 51539607552 := by kernel_rfl
def areaT (a b : P2) : Int := div (cross a b) 8589934592
def farOf (a b : P2) : Int := add (add (dot a a) (dot a b)) (dot b b)
def roundT (a b : P2) : Int := div (mul (cross a b) (farOf a b)) 51539607552
/-- The sum over the sides. -/
def sumS (T : P2 → P2 → Int) (n : Nat) (g : Nat → P2) : Nat → Nat → Int → Int
  | 0, _, v => v
  | d + 1, i, v => sumS T n g d (i + 1) (add v (T (g i) (g ((i + 1) % n))))
theorem sumS_congr {T : P2 → P2 → Int} {n : Nat} {g h : Nat → P2} (e : ∀ i, i < n → g i = h i) : ∀ (d i : Nat) (v : Int), i + d = n → sumS T n g d i v = sumS T n h d i v
  | 0, _, _, _ => rfl
  | d + 1, i, v, hd => by
    unfold sumS
    rw [e i (by omega), e ((i + 1) % n) (Nat.mod_lt _ (by omega))]
    exact sumS_congr e d (i + 1) _ (by omega)
theorem cross_s (a b : P2) : S63 (cross a b) := sub_s _ _
theorem dot_s (a b : P2) : S63 (dot a b) := add_s _ _
theorem far_s (a b : P2) : S63 (farOf a b) := add_s _ _
theorem k2 : I64 8589934592 := by unfold I64; omega
theorem k12 : I64 51539607552 := by unfold I64; omega
theorem kPi : I64 13493037705 := by unfold I64; omega
theorem areaT_s (a b : P2) : S63 (areaT a b) := div_s (cross_s a b).i k2
theorem roundT_s {a b : P2} : S63 (roundT a b) := div_s (mul_s (cross_s a b).i (far_s a b).i).i k12
theorem sumS_s {T : P2 → P2 → Int} {n : Nat} {g : Nat → P2} : ∀ (d i : Nat) (v : Int), S63 v → S63 (sumS T n g d i v)
  | 0, _, _, h => h
  | d + 1, i, v, h => sumS_s d (i + 1) _ (add_s _ _)
theorem add0 {a : Int} (h : S63 a) : add 0 a = a := by rw [add_id (by unfold S63; omega) h (by rw [Int.zero_add]; exact h), Int.zero_add]
theorem sum3 {a b c : Int} (ha : S63 a) (hb : S63 b) (hc : S63 c) : fix.Sum.f (3, (fun i => cloL (List.getD (List.map Ri.enc [a, b, c]) i (Ri.enc 0)))) = some (add (add a b) c) := by
  rw [lit_rows Ri_clo 0 [a, b, c]]
  show fix.Sum.g (999996 + 1 + 1 + 1 + 1) _ = _
  have z : I64 0 := by unfold I64; omega
  rw [fix.Sum.eq, fix.Sum.l0_eq]
  simp only [Bool.cond_decide]
  rw [show ((3 : Nat) : Int) = 3 from rfl]
  rw [if_pos (by decide), show ((decide ((0 : Int) ≤ 0)) && (decide ((0 : Int) < 3))) = true from rfl, cond_true, show Int.toNat 0 = 0 from rfl]
  show (fix.Add.f (0, a)).bind _ = _
  rw [add_eq' z ha.i, Option.bind_some, add0 ha, show IntKind.i64.wrap (0 + 1) = 1 by decide, fix.Sum.l0_eq]
  simp only [Bool.cond_decide]
  rw [show ((3 : Nat) : Int) = 3 from rfl]
  rw [if_pos (by decide), show ((decide ((0 : Int) ≤ 1)) && (decide ((1 : Int) < 3))) = true from rfl, cond_true, show Int.toNat 1 = 1 from rfl]
  show (fix.Add.f (a, b)).bind _ = _
  rw [add_eq' ha.i hb.i, Option.bind_some, show IntKind.i64.wrap (1 + 1) = 2 by decide, fix.Sum.l0_eq]
  simp only [Bool.cond_decide]
  rw [show ((3 : Nat) : Int) = 3 from rfl]
  rw [if_pos (by decide), show ((decide ((0 : Int) ≤ 2)) && (decide ((2 : Int) < 3))) = true from rfl, cond_true, show Int.toNat 2 = 2 from rfl]
  show (fix.Add.f (add a b, c)).bind _ = _
  rw [add_eq' (add_s _ _).i hc.i, Option.bind_some, show IntKind.i64.wrap (2 + 1) = 3 by decide, fix.Sum.l0_eq]
  simp only [Bool.cond_decide]
  rw [if_neg (by decide)]

section
variable {kd r : Int} {n : Nat} {g : Nat → P2}
theorem area_rounds (hg : ∀ i, i < n → I2 (g i)) (k0 : Nat) : ∀ (d i : Nat) (v : Int), i + d = n → S63 v → mass.Area.r0 k0 kd r n g d i v = some (sumS areaT n g d i v)
  | 0, i, v, h, hv => by rw [mass.Area.r0_end]; rfl
  | d + 1, i, v, h, hv => by
    have h1 := hg i (by omega)
    have h2 := hg ((i + 1) % n) (Nat.mod_lt _ (by omega))
    rw [mass.Area.r0_eq, cross_eq (a := g i) (b := g ((i + 1) % n)) h1 h2, Option.bind_some, of2, Option.bind_some, div_eq (cross_s _ _).i k2, Option.bind_some, add_eq' hv.i (show I64 (div (cross (g i) (g ((i + 1) % n))) 8589934592) from (areaT_s _ _).i), Option.bind_some]
    exact area_rounds hg k0 d (i + 1) _ (by omega) (add_s _ _)
theorem round_rounds (hg : ∀ i, i < n → I2 (g i)) (k0 : Nat) : ∀ (d i : Nat) (v : Int), i + d = n → S63 v → mass.Round.r0 k0 kd r n g d i v = some (sumS roundT n g d i v)
  | 0, i, v, h, hv => by rw [mass.Round.r0_end]; rfl
  | d + 1, i, v, h, hv => by
    have h1 := hg i (by omega)
    have h2 := hg ((i + 1) % n) (Nat.mod_lt _ (by omega))
    rw [mass.Round.r0_eq, dot_eq (a := g i) (b := g i) h1 h1, Option.bind_some, dot_eq (a := g i) (b := g ((i + 1) % n)) h1 h2, Option.bind_some, dot_eq (a := g ((i + 1) % n)) (b := g ((i + 1) % n)) h2 h2, Option.bind_some, sum3 (dot_s _ _) (dot_s _ _) (dot_s _ _), Option.bind_some, cross_eq (a := g i) (b := g ((i + 1) % n)) h1 h2, Option.bind_some,
      mul_eq (cross_s _ _).i (add_s _ _).i, Option.bind_some, of12, Option.bind_some]
    have e := roundT_s (a := g i) (b := g ((i + 1) % n))
    unfold roundT farOf at e
    rw [div_eq (mul_s (cross_s _ _).i (add_s _ _).i).i k12, Option.bind_some, add_eq' hv.i e.i, Option.bind_some]
    exact round_rounds hg k0 d (i + 1) _ (by omega) (add_s _ _)
def areaV (kd r : Int) (n : Nat) (g : Nat → P2) : Int := if kd = 1 then mul 13493037705 (mul r r) else sumS areaT n g n 0 0
def roundV (kd r : Int) (n : Nat) (g : Nat → P2) : Int := if kd = 1 then div (mul (areaV kd r n g) (mul r r)) 8589934592 else sumS roundT n g n 0 0
theorem S0 : S63 0 := by unfold S63; omega
theorem areaV_s (hr : I64 r) : S63 (areaV kd r n g) := by
  unfold areaV
  split
  · exact mul_s kPi (mul_s hr hr).i
  · exact sumS_s _ _ _ S0
theorem roundV_s (hr : I64 r) : S63 (roundV kd r n g) := by
  unfold roundV
  split
  · exact div_s (mul_s (areaV_s hr).i (mul_s hr hr).i).i k2
  · exact sumS_s _ _ _ S0
theorem Area_eq (hr : I64 r) (hn : n ≤ 1000) (hg : ∀ i, i < n → I2 (g i)) : mass.Area.f (kd, r, (n, fun i => Rii.enc (g i))) = some (areaV kd r n g) := by
  rw [mass.Area.eq]
  unfold areaV
  by_cases h : kd = 1
  · subst h
    rw [if_pos rfl, show ((1 : Int) == 1) = true from rfl, cond_true, mul_eq hr hr, Option.bind_some, mul_eq kPi (mul_s hr hr).i, Option.bind_some]
  · rw [if_neg h, show (kd == 1) = false by simpa using h, cond_false, decide_eq_true (by omega), cond_true]
    exact area_rounds hg 0 n 0 0 (by omega) S0
theorem Round_eq (hr : I64 r) (hn : n ≤ 1000) (hg : ∀ i, i < n → I2 (g i)) : mass.Round.f (kd, r, (n, fun i => Rii.enc (g i))) = some (roundV kd r n g) := by
  rw [mass.Round.eq]
  unfold roundV
  by_cases h : kd = 1
  · subst h
    rw [if_pos rfl, show ((1 : Int) == 1) = true from rfl, cond_true, Area_eq hr hn hg, Option.bind_some, mul_eq hr hr, Option.bind_some, mul_eq (areaV_s hr).i (mul_s hr hr).i, Option.bind_some, of2, Option.bind_some, div_eq (mul_s (areaV_s hr).i (mul_s hr hr).i).i k2, Option.bind_some]
  · rw [if_neg h, show (kd == 1) = false by simpa using h, cond_false, decide_eq_true (by omega), cond_true]
    exact round_rounds hg 0 n 0 0 (by omega) S0
theorem area_nil (x : Int) : mass.Area.f (1, x, (0, fun _ => [])) = (fix.Mul.f (x, x)).bind fun r1 => (fix.Mul.f (13493037705, r1)).bind fun r2 => some r2 := by kernel_rfl
theorem round_nil (x : Int) : mass.Round.f (1, x, (0, fun _ => [])) = (mass.Area.f (1, x, (0, fun _ => []))).bind fun r1 => (fix.Mul.f (x, x)).bind fun r2 => (fix.Mul.f (r1, r2)).bind fun r3 => (fix.Of.f 2).bind fun r4 => (fix.Div.f (r3, r4)).bind fun r5 => some r5 := by kernel_rfl
/-- At least one. -/
def one1 (x : Int) : Int := if 1 > x then 1 else x
theorem one1_s {x : Int} (h : S63 x) : S63 (one1 x) ∧ 1 ≤ one1 x := by unfold one1; unfold S63 at *; split <;> omega
theorem kOne : I64 4294967296 := by unfold I64; omega
def massV (den kd r : Int) (n : Nat) (g : Nat → P2) : Int × Int × Int × Int :=
  (one1 (mul den (areaV kd r n g)), one1 (mul den (roundV kd r n g)), div 4294967296 (one1 (mul den (areaV kd r n g))), div 4294967296 (one1 (mul den (roundV kd r n g))))
theorem Of_eq {den x0 x1 x2 x3 x4 x5 x6 : Int} (hd : I64 den) (h0 : 0 < den) (hr : I64 r) (hn : n ≤ 1000) (hg : ∀ i, i < n → I2 (g i)) :
    mass.Of.f (x0, x1, x2, x3, x4, x5, x6, den, kd, r, (n, fun i => Rii.enc (g i))) = some (massV den kd r n g) := by
  have a1 := mul_s hd (areaV_s (kd := kd) (n := n) (g := g) hr).i
  have a2 := mul_s hd (roundV_s (kd := kd) (n := n) (g := g) hr).i
  rw [mass.Of.eq, decide_eq_false (by omega), cond_false, Area_eq hr hn hg, Option.bind_some, mul_eq hd (areaV_s hr).i, Option.bind_some, Round_eq hr hn hg, Option.bind_some, mul_eq hd (roundV_s hr).i, Option.bind_some]
  show (fix.Div.f (4294967296, one1 _)).bind _ = _
  rw [div_eq kOne (one1_s a1).1.i, Option.bind_some]
  show (fix.Div.f (4294967296, one1 _)).bind _ = _
  rw [div_eq kOne (one1_s a2).1.i, Option.bind_some]
  rfl
theorem Of_none {den x0 x1 x2 x3 x4 x5 x6 : Int} (h0 : den ≤ 0) (G : Nat → P2) : mass.Of.f (x0, x1, x2, x3, x4, x5, x6, den, kd, r, (n, fun i => Rii.enc (G i))) = some (0, 0, 0, 0) := by
  rw [mass.Of.eq, decide_eq_true h0, cond_true]
end

end Go.Proofs.YtghhecijpghfhaaGreat.Y
