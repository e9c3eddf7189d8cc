/- OrderRights: an order may be just as the document says. -/
import Derived.Test.YtghhecijpghfhaaYRi
import Derived.Test.YtghhecijpghfhaaYSe
namespace Go.Proofs.Ytghhecijpghfhaa.Y
open Go Go.RowKit Go.Proofs.Ytghhecijpghfhaa.E Go.Proofs.Ytghhecijpghfhaa.Ma Go.Proofs.Ytghhecijpghfhaa.Fw
set_option linter.unusedVariables false
set_option linter.unusedSimpArgs false
set_option maxRecDepth 4000

theorem and_some (c y : Bool) : (bif c then some y else some false) = some (c && y) := by cases c <;> rfl
theorem not_some (c y : Bool) : (bif (!c) then some false else some y) = some (c && y) := by cases c <;> rfl
theorem wf_i {n : Int} (h : (Lit.int .i64 n).wf = true) : I64 n := by
  simp [Lit.wf, IntKind.min, IntKind.max, IntKind.signed, IntKind.bits] at h
  unfold I64
  omega

/-! ### Lists -/
theorem equal_loop (n : Nat) (hn : n ≤ 1000) (g : Nat → P2) (k0 : Nat) : ∀ (d i K : Nat), i + d = n → d < K → slices.Equal_lV_V.l0 k0 K n (fun i => Rii.enc (g i)) n (fun i => Rii.enc (g i)) (n : Int) (i : Int) = some true
  | 0, i, K, h1, h2 => by
    obtain ⟨K, rfl⟩ : ∃ x, K = x + 1 := ⟨K - 1, by omega⟩
    rw [slices.Equal_lV_V.l0_eq]
    simp only [Bool.cond_decide]
    rw [if_neg (by omega)]
  | d + 1, i, K, h1, h2 => by
    obtain ⟨K, rfl⟩ : ∃ x, K = x + 1 := ⟨K - 1, by omega⟩
    have hi : i < n := by omega
    rw [slices.Equal_lV_V.l0_eq]
    simp only [Bool.cond_decide, ix_ok hi, cond_true, Int.toNat_natCast, BEq.rfl, Bool.and_self, Bool.not_true, cond_false, wsucc hi hn]
    rw [if_pos (by omega)]
    exact equal_loop n hn g k0 d (i + 1) K (by omega) (by omega)
theorem equal_self (n : Nat) (hn : n ≤ 1000) (g : Nat → P2) : slices.Equal_lV_V.f ((n, fun i => Rii.enc (g i)), (n, fun i => Rii.enc (g i))) = some true := by
  show slices.Equal_lV_V.g 1000000 _ = _
  rw [slices.Equal_lV_V.eq]
  simp only [bne_self_eq_false, cond_false]
  exact equal_loop n hn g 1000000 n 0 1000000 (by omega) (by omega)
theorem equal_nil (n : Nat) (g h : Nat → P2) : slices.Equal_lV_V.f ((n, fun i => Rii.enc (g i)), (0, fun i => Rii.enc (h i))) = some (decide (n = 0)) := by
  show slices.Equal_lV_V.g 1000000 _ = _
  rw [slices.Equal_lV_V.eq]
  by_cases hn : n = 0
  · subst hn
    simp only [bne_self_eq_false, cond_false]
    have := equal_loop 0 (by omega) g 1000000 0 0 1000000 (by omega) (by omega)
    rw [slices.Equal_lV_V.l0_eq]
    simp only [Bool.cond_decide]
    rw [if_neg (by omega)]
    rfl
  · have : (((n : Nat) : Int) != ((0 : Nat) : Int)) = true := by simp; omega
    rw [this, cond_true, decide_eq_false hn]
theorem sshape_self (sk sr : Int) (n : Nat) (hn : n ≤ 1000) (g : Nat → P2) : shape.Same.f ((sk, sr, (n, fun i => Rii.enc (g i))), (sk, sr, (n, fun i => Rii.enc (g i)))) = some true := by
  rw [shape.Same.eq, equal_self n hn g]
  simp
theorem sshape_nil (sk sr : Int) (n : Nat) (g h : Nat → P2) : shape.Same.f ((sk, sr, (n, fun i => Rii.enc (g i))), (0, 0, (0, fun i => Rii.enc (h i)))) = some (sk == 0 && (sr == 0 && decide (n = 0))) := by
  rw [shape.Same.eq, equal_nil n g h]
  simp only [Option.bind_some, and_some]

/-! ### Bounds -/
theorem abs_le {x m : Int} (h : I64 x) (h0 : 0 ≤ m) (h1 : m < 9223372036854775807) : (Ma.abs x ≤ m) ↔ (-m ≤ x ∧ x ≤ m) := by
  unfold Ma.abs neg wh; unfold I64 at h; repeat' split
  all_goals omega
theorem owithin {x y m : Int} (hx : I64 x) (hy : I64 y) (h0 : 0 ≤ m) (h1 : m < 9223372036854775807) : order.within.f ((x, y), m) = some (decide ((-m ≤ x ∧ x ≤ m) ∧ -m ≤ y ∧ y ≤ m)) := by
  rw [order.within.eq, abs_eq hx, Option.bind_some, abs_eq hy, Option.bind_some, and_some]
  congr 1
  rw [Bool.eq_iff_iff]
  simp only [Bool.and_eq_true, decide_eq_true_eq, abs_le hx h0 h1, abs_le hy h0 h1]
theorem wwithin {x y m : Int} (hx : I64 x) (hy : I64 y) : world.within.f ((x, y), m) = some (decide (Ma.abs x ≤ m) && decide (Ma.abs y ≤ m)) := by
  rw [world.within.eq, abs_eq hx, Option.bind_some, abs_eq hy, Option.bind_some, and_some]
theorem body_some {px py vx vy an sp de sk sr : Int} {n : Nat} {g : Nat → P2} (h1 : I64 px) (h2 : I64 py) (h3 : I64 vx) (h4 : I64 vy) (h5 : I64 sp) (hg : ∀ i, i < n → I2 (g i)) : ∃ v, world.RightBody.f (0, px, py, vx, vy, an, sp, de, sk, sr, (n, fun i => Rii.enc (g i))) = some v := by
  rw [world.RightBody.eq, Right_eq sk sr n g hg, Option.bind_some, wwithin h1 h2, Option.bind_some, wwithin h3 h4, Option.bind_some, abs_eq h5, Option.bind_some]
  generalize decide (RightP sk sr n g) = c1
  generalize (decide (Ma.abs px ≤ 4503599627370496) && decide (Ma.abs py ≤ 4503599627370496)) = c2
  generalize (decide (Ma.abs vx ≤ 17592186044416) && decide (Ma.abs vy ≤ 17592186044416)) = c3
  cases c1 <;> cases c2 <;> cases c3 <;> simp only [Bool.not_true, Bool.not_false, cond_true, cond_false, Bool.cond_decide, Option.some.injEq, exists_eq', exists_eq]
  simp only [Bool.cond_eq_ite]
  repeat' split
  all_goals exact ⟨_, rfl⟩
theorem joint_some {a b px py vx vy le : Int} (h1 : I64 px) (h2 : I64 py) (h3 : I64 vx) (h4 : I64 vy) : ∃ v, world.RightJoint.f (0, a, b, px, py, vx, vy, le) = some v := by
  rw [world.RightJoint.eq, wwithin h1 h2, Option.bind_some, wwithin h3 h4, Option.bind_some]
  simp only [and_some]
  exact ⟨_, rfl⟩
section
variable {kd id a b px py vx vy an sp de le sk sr : Int} {n : Nat} {g : Nat → P2}
theorem body_eq : order.body.f (kd, id, a, b, px, py, vx, vy, an, sp, de, le, sk, sr, (n, fun i => Rii.enc (g i))) = some (0, px, py, vx, vy, an, sp, de, sk, sr, (n, g)) := by
  rw [order.body.eq]
  simp only [dec_tG, dec_tCons, dec_tOne, dec_tI, dec_tTL, decRows_enc Rii_dec, Option.bind_some]
theorem bare_eq : law10.bare.f (kd, id, a, b, px, py, vx, vy, an, sp, de, le, sk, sr, (n, fun i => Rii.enc (g i))) = some ((sk == 0) && ((sr == 0) && (decide (n = 0) && ((de == 0) && (an == 0))))) := by
  rw [law10.bare.eq]
  simp only [and_some]
  have : (((n : Nat) : Int) == 0) = decide (n = 0) := by rw [Bool.eq_iff_iff]; simp
  rw [this]

theorem used1 : order.used.f (1, id, a, b, px, py, vx, vy, an, sp, de, le, sk, sr, (n, fun i => Rii.enc (g i))) = some (1, 0, 0, 0, px, py, vx, vy, an, sp, de, 0, sk, sr, (n, g)) := by
  rw [order.used.eq]
  simp only [show ((1 : Int) == 1) = true from rfl, show ((1 : Int) == 2) = false from rfl, show ((1 : Int) == 3) = false from rfl, show ((1 : Int) == 4) = false from rfl, show ((1 : Int) == 5) = false from rfl, show ((1 : Int) == 6) = false from rfl, cond_true, cond_false, dec_tG, dec_tCons, dec_tOne, dec_tI, dec_tTL, dec_tTL0, decRows_enc Rii_dec, Option.bind_some]
theorem used2 : order.used.f (2, id, a, b, px, py, vx, vy, an, sp, de, le, sk, sr, (n, fun i => Rii.enc (g i))) = some (2, id, 0, 0, 0, 0, 0, 0, 0, 0, 0, 0, 0, 0, (0, fun _ => (0, 0))) := by
  rw [order.used.eq]
  simp only [show ((2 : Int) == 1) = false from rfl, show ((2 : Int) == 2) = true from rfl, show ((2 : Int) == 3) = false from rfl, show ((2 : Int) == 4) = false from rfl, show ((2 : Int) == 5) = false from rfl, show ((2 : Int) == 6) = false from rfl, cond_true, cond_false, dec_tG, dec_tCons, dec_tOne, dec_tI, dec_tTL, dec_tTL0, decRows_enc Rii_dec, Option.bind_some]
theorem used3 : order.used.f (3, id, a, b, px, py, vx, vy, an, sp, de, le, sk, sr, (n, fun i => Rii.enc (g i))) = some (3, 0, a, b, px, py, vx, vy, 0, 0, 0, le, 0, 0, (0, fun _ => (0, 0))) := by
  rw [order.used.eq]
  simp only [show ((3 : Int) == 1) = false from rfl, show ((3 : Int) == 2) = false from rfl, show ((3 : Int) == 3) = true from rfl, show ((3 : Int) == 4) = false from rfl, show ((3 : Int) == 5) = false from rfl, show ((3 : Int) == 6) = false from rfl, cond_true, cond_false, dec_tG, dec_tCons, dec_tOne, dec_tI, dec_tTL, dec_tTL0, decRows_enc Rii_dec, Option.bind_some]
theorem used4 : order.used.f (4, id, a, b, px, py, vx, vy, an, sp, de, le, sk, sr, (n, fun i => Rii.enc (g i))) = some (4, id, 0, 0, 0, 0, 0, 0, 0, 0, 0, 0, 0, 0, (0, fun _ => (0, 0))) := by
  rw [order.used.eq]
  simp only [show ((4 : Int) == 1) = false from rfl, show ((4 : Int) == 2) = false from rfl, show ((4 : Int) == 3) = false from rfl, show ((4 : Int) == 4) = true from rfl, show ((4 : Int) == 5) = false from rfl, show ((4 : Int) == 6) = false from rfl, cond_true, cond_false, dec_tG, dec_tCons, dec_tOne, dec_tI, dec_tTL, dec_tTL0, decRows_enc Rii_dec, Option.bind_some]
theorem used5 : order.used.f (5, id, a, b, px, py, vx, vy, an, sp, de, le, sk, sr, (n, fun i => Rii.enc (g i))) = some (5, id, 0, 0, 0, 0, vx, vy, 0, sp, 0, 0, 0, 0, (0, fun _ => (0, 0))) := by
  rw [order.used.eq]
  simp only [show ((5 : Int) == 1) = false from rfl, show ((5 : Int) == 2) = false from rfl, show ((5 : Int) == 3) = false from rfl, show ((5 : Int) == 4) = false from rfl, show ((5 : Int) == 5) = true from rfl, show ((5 : Int) == 6) = false from rfl, cond_true, cond_false, dec_tG, dec_tCons, dec_tOne, dec_tI, dec_tTL, dec_tTL0, decRows_enc Rii_dec, Option.bind_some]
theorem used6 : order.used.f (6, id, a, b, px, py, vx, vy, an, sp, de, le, sk, sr, (n, fun i => Rii.enc (g i))) = some (6, 0, 0, 0, 0, 0, vx, vy, 0, 0, 0, 0, 0, 0, (0, fun _ => (0, 0))) := by
  rw [order.used.eq]
  simp only [show ((6 : Int) == 1) = false from rfl, show ((6 : Int) == 2) = false from rfl, show ((6 : Int) == 3) = false from rfl, show ((6 : Int) == 4) = false from rfl, show ((6 : Int) == 5) = false from rfl, show ((6 : Int) == 6) = true from rfl, cond_true, cond_false, dec_tG, dec_tCons, dec_tOne, dec_tI, dec_tTL, dec_tTL0, decRows_enc Rii_dec, Option.bind_some]
theorem used0 (h : ∀ j : Int, 1 ≤ j → j ≤ 6 → kd ≠ j) : order.used.f (kd, id, a, b, px, py, vx, vy, an, sp, de, le, sk, sr, (n, fun i => Rii.enc (g i))) = some (kd, 0, 0, 0, 0, 0, 0, 0, 0, 0, 0, 0, 0, 0, (0, fun _ => (0, 0))) := by
  have e1 : (kd == 1) = false := by simpa using h 1 (by omega) (by omega)
  have e2 : (kd == 2) = false := by simpa using h 2 (by omega) (by omega)
  have e3 : (kd == 3) = false := by simpa using h 3 (by omega) (by omega)
  have e4 : (kd == 4) = false := by simpa using h 4 (by omega) (by omega)
  have e5 : (kd == 5) = false := by simpa using h 5 (by omega) (by omega)
  have e6 : (kd == 6) = false := by simpa using h 6 (by omega) (by omega)
  rw [order.used.eq]
  simp only [e1, e2, e3, e4, e5, e6, cond_false, dec_tG, dec_tCons, dec_tOne, dec_tI, dec_tTL, dec_tTL0, decRows_enc Rii_dec, Option.bind_some]
theorem same_self (hn : n ≤ 1000) : order.Same.f ((kd, id, a, b, px, py, vx, vy, an, sp, de, le, sk, sr, (n, fun i => Rii.enc (g i))), (kd, id, a, b, px, py, vx, vy, an, sp, de, le, sk, sr, (n, fun i => Rii.enc (g i)))) = some true := by
  rw [order.Same.eq, sshape_self sk sr n hn g]
  simp
theorem same1 (hn : n ≤ 1000) : order.Same.f ((1, id, a, b, px, py, vx, vy, an, sp, de, le, sk, sr, (n, fun i => Rii.enc (g i))), (1, 0, 0, 0, px, py, vx, vy, an, sp, de, 0, sk, sr, (n, fun i => Rii.enc (g i)))) = some (id == 0 && a == 0 && b == 0 && le == 0) := by
  rw [order.Same.eq, sshape_self sk sr n hn g]
  simp only [Option.bind_some, BEq.rfl, cond_true, Bool.true_and, Bool.and_true, and_some]
  congr 1; rw [Bool.eq_iff_iff]; simp only [Bool.and_eq_true, beq_iff_eq, decide_eq_true_eq]; omega
theorem same2 : order.Same.f ((2, id, a, b, px, py, vx, vy, an, sp, de, le, sk, sr, (n, fun i => Rii.enc (g i))), (2, id, 0, 0, 0, 0, 0, 0, 0, 0, 0, 0, 0, 0, (0, fun i => Rii.enc ((fun _ => ((0 : Int), (0 : Int))) i)))) = some (((sk == 0 && (sr == 0 && decide (n = 0))) && (a == 0 && b == 0 && px == 0 && py == 0 && vx == 0 && vy == 0 && an == 0 && sp == 0 && de == 0 && le == 0))) := by
  rw [order.Same.eq, sshape_nil sk sr n g]
  simp only [Option.bind_some, BEq.rfl, cond_true, Bool.true_and, Bool.and_true, and_some]
  congr 1; rw [Bool.eq_iff_iff]; simp only [Bool.and_eq_true, beq_iff_eq, decide_eq_true_eq]; omega
theorem same3 : order.Same.f ((3, id, a, b, px, py, vx, vy, an, sp, de, le, sk, sr, (n, fun i => Rii.enc (g i))), (3, 0, a, b, px, py, vx, vy, 0, 0, 0, le, 0, 0, (0, fun i => Rii.enc ((fun _ => ((0 : Int), (0 : Int))) i)))) = some (((sk == 0 && (sr == 0 && decide (n = 0))) && (id == 0 && an == 0 && sp == 0 && de == 0))) := by
  rw [order.Same.eq, sshape_nil sk sr n g]
  simp only [Option.bind_some, BEq.rfl, cond_true, Bool.true_and, Bool.and_true, and_some]
  congr 1; rw [Bool.eq_iff_iff]; simp only [Bool.and_eq_true, beq_iff_eq, decide_eq_true_eq]; omega
theorem same4 : order.Same.f ((4, id, a, b, px, py, vx, vy, an, sp, de, le, sk, sr, (n, fun i => Rii.enc (g i))), (4, id, 0, 0, 0, 0, 0, 0, 0, 0, 0, 0, 0, 0, (0, fun i => Rii.enc ((fun _ => ((0 : Int), (0 : Int))) i)))) = some (((sk == 0 && (sr == 0 && decide (n = 0))) && (a == 0 && b == 0 && px == 0 && py == 0 && vx == 0 && vy == 0 && an == 0 && sp == 0 && de == 0 && le == 0))) := by
  rw [order.Same.eq, sshape_nil sk sr n g]
  simp only [Option.bind_some, BEq.rfl, cond_true, Bool.true_and, Bool.and_true, and_some]
  congr 1; rw [Bool.eq_iff_iff]; simp only [Bool.and_eq_true, beq_iff_eq, decide_eq_true_eq]; omega
theorem same5 : order.Same.f ((5, id, a, b, px, py, vx, vy, an, sp, de, le, sk, sr, (n, fun i => Rii.enc (g i))), (5, id, 0, 0, 0, 0, vx, vy, 0, sp, 0, 0, 0, 0, (0, fun i => Rii.enc ((fun _ => ((0 : Int), (0 : Int))) i)))) = some (((sk == 0 && (sr == 0 && decide (n = 0))) && (a == 0 && b == 0 && px == 0 && py == 0 && an == 0 && de == 0 && le == 0))) := by
  rw [order.Same.eq, sshape_nil sk sr n g]
  simp only [Option.bind_some, BEq.rfl, cond_true, Bool.true_and, Bool.and_true, and_some]
  congr 1; rw [Bool.eq_iff_iff]; simp only [Bool.and_eq_true, beq_iff_eq, decide_eq_true_eq]; omega
theorem same6 : order.Same.f ((6, id, a, b, px, py, vx, vy, an, sp, de, le, sk, sr, (n, fun i => Rii.enc (g i))), (6, 0, 0, 0, 0, 0, vx, vy, 0, 0, 0, 0, 0, 0, (0, fun i => Rii.enc ((fun _ => ((0 : Int), (0 : Int))) i)))) = some (((sk == 0 && (sr == 0 && decide (n = 0))) && (id == 0 && a == 0 && b == 0 && px == 0 && py == 0 && an == 0 && sp == 0 && de == 0 && le == 0))) := by
  rw [order.Same.eq, sshape_nil sk sr n g]
  simp only [Option.bind_some, BEq.rfl, cond_true, Bool.true_and, Bool.and_true, and_some]
  congr 1; rw [Bool.eq_iff_iff]; simp only [Bool.and_eq_true, beq_iff_eq, decide_eq_true_eq]; omega
theorem same0 : ∃ v, order.Same.f ((kd, id, a, b, px, py, vx, vy, an, sp, de, le, sk, sr, (n, fun i => Rii.enc (g i))), (kd, 0, 0, 0, 0, 0, 0, 0, 0, 0, 0, 0, 0, 0, (0, fun i => Rii.enc ((fun _ => ((0 : Int), (0 : Int))) i)))) = some v := by
  rw [order.Same.eq, sshape_nil sk sr n g]
  simp only [Option.bind_some, and_some]
  exact ⟨_, rfl⟩
theorem right1 (h1 : I64 px) (h2 : I64 py) (h3 : I64 vx) (h4 : I64 vy) (h5 : I64 sp) (hn : n ≤ 1000) (hg : ∀ i, i < n → I2 (g i)) : ∃ v, order.Right.f (1, id, a, b, px, py, vx, vy, an, sp, de, le, sk, sr, (n, fun i => Rii.enc (g i))) = some v ∧ law10.right.f (1, id, a, b, px, py, vx, vy, an, sp, de, le, sk, sr, (n, fun i => Rii.enc (g i))) = some v := by
  obtain ⟨rb, hb⟩ := body_some (an := an) (de := de) (sk := sk) (sr := sr) h1 h2 h3 h4 h5 hg
  rw [order.Right.eq, used1, Option.bind_some, law10.right.eq]
  simp only [show ((1 : Int) == 1) = true from rfl, show ((1 : Int) == 2) = false from rfl, show ((1 : Int) == 3) = false from rfl, show ((1 : Int) == 4) = false from rfl, show ((1 : Int) == 5) = false from rfl, show ((1 : Int) == 6) = false from rfl, cond_true, cond_false, law10.right.b0_eq, law10.right.b1_eq, law10.right.b2_eq, law10.right.b3_eq, law10.right.b4_eq, law10.right.b5_eq, law10.right.b6_eq, law10.right.b7_eq, law10.right.b8_eq]
  rw [same1 hn, Option.bind_some, body_eq, Option.bind_some]
  have hb' := hb
  simp only [hb, Option.bind_some, not_some, and_some]
  refine ⟨_, rfl, ?_⟩
  congr 1
  rw [Bool.eq_iff_iff]
  simp only [Bool.and_eq_true, beq_iff_eq, decide_eq_true_eq, and_true]
  cases rb <;> simp <;> omega
theorem right2 (h1 : I64 px) (h2 : I64 py) (h3 : I64 vx) (h4 : I64 vy) (h5 : I64 sp) (hn : n ≤ 1000) (hg : ∀ i, i < n → I2 (g i)) : ∃ v, order.Right.f (2, id, a, b, px, py, vx, vy, an, sp, de, le, sk, sr, (n, fun i => Rii.enc (g i))) = some v ∧ law10.right.f (2, id, a, b, px, py, vx, vy, an, sp, de, le, sk, sr, (n, fun i => Rii.enc (g i))) = some v := by
  rw [order.Right.eq, used2, Option.bind_some, law10.right.eq]
  simp only [show ((2 : Int) == 1) = false from rfl, show ((2 : Int) == 2) = true from rfl, show ((2 : Int) == 3) = false from rfl, show ((2 : Int) == 4) = false from rfl, show ((2 : Int) == 5) = false from rfl, show ((2 : Int) == 6) = false from rfl, cond_true, cond_false, law10.right.b0_eq, law10.right.b1_eq, law10.right.b2_eq, law10.right.b3_eq, law10.right.b4_eq, law10.right.b5_eq, law10.right.b6_eq, law10.right.b7_eq, law10.right.b8_eq]
  rw [same2, Option.bind_some, bare_eq, Option.bind_some]
  simp only [Option.bind_some, not_some, and_some]
  refine ⟨_, rfl, ?_⟩
  congr 1
  rw [Bool.eq_iff_iff]
  simp only [Bool.and_eq_true, beq_iff_eq, decide_eq_true_eq, and_true]
  omega
theorem right3 (h1 : I64 px) (h2 : I64 py) (h3 : I64 vx) (h4 : I64 vy) (h5 : I64 sp) (hn : n ≤ 1000) (hg : ∀ i, i < n → I2 (g i)) : ∃ v, order.Right.f (3, id, a, b, px, py, vx, vy, an, sp, de, le, sk, sr, (n, fun i => Rii.enc (g i))) = some v ∧ law10.right.f (3, id, a, b, px, py, vx, vy, an, sp, de, le, sk, sr, (n, fun i => Rii.enc (g i))) = some v := by
  obtain ⟨rj, hj⟩ := joint_some (a := a) (b := b) (le := le) h1 h2 h3 h4
  rw [order.Right.eq, used3, Option.bind_some, law10.right.eq]
  simp only [show ((3 : Int) == 1) = false from rfl, show ((3 : Int) == 2) = false from rfl, show ((3 : Int) == 3) = true from rfl, show ((3 : Int) == 4) = false from rfl, show ((3 : Int) == 5) = false from rfl, show ((3 : Int) == 6) = false from rfl, cond_true, cond_false, law10.right.b0_eq, law10.right.b1_eq, law10.right.b2_eq, law10.right.b3_eq, law10.right.b4_eq, law10.right.b5_eq, law10.right.b6_eq, law10.right.b7_eq, law10.right.b8_eq]
  rw [same3, Option.bind_some, bare_eq, Option.bind_some]
  rw [order.joint.eq, Option.bind_some]
  simp only [hj, Option.bind_some, not_some, and_some]
  refine ⟨_, rfl, ?_⟩
  congr 1
  rw [Bool.eq_iff_iff]
  simp only [Bool.and_eq_true, beq_iff_eq, decide_eq_true_eq, and_true]
  cases rj <;> simp <;> omega
theorem right4 (h1 : I64 px) (h2 : I64 py) (h3 : I64 vx) (h4 : I64 vy) (h5 : I64 sp) (hn : n ≤ 1000) (hg : ∀ i, i < n → I2 (g i)) : ∃ v, order.Right.f (4, id, a, b, px, py, vx, vy, an, sp, de, le, sk, sr, (n, fun i => Rii.enc (g i))) = some v ∧ law10.right.f (4, id, a, b, px, py, vx, vy, an, sp, de, le, sk, sr, (n, fun i => Rii.enc (g i))) = some v := by
  rw [order.Right.eq, used4, Option.bind_some, law10.right.eq]
  simp only [show ((4 : Int) == 1) = false from rfl, show ((4 : Int) == 2) = false from rfl, show ((4 : Int) == 3) = false from rfl, show ((4 : Int) == 4) = true from rfl, show ((4 : Int) == 5) = false from rfl, show ((4 : Int) == 6) = false from rfl, cond_true, cond_false, law10.right.b0_eq, law10.right.b1_eq, law10.right.b2_eq, law10.right.b3_eq, law10.right.b4_eq, law10.right.b5_eq, law10.right.b6_eq, law10.right.b7_eq, law10.right.b8_eq]
  rw [same4, Option.bind_some, bare_eq, Option.bind_some]
  simp only [Option.bind_some, not_some, and_some]
  refine ⟨_, rfl, ?_⟩
  congr 1
  rw [Bool.eq_iff_iff]
  simp only [Bool.and_eq_true, beq_iff_eq, decide_eq_true_eq, and_true]
  omega
theorem right5 (h1 : I64 px) (h2 : I64 py) (h3 : I64 vx) (h4 : I64 vy) (h5 : I64 sp) (hn : n ≤ 1000) (hg : ∀ i, i < n → I2 (g i)) : ∃ v, order.Right.f (5, id, a, b, px, py, vx, vy, an, sp, de, le, sk, sr, (n, fun i => Rii.enc (g i))) = some v ∧ law10.right.f (5, id, a, b, px, py, vx, vy, an, sp, de, le, sk, sr, (n, fun i => Rii.enc (g i))) = some v := by
  rw [order.Right.eq, used5, Option.bind_some, law10.right.eq]
  simp only [show ((5 : Int) == 1) = false from rfl, show ((5 : Int) == 2) = false from rfl, show ((5 : Int) == 3) = false from rfl, show ((5 : Int) == 4) = false from rfl, show ((5 : Int) == 5) = true from rfl, show ((5 : Int) == 6) = false from rfl, cond_true, cond_false, law10.right.b0_eq, law10.right.b1_eq, law10.right.b2_eq, law10.right.b3_eq, law10.right.b4_eq, law10.right.b5_eq, law10.right.b6_eq, law10.right.b7_eq, law10.right.b8_eq]
  rw [same5, Option.bind_some, bare_eq, Option.bind_some]
  rw [owithin h3 h4 (by omega) (by omega), abs_eq h5]
  simp only [Option.bind_some, not_some, and_some]
  refine ⟨_, rfl, ?_⟩
  congr 1
  rw [Bool.eq_iff_iff]
  simp only [Bool.and_eq_true, beq_iff_eq, decide_eq_true_eq, and_true, abs_le h5 (show (0 : Int) ≤ 4611686018427387904 by omega) (by omega)]
  repeat' split
  all_goals omega
theorem right6 (h1 : I64 px) (h2 : I64 py) (h3 : I64 vx) (h4 : I64 vy) (h5 : I64 sp) (hn : n ≤ 1000) (hg : ∀ i, i < n → I2 (g i)) : ∃ v, order.Right.f (6, id, a, b, px, py, vx, vy, an, sp, de, le, sk, sr, (n, fun i => Rii.enc (g i))) = some v ∧ law10.right.f (6, id, a, b, px, py, vx, vy, an, sp, de, le, sk, sr, (n, fun i => Rii.enc (g i))) = some v := by
  rw [order.Right.eq, used6, Option.bind_some, law10.right.eq]
  simp only [show ((6 : Int) == 1) = false from rfl, show ((6 : Int) == 2) = false from rfl, show ((6 : Int) == 3) = false from rfl, show ((6 : Int) == 4) = false from rfl, show ((6 : Int) == 5) = false from rfl, show ((6 : Int) == 6) = true from rfl, cond_true, cond_false, law10.right.b0_eq, law10.right.b1_eq, law10.right.b2_eq, law10.right.b3_eq, law10.right.b4_eq, law10.right.b5_eq, law10.right.b6_eq, law10.right.b7_eq, law10.right.b8_eq]
  rw [same6, Option.bind_some, bare_eq, Option.bind_some]
  rw [owithin h3 h4 (by omega) (by omega)]
  simp only [Option.bind_some, not_some, and_some]
  refine ⟨_, rfl, ?_⟩
  congr 1
  rw [Bool.eq_iff_iff]
  simp only [Bool.and_eq_true, beq_iff_eq, decide_eq_true_eq, and_true]
  repeat' split
  all_goals omega
theorem rights (h1 : I64 px) (h2 : I64 py) (h3 : I64 vx) (h4 : I64 vy) (h5 : I64 sp) (hn : n ≤ 1000) (hg : ∀ i, i < n → I2 (g i)) : ∃ v, order.Right.f (kd, id, a, b, px, py, vx, vy, an, sp, de, le, sk, sr, (n, fun i => Rii.enc (g i))) = some v ∧ law10.right.f (kd, id, a, b, px, py, vx, vy, an, sp, de, le, sk, sr, (n, fun i => Rii.enc (g i))) = some v := by
  by_cases k1 : kd = 1
  · subst k1; exact right1 h1 h2 h3 h4 h5 hn hg
  by_cases k2 : kd = 2
  · subst k2; exact right2 h1 h2 h3 h4 h5 hn hg
  by_cases k3 : kd = 3
  · subst k3; exact right3 h1 h2 h3 h4 h5 hn hg
  by_cases k4 : kd = 4
  · subst k4; exact right4 h1 h2 h3 h4 h5 hn hg
  by_cases k5 : kd = 5
  · subst k5; exact right5 h1 h2 h3 h4 h5 hn hg
  by_cases k6 : kd = 6
  · subst k6; exact right6 h1 h2 h3 h4 h5 hn hg
  have h : ∀ j : Int, 1 ≤ j → j ≤ 6 → kd ≠ j := fun j a b => by omega
  have e1 : (kd == 1) = false := by simpa using k1
  have e2 : (kd == 2) = false := by simpa using k2
  have e3 : (kd == 3) = false := by simpa using k3
  have e4 : (kd == 4) = false := by simpa using k4
  have e5 : (kd == 5) = false := by simpa using k5
  have e6 : (kd == 6) = false := by simpa using k6
  obtain ⟨v, hv⟩ := same0 (kd := kd) (id := id) (a := a) (b := b) (px := px) (py := py) (vx := vx) (vy := vy) (an := an) (sp := sp) (de := de) (le := le) (sk := sk) (sr := sr) (n := n) (g := g)
  rw [order.Right.eq, used0 h, Option.bind_some, law10.right.eq]
  simp only [e1, e2, e3, e4, e5, e6, cond_false]
  rw [hv, Option.bind_some]
  cases v <;> exact ⟨false, rfl, rfl⟩
end
end Go.Proofs.Ytghhecijpghfhaa.Y
