/- MassBoxes: a rectangle's area, a circle's. -/
import Derived.Test.YtneighaelofnhaaYMd
namespace Go.Proofs.Ytneighaelofnhaa.Y
open Go Go.RowKit Go.Proofs.Ytneighaelofnhaa.E Go.Proofs.Ytneighaelofnhaa.Ma Go.Proofs.Ytneighaelofnhaa.Fw
set_option linter.unusedVariables false
set_option linter.unusedSimpArgs false

theorem box_area {k l : Int} (hk : 0 ≤ k ∧ k ≤ 70000) (hl : 0 ≤ l ∧ l ≤ 70000) {g : Nat → P2} (hg : ∀ i, i < 4 → g i = (boxPts (k * 1048576) (l * 1048576)).getD i (0, 0)) : areaV 2 0 4 g = k * l * 1024 := by
  have hs : (1048576 : Int) * 1048576 = 4294967296 * 256 := by decide
  have kl := smallb (A := 70000) (B := 70000) (x := k) (y := l) (by omega) (by omega) (by omega) (by omega) (by omega) (by omega)
  have kn := Int.mul_nonneg hk.1 hl.1
  have lk : l * k = k * l := Int.mul_comm _ _
  have q : ∀ i, i < 4 → g i = sc2 1048576 ((boxPts k l).getD i (0, 0)) := fun i hi => by
    rw [hg i hi]
    have : i = 0 ∨ i = 1 ∨ i = 2 ∨ i = 3 := by omega
    rcases this with rfl | rfl | rfl | rfl <;> simp [boxPts, sc2, Int.neg_mul]
  have inb : ∀ i, i < 4 → InB 70000 ((boxPts k l).getD i (0, 0)) := fun i hi => by
    have : i = 0 ∨ i = 1 ∨ i = 2 ∨ i = 3 := by omega
    rcases this with rfl | rfl | rfl | rfl <;> simp [boxPts, InB] <;> omega
  have kk : ∀ i, i < 4 → kOf ((boxPts k l).getD i (0, 0)) ((boxPts k l).getD ((i + 1) % 4) (0, 0)) = 2 * (k * l) := fun i hi => by
    have : i = 0 ∨ i = 1 ∨ i = 2 ∨ i = 3 := by omega
    rcases this with rfl | rfl | rfl | rfl <;> simp [boxPts, kOf, Int.neg_mul, Int.mul_neg] <;> omega
  have e := sumS_isum (T := areaT) (n := 4) (g := g) (f := fun _ => k * l * 256) (C := 1254400000000) (fun i hi => by
    have hj := Nat.mod_lt (i + 1) (show 0 < 4 by omega)
    rw [q i hi, q _ hj, areaT_lat (B := 70000) hs (by omega) (by omega) (by omega) (by omega) (by omega) (inb i hi) (inb _ hj) (by rw [kk i hi]; omega), kk i hi]
    omega) (fun i hi => by show 0 ≤ k * l * 256 ∧ k * l * 256 ≤ _; omega) (by decide) (by omega) 4 0 (by omega)
  unfold areaV
  rw [if_neg (by decide)]
  have e' : isum (fun _ => k * l * 256) 0 = 0 := rfl
  rw [e'] at e
  rw [e]
  unfold isum isum isum isum isum
  omega
theorem boxes_eq {w h : Int} (hw : 0 ≤ w ∧ w ≤ 65535) (hh : 0 ≤ h ∧ h ≤ 65535) : law05.MassBoxes.f (w, h) = some true := by
  have ea : ∀ x : Int, 0 ≤ x ∧ x ≤ 65535 → IntKind.i64.wrap ((IntKind.i64.wrap ((IntKind.i64.wrap x) * 2 ^ 20)) + 16777216) = (x + 16) * 1048576 := fun x hx => by
    rw [w64 (x := x) (by unfold I64; omega), show (2 : Int) ^ 20 = 1048576 by decide, w64 (x := x * 1048576) (by unfold I64; omega), w64 (by unfold I64; omega)]
    omega
  rw [law05.MassBoxes.eq, fit_eq, Option.bind_some]
  simp only [Bool.not_true, cond_false]
  rw [ea w hw, ea h hh]
  obtain ⟨k, hk⟩ : ∃ k, w + 16 = k := ⟨_, rfl⟩
  obtain ⟨l, hl⟩ : ∃ l, h + 16 = l := ⟨_, rfl⟩
  rw [hk, hl]
  have k0 : 16 ≤ k ∧ k ≤ 65551 := by omega
  have l0 : 16 ≤ l ∧ l ≤ 65551 := by omega
  have sk : S63 (k * 1048576) := by unfold S63; omega
  have sl : S63 (l * 1048576) := by unfold S63; omega
  obtain ⟨g, g1, g2⟩ := Box_eq sk sl
  have hg : ∀ i, i < 4 → I2 (g i) := fun i hi => by rw [g2 i hi]; exact boxPts_i sk sl i hi
  have i0 : I64 0 := by unfold I64; omega
  have kl := smallb (A := 70000) (B := 70000) (x := k) (y := l) (by omega) (by omega) (by omega) (by omega) (by omega) (by omega)
  have kn := Int.mul_nonneg (show 0 ≤ k by omega) (show 0 ≤ l by omega)
  have ks := smallb (A := 70000) (B := 70000) (x := k) (y := k) (by omega) (by omega) (by omega) (by omega) (by omega) (by omega)
  have kp := sq_nn k
  rw [g1, Option.bind_some]
  simp only
  rw [Area_eq i0 (by omega) hg, Option.bind_some, box_area (by omega) (by omega) g2]
  have d2 : ∀ x : Int, 16 ≤ x ∧ x ≤ 65551 → IntKind.i64.wrap (2 * (x * 1048576)) = (2 * x) * 1048576 := fun x hx => by rw [w64 (by unfold I64; omega)]; omega
  have hs : (1048576 : Int) * 1048576 = 4294967296 * 256 := by decide
  have tl : 2 * k * (2 * l) = 4 * (k * l) := by grind
  have tk : 2 * k * (2 * k) = 4 * (k * k) := by grind
  have m1 : mul (2 * k * 1048576) (2 * l * 1048576) = k * l * 1024 := by
    rw [mulx hs (by omega) (2 * k) (2 * l) (by unfold S63; omega) (by unfold S63; omega) (by rw [tl]; unfold S63; omega), tl]; omega
  have m2' : mul (2 * k * 1048576) (2 * k * 1048576) = k * k * 1024 := by
    rw [mulx hs (by omega) (2 * k) (2 * k) (by unfold S63; omega) (by unfold S63; omega) (by rw [tk]; unfold S63; omega), tk]; omega
  have s2k : I64 (2 * k * 1048576) := by unfold I64; omega
  have s2l : I64 (2 * l * 1048576) := by unfold I64; omega
  rw [d2 k k0, d2 l l0, mul_eq s2k s2l, Option.bind_some, m1, Int.sub_self, show IntKind.i64.wrap 0 = 0 by decide, abs_eq i0, Option.bind_some, show decide (Ma.abs 0 > 64) = false by decide, cond_false]
  obtain ⟨S, c1, c2, c3, c4, cA⟩ := circ (m := k) (by omega) (by omega)
  obtain ⟨a1, a2⟩ := cA 0 (fun _ => (0, 0))
  have hz : ∀ i, i < 0 → I2 ((fun _ => (0, 0) : Nat → P2) i) := fun i hi => absurd hi (Nat.not_lt_zero i)
  have A1 : mass.Area.f (1, k * 1048576, (0, fun _ => [])) = some (areaV 1 (k * 1048576) 0 (fun _ => (0, 0))) := by
    rw [area_nil, mul_eq sk.i sk.i, Option.bind_some, mul_eq kPi (mul_s sk.i sk.i).i, Option.bind_some]
    unfold areaV
    rw [if_pos rfl]
  have R1 : mass.Round.f (1, k * 1048576, (0, fun _ => [])) = some (roundV 1 (k * 1048576) 0 (fun _ => (0, 0))) := by
    rw [round_nil, A1, Option.bind_some, mul_eq sk.i sk.i, Option.bind_some, mul_eq (areaV_s sk.i).i (mul_s sk.i sk.i).i, Option.bind_some, of2, Option.bind_some, div_eq (mul_s (areaV_s sk.i).i (mul_s sk.i sk.i).i).i k2, Option.bind_some]
    unfold roundV
    rw [if_pos rfl]
  rw [A1, Option.bind_some, mul_eq s2k s2k, Option.bind_some, m2', R1]
  have aS : I64 (areaV 1 (k * 1048576) 0 (fun _ => (0, 0))) := (areaV_s sk.i).i
  rw [a1] at aS ⊢
  rw [a2, mul_eq sk.i sk.i, c1, Option.bind_some, Option.bind_some, Option.bind_some]
  have pA0 : 0 ≤ 13493037705 * S / 4294967296 := by omega
  have pA1 : 13493037705 * S / 4294967296 ≤ 4 * S := by omega
  have pA2 : 2 * S ≤ 13493037705 * S / 4294967296 := by omega
  have pS : S ≤ 1254400000000 := by omega
  rw [mul_eq aS (show I64 S by unfold I64; omega), Option.bind_some]
  have q4 : k * k * 1024 = 4 * S := by omega
  rw [q4]
  generalize 13493037705 * S / 4294967296 = A at *
  have AS := smallb (A := 5017600000000) (B := 1254400000000) (x := A) (y := S) (by omega) (by omega) (by omega) (by omega) (by omega) (by omega)
  have An := Int.mul_nonneg pA0 c3
  rw [mul_nn pA0 c3 (by omega), w64 (x := 2 * S) (by unfold I64; omega), decide_eq_true (by omega), cond_true, decide_eq_true (by omega), cond_true]
  generalize A * S = z at *
  rw [decide_eq_true (by omega)]
theorem MassBoxes_true (w h : Int) (w0 : (Lit.int .u16 w).wf = true) (w1 : (Lit.int .u16 h).wf = true) : law05.MassBoxes.f (w, h) = some true := by
  simp [Lit.wf, IntKind.min, IntKind.max, IntKind.signed, IntKind.bits] at w0 w1
  exact boxes_eq (by omega) (by omega)
end Go.Proofs.Ytneighaelofnhaa.Y
