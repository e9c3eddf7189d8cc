/- What a push needs: masses, and sums that stay within bounds. -/
import Derived.Test.YtghhecijpghfhaaGreatYMs
import Derived.Test.YtghhecijpghfhaaGreatYWf
namespace Go.Proofs.YtghhecijpghfhaaGreat.Y
open Go Go.RowKit Go.Proofs.YtghhecijpghfhaaGreat.E Go.Proofs.YtghhecijpghfhaaGreat.Ma Go.Proofs.YtghhecijpghfhaaGreat.Fw
set_option linter.unusedVariables false
set_option linter.unusedSimpArgs false
set_option maxRecDepth 10000

theorem bind_none {α β : Type} {x : Option α} {f : α → Option β} (h : x = none) : x.bind f = none := by rw [h]; rfl
section
variable {id px py vx vy an sp de sk sr : Int} {n : Nat} {g : Nat → P2}
/-- What a body that may be has. -/
theorem rightB_facts (hf : FineB (id, px, py, vx, vy, an, sp, de, sk, sr, (n, fun i => Rii.enc (g i)))) (hg : ∀ i, i < n → I2 (g i)) (hr : RightB (id, px, py, vx, vy, an, sp, de, sk, sr, (n, fun i => Rii.enc (g i)))) : RightP sk sr n g ∧ 0 ≤ de ∧ de ≤ 4398046511104 := by
  obtain ⟨h1, h2, h3, h4, h5, _⟩ := hf
  unfold RightB at hr
  rw [world.RightBody.eq, Right_eq sk sr n g hg, Option.bind_some, wwithin h1 h2, Option.bind_some, wwithin h3 h4, Option.bind_some, abs_eq h5, Option.bind_some] at hr
  revert hr
  generalize (decide (Ma.abs px ≤ 4503599627370496) && decide (Ma.abs py ≤ 4503599627370496)) = c2
  generalize (decide (Ma.abs vx ≤ 17592186044416) && decide (Ma.abs vy ≤ 17592186044416)) = c3
  generalize decide (Ma.abs sp > 1099511627776) = c4
  generalize decide (an < 0) = c5
  generalize decide (an ≥ 4294967296) = c6
  by_cases hp : RightP sk sr n g
  · rw [decide_eq_true hp]
    by_cases h7 : de < 0
    · rw [decide_eq_true h7]; cases c2 <;> cases c3 <;> cases c4 <;> cases c5 <;> cases c6 <;> simp
    · by_cases h8 : de > 4398046511104
      · rw [decide_eq_true h8, decide_eq_false h7]; cases c2 <;> cases c3 <;> cases c4 <;> cases c5 <;> cases c6 <;> simp
      · intro _; exact ⟨hp, by omega, by omega⟩
  · rw [decide_eq_false hp]; simp
theorem mass_ok (hf : FineB (id, px, py, vx, vy, an, sp, de, sk, sr, (n, fun i => Rii.enc (g i)))) (hr : RightB (id, px, py, vx, vy, an, sp, de, sk, sr, (n, fun i => Rii.enc (g i)))) (hd : 0 < de) (hn : n ≤ 1000) (hg : ∀ i, i < n → I2 (g i)) :
    ∃ m : Int × Int × Int × Int, mass.Of.f (id, px, py, vx, vy, an, sp, de, sk, sr, (n, fun i => Rii.enc (g i))) = some m ∧ I64 m.2.2.1 ∧ I64 m.2.2.2 := by
  obtain ⟨hp, d0, d1⟩ := rightB_facts hf hg hr
  have hI : I64 de := by unfold I64; omega
  have hs : I64 sr := by
    unfold RightP at hp
    unfold I64
    split at hp <;> omega
  refine ⟨_, Of_eq hI hd hs hn hg, ?_, ?_⟩
  · have a1 := mul_s hI (areaV_s (kd := sk) (n := n) (g := g) hs).i
    exact (div_s kOne (one1_s a1).1.i).i
  · have a2 := mul_s hI (roundV_s (kd := sk) (n := n) (g := g) hs).i
    exact (div_s kOne (one1_s a2).1.i).i
end
theorem mul_ok {a b : Int} (ha : I64 a) (hb : I64 b) : ∃ y, fix.Mul.f (a, b) = some y ∧ I64 y := ⟨_, mul_eq ha hb, (mul_s ha hb).i⟩
theorem fadd_ok {a b : Int} (ha : I64 a) (hb : I64 b) : ∃ y, fix.Add.f (a, b) = some y ∧ I64 y := ⟨_, add_eq' ha hb, (add_s _ _).i⟩
theorem scale_ok {x y m : Int} (hx : I64 x) (hy : I64 y) (hm : I64 m) : ∃ r : Int × Int, vec.Scale.f ((x, y), m) = some r ∧ I64 r.1 ∧ I64 r.2 := by
  obtain ⟨a, a1, a2⟩ := mul_ok hx hm
  obtain ⟨b, b1, b2⟩ := mul_ok hy hm
  rw [vec.Scale.eq, a1, Option.bind_some, b1, Option.bind_some]
  exact ⟨(a, b), rfl, a2, b2⟩
theorem vadd_ok {x y : Int} {s : Int × Int} (hx : I64 x) (hy : I64 y) (h1 : I64 s.1) (h2 : I64 s.2) : ∃ r : Int × Int, vec.Add.f ((x, y), (s.1, s.2)) = some r ∧ I64 r.1 ∧ I64 r.2 := by
  obtain ⟨a, a1, a2⟩ := fadd_ok hx h1
  obtain ⟨b, b1, b2⟩ := fadd_ok hy h2
  rw [vec.Add.eq, a1, Option.bind_some, b1, Option.bind_some]
  exact ⟨(a, b), rfl, a2, b2⟩
end Go.Proofs.YtghhecijpghfhaaGreat.Y
