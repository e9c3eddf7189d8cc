/- MassTurned: from another corner on; twice as great. -/
import Derived.Test.YtneighaelofnhaaYMd
import Derived.Test.YtneighaelofnhaaYRi
namespace Go.Proofs.Ytneighaelofnhaa.Y
open Go Go.RowKit Go.Proofs.Ytneighaelofnhaa.E Go.Proofs.Ytneighaelofnhaa.Ma Go.Proofs.Ytneighaelofnhaa.Fw
set_option linter.unusedVariables false
set_option linter.unusedSimpArgs false

theorem copy_eq (kd r : Int) (n : Nat) (hn : n ≤ 1000) (g : Nat → P2) : shape.Copy.f (kd, r, (n, fun i => Rii.enc (g i))) = some ((kd, r), (n, g)) := by
  show shape.Copy.g 0 _ = _
  rw [shape.Copy.eq]
  simp only [Bool.cond_decide]
  rw [if_pos (by omega)]
  have e : (fun i => cloL (if i < 0 then (fun _ => Rii.enc (0, 0)) i else (fun i => Rii.enc (g i)) (i - 0))) = fun i => Rii.enc (g i) := by
    funext i
    rw [if_neg (by omega)]
    exact Rii_clo _
  rw [e]
  exact own_dec (T := OwnT.mk (tCons (tI .i64) (tOne (tI .i64))) Rii 34 2 (0, 0)) rfl rfl Rii_dec n g
theorem mul2 {x : Int} (h : -1000000000000000000 ≤ x) (h' : x ≤ 1000000000000000000) : mul x 8589934592 = 2 * x := by
  have hs : S63 x := by unfold S63; omega
  have h2 : Ma.abs 8589934592 = 8589934592 := abs_nn (by omega)
  unfold mul
  rw [h2]
  by_cases h0 : x < 0
  · rw [abs_ng hs (by omega), show -x * 8589934592 / 4294967296 = -(2 * x) by omega]
    unfold sgn sg top
    rw [decide_eq_true h0, decide_eq_false (by omega), if_pos (show -(2 * x) < 9223372036854775808 by omega)]
    simp
  · rw [abs_nn (by omega), show x * 8589934592 / 4294967296 = 2 * x by omega]
    unfold sgn sg top
    rw [decide_eq_false h0, decide_eq_false (by omega), if_pos (show 2 * x < 9223372036854775808 by omega)]
    simp
def dbl (p : P2) : P2 := (2 * p.1, 2 * p.2)
theorem scale_eq {p : P2} (hp : Near p) : vec.Scale.f ((p.1, p.2), 8589934592) = some (dbl p) := by
  unfold Near at hp
  rw [vec.Scale.eq, mul_eq (by unfold I64; omega) k2, Option.bind_some, mul_eq (by unfold I64; omega) k2, Option.bind_some, mul2 (by omega) (by omega), mul2 (by omega) (by omega)]
  rfl
section
variable {kd r : Int} {n : Nat} {s : Nat → P2} {t : Nat}
/-- What is asked of a shape: its corners may stand in another order, and it may be twice as great. -/
structure TurnOk (kd r : Int) (n : Nat) (s : Nat → P2) (t : Nat) : Prop where
  le : n ≤ 8
  rb : 0 ≤ r ∧ r ≤ 17179869184
  near : ∀ i, i < n → Near (s i)
  pos : 0 ≤ areaV kd r n s ∧ 0 ≤ roundV kd r n s
  rot : ∀ O : Nat → P2, (∀ j, j < n → O j = s ((j + t) % n)) → areaV kd r n O = areaV kd r n s ∧ roundV kd r n O = roundV kd r n s
  two : ∀ O : Nat → P2, (∀ j, j < n → O j = dbl (s ((j + t) % n))) → areaV kd r n s ≤ areaV kd (2 * r) n O ∧ roundV kd r n s ≤ roundV kd (2 * r) n O

theorem turned1 (T : TurnOk kd r n s t) (k0 : Nat) (x1 x2 x3 x4 : Int) (O0 : Nat → P2) (h0 : ∀ j, j < n → O0 j = s ((j + t) % n)) : ∀ (d i K : Nat) (O : Nat → P2), i + d = n → d < K → (∀ j, j < i → O j = dbl (s ((j + t) % n))) → (∀ j, i ≤ j → j < n → O j = s ((j + t) % n)) → ∀ x12 : Int,
    law05.MassTurned.l1 k0 K x1 x2 x3 x4 kd r n (fun i => Rii.enc (s i)) n (fun i => Rii.enc (O i)) kd x12 (n : Int) (i : Int) = some true
  | 0, i, K, O, h, hK, hO, hP, x12 => by
    obtain ⟨K, rfl⟩ : ∃ m, K = m + 1 := ⟨K - 1, by omega⟩
    have : i = n := by omega
    subst this
    have tn := T.le
    have tr := T.rb
    have hr : I64 r := by unfold I64; omega
    have hr2 : I64 (2 * r) := by unfold I64; omega
    have gi : ∀ j, j < i → I2 (s j) := fun j hj => (T.near j hj).i
    have oi : ∀ j, j < i → I2 (O j) := fun j hj => by
      have := T.near _ (Nat.mod_lt (j + t) (show 0 < i by omega))
      rw [hO j hj]; unfold Near at this; unfold I2 I64 dbl; simp only; omega
    rw [law05.MassTurned.l1_eq]
    simp only [Bool.cond_decide]
    rw [if_neg (by omega), w64 hr2, Right_eq kd (2 * r) i O oi, Option.bind_some]
    by_cases hR : RightP kd (2 * r) i O
    · rw [decide_eq_true hR]
      obtain ⟨t1, t2⟩ := T.two O hO
      simp only [Bool.not_true, cond_false]
      rw [Area_eq hr2 (by omega) oi, Option.bind_some, Area_eq hr (by omega) gi, Option.bind_some, if_pos (by omega), Round_eq hr2 (by omega) oi, Option.bind_some, Round_eq hr (by omega) gi, Option.bind_some, decide_eq_true t2]
    · rw [decide_eq_false hR]
      rfl
  | d + 1, i, K, O, h, hK, hO, hP, x12 => by
    obtain ⟨K, rfl⟩ : ∃ m, K = m + 1 := ⟨K - 1, by omega⟩
    have tn := T.le
    have hi : i < n := by omega
    have nr := T.near _ (Nat.mod_lt (i + t) (show 0 < n by omega))
    rw [law05.MassTurned.l1_eq]
    simp only [Bool.cond_decide, ix_ok hi, cond_true, Int.toNat_natCast, wsucc hi (show n ≤ 1000 by omega)]
    rw [if_pos (by omega), hP i (by omega) hi, scale_eq nr, Option.bind_some]
    simp only [row_upd_ren Rii_ren]
    refine turned1 T k0 x1 x2 x3 x4 O0 h0 d (i + 1) K _ (by omega) (by omega) (fun j hj => ?_) (fun j hj hjn => ?_) x12
    · unfold upd1
      split
      · rename_i e; rw [e]
      · exact hO j (by omega)
    · unfold upd1
      rw [if_neg (by omega)]
      exact hP j (by omega) hjn
theorem turn_ix {i n : Nat} (p : Int) (hi : i < n) (hn : n ≤ 1000) : Int.tmod (IntKind.i64.wrap ((i : Int) + (Go.bits .and .i64 p 255))) (n : Int) = (((i + (p % 256).toNat) % n : Nat) : Int) := by
  rw [m8, w64 (by unfold I64; omega), Int.tmod_eq_emod_of_nonneg (by omega), Int.natCast_emod]
  congr 1
  omega
theorem turned0 (p : Int) (T : TurnOk kd r n s (p % 256).toNat) (x1 x2 x3 x4 : Int) : ∀ (d i K : Nat) (O : Nat → P2), i + d = n → d < K → (∀ j, j < i → O j = s ((j + (p % 256).toNat) % n)) →
    law05.MassTurned.l0 1000000 K x1 x2 x3 x4 kd r n (fun i => Rii.enc (s i)) n (fun i => Rii.enc (O i)) kd r p (n : Int) (i : Int) = some true
  | 0, i, K, O, h, hK, hO => by
    obtain ⟨K, rfl⟩ : ∃ m, K = m + 1 := ⟨K - 1, by omega⟩
    have : i = n := by omega
    subst this
    have tn := T.le
    have tr := T.rb
    have hr : I64 r := by unfold I64; omega
    have gi : ∀ j, j < i → I2 (s j) := fun j hj => (T.near j hj).i
    have oi : ∀ j, j < i → I2 (O j) := fun j hj => by rw [hO j hj]; exact gi _ (Nat.mod_lt _ (by omega))
    obtain ⟨r1, r2⟩ := T.rot O hO
    obtain ⟨p1, p2⟩ := T.pos
    have i0 : I64 0 := by unfold I64; omega
    rw [law05.MassTurned.l0_eq]
    simp only [Bool.cond_decide]
    rw [if_neg (by omega), Area_eq hr (by omega) gi, Option.bind_some, Area_eq hr (by omega) oi, Option.bind_some, r1, Int.sub_self, show IntKind.i64.wrap 0 = 0 by decide, abs_eq i0, Option.bind_some, if_neg (by decide),
      Round_eq hr (by omega) gi, Option.bind_some, Round_eq hr (by omega) oi, Option.bind_some, r2, Int.sub_self, show IntKind.i64.wrap 0 = 0 by decide, abs_eq i0, Option.bind_some, if_neg (by decide)]
    rw [Option.bind_some, if_neg (by omega), Option.bind_some, if_neg (by omega)]
    exact turned1 T 1000000 x1 x2 x3 x4 O hO i 0 1000000 O (by omega) (by omega) (fun j hj => absurd hj (by omega)) (fun j _ hj => hO j hj) r
  | d + 1, i, K, O, h, hK, hO => by
    obtain ⟨K, rfl⟩ : ∃ m, K = m + 1 := ⟨K - 1, by omega⟩
    have tn := T.le
    have hi : i < n := by omega
    have hm : (i + (p % 256).toNat) % n < n := Nat.mod_lt _ (by omega)
    rw [law05.MassTurned.l0_eq]
    simp only [turn_ix p hi (show n ≤ 1000 by omega)]
    simp only [Bool.cond_decide, ix_ok hi, ix_ok hm, cond_true, Int.toNat_natCast, row_upd_ren Rii_ren, wsucc hi (show n ≤ 1000 by omega)]
    rw [if_pos (by omega), if_pos (show (n : Int) ≠ 0 by omega)]
    refine turned0 p T x1 x2 x3 x4 d (i + 1) K _ (by omega) (by omega) fun j hj => ?_
    unfold upd1
    split
    · rename_i e; rw [e]
    · exact hO j (by omega)
end
theorem rT_two {p q p' q' : P2} (hk : kOf p' q' = 4 * kOf p q) (hf : fOf p' q' = 4 * fOf p q) (h0 : 0 ≤ kOf p q) : rT p q ≤ rT p' q' := by
  unfold rT
  rw [hk, hf]
  have n := Int.mul_nonneg (show 0 ≤ kOf p q * 4096 by omega) (show 0 ≤ fOf p q * 4096 by have := fOf_nn p q; omega)
  have e : 4 * kOf p q * 4096 * (4 * fOf p q * 4096) = 16 * (kOf p q * 4096 * (fOf p q * 4096)) := by grind
  rw [e]
  omega
theorem seed_turn (a b c d : Int) {s : Nat → P2} (hs : ∀ i, i < seedN a b → s i = seedPt a b c d i) (t : Nat) : TurnOk (seedKd a) (seedR a c) (seedN a b) s t := by
  have near : ∀ i, i < seedN a b → Near (s i) := fun i hi => by rw [hs i hi]; exact seed_near a b c d i hi
  obtain ⟨A0, A1, R0, R1⟩ := seed_ar a b c d hs
  have hr : 0 ≤ seedR a c ∧ seedR a c ≤ 17179869184 := by unfold seedR; split <;> omega
  by_cases h0 : a % 4 = 0
  · have e1 : seedKd a = 1 := by unfold seedKd; rw [if_pos h0]
    have e2 : seedR a c = (1 + c % 64) * 256 * 1048576 := by unfold seedR; rw [if_pos h0]; omega
    have e3 : seedN a b = 0 := by unfold seedN; rw [if_pos h0]
    refine ⟨by omega, hr, near, ⟨A0, R0⟩, fun O _ => ?_, fun O _ => ?_⟩
    · rw [e1]; unfold areaV roundV areaV; exact ⟨rfl, rfl⟩
    · rw [e1, e2]
      obtain ⟨S, _, s1, s2, s3, hA⟩ := circ (m := (1 + c % 64) * 256) (by omega) (by omega)
      obtain ⟨S', _, s1', s2', s3', hA'⟩ := circ (m := 2 * ((1 + c % 64) * 256)) (by omega) (by omega)
      rw [show 2 * ((1 + c % 64) * 256 * 1048576) = 2 * ((1 + c % 64) * 256) * 1048576 by omega, (hA _ _).1, (hA _ _).2, (hA' _ _).1, (hA' _ _).2]
      have e4 : S' = 4 * S := by rw [s1, s1']; grind
      subst e4
      have A0 : 0 ≤ 13493037705 * S / 4294967296 := by omega
      have AA : 13493037705 * S / 4294967296 ≤ 13493037705 * (4 * S) / 4294967296 := by omega
      refine ⟨AA, ?_⟩
      generalize 13493037705 * S / 4294967296 = A at *
      generalize 13493037705 * (4 * S) / 4294967296 = B at *
      have m1 : A * S ≤ B * (4 * S) := Int.mul_le_mul AA (by omega) s2 (by omega)
      generalize A * S = x at *
      generalize B * (4 * S) = y at *
      omega
  · have e1 : seedKd a ≠ 1 := by unfold seedKd; rw [if_neg h0]; omega
    obtain ⟨q, q1, q2, q3, q4⟩ := seed_lat (b := b) (c := c) (d := d) h0
    have L : Lat (seedN a b) q := ⟨q4, fun i hi => by have := q2 i hi; unfold InB at this ⊢; omega, q3⟩
    have next : ∀ i, ((i + 1) % seedN a b + t) % seedN a b = ((i + t) % seedN a b + 1) % seedN a b := fun i => by rw [Nat.mod_add_mod, Nat.mod_add_mod]; congr 1; omega
    have lt : ∀ i, i < seedN a b → (i + t) % seedN a b < seedN a b := fun i hi => Nat.mod_lt _ (by omega)
    have LR : Lat (seedN a b) (fun i => q ((i + t) % seedN a b)) := ⟨q4, fun i hi => L.b _ (lt i hi), fun i hi => by rw [next]; exact q3 _ (lt i hi)⟩
    have LD : Lat (seedN a b) (fun i => dbl (q ((i + t) % seedN a b))) := ⟨q4, fun i hi => by have := q2 _ (lt i hi); unfold InB at this; unfold InB dbl; simp only; omega, fun i hi => by
      rw [next]
      have := q3 _ (lt i hi)
      have e : ∀ x y : P2, kOf (dbl x) (dbl y) = 4 * kOf x y := fun x y => by unfold kOf dbl; grind
      rw [e]; omega⟩
    have gq : ∀ i, i < seedN a b → s i = sc2 4194304 (q i) := fun i hi => by rw [hs i hi, q1 i hi]
    obtain ⟨l1, l2, l3⟩ := L.area (r := seedR a c) e1 gq
    obtain ⟨r1, r2, r3⟩ := L.round (r := seedR a c) e1 gq
    have ra : aS (seedN a b) (fun i => q ((i + t) % seedN a b)) = aS (seedN a b) q := by
      unfold aS
      rw [← isum_rot (seedN a b) t (fun i => kOf (q i) (q ((i + 1) % seedN a b)) * 4096 / 2)]
      exact isum_congr _ fun i hi => by show kOf (q ((i + t) % seedN a b)) (q (((i + 1) % seedN a b + t) % seedN a b)) * 4096 / 2 = _; rw [next]
    have rr : rS (seedN a b) (fun i => q ((i + t) % seedN a b)) = rS (seedN a b) q := by
      unfold rS
      rw [← isum_rot (seedN a b) t (fun i => rT (q i) (q ((i + 1) % seedN a b)))]
      exact isum_congr _ fun i hi => by show rT (q ((i + t) % seedN a b)) (q (((i + 1) % seedN a b + t) % seedN a b)) = _; rw [next]
    have dk : ∀ x y : P2, kOf (dbl x) (dbl y) = 4 * kOf x y := fun x y => by unfold kOf dbl; grind
    have df : ∀ x y : P2, fOf (dbl x) (dbl y) = 4 * fOf x y := fun x y => by unfold fOf dOf dbl; grind
    have da : aS (seedN a b) q ≤ aS (seedN a b) (fun i => dbl (q ((i + t) % seedN a b))) := by
      rw [← ra]
      unfold aS
      refine isum_le _ fun i hi => ?_
      have : 0 ≤ kOf (q ((i + t) % seedN a b)) (q (((i + 1) % seedN a b + t) % seedN a b)) := LR.k i hi
      show kOf (q ((i + t) % seedN a b)) (q (((i + 1) % seedN a b + t) % seedN a b)) * 4096 / 2 ≤ kOf (dbl (q ((i + t) % seedN a b))) (dbl (q (((i + 1) % seedN a b + t) % seedN a b))) * 4096 / 2
      rw [dk]
      omega
    have dr : rS (seedN a b) q ≤ rS (seedN a b) (fun i => dbl (q ((i + t) % seedN a b))) := by
      rw [← rr]
      unfold rS
      exact isum_le _ fun i hi => rT_two (dk _ _) (df _ _) (LR.k i hi)
    refine ⟨q4, hr, near, ⟨A0, R0⟩, fun O hO => ?_, fun O hO => ?_⟩
    · have go : ∀ i, i < seedN a b → O i = sc2 4194304 (q ((i + t) % seedN a b)) := fun i hi => by rw [hO i hi, gq _ (lt i hi)]
      rw [l1, r1, (LR.area e1 go).1, (LR.round e1 go).1, ra, rr]
      exact ⟨rfl, rfl⟩
    · have go : ∀ i, i < seedN a b → O i = sc2 4194304 (dbl (q ((i + t) % seedN a b))) := fun i hi => by
        rw [hO i hi, gq _ (lt i hi)]
        unfold dbl sc2
        simp only [Int.mul_assoc]
      rw [l1, r1, (LD.area e1 go).1, (LD.round e1 go).1]
      exact ⟨da, dr⟩
theorem mturned_eq (a b c d p : Int) : law05.MassTurned.f ((a, b, c, d), p) = some true := by
  obtain ⟨s, s1, s2⟩ := Seed_eq a b c d
  have T := seed_turn a b c d s2 (p % 256).toNat
  have hn := T.le
  show law05.MassTurned.g 1000000 _ = _
  rw [law05.MassTurned.eq, fit_eq, Option.bind_some]
  simp only [Bool.not_true, cond_false]
  rw [s1, Option.bind_some]
  simp only
  rw [copy_eq _ _ _ (by omega) s, Option.bind_some]
  exact turned0 p T a b c d (seedN a b) 0 1000000 s (by omega) (by omega) fun j hj => absurd hj (by omega)
theorem MassTurned_true (a b c d p : Int) (w0 : (Lit.int .i64 a).wf = true) (w1 : (Lit.int .i64 b).wf = true) (w2 : (Lit.int .i64 c).wf = true) (w3 : (Lit.int .i64 d).wf = true) (w4 : (Lit.int .i64 p).wf = true) : law05.MassTurned.f ((a, b, c, d), p) = some true := mturned_eq a b c d p
end Go.Proofs.Ytneighaelofnhaa.Y
