/- The shape that a seed makes. -/
import Derived.Test.YtbcnifnmccaleaaYBa
namespace Go.Proofs.Ytbcnifnmccaleaa.Y
open Go Go.RowKit Go.Proofs.Ytbcnifnmccaleaa.E Go.Proofs.Ytbcnifnmccaleaa.Ma Go.Proofs.Ytbcnifnmccaleaa.Fw
set_option linter.unusedVariables false
set_option linter.unusedSimpArgs false

theorem mask {m : Nat} (hm : m ≤ 62) (x : Int) : Go.bits .and .i64 x (((2 ^ m - 1 : Nat) : Int)) = x % ((2 ^ m : Nat) : Int) := by
  have hp : 2 ^ m ≤ 2 ^ 62 := Nat.pow_le_pow_right (by omega) hm
  have hpos : 0 < 2 ^ m := Nat.two_pow_pos m
  have e62 : (2 : Nat) ^ 62 = 4611686018427387904 := by decide
  have e64 : ((2 ^ IntKind.bits .i64 : Nat) : Int) = 18446744073709551616 := by decide
  unfold Go.bits
  simp only [BitVec.toNat_and, BitVec.ofInt_natCast, BitVec.toNat_ofNat]
  have hy : (2 ^ m - 1) % 2 ^ IntKind.bits .i64 = 2 ^ m - 1 := Nat.mod_eq_of_lt (by rw [show IntKind.bits .i64 = 64 from rfl]; omega)
  rw [hy, Nat.and_two_pow_sub_one_eq_mod, IntKind.wrap_i64]
  have hx : (((BitVec.ofInt (IntKind.bits .i64) x).toNat : Nat) : Int) = x % 18446744073709551616 := by
    rw [BitVec.toNat_ofInt, e64]; omega
  have hd : ((2 ^ m : Nat) : Int) ∣ 18446744073709551616 := by
    have : (2 : Nat) ^ m ∣ 2 ^ 64 := Nat.pow_dvd_pow 2 (by omega)
    exact Int.ofNat_dvd.2 this
  rw [Int.natCast_emod, hx, Int.emod_emod_of_dvd _ hd]
  have h0 := Int.emod_nonneg x (by omega : ((2 ^ m : Nat) : Int) ≠ 0)
  have h1 := Int.emod_lt_of_pos x (by omega : (0 : Int) < ((2 ^ m : Nat) : Int))
  omega
theorem m32 (x : Int) : Go.bits .and .i64 x 4294967295 = x % 4294967296 := mask (m := 32) (by omega) x
theorem m2 (x : Int) : Go.bits .and .i64 x 3 = x % 4 := mask (m := 2) (by omega) x
theorem m6 (x : Int) : Go.bits .and .i64 x 63 = x % 64 := mask (m := 6) (by omega) x
theorem m5 (x : Int) : Go.bits .and .i64 x 31 = x % 32 := mask (m := 5) (by omega) x
theorem m8 (x : Int) : Go.bits .and .i64 x 255 = x % 256 := mask (m := 8) (by omega) x
theorem tdiv16 {x : Int} (h0 : 0 ≤ x) : Int.tdiv (x * 4294967296) 16 = x * 268435456 := by rw [Int.tdiv_eq_ediv_of_nonneg (by omega)]; omega

def ring10 : List P2 := [(65, 0), (52, 39), (25, 60), (-25, 60), (-52, 39), (-65, 0), (-52, -39), (-25, -60), (25, -60), (52, -39)]
def pick (m tt : Nat) (i : Nat) : P2 := ring10.getD ((i * 10 / m + tt) % 10) (0, 0)
def boxPts (w h : Int) : List P2 := [(-w, -h), (w, -h), (w, h), (-w, h)]
def seedKd (a : Int) : Int := if a % 4 = 0 then 1 else 2
def seedR (a c : Int) : Int := if a % 4 = 0 then (1 + c % 64) * 268435456 else 0
def seedN (a b : Int) : Nat := if a % 4 = 0 then 0 else if a % 4 = 1 then 4 else (3 + b % 256 % 6).toNat
def seedPt (a b c d : Int) (i : Nat) : P2 :=
  if a % 4 = 1 then (boxPts ((1 + c % 64) * 268435456) ((1 + d % 32) * 268435456)).getD i (0, 0)
  else ((pick (3 + b % 256 % 6).toNat (d % 256 % 10).toNat i).1 * ((1 + c % 64) * 4194304), (pick (3 + b % 256 % 6).toNat (d % 256 % 10).toNat i).2 * ((1 + c % 64) * 4194304))
theorem pick_b (m tt i : Nat) : -65 ≤ (pick m tt i).1 ∧ (pick m tt i).1 ≤ 65 ∧ -65 ≤ (pick m tt i).2 ∧ (pick m tt i).2 ≤ 65 := by
  have h : ∀ j : Fin 10, -65 ≤ (ring10.getD j.val (0, 0)).1 ∧ (ring10.getD j.val (0, 0)).1 ≤ 65 ∧ -65 ≤ (ring10.getD j.val (0, 0)).2 ∧ (ring10.getD j.val (0, 0)).2 ≤ 65 := by decide +kernel
  exact h ⟨(i * 10 / m + tt) % 10, Nat.mod_lt _ (by omega)⟩
theorem near_scaled {s x : Int} (h0 : 0 ≤ s) (h1 : s ≤ 268435456) (h2 : -65 ≤ x) (h3 : x ≤ 65) : -17448304640 ≤ x * s ∧ x * s ≤ 17448304640 := by
  have a := Int.mul_nonneg (show 0 ≤ 65 - x by omega) h0
  have b := Int.mul_nonneg (show 0 ≤ 65 + x by omega) h0
  rw [Int.sub_mul] at a; rw [Int.add_mul] at b
  omega
/-- A corner that is not far. -/
def Near (p : P2) : Prop := -17448304640 ≤ p.1 ∧ p.1 ≤ 17448304640 ∧ -17448304640 ≤ p.2 ∧ p.2 ≤ 17448304640
theorem Near.i {p : P2} (h : Near p) : I2 p := by unfold Near at h; unfold I2 I64; omega
theorem Near.fit {p : P2} (h : Near p) : Fit2 p := by unfold Near at h; unfold Fit2; omega
theorem seed_near (a b c d : Int) (i : Nat) (h : i < seedN a b) : Near (seedPt a b c d i) := by
  unfold seedPt
  split
  · rename_i h1
    have : i < 4 := by unfold seedN at h; rw [if_neg (by omega), if_pos h1] at h; exact h
    have : i = 0 ∨ i = 1 ∨ i = 2 ∨ i = 3 := by omega
    rcases this with rfl | rfl | rfl | rfl <;> simp [boxPts, Near] <;> omega
  · have pb := pick_b (3 + b % 256 % 6).toNat (d % 256 % 10).toNat i
    have n1 := near_scaled (s := (1 + c % 64) * 4194304) (by omega) (by omega) pb.1 pb.2.1
    have n2 := near_scaled (s := (1 + c % 64) * 4194304) (by omega) (by omega) pb.2.2.1 pb.2.2.2
    exact ⟨n1.1, n1.2, n2.1, n2.2⟩

/-! ### What the code gives -/
theorem Box_eq {w h : Int} (hw : S63 w) (hh : S63 h) : ∃ g, shape.Box.f (w, h) = some (2, 0, 4, g) ∧ ∀ i, i < 4 → g i = (boxPts w h).getD i (0, 0) := by
  have h1 := decRows_lit Rii_dec Rii_clo (0, 0) (boxPts w h)
  refine ⟨fun i => (boxPts w h).getD i (0, 0), ?_, fun _ _ => rfl⟩
  rw [shape.Box.eq, neg_eq hw.i, Option.bind_some, neg_eq hh.i, Option.bind_some, Option.bind_some, Option.bind_some, neg_id hw, neg_id hh]
  simp only [dec_tG, dec_tCons, dec_tOne, dec_tI, dec_tTL, Option.bind_some]
  have h1' : decRows Rii (0, 0) 4 (fun i => cloL (List.getD (List.map Rii.enc [(-w, -h), (w, -h), (w, h), (-w, h)]) i (Rii.enc (0, 0)))) = some (4, fun i => (boxPts w h).getD i (0, 0)) := h1
  rw [h1']; rfl
theorem ring_eq : ∃ g, law04.ring.f () = some (10, g) ∧ ∀ i, i < 10 → g i = ring10.getD i (0, 0) := by
  have h1 := decRows_lit Rii_dec Rii_clo (0, 0) ring10
  refine ⟨fun i => ring10.getD i (0, 0), ?_, fun _ _ => rfl⟩
  rw [law04.ring.eq]
  simp only [dec_tTL]
  exact h1
theorem sc {c : Int} (hc : 0 ≤ c ∧ c < 64) {x : Int} (h4 : -65 ≤ x) (h5 : x ≤ 65) : IntKind.i64.wrap (Int.tdiv (IntKind.i64.wrap (x * ((1 + c) * 268435456))) 64) = x * ((1 + c) * 4194304) := by
  have n := near_scaled (s := (1 + c) * 4194304) (by omega) (by omega) h4 h5
  have e : x * ((1 + c) * 268435456) = x * ((1 + c) * 4194304) * 64 := by grind
  rw [e, w64 (x := x * ((1 + c) * 4194304) * 64) (by unfold I64; omega), Int.mul_tdiv_cancel _ (by omega), w64 (by unfold I64; omega)]
theorem seed_loop (c t : Int) (hc : 0 ≤ c ∧ c < 64) (m : Nat) (hm : 3 ≤ m ∧ m ≤ 8) (a0 a1 a2 a3 : Int) (ht : Go.bits .and .i64 a3 255 = t) (ht0 : 0 ≤ t ∧ t < 256) (R : Nat → P2) (hR : ∀ i, i < 10 → R i = ring10.getD i (0, 0)) (k0 : Nat) :
    ∀ (d i k : Nat) (G : Nat → P2), i + d = m → d < k →
    ∃ g, law04.Seed.Shape.l2 k0 k a0 a1 a2 a3 i (fun i => Rii.enc (G i)) ((1 + c) * 268435456) m 10 (fun i => Rii.enc (R i)) i = some (2, 0, m, g) ∧
      (∀ j, j < i → g j = G j) ∧ ∀ j, i ≤ j → j < m → g j = ((pick m (t % 10).toNat j).1 * ((1 + c) * 4194304), (pick m (t % 10).toNat j).2 * ((1 + c) * 4194304))
  | 0, i, k, G, h1, h3 => by
    obtain ⟨k, rfl⟩ : ∃ m, k = m + 1 := ⟨k - 1, by omega⟩
    have : i = m := by omega
    subst this
    refine ⟨G, ?_, fun _ _ => rfl, fun j h1 h2 => absurd h1 (by omega)⟩
    rw [law04.Seed.Shape.l2_eq]
    simp only [Bool.cond_decide]
    rw [if_neg (by omega)]
    simp only [dec_tG, dec_tCons, dec_tOne, dec_tI, dec_tTL, Option.bind_some, decRows_enc Rii_dec]
  | d + 1, i, k, G, h1, h3 => by
    obtain ⟨k, rfl⟩ : ∃ m, k = m + 1 := ⟨k - 1, by omega⟩
    have l1 : (i : Int) < (m : Int) := by omega
    have l2 : (m : Int) ≠ 0 := by omega
    have e0 : Int.tdiv (IntKind.i64.wrap ((i : Int) * 10)) (m : Int) = ((i * 10 / m : Nat) : Int) := by
      rw [w64 (by unfold I64; omega), Int.tdiv_eq_ediv_of_nonneg (by omega)]
      rw [Int.natCast_ediv]; rfl
    have hq : i * 10 / m < 10 := by rw [Nat.div_lt_iff_lt_mul (by omega)]; omega
    have e1 : Int.tmod (IntKind.i64.wrap ((IntKind.i64.wrap (Int.tdiv (IntKind.i64.wrap ((i : Int) * 10)) (m : Int))) + (Go.bits .and .i64 a3 255))) 10 = (((i * 10 / m + (t % 10).toNat) % 10 : Nat) : Int) := by
      rw [e0, ht]
      generalize i * 10 / m = q at *
      rw [w64 (x := ((q : Nat) : Int)) (by unfold I64; omega), w64 (by unfold I64; omega), Int.tmod_eq_emod_of_nonneg (by omega)]
      omega
    have hj := Nat.mod_lt (i * 10 / m + (t % 10).toNat) (show 10 > 0 by omega)
    have pb := pick_b m (t % 10).toNat i
    rw [law04.Seed.Shape.l2_eq]
    have e5 : R ((i * 10 / m + (t % 10).toNat) % 10) = pick m (t % 10).toNat i := hR _ hj
    simp only [Bool.cond_decide, e1, ix_ok hj, cond_true, Int.toNat_natCast, row_upd_ren Rii_ren, e5, sc hc pb.1 pb.2.1, sc hc pb.2.2.1 pb.2.2.2, wsucc (show i < m by omega) (show m ≤ 1000 by omega)]
    rw [if_pos l1, if_pos l2, if_pos (by omega)]
    obtain ⟨g, g1, g2, g3⟩ := seed_loop c t hc m hm a0 a1 a2 a3 ht ht0 R hR k0 d (i + 1) k (upd1 G i ((pick m (t % 10).toNat i).1 * ((1 + c) * 4194304), (pick m (t % 10).toNat i).2 * ((1 + c) * 4194304))) (by omega) (by omega)
    refine ⟨g, g1, fun j hj' => ?_, fun j h4 h5 => ?_⟩
    · rw [g2 j (by omega)]; unfold upd1; rw [if_neg (by omega)]
    · by_cases hji : j = i
      · subst hji
        rw [g2 j (by omega)]; unfold upd1; rw [if_pos rfl]
      · exact g3 j (by omega) h5
theorem Seed_eq (a b c d : Int) : ∃ g, law04.Seed.Shape.f (a, b, c, d) = some (seedKd a, seedR a c, seedN a b, g) ∧ ∀ i, i < seedN a b → g i = seedPt a b c d i := by
  have hc : 0 ≤ c % 64 ∧ c % 64 < 64 := by omega
  have hd : 0 ≤ d % 32 ∧ d % 32 < 32 := by omega
  have e1 : IntKind.i64.wrap (Int.tdiv (IntKind.i64.wrap ((IntKind.i64.wrap (1 + c % 64)) * 4294967296)) 16) = (1 + c % 64) * 268435456 := by
    rw [w64 (x := 1 + c % 64) (by unfold I64; omega), w64 (x := (1 + c % 64) * 4294967296) (by unfold I64; omega), tdiv16 (by omega), w64 (by unfold I64; omega)]
  have e2 : IntKind.i64.wrap (Int.tdiv (IntKind.i64.wrap ((IntKind.i64.wrap (1 + d % 32)) * 4294967296)) 16) = (1 + d % 32) * 268435456 := by
    rw [w64 (x := 1 + d % 32) (by unfold I64; omega), w64 (x := (1 + d % 32) * 4294967296) (by unfold I64; omega), tdiv16 (by omega), w64 (by unfold I64; omega)]
  show ∃ g, law04.Seed.Shape.g 1000000 _ = _ ∧ _
  rw [law04.Seed.Shape.eq]
  simp only [m2, m6, m5, e1, e2]
  unfold seedKd seedR seedN seedPt
  by_cases h0 : a % 4 = 0
  · refine ⟨fun _ => (0, 0), ?_, fun i hi => by rw [if_pos h0] at hi; omega⟩
    simp only [h0, BEq.rfl, cond_true, if_true, dec_tG, dec_tCons, dec_tOne, dec_tI, dec_tTL0, Option.bind_some]
  · have b0 : (a % 4 == 0) = false := by simpa using h0
    simp only [b0, cond_false, if_neg h0]
    by_cases h1 : a % 4 = 1
    · obtain ⟨g, g1, g2⟩ := Box_eq (w := (1 + c % 64) * 268435456) (h := (1 + d % 32) * 268435456) (by unfold S63; omega) (by unfold S63; omega)
      refine ⟨g, ?_, fun i hi => ?_⟩
      · simp only [h1, BEq.rfl, cond_true, if_true, g1, Option.bind_some, dec_tG, dec_tCons, dec_tOne, dec_tI, dec_tTL, decRows_enc Rii_dec]
      · rw [if_pos h1] at hi ⊢
        exact g2 i hi
    · have b1 : (a % 4 == 1) = false := by simpa using h1
      have e3 : IntKind.i64.wrap (3 + (Int.tmod (Go.bits .and .i64 b 255) 6)) = (((3 + b % 256 % 6).toNat : Nat) : Int) := by
        rw [m8, Int.tmod_eq_emod_of_nonneg (by omega), w64 (by unfold I64; omega)]; omega
      obtain ⟨R, r1, r2⟩ := ring_eq
      obtain ⟨g, g1, g2, g3⟩ := seed_loop (c % 64) (d % 256) hc (3 + b % 256 % 6).toNat (by omega) a b c d (m8 d) (by omega) R r2 1000000 (3 + b % 256 % 6).toNat 0 1000000 (fun _ => (0, 0)) (by omega) (by omega)
      refine ⟨g, ?_, fun i hi => ?_⟩
      · simp only [b1, cond_false, if_neg h1, r1, Option.bind_some, e3]
        exact g1
      · rw [if_neg h1] at hi ⊢
        exact g3 i (by omega) hi
end Go.Proofs.Ytbcnifnmccaleaa.Y
