/- Roots and quotients: what fix.Sqrt, bits.Div64, fix.Div, vec.Len, vec.Unit give. -/
import Derived.Test.YtejlappndcakeaaYVs
namespace Go.Proofs.Ytejlappndcakeaa.Y
open Go Go.RowKit Go.Proofs.Ytejlappndcakeaa.E Go.Proofs.Ytejlappndcakeaa.Ma
set_option linter.unusedVariables false
set_option linter.unusedSimpArgs false

theorem shl64 (x : Int) {n : Nat} (h : n ≤ 64) : x * 2 ^ (min n 64) = x * 2 ^ n := by rw [Nat.min_eq_left h]
theorem sqrt_loop (A : Nat) (hi lo : Int) (hhi : hi = ((A / 18446744073709551616 : Nat) : Int)) (hlo : lo = ((A % 18446744073709551616 : Nat) : Int)) (k0 : Nat) :
    ∀ (i o k : Nat), i ≤ 48 → (∃ c, o = 2 ^ i * c) → o + 2 ^ i ≤ 281474976710656 → i < k → fix.Sqrt.l0 k0 k hi lo (o : Int) ((i : Int) - 1) = some ((rt A i o : Nat) : Int)
  | 0, o, k, _, _, ho, hk => by
    obtain ⟨k, rfl⟩ : ∃ m, k = m + 1 := ⟨k - 1, by omega⟩
    rw [fix.Sqrt.l0_eq]
    simp only [rt, Bool.cond_decide]
    rw [if_neg (by omega), w64 (by unfold I64; omega)]
  | i + 1, o, k, hi', ho', ho, hk => by
    obtain ⟨k, rfl⟩ : ∃ m, k = m + 1 := ⟨k - 1, by omega⟩
    obtain ⟨c, hc⟩ := ho'
    have p : 2 ^ (i + 1) = 2 ^ i + 2 ^ i := by rw [Nat.pow_succ]; omega
    have pp : 0 < 2 ^ i := Nat.two_pow_pos i
    have et : Go.bits .or .u64 (o : Int) (IntKind.u64.wrap (1 * 2 ^ (min (Int.toNat (i : Int)) 64))) = ((o + 2 ^ i : Nat) : Int) := by
      have es : IntKind.u64.wrap (1 * 2 ^ (min (Int.toNat (i : Int)) 64)) = ((2 ^ i : Nat) : Int) := by
        have e1 : (1 : Int) * 2 ^ i = ((2 ^ i : Nat) : Int) := by rw [Int.one_mul, Int.natCast_pow]; rfl
        rw [Int.toNat_natCast, shl64 _ (by omega), e1, u64 (by omega) (by omega)]
      rw [es]
      have := or64 (i + 1) c (2 ^ i) (by omega) (by rw [← hc]; omega)
      rw [← hc] at this; exact this
    have e : ((i + 1 : Nat) : Int) - 1 = (i : Int) := by omega
    rw [e, fix.Sqrt.l0_eq]; simp only [rt, Bool.cond_decide, et]
    rw [if_pos (by omega), if_pos (by omega), mul64_eq (by omega) (by omega) (by omega) (by omega), Option.bind_some]
    simp only
    rw [w64 (x := (i : Int) - 1) (by unfold I64; omega)]
    have q : ((o + 2 ^ i : Nat) : Int) * ((o + 2 ^ i : Nat) : Int) = (((o + 2 ^ i) * (o + 2 ^ i) : Nat) : Int) := by exact_mod_cast rfl
    rw [q]
    have r1 := sqrt_loop A hi lo hhi hlo k0 i (o + 2 ^ i) k (by omega) ⟨2 * c + 1, by rw [hc, Nat.pow_succ, Nat.mul_add, Nat.mul_one, Nat.mul_assoc]⟩ (by omega) (by omega)
    have r2 := sqrt_loop A hi lo hhi hlo k0 i o k (by omega) ⟨2 * c, by rw [hc, Nat.pow_succ, Nat.mul_assoc]⟩ (by omega) (by omega)
    rw [r1, r2]
    generalize (o + 2 ^ i) * (o + 2 ^ i) = t at *
    subst hhi hlo
    by_cases ht : t ≤ A
    · rw [if_pos ht]
      by_cases h1 : (t : Int) / 18446744073709551616 < ((A / 18446744073709551616 : Nat) : Int)
      · rw [if_pos h1]
      · have h2 : ((t : Int) / 18446744073709551616 == ((A / 18446744073709551616 : Nat) : Int)) = true := by simp only [beq_iff_eq]; omega
        rw [if_neg h1, h2, cond_true, if_pos (by omega)]
    · rw [if_neg ht, if_neg (by omega)]
      by_cases h1 : (t : Int) / 18446744073709551616 = ((A / 18446744073709551616 : Nat) : Int)
      · rw [beq_iff_eq.2 h1, cond_true, if_neg (by omega)]
      · rw [beq_eq_false_iff_ne.2 h1, cond_false]
theorem sqrt_eq {a : Int} (h : I64 a) : fix.Sqrt.f a = some (sqrt a) := by
  show fix.Sqrt.g 1000000 _ = _
  rw [fix.Sqrt.eq]
  unfold sqrt
  simp only [Bool.cond_decide]
  by_cases h0 : a ≤ 0
  · rw [if_pos h0, if_pos h0]
  · rw [if_neg h0, if_neg h0]
    obtain ⟨n, rfl⟩ := Int.eq_ofNat_of_zero_le (a := a) (by omega)
    have := h.2
    simp only [fdiv_pow]
    rw [Int.toNat_natCast, u64 (x := (n : Int)) (by omega) (by omega), IntKind.wrap_u64]
    exact sqrt_loop (n * 4294967296) _ _ (by omega) (by omega) 1000000 48 0 1000000 (by omega) ⟨0, by simp⟩ (by omega) (by omega)
theorem kn_prod {q y n1 n0 u un r : Int} (hy : y = n1 * 4294967296 + n0) (hr : q * n1 + r = u) :
    q * y - (u * 4294967296 + un) = q * n0 - (4294967296 * r + un) := by
  subst hy
  have : q * (n1 * 4294967296 + n0) = q * n1 * 4294967296 + q * n0 := by rw [Int.mul_add, Int.mul_assoc]
  omega
theorem kn_gt {q y n1 n0 u un r : Int} (hp : 0 < y) (hy : y = n1 * 4294967296 + n0) (hr : q * n1 + r = u) :
    4294967296 * r + un < q * n0 ↔ (u * 4294967296 + un) / y < q := by
  have := kn_prod (un := un) hy hr
  rw [Int.ediv_lt_iff_lt_mul hp]; omega

/-- The state at a digit's loop: u below y, digits n1 (high half, normalized) and n0; q and r share u. -/
structure St (y n1 n0 u un q r : Int) : Prop where
  hy : y = n1 * 4294967296 + n0
  n1l : 2147483648 ≤ n1
  n1h : n1 < 4294967296
  n0l : 0 ≤ n0
  n0h : n0 < 4294967296
  ul : 0 ≤ u
  uh : u < y
  unl : 0 ≤ un
  unh : un < 4294967296
  rl : 0 ≤ r
  hr : q * n1 + r = u
  hq : (u * 4294967296 + un) / y ≤ q
  q0 : 0 ≤ q
  q1 : q ≤ 4294967297
section
variable {y n1 n0 u un q r : Int}
theorem St.yp (h : St y n1 n0 u un q r) : 0 < y := by have := h.hy; have := h.n1l; have := h.n0l; omega
theorem St.qb (h : St y n1 n0 u un q r) : (u * 4294967296 + un) / y < 4294967296 := by
  have := h.unh; have := h.uh; have := h.yp
  rw [Int.ediv_lt_iff_lt_mul h.yp]; omega
theorem St.qnn (h : St y n1 n0 u un q r) : 0 ≤ (u * 4294967296 + un) / y :=
  Int.ediv_nonneg (by have := h.ul; have := h.unl; omega) (by have := h.yp; omega)
theorem St.prod (h : St y n1 n0 u un q r) : 0 ≤ q * n0 ∧ q * n0 < 18446744073709551616 := by
  have h1 := Int.mul_nonneg h.q0 h.n0l
  have h2 : q * n0 ≤ 4294967297 * 4294967295 := Int.mul_le_mul h.q1 (by have := h.n0h; omega) h.n0l (by omega)
  omega
/-- The test: too great? -/
theorem St.test (h : St y n1 n0 u un q r) : (q ≥ 4294967296 ∨ q * n0 > 4294967296 * r + un) ↔ (u * 4294967296 + un) / y < q := by
  have := h.qb
  have := kn_gt (un := un) h.yp h.hy h.hr
  constructor
  · rintro (h1 | h1)
    · omega
    · exact this.1 h1
  · intro h1; exact .inr (this.2 h1)
/-- One less. -/
theorem St.next (h : St y n1 n0 u un q r) (ht : (u * 4294967296 + un) / y < q) : St y n1 n0 u un (q - 1) (r + n1) where
  hy := h.hy
  n1l := h.n1l
  n1h := h.n1h
  n0l := h.n0l
  n0h := h.n0h
  ul := h.ul
  uh := h.uh
  unl := h.unl
  unh := h.unh
  rl := by have := h.rl; have := h.n1l; omega
  hr := by have := h.hr; rw [Int.sub_mul]; omega
  hq := by omega
  q0 := by have := h.qnn; omega
  q1 := by have := h.q1; omega
/-- Far enough. -/
theorem St.far (h : St y n1 n0 u un q r) (hq : q ≤ 4294967296) (hr : r ≥ 4294967296) : q = (u * 4294967296 + un) / y := by
  have h1 := kn_gt (un := un) h.yp h.hy h.hr
  have h2 : q * n0 ≤ 4294967296 * n0 := Int.mul_le_mul_of_nonneg_right hq h.n0l
  have := h.n0h; have := h.unl; have := h.hq
  omega
theorem St.start (hy : y = n1 * 4294967296 + n0) (n1l : 2147483648 ≤ n1) (n1h : n1 < 4294967296) (n0l : 0 ≤ n0) (n0h : n0 < 4294967296) (ul : 0 ≤ u) (uh : u < y) (unl : 0 ≤ un) (unh : un < 4294967296) :
    St y n1 n0 u un (u / n1) (u - u / n1 * n1) ∧ u - u / n1 * n1 < 4294967296 ∧ 0 ≤ u / n1 * n1 ∧ u / n1 * n1 ≤ u := by
  have hp : 0 < n1 := by omega
  have hm := Int.ediv_mul_le u (b := n1) (by omega)
  have hl := Int.lt_ediv_add_one_mul_self u hp
  have hn : 0 ≤ u / n1 := Int.ediv_nonneg ul (by omega)
  have hnn := Int.mul_nonneg hn (by omega : 0 ≤ n1)
  rw [Int.add_mul] at hl
  refine ⟨⟨hy, n1l, n1h, n0l, n0h, ul, uh, unl, unh, by omega, by omega, ?_, hn, ?_⟩, by omega, hnn, hm⟩
  · have hyp : 0 < y := by omega
    have h1 := Int.ediv_mul_le (u * 4294967296 + un) (b := y) (by omega)
    have hQ : 0 ≤ (u * 4294967296 + un) / y := Int.ediv_nonneg (by omega) (by omega)
    have hQn := Int.mul_nonneg hQ n0l
    generalize (u * 4294967296 + un) / y = Q at *
    rw [Int.le_ediv_iff_mul_le hp]
    subst hy
    have e : Q * (n1 * 4294967296 + n0) = Q * n1 * 4294967296 + Q * n0 := by rw [Int.mul_add, Int.mul_assoc]
    omega
  · have : u / n1 < 4294967298 := by
      rw [Int.ediv_lt_iff_lt_mul hp]; omega
    omega
end
/-- What is left, behind a digit: below y, and no wrap bends it. -/
theorem left_over {y u un q : Int} (hp : 0 < y) (hy : y < 18446744073709551616) (hq : q = (u * 4294967296 + un) / y) :
    IntKind.u64.wrap (IntKind.u64.wrap (IntKind.u64.wrap (u * 4294967296) + un) - IntKind.u64.wrap (q * y)) = (u * 4294967296 + un) % y ∧ 0 ≤ (u * 4294967296 + un) % y ∧ (u * 4294967296 + un) % y < y := by
  have h1 := Int.emod_nonneg (u * 4294967296 + un) (by omega : y ≠ 0)
  have h2 := Int.emod_lt_of_pos (u * 4294967296 + un) hp
  have h3 : (u * 4294967296 + un) / y * y + (u * 4294967296 + un) % y = u * 4294967296 + un := by rw [Int.mul_comm]; exact Int.mul_ediv_add_emod _ _
  rw [← hq] at h3
  generalize (u * 4294967296 + un) % y = m at *
  generalize q * y = p at *
  refine ⟨?_, h1, h2⟩
  rw [IntKind.wrap_u64, IntKind.wrap_u64, IntKind.wrap_u64, IntKind.wrap_u64]
  omega

theorem loop1 {y s n1 n0 un0 qh u21 : Int} (hs : 0 ≤ s) (k0 : Nat) : ∀ (d : Nat) (q r : Int) (k : Nat), St y n1 n0 u21 un0 q r → r < 4294967296 → 4294967296 - r ≤ d * 2147483648 → 2 * d + 2 < k →
    ∃ rem, bits.Div64.l1 k0 k y s n1 n0 un0 qh r u21 q = some (IntKind.u64.wrap (IntKind.u64.wrap (qh * 4294967296) + (u21 * 4294967296 + un0) / y), rem) := by
  intro d
  induction d with
  | zero => intro q r k h hr hd hk; omega
  | succ d ih =>
    intro q r k h hr hd hk
    obtain ⟨k, rfl⟩ : ∃ m, k = m + 1 := ⟨k - 1, by omega⟩
    have hp := h.prod
    have := h.rl; have := h.unl; have := h.unh; have := h.q0; have := h.q1; have := h.n1l; have := h.n1h
    have ht := h.test
    have hq := h.hq
    have hQ := h.qnn
    have e1 : IntKind.u64.wrap (q * n0) = q * n0 := u64 hp.1 hp.2
    have e2 : IntKind.u64.wrap (4294967296 * r) = 4294967296 * r := u64 (by omega) (by omega)
    have e3 : IntKind.u64.wrap (4294967296 * r + un0) = 4294967296 * r + un0 := u64 (by omega) (by omega)
    have e4 : IntKind.u64.wrap (r + n1) = r + n1 := u64 (by omega) (by omega)
    rw [bits.Div64.l1_eq]
    simp only [Bool.cond_decide, e1, e2, e3, e4]
    by_cases hb : (u21 * 4294967296 + un0) / y < q
    · have e5 : IntKind.u64.wrap (q - 1) = q - 1 := u64 (by omega) (by omega)
      have hn := h.next hb
      have hor := ht.2 hb
      rw [e5]
      by_cases hf : r + n1 ≥ 4294967296
      · rw [← hn.far (by omega) hf]
        by_cases h1 : q ≥ 4294967296
        · rw [if_pos h1, if_pos hf, if_pos hs]; exact ⟨_, rfl⟩
        · rw [if_neg h1, if_pos (by omega), if_pos hf, if_pos hs]; exact ⟨_, rfl⟩
      · have key := ih (q - 1) (r + n1) k hn (by omega) (by omega) (by omega)
        by_cases h1 : q ≥ 4294967296
        · rw [if_pos h1, if_neg hf]; exact key
        · rw [if_neg h1, if_pos (by omega), if_neg hf]; exact key
    · have hq' : q = (u21 * 4294967296 + un0) / y := by omega
      have hor : ¬ (q ≥ 4294967296 ∨ q * n0 > 4294967296 * r + un0) := fun hc => hb (ht.1 hc)
      rw [if_neg (by omega), if_neg (by omega), if_pos hs, ← hq']; exact ⟨_, rfl⟩

theorem loop0 {y s n1 n0 un1 un0 u : Int} (hs : 0 ≤ s) (hyy : y < 18446744073709551616) (un0l : 0 ≤ un0) (un0h : un0 < 4294967296) (k0 : Nat) (hk0 : 10 < k0) : ∀ (d : Nat) (q r : Int) (k : Nat), St y n1 n0 u un1 q r → r < 4294967296 → 4294967296 - r ≤ d * 2147483648 → 2 * d + 12 < k →
    ∃ rem, bits.Div64.l0 k0 k y s n1 n0 u un1 un0 q r = some (IntKind.u64.wrap (IntKind.u64.wrap ((u * 4294967296 + un1) / y * 4294967296) + ((u * 4294967296 + un1) % y * 4294967296 + un0) / y), rem) := by
  intro d
  induction d with
  | zero => intro q r k h hr hd hk; omega
  | succ d ih =>
    intro q r k h hr hd hk
    obtain ⟨k, rfl⟩ : ∃ m, k = m + 1 := ⟨k - 1, by omega⟩
    have hp := h.prod
    have hyp := h.yp
    have := h.rl; have hunl := h.unl; have hunh := h.unh; have := h.q0; have := h.q1; have hn1l := h.n1l; have hn1h := h.n1h
    have ht := h.test
    have hq := h.hq
    have hQ := h.qnn
    have e1 : IntKind.u64.wrap (q * n0) = q * n0 := u64 hp.1 hp.2
    have e2 : IntKind.u64.wrap (4294967296 * r) = 4294967296 * r := u64 (by omega) (by omega)
    have e3 : IntKind.u64.wrap (4294967296 * r + un1) = 4294967296 * r + un1 := u64 (by omega) (by omega)
    have e4 : IntKind.u64.wrap (r + n1) = r + n1 := u64 (by omega) (by omega)
    have hn0 : n1 ≠ 0 := by omega
    have done : ∀ (q' : Int), q' = (u * 4294967296 + un1) / y → ∃ rem, bits.Div64.l1 k0 k0 y s n1 n0 un0 q'
        (IntKind.u64.wrap (IntKind.u64.wrap (IntKind.u64.wrap (IntKind.u64.wrap (u * 4294967296) + un1) - IntKind.u64.wrap (q' * y)) - IntKind.u64.wrap (IntKind.u64.wrap (Int.tdiv (IntKind.u64.wrap (IntKind.u64.wrap (IntKind.u64.wrap (u * 4294967296) + un1) - IntKind.u64.wrap (q' * y))) n1) * n1)))
        (IntKind.u64.wrap (IntKind.u64.wrap (IntKind.u64.wrap (u * 4294967296) + un1) - IntKind.u64.wrap (q' * y)))
        (IntKind.u64.wrap (Int.tdiv (IntKind.u64.wrap (IntKind.u64.wrap (IntKind.u64.wrap (u * 4294967296) + un1) - IntKind.u64.wrap (q' * y))) n1)) = some (IntKind.u64.wrap (IntKind.u64.wrap ((u * 4294967296 + un1) / y * 4294967296) + ((u * 4294967296 + un1) % y * 4294967296 + un0) / y), rem) := by
      intro q' hq'
      obtain ⟨l1, l2, l3⟩ := left_over hyp hyy hq'
      rw [l1, ← hq']
      generalize (u * 4294967296 + un1) % y = v at *
      obtain ⟨hst, hsr, hs0, hs1⟩ := St.start h.hy h.n1l h.n1h h.n0l h.n0h l2 l3 un0l un0h
      have v2 : 0 ≤ v / n1 := hst.q0
      have v3 := hst.q1
      rw [Int.tdiv_eq_ediv_of_nonneg l2, u64 (x := v / n1) (by omega) (by omega), u64 (x := v / n1 * n1) (by omega) (by omega), u64 (x := v - v / n1 * n1) (by omega) (by omega)]
      exact loop1 hs k0 2 _ _ k0 hst hsr (by have := hst.rl; omega) (by omega)
    rw [bits.Div64.l0_eq]
    simp only [Bool.cond_decide, e1, e2, e3, e4]
    by_cases hb : (u * 4294967296 + un1) / y < q
    · have e5 : IntKind.u64.wrap (q - 1) = q - 1 := u64 (by omega) (by omega)
      have hn := h.next hb
      have hor := ht.2 hb
      rw [e5]
      by_cases hf : r + n1 ≥ 4294967296
      · have key := done _ (hn.far (by omega) hf)
        by_cases h1 : q ≥ 4294967296
        · rw [if_pos h1, if_pos hf, if_pos hn0]; exact key
        · rw [if_neg h1, if_pos (by omega), if_pos hf, if_pos hn0]; exact key
      · have key := ih (q - 1) (r + n1) k hn (by omega) (by omega) (by omega)
        by_cases h1 : q ≥ 4294967296
        · rw [if_pos h1, if_neg hf]; exact key
        · rw [if_neg h1, if_pos (by omega), if_neg hf]; exact key
    · have hq' : q = (u * 4294967296 + un1) / y := by omega
      have hor : ¬ (q ≥ 4294967296 ∨ q * n0 > 4294967296 * r + un1) := fun hc => hb (ht.1 hc)
      rw [if_neg (by omega), if_neg (by omega), if_pos hn0]; exact done _ hq'
/-- Two digits make the quotient. -/
theorem two_digits {y u un1 un0 : Int} (hp : 0 < y) (ul : 0 ≤ u) (uh : u < y) (un1l : 0 ≤ un1) (un1h : un1 < 4294967296) (un0l : 0 ≤ un0) (un0h : un0 < 4294967296) :
    IntKind.u64.wrap (IntKind.u64.wrap ((u * 4294967296 + un1) / y * 4294967296) + ((u * 4294967296 + un1) % y * 4294967296 + un0) / y) = (u * 18446744073709551616 + un1 * 4294967296 + un0) / y := by
  have a1 : 0 ≤ (u * 4294967296 + un1) / y := Int.ediv_nonneg (by omega) (by omega)
  have a2 : (u * 4294967296 + un1) / y < 4294967296 := by rw [Int.ediv_lt_iff_lt_mul hp]; omega
  have m1 := Int.emod_nonneg (u * 4294967296 + un1) (by omega : y ≠ 0)
  have m2 := Int.emod_lt_of_pos (u * 4294967296 + un1) hp
  have b1 : 0 ≤ ((u * 4294967296 + un1) % y * 4294967296 + un0) / y := Int.ediv_nonneg (by omega) (by omega)
  have b2 : ((u * 4294967296 + un1) % y * 4294967296 + un0) / y < 4294967296 := by rw [Int.ediv_lt_iff_lt_mul hp]; omega
  have h3 : y * ((u * 4294967296 + un1) / y) + (u * 4294967296 + un1) % y = u * 4294967296 + un1 := Int.mul_ediv_add_emod _ _
  have e : u * 18446744073709551616 + un1 * 4294967296 + un0 = ((u * 4294967296 + un1) % y * 4294967296 + un0) + y * ((u * 4294967296 + un1) / y * 4294967296) := by
    rw [← Int.mul_assoc]; omega
  rw [e, Int.add_mul_ediv_left _ _ (by omega)]
  rw [u64 (x := (u * 4294967296 + un1) / y * 4294967296) (by omega) (by omega), u64 (by omega) (by omega)]
  omega
/-- The number of bits of a number, as the printed code has it. -/
theorem tab_eq (n : Nat) (h : n < 256) : (((ByteArray.data Str11c1601c).getD n 0).toNat : Nat) = Lib.bitLen n := by
  have : ∀ i : Fin 256, (((ByteArray.data Str11c1601c).getD i.val 0).toNat : Nat) = Lib.bitLen i.val := by decide +kernel
  exact this ⟨n, h⟩
theorem bl_uniq {x m k : Nat} (h0 : x ≠ 0) (hx : x < 18446744073709551616) (h1 : x = 0 → False) (h2 : 2 ^ (k - 1) ≤ x) (h3 : x < 2 ^ k) (hk : 1 ≤ k) : Lib.bitLen x = k := by
  obtain ⟨b1, b2, b3, b4⟩ := Ma.bitLen_spec hx h0
  generalize Lib.bitLen x = m at *
  rcases Nat.lt_trichotomy m k with h | h | h
  · have : 2 ^ m ≤ 2 ^ (k - 1) := Nat.pow_le_pow_right (by omega) (by omega)
    omega
  · exact h
  · have : 2 ^ k ≤ 2 ^ (m - 1) := Nat.pow_le_pow_right (by omega) (by omega)
    omega
theorem bl_add (x s : Nat) (h0 : x / 2 ^ s ≠ 0) (hx : x < 18446744073709551616) : Lib.bitLen x = s + Lib.bitLen (x / 2 ^ s) := by
  have hx' : x / 2 ^ s < 18446744073709551616 := Nat.lt_of_le_of_lt (Nat.div_le_self _ _) hx
  obtain ⟨b1, b2, b3, b4⟩ := Ma.bitLen_spec hx' h0
  have x0 : x ≠ 0 := fun h => h0 (by rw [h, Nat.zero_div])
  generalize Lib.bitLen (x / 2 ^ s) = m at *
  refine bl_uniq (m := 0) x0 hx (fun h => x0 h) ?_ ?_ (by omega)
  · have : s + m - 1 = m - 1 + s := by omega
    rw [this, Nat.pow_add]
    exact (Nat.le_div_iff_mul_le (Nat.two_pow_pos s)).1 b3
  · rw [Nat.add_comm, Nat.pow_add]
    exact (Nat.div_lt_iff_lt_mul (Nat.two_pow_pos s)).1 b4
theorem leaf_eq {x : Nat} (s : Nat) (hs : s ≤ 56) (hx : x < 18446744073709551616) (h0 : x / 2 ^ s ≠ 0 ∨ s = 0) (h1 : x / 2 ^ s < 256) (t : Int) (ht : t = ((x / 2 ^ s : Nat) : Int)) (c : Int) (hc : c = (s : Int)) :
    (bif ((decide (0 ≤ (IntKind.u8.wrap t))) && (decide ((IntKind.u8.wrap t) < 256))) then
      some (IntKind.i64.wrap (c + (IntKind.i64.wrap (((ByteArray.data Str11c1601c).getD (Int.toNat (IntKind.u8.wrap t)) 0).toNat : Nat)))) else none) = some ((Lib.bitLen x : Nat) : Int) := by
  subst ht hc
  have hb : Lib.bitLen (x / 2 ^ s) ≤ 64 := by
    by_cases h : x / 2 ^ s = 0
    · rw [h]; decide
    · exact (Ma.bitLen_spec (by omega) h).2.1
  have hl : Lib.bitLen x = s + Lib.bitLen (x / 2 ^ s) := by
    rcases h0 with h0 | h0
    · exact bl_add x s h0 hx
    · subst h0; simp
  rw [hl]
  generalize x / 2 ^ s = q at *
  have e : IntKind.u8.wrap (q : Int) = (q : Int) := by rw [IntKind.wrap_u8]; omega
  have hc : (decide (0 ≤ (q : Int)) && decide ((q : Int) < 256)) = true := by
    rw [Bool.and_eq_true]; exact ⟨decide_eq_true (by omega), decide_eq_true (by omega)⟩
  rw [e, hc, cond_true, Int.toNat_natCast, tab_eq _ h1, w64 (x := ((Lib.bitLen q : Nat) : Int)) (by unfold I64; omega), w64 (by unfold I64; omega)]
  simp
theorem len64_eq {n : Nat} (h : n < 18446744073709551616) : bits.Len64.f (n : Int) = some ((Lib.bitLen n : Nat) : Int) := by
  rw [bits.Len64.eq]
  simp only [fdiv_pow, Bool.cond_decide]
  have f : ∀ a b : Nat, ((n : Int) / 2 ^ a) / 2 ^ b = ((n / 2 ^ (a + b) : Nat) : Int) := fun a b => by
    rw [Int.ediv_ediv_of_nonneg (Int.pow_nonneg (by decide)), ← Int.pow_add, Int.natCast_ediv, Int.natCast_pow]; rfl
  have p : (2 : Int) ^ 32 = 4294967296 ∧ (2 : Int) ^ 16 = 65536 ∧ (2 : Int) ^ 8 = 256 := by decide
  split
  · split
    · split
      · exact leaf_eq 56 (by omega) h (.inl (by omega)) (by omega) _ (by omega) _ rfl
      · exact leaf_eq 48 (by omega) h (.inl (by omega)) (by omega) _ (by omega) _ rfl
    · split
      · exact leaf_eq 40 (by omega) h (.inl (by omega)) (by omega) _ (by omega) _ rfl
      · exact leaf_eq 32 (by omega) h (.inl (by omega)) (by omega) _ (by omega) _ rfl
  · split
    · split
      · exact leaf_eq 24 (by omega) h (.inl (by omega)) (by omega) _ (by omega) _ rfl
      · exact leaf_eq 16 (by omega) h (.inl (by omega)) (by omega) _ (by omega) _ rfl
    · split
      · exact leaf_eq 8 (by omega) h (.inl (by omega)) (by omega) _ (by omega) _ rfl
      · exact leaf_eq 0 (by omega) h (.inr rfl) (by omega) _ (by omega) _ rfl
theorem div64_eq {hi lo y : Int} (h0 : 0 ≤ hi) (h1 : hi < y) (l0 : 0 ≤ lo) (l1 : lo < 18446744073709551616) (y1 : y < 18446744073709551616) :
    ∃ rem, bits.Div64.f (hi, lo, y) = some ((hi * 18446744073709551616 + lo) / y, rem) := by
  show ∃ rem, bits.Div64.g 1000000 _ = _
  rw [bits.Div64.eq]
  have yn : (y == 0) = false := beq_eq_false_iff_ne.2 (by omega)
  have y0 : y ≠ 0 := by omega
  simp only [Bool.cond_decide, yn, cond_false]
  rw [if_neg (by omega)]
  by_cases hz : hi = 0
  · subst hz
    have q0 : 0 ≤ lo / y := Int.ediv_nonneg l0 (by omega)
    have q1 : lo / y ≤ lo := Int.ediv_le_self _ l0
    simp only [BEq.rfl, cond_true]
    rw [if_pos y0, if_pos y0, Int.tdiv_eq_ediv_of_nonneg l0, u64 q0 (by omega)]
    exact ⟨_, by rw [Int.zero_mul, Int.zero_add]⟩
  · rw [beq_eq_false_iff_ne.2 hz, cond_false]
    obtain ⟨n, rfl⟩ := Int.eq_ofNat_of_zero_le (a := y) (by omega)
    obtain ⟨b1, b2, b3, b4⟩ := Ma.bitLen_spec (x := n) (by omega) (by omega)
    rw [bits.LeadingZeros64.eq, len64_eq (by omega), Option.bind_some, Option.bind_some]
    generalize Lib.bitLen n = m at *
    rw [w64 (x := 64 - (m : Int)) (by unfold I64; omega), u64 (x := 64 - (m : Int)) (by omega) (by omega)]
    obtain ⟨s, rfl⟩ : ∃ s, m = 64 - s := ⟨64 - m, by omega⟩
    have hs : s ≤ 63 := by omega
    have es : (64 : Int) - ((64 - s : Nat) : Int) = (s : Int) := by omega
    rw [es, u64 (x := 64 - (s : Int)) (by omega) (by omega)]
    -- the powers
    have pp : 0 < 2 ^ s := Nat.two_pow_pos s
    have pq : 2 ^ s * 2 ^ (64 - s) = 18446744073709551616 := by rw [← Nat.pow_add, Nat.add_sub_cancel' (by omega)]
    have pq1 : 2 ^ s * 2 ^ (64 - s - 1) = 9223372036854775808 := by rw [← Nat.pow_add, show s + (64 - s - 1) = 63 by omega]
    have n1 : n * 2 ^ s < 18446744073709551616 := by rw [← pq, Nat.mul_comm]; exact Nat.mul_lt_mul_of_pos_left b4 pp
    have n2 : 9223372036854775808 ≤ n * 2 ^ s := by rw [← pq1, Nat.mul_comm]; exact Nat.mul_le_mul_right _ b3
    obtain ⟨h, rfl⟩ := Int.eq_ofNat_of_zero_le h0
    obtain ⟨l, rfl⟩ := Int.eq_ofNat_of_zero_le l0
    have hn : h < n := by omega
    have hh : h * 2 ^ s < n * 2 ^ s := Nat.mul_lt_mul_of_pos_right hn pp
    have shl_eq : ∀ x : Nat, IntKind.u64.wrap ((x : Int) * 2 ^ (min (Int.toNat (s : Int)) 64)) = ((x * 2 ^ s % 18446744073709551616 : Nat) : Int) := by
      intro x
      rw [Int.toNat_natCast, shl64 _ (by omega), IntKind.wrap_u64, Int.natCast_emod, Int.natCast_mul, Int.natCast_pow]; rfl
    have s1 : IntKind.u64.wrap ((n : Int) * 2 ^ (min (Int.toNat (s : Int)) 64)) = ((n * 2 ^ s : Nat) : Int) := by rw [shl_eq, Nat.mod_eq_of_lt n1]
    have s2 : IntKind.u64.wrap ((h : Int) * 2 ^ (min (Int.toNat (s : Int)) 64)) = ((h * 2 ^ s : Nat) : Int) := by rw [shl_eq, Nat.mod_eq_of_lt (by omega)]
    have s3 : Int.fdiv (l : Int) (2 ^ (min (Int.toNat (64 - (s : Int))) 64)) = ((l / 2 ^ (64 - s) : Nat) : Int) := by
      rw [show (64 - (s : Int)).toNat = 64 - s by omega, Nat.min_eq_left (by omega), fdiv_pow, Int.natCast_ediv, Int.natCast_pow]; rfl
    have lb : l / 2 ^ (64 - s) < 2 ^ s := by
      rw [Nat.div_lt_iff_lt_mul (Nat.two_pow_pos _), pq]; omega
    have hmul : h * 2 ^ s + 2 ^ s ≤ n * 2 ^ s := by
      have := Nat.mul_le_mul_right (2 ^ s) (show h + 1 ≤ n by omega)
      rw [Nat.add_mul] at this; omega
    have s4 : Go.bits .or .u64 ((h * 2 ^ s : Nat) : Int) ((l / 2 ^ (64 - s) : Nat) : Int) = ((h * 2 ^ s + l / 2 ^ (64 - s) : Nat) : Int) := by
      have := or64 s h (l / 2 ^ (64 - s)) lb (by rw [Nat.mul_comm]; omega)
      rw [Nat.mul_comm (2 ^ s) h] at this; exact this
    simp only [s1, s2, s3, s4, shl_eq l, fdiv_pow]
    rw [show (2 : Int) ^ 32 = 4294967296 from rfl]
    -- the number, shifted
    have ud : l / 2 ^ (64 - s) = l * 2 ^ s / 18446744073709551616 := by
      rw [← pq, Nat.mul_comm l, Nat.mul_div_mul_left _ _ pp]
    have uall : (h * 2 ^ s + l / 2 ^ (64 - s)) * 18446744073709551616 + l * 2 ^ s % 18446744073709551616 = (h * 18446744073709551616 + l) * 2 ^ s := by
      rw [ud, Nat.add_mul, Nat.add_mul, Nat.mul_right_comm h]
      generalize h * 2 ^ s = x
      generalize l * 2 ^ s = z
      omega
    have qeq : (((h * 18446744073709551616 + l) * 2 ^ s : Nat) : Int) / ((n * 2 ^ s : Nat) : Int) = ((h : Int) * 18446744073709551616 + (l : Int)) / (n : Int) := by
      rw [← Int.natCast_ediv, Nat.mul_div_mul_right (h * 18446744073709551616 + l) n pp, Int.natCast_ediv, Int.natCast_add, Int.natCast_mul]; rfl
    have ub : h * 2 ^ s + l / 2 ^ (64 - s) < n * 2 ^ s := by omega
    have vb : l * 2 ^ s % 18446744073709551616 < 18446744073709551616 := Nat.mod_lt _ (by omega)
    generalize h * 2 ^ s + l / 2 ^ (64 - s) = u at *
    generalize l * 2 ^ s % 18446744073709551616 = v at *
    generalize hY : n * 2 ^ s = Y at *
    simp only [if_pos (show (0 : Int) ≤ (s : Int) by omega), if_pos (show (0 : Int) ≤ 64 - (s : Int) by omega), if_pos (show (Y : Int) / 4294967296 ≠ 0 by omega)]
    rw [and32 (x := (Y : Int)) (by omega) (by omega), and32 (x := (v : Int)) (by omega) (by omega)]
    obtain ⟨hst, hsr, hs0, hs1⟩ := St.start (y := (Y : Int)) (n1 := (Y : Int) / 4294967296) (n0 := (Y : Int) % 4294967296) (u := (u : Int)) (un := (v : Int) / 4294967296) (by omega) (by omega) (by omega) (by omega) (by omega) (by omega) (by omega) (by omega) (by omega)
    have q0 := hst.q0
    have q1 := hst.q1
    have r0 := hst.rl
    rw [Int.tdiv_eq_ediv_of_nonneg (by omega : (0 : Int) ≤ (u : Int)), u64 (x := (u : Int) / ((Y : Int) / 4294967296)) (by omega) (by omega), u64 (x := (u : Int) / ((Y : Int) / 4294967296) * ((Y : Int) / 4294967296)) (by omega) (by omega), u64 (x := (u : Int) - _) (by omega) (by omega)]
    obtain ⟨rem, hrem⟩ := loop0 (s := (s : Int)) (by omega) (by omega) (un0 := (v : Int) % 4294967296) (by omega) (by omega) 1000000 (by omega) 2 _ _ 1000000 hst hsr (by omega) (by omega)
    refine ⟨rem, hrem.trans ?_⟩
    rw [two_digits (by omega) (by omega) (by omega) (by omega) (by omega) (by omega) (by omega), ← qeq, ← uall]
    have e9 : (u : Int) * 18446744073709551616 + (v : Int) / 4294967296 * 4294967296 + (v : Int) % 4294967296 = ((u * 18446744073709551616 + v : Nat) : Int) := by omega
    rw [e9]


theorem div_eq {a b : Int} (ha : I64 a) (hb : I64 b) : fix.Div.f (a, b) = some (div a b) := by
  rw [fix.Div.eq, whole_eq, Option.bind_some, whole_eq, Option.bind_some, abs_eq (whs ha), Option.bind_some, abs_eq (whs hb), Option.bind_some, abs_wh, abs_wh]
  have a1 := abs_s ha; have b1 := abs_s hb
  have e : (!((decide (wh a < 0)) == (decide (wh b < 0)))) = sg a b := by unfold sg; rw [decide_eq_decide.2 (wh_neg_iff a), decide_eq_decide.2 (wh_neg_iff b)]; rfl
  rw [e, u64 (x := abs a) a1.1 (by omega), u64 (x := abs b) b1.1 (by omega)]
  unfold div
  simp only [fdiv_pow, Bool.cond_decide]
  rw [show (2 : Int) ^ 32 = 4294967296 from rfl]
  generalize abs a = x at *
  generalize abs b = y at *
  by_cases hx : x = 0
  · rw [if_pos hx, beq_iff_eq.2 hx]; rfl
  · rw [if_neg hx, beq_eq_false_iff_ne.2 hx, cond_false]
    have big : ∀ z : Int, 9223372036854775807 ≤ z → ∀ z' : Int, 9223372036854775807 ≤ z' → sgn (sg a b) z = sgn (sg a b) z' := by
      intro z hz z' hz'; unfold sgn top; congr 1 <;> repeat' split
      all_goals omega
    by_cases hh : x / 4294967296 ≥ y
    · rw [if_pos hh, signed_eq _ (by omega) (by omega) (by omega), Option.bind_some]
      by_cases hy : y = 0
      · rw [if_pos hy, big _ (by omega) 9223372036854775807 (by omega)]
      · rw [if_neg hy, big _ (by omega) (x * 4294967296 / y) _]
        rw [Int.le_ediv_iff_mul_le (by omega)]
        omega
    · have hy : ¬ y = 0 := by omega
      rw [if_neg hh, if_neg hy]
      obtain ⟨rem, hr⟩ := div64_eq (hi := x / 4294967296) (lo := IntKind.u64.wrap (x * 4294967296)) (y := y) (by omega) (by omega) (by rw [IntKind.wrap_u64]; omega) (by rw [IntKind.wrap_u64]; omega) (by omega)
      rw [hr, Option.bind_some]
      simp only
      have q0 : 0 ≤ x * 4294967296 / y := Int.ediv_nonneg (by omega) (by omega)
      have e2 : x / 4294967296 * 18446744073709551616 + IntKind.u64.wrap (x * 4294967296) = x * 4294967296 := by rw [IntKind.wrap_u64]; omega
      have q1 : x * 4294967296 / y < 18446744073709551616 := by
        rw [Int.ediv_lt_iff_lt_mul (by omega)]; omega
      rw [e2, signed_eq _ (by omega) q0 q1, Option.bind_some, Int.zero_mul, Int.zero_add]
def vlen (a : P2) : Int := sqrt (dot a a)
theorem vlen_s (a : P2) : S63 (vlen a) := sqrt_s (add_s _ _).i
theorem len_eq {a : P2} (ha : I2 a) : vec.Len.f a = some (vlen a) := by
  obtain ⟨x, y⟩ := a
  rw [vec.Len.eq, dot_eq ha ha, Option.bind_some, sqrt_eq (a := dot (x, y) (x, y)) (add_s _ _).i]; rfl
def vunit (a : P2) : P2 × Bool := if vlen a = 0 then ((0, 0), false) else ((div a.1 (vlen a), div a.2 (vlen a)), true)
theorem unit_eq {a : P2} (ha : I2 a) : vec.Unit.f a = some (vunit a) := by
  obtain ⟨x, y⟩ := a
  rw [vec.Unit.eq, len_eq ha, Option.bind_some]
  unfold vunit
  by_cases h : vlen (x, y) = 0
  · rw [if_pos h, beq_iff_eq.2 h]; rfl
  · rw [if_neg h, beq_eq_false_iff_ne.2 h, cond_false, div_eq ha.1 (vlen_s _).i, Option.bind_some, div_eq ha.2 (vlen_s _).i]; rfl
theorem vunit_s {a : P2} (ha : I2 a) : S2 (vunit a).1 := by
  unfold vunit
  split
  · unfold S2 S63; simp
  · exact ⟨div_s ha.1 (vlen_s _).i, div_s ha.2 (vlen_s _).i⟩
end Go.Proofs.Ytejlappndcakeaa.Y
