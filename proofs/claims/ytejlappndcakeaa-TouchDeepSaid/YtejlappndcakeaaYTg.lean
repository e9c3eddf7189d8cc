/- Gaps between polygons: touch.Gap, and the law's own gaps and first; bodies of places; the law's fit. -/
import Derived.Test.YtejlappndcakeaaYTb
namespace Go.Proofs.Ytejlappndcakeaa.Y
open Go Go.RowKit Go.Proofs.Ytejlappndcakeaa.E Go.Proofs.Ytejlappndcakeaa.Ma Go.Proofs.Ytejlappndcakeaa.Fw
set_option linter.unusedVariables false
set_option linter.unusedSimpArgs false

/-- How far, least, the first j places lie by a way from a corner. -/
def gl (nv pv : P2) (q : Nat → P2) : Nat → Int
  | 0 => 9223372036854775807
  | j + 1 => if dot nv (vsub (q j) pv) < gl nv pv q j then dot nv (vsub (q j) pv) else gl nv pv q j
/-- The gap of side i. -/
def gOf (n : Nat) (p : Nat → P2) (m : Nat) (q : Nat → P2) (i : Nat) : Int := gl (normOf n p i) (p i) q m
/-- The greatest one of the first i, and where it stands first. -/
def gs (h : Nat → Int) : Nat → Int × Nat
  | 0 => (-9223372036854775807, 0)
  | i + 1 => if i = 0 ∨ h i > (gs h i).1 then (h i, i) else gs h i
theorem gs_lt (h : Nat → Int) : ∀ n, 0 < n → (gs h n).2 < n
  | 0, h0 => by omega
  | n + 1, _ => by
    unfold gs
    split
    · show n < n + 1; omega
    · rename_i hc
      have := gs_lt h n (by omega)
      omega
theorem gs_val (h : Nat → Int) : ∀ n, 0 < n → (gs h n).1 = h (gs h n).2
  | 0, h0 => by omega
  | n + 1, _ => by
    unfold gs
    split
    · rfl
    · exact gs_val h n (by omega)
theorem gs_congr {h g : Nat → Int} : ∀ n, (∀ i, i < n → h i = g i) → gs h n = gs g n
  | 0, _ => rfl
  | n + 1, e => by
    unfold gs
    rw [gs_congr n fun i hi => e i (by omega), e n (by omega)]
theorem gl_congr {nv pv : P2} {q q' : Nat → P2} : ∀ m, (∀ j, j < m → q j = q' j) → gl nv pv q m = gl nv pv q' m
  | 0, _ => rfl
  | m + 1, e => by
    unfold gl
    rw [gl_congr m fun j hj => e j (by omega), e m (by omega)]
section
variable {n m : Nat} {p q : Nat → P2}
theorem gap_l1 (hn : n ≤ 1000) (hm : m ≤ 1000) (hp : ∀ i, i < n → I2 (p i)) (hq : ∀ i, i < m → I2 (q i)) (nv : P2) (hv : I2 nv) (k0 k1 : Nat) (b : Int) (sd : Nat) (l : Nat) (N : Nat → P2) (x : Int) {i : Nat} (hi : i < n) : ∀ (d j K : Nat), j + d = m → d < K →
    touch.Gap.l1 k0 k1 K nv.1 nv.2 n (fun i => Rii.enc (p i)) m (fun i => Rii.enc (q i)) b (sd : Int) (i : Int) (gl nv (p i) q j) l (fun i => Rii.enc (N i)) x (m : Int) (j : Int) =
      touch.Gap.l0 k0 k1 n (fun i => Rii.enc (p i)) m (fun i => Rii.enc (q i)) (if i = 0 ∨ gl nv (p i) q m > b then gl nv (p i) q m else b) ((if i = 0 ∨ gl nv (p i) q m > b then i else sd : Nat) : Int) l (fun i => Rii.enc (N i)) x ((i + 1 : Nat) : Int)
  | 0, j, K, h1, h2 => by
    obtain ⟨K, rfl⟩ : ∃ m, K = m + 1 := ⟨K - 1, by omega⟩
    have : j = m := by omega
    subst this
    rw [touch.Gap.l1_eq]
    simp only [Bool.cond_decide, wsucc hi hn]
    rw [if_neg (by omega)]
    by_cases h0 : i = 0
    · subst h0
      simp
    · have e : ((i : Int) == 0) = false := by simp; omega
      rw [e, cond_false]
      by_cases h3 : gl nv (p i) q j > b
      · simp [h0, h3]
      · simp [h0, h3]
  | d + 1, j, K, h1, h2 => by
    obtain ⟨K, rfl⟩ : ∃ m, K = m + 1 := ⟨K - 1, by omega⟩
    have hj : j < m := by omega
    have ih := gap_l1 hn hm hp hq nv hv k0 k1 b sd l N x hi d (j + 1) K (by omega) (by omega)
    rw [touch.Gap.l1_eq]
    simp only [Bool.cond_decide, ix_ok hj, ix_ok hi, cond_true, Int.toNat_natCast, wsucc hj hm]
    rw [if_pos (by omega), vsub_eq (a := q j) (b := p i) (hq j hj) (hp i hi), Option.bind_some, dot_eq (a := nv) (b := vsub (q j) (p i)) hv (vsub_s _ _).i, Option.bind_some]
    exact ih
theorem gap_l0 (hn : n ≤ 1000) (hm : m ≤ 1000) (hp : ∀ i, i < n → I2 (p i)) (hq : ∀ i, i < m → I2 (q i)) (N : Nat → P2) (hN : ∀ i, i < n → I2 (N i)) (k0 : Nat) (hk : 2000 ≤ k0) : ∀ (d i K : Nat), i + d = n → d < K →
    touch.Gap.l0 k0 K n (fun i => Rii.enc (p i)) m (fun i => Rii.enc (q i)) (gs (fun i => gl (N i) (p i) q m) i).1 ((gs (fun i => gl (N i) (p i) q m) i).2 : Int) n (fun i => Rii.enc (N i)) (n : Int) (i : Int) =
      some (((gs (fun i => gl (N i) (p i) q m) n).2 : Int), (gs (fun i => gl (N i) (p i) q m) n).1)
  | 0, i, K, h1, h2 => by
    obtain ⟨K, rfl⟩ : ∃ m, K = m + 1 := ⟨K - 1, by omega⟩
    have : i = n := by omega
    subst this
    rw [touch.Gap.l0_eq]
    simp only [Bool.cond_decide]
    rw [if_neg (by omega)]
  | d + 1, i, K, h1, h2 => by
    obtain ⟨K, rfl⟩ : ∃ m, K = m + 1 := ⟨K - 1, by omega⟩
    have hi : i < n := by omega
    have ih := gap_l0 hn hm hp hq N hN k0 hk d (i + 1) K (by omega) (by omega)
    rw [touch.Gap.l0_eq]
    simp only [Bool.cond_decide, ix_ok hi, cond_true, Int.toNat_natCast]
    rw [if_pos (by omega)]
    have := gap_l1 hn hm hp hq (N i) (hN i hi) k0 K (gs (fun i => gl (N i) (p i) q m) i).1 (gs (fun i => gl (N i) (p i) q m) i).2 n N (n : Int) hi m 0 k0 (by omega) (by omega)
    refine Eq.trans this ?_
    have e : gs (fun i => gl (N i) (p i) q m) (i + 1) = if i = 0 ∨ gl (N i) (p i) q m > (gs (fun i => gl (N i) (p i) q m) i).1 then (gl (N i) (p i) q m, i) else gs (fun i => gl (N i) (p i) q m) i := rfl
    rw [e] at ih
    split
    · rename_i hc; rw [if_pos hc] at ih; exact ih
    · rename_i hc; rw [if_neg hc] at ih; exact ih
theorem Gap_eq (hn : n ≤ 1000) (hm : m ≤ 1000) (hp : ∀ i, i < n → I2 (p i)) (hq : ∀ i, i < m → I2 (q i)) : touch.Gap.f ((n, fun i => Rii.enc (p i)), (m, fun i => Rii.enc (q i))) = some (((gs (gOf n p m q) n).2 : Int), (gs (gOf n p m q) n).1) := by
  show touch.Gap.g 1000000 _ = _
  rw [touch.Gap.eq, Normals_ex n hn p hp, Option.bind_some]
  have h := gap_l0 hn hm hp hq (cut0 (0, 0) n (normOf n p)) (fun i hi => by rw [cut0_lt hi]; exact (normOf_s n p i).i) 1000000 (by omega) n 0 1000000 (by omega) (by omega)
  have e : gs (fun i => gl (cut0 (0, 0) n (normOf n p) i) (p i) q m) n = gs (gOf n p m q) n := gs_congr n fun i hi => by rw [cut0_lt hi]; rfl
  rw [e] at h
  exact h
/-! The law's own. -/
theorem gl_one (nv pv : P2) : gl nv pv q 1 = dot nv (vsub (q 0) pv) := by
  have := dot_s nv (vsub (q 0) pv)
  unfold S63 at this
  unfold gl gl
  split
  · rfl
  · omega
theorem gaps_l3 (hn : n ≤ 1000) (hm : m ≤ 1000) (hp : ∀ i, i < n → I2 (p i)) (hq : ∀ i, i < m → I2 (q i)) (nv : P2) (hv : I2 nv) (k0 k1 : Nat) (v1 : Nat) (v2 : Nat → Int) (l : Nat) (N : Nat → P2) (x : Int) {i : Nat} (hi : i < n) (h0 : 0 < m) (hv1 : v1 ≤ 1000) : ∀ (d j K : Nat), j + d = m - 1 → d < K →
    law07.gaps.l3 k0 k1 K v1 (fun i => Ri.enc (v2 i)) nv.1 nv.2 n (fun i => Rii.enc (p i)) m (fun i => Rii.enc (q i)) (i : Int) (gl nv (p i) q (j + 1)) l (fun i => Rii.enc (N i)) x (m - 1) (fun i => Rii.enc (q (1 + i))) ((m - 1 : Nat) : Int) (j : Int) =
      law07.gaps.l2 k0 k1 (v1 + 1) (fun i' => Ri.enc (upd1 v2 v1 (gl nv (p i) q m) i')) n (fun i => Rii.enc (p i)) m (fun i => Rii.enc (q i)) l (fun i => Rii.enc (N i)) x ((i + 1 : Nat) : Int)
  | 0, j, K, h1, h2 => by
    obtain ⟨K, rfl⟩ : ∃ m, K = m + 1 := ⟨K - 1, by omega⟩
    have : j + 1 = m := by omega
    rw [law07.gaps.l3_eq]
    simp only [Bool.cond_decide, wsucc hi hn, row_upd_ren Ri_ren]
    rw [if_neg (by omega), if_pos (by omega), this]
  | d + 1, j, K, h1, h2 => by
    obtain ⟨K, rfl⟩ : ∃ m, K = m + 1 := ⟨K - 1, by omega⟩
    have hj : j < m - 1 := by omega
    have ih := gaps_l3 hn hm hp hq nv hv k0 k1 v1 v2 l N x hi h0 hv1 d (j + 1) K (by omega) (by omega)
    have e1 : 1 + j = j + 1 := by omega
    rw [law07.gaps.l3_eq]
    simp only [Bool.cond_decide, ix_ok hj, ix_ok hi, cond_true, Int.toNat_natCast, wsucc hj (show m - 1 ≤ 1000 by omega)]
    rw [if_pos (by omega), vsub_eq (a := q (1 + j)) (b := p i) (hq _ (by omega)) (hp i hi), Option.bind_some, dot_eq (a := nv) (b := vsub (q (1 + j)) (p i)) hv (vsub_s _ _).i, Option.bind_some, e1]
    exact ih
theorem gaps_l2 (hn : n ≤ 1000) (hm : m ≤ 1000) (hp : ∀ i, i < n → I2 (p i)) (hq : ∀ i, i < m → I2 (q i)) (N : Nat → P2) (hN : ∀ i, i < n → I2 (N i)) (h0 : 0 < m) (k0 : Nat) (hk : 2000 ≤ k0) : ∀ (d i K : Nat), i + d = n → d < K →
    law07.gaps.l2 k0 K i (fun j => Ri.enc (cut0 0 i (fun i => gl (N i) (p i) q m) j)) n (fun i => Rii.enc (p i)) m (fun i => Rii.enc (q i)) n (fun i => Rii.enc (N i)) (n : Int) (i : Int) = some (n, cut0 0 n (fun i => gl (N i) (p i) q m))
  | 0, i, K, h1, h2 => by
    obtain ⟨K, rfl⟩ : ∃ m, K = m + 1 := ⟨K - 1, by omega⟩
    have : i = n := by omega
    subst this
    rw [law07.gaps.l2_eq]
    simp only [Bool.cond_decide]
    rw [if_neg (by omega), dec_tTL, decRows_enc Ri_dec]
  | d + 1, i, K, h1, h2 => by
    obtain ⟨K, rfl⟩ : ∃ m, K = m + 1 := ⟨K - 1, by omega⟩
    have hi : i < n := by omega
    have ih := gaps_l2 hn hm hp hq N hN h0 k0 hk d (i + 1) K (by omega) (by omega)
    rw [law07.gaps.l2_eq]
    simp only [Bool.cond_decide, ix_ok hi, cond_true, Int.toNat_natCast]
    rw [if_pos (by omega), if_pos (by omega), vsub_eq (a := q 0) (b := p i) (hq 0 h0) (hp i hi), Option.bind_some, dot_eq (a := N i) (b := vsub (q 0) (p i)) (hN i hi) (vsub_s _ _).i, Option.bind_some, if_pos (by omega)]
    have := gaps_l3 hn hm hp hq (N i) (hN i hi) k0 K i (cut0 0 i (fun i => gl (N i) (p i) q m)) n N (n : Int) hi h0 (by omega) (m - 1) 0 k0 (by omega) (by omega)
    rw [gl_one] at this
    refine Eq.trans this ?_
    have e : upd1 (cut0 0 i (fun i => gl (N i) (p i) q m)) i (gl (N i) (p i) q m) = cut0 0 (i + 1) (fun i => gl (N i) (p i) q m) := upd_cut0 _ _ _
    rw [e]
    exact ih
theorem gaps_eq (hn : n ≤ 1000) (hm : m ≤ 1000) (h0 : 0 < m) (hp : ∀ i, i < n → I2 (p i)) (hq : ∀ i, i < m → I2 (q i)) : law07.gaps.f ((n, fun i => Rii.enc (p i)), (m, fun i => Rii.enc (q i))) = some (n, cut0 0 n (gOf n p m q)) := by
  show law07.gaps.g 1000000 _ = _
  rw [law07.gaps.eq, Normals_ex n hn p hp, Option.bind_some]
  have h := gaps_l2 hn hm hp hq (cut0 (0, 0) n (normOf n p)) (fun i hi => by rw [cut0_lt hi]; exact (normOf_s n p i).i) h0 1000000 (by omega) n 0 1000000 (by omega) (by omega)
  rw [cut0_zero] at h
  have e : cut0 0 n (fun i => gl (cut0 (0, 0) n (normOf n p) i) (p i) q m) = cut0 0 n (gOf n p m q) := cut0_congr fun i hi => by rw [cut0_lt hi]; rfl
  rw [e] at h
  exact h
theorem first_loop (h : Nat → Int) (hn : n ≤ 1000) (k0 : Nat) : ∀ (d i K : Nat), i + d = n → d < K → 0 < i →
    law07.first.l0 k0 K n (fun i => Ri.enc (h i)) ((gs h i).2 : Int) (n : Int) (i : Int) = some ((gs h n).2 : Int)
  | 0, i, K, h1, h2, h0 => by
    obtain ⟨K, rfl⟩ : ∃ m, K = m + 1 := ⟨K - 1, by omega⟩
    have : i = n := by omega
    subst this
    rw [law07.first.l0_eq]
    simp only [Bool.cond_decide]
    rw [if_neg (by omega)]
  | d + 1, i, K, h1, h2, h0 => by
    obtain ⟨K, rfl⟩ : ∃ m, K = m + 1 := ⟨K - 1, by omega⟩
    have hi : i < n := by omega
    have ih := first_loop h hn k0 d (i + 1) K (by omega) (by omega) (by omega)
    have hlt := gs_lt h i h0
    rw [law07.first.l0_eq]
    simp only [Bool.cond_decide, ix_ok hi, ix_ok (show (gs h i).2 < n by omega), cond_true, Int.toNat_natCast, wsucc hi hn]
    have hv := gs_val h i h0
    rw [if_pos (by omega)]
    have e : gs h (i + 1) = if i = 0 ∨ h i > (gs h i).1 then (h i, i) else gs h i := rfl
    rw [e] at ih
    split
    · rename_i hc; rw [if_pos (.inr (by omega))] at ih; exact ih
    · rename_i hc; rw [if_neg (by omega)] at ih; exact ih
theorem first_eq (h : Nat → Int) (hn : n ≤ 1000) (h0 : 0 < n) : law07.first.f (n, fun i => Ri.enc (h i)) = some ((gs h n).2 : Int) := by
  show law07.first.g 1000000 _ = _
  rw [law07.first.eq, law07.first.l0_eq]
  simp only [Bool.cond_decide]
  rw [if_pos (by omega)]
  have z : ((decide (0 ≤ (0 : Int))) && (decide ((0 : Int) < (n : Int)))) = true := ix_ok (i := 0) h0
  simp only [z, cond_true]
  rw [if_neg (by omega)]
  have := first_loop h hn 1000000 (n - 1) 1 999999 (by omega) (by omega) (by omega)
  exact this
end
/-! ### Bodies of places -/
noncomputable def bodyPos (e f : Int) : P2 := bring2 (e, f) 4294967296000
theorem bodyPos_b (e f : Int) : -4294967296000 ≤ (bodyPos e f).1 ∧ (bodyPos e f).1 ≤ 4294967296000 ∧ -4294967296000 ≤ (bodyPos e f).2 ∧ (bodyPos e f).2 ≤ 4294967296000 := by
  have h1 := bringI_b (a := e) (m := 4294967296000) (by omega)
  have h2 := bringI_b (a := f) (m := 4294967296000) (by omega)
  exact ⟨h1.1, h1.2, h2.1, h2.2⟩
theorem bodyPos_i (e f : Int) : I2 (bodyPos e f) := by have := bodyPos_b e f; unfold I2 I64; omega
theorem Body_eq (a b c d e f ang : Int) : ∃ g, law06.Place.Body.f (a, b, c, d, e, f, ang) = some (0, (bodyPos e f).1, (bodyPos e f).2, 0, 0, ang % 4294967296, 0, 0, seedKd a, seedR a c, seedN a b, g) ∧ ∀ i, i < seedN a b → g i = seedPt a b c d i := by
  obtain ⟨g, g1, g2⟩ := Seed_eq a b c d
  refine ⟨g, ?_, g2⟩
  rw [law06.Place.Body.eq, bring2_eq (by omega) (by omega), Option.bind_some, g1, Option.bind_some]
  simp only [dec_tG, dec_tCons, dec_tOne, dec_tI, dec_tTL, Option.bind_some, decRows_enc Rii_dec, m32]
  rfl
theorem seedN_b (a b : Int) : seedN a b ≤ 8 := by
  unfold seedN
  repeat' split
  all_goals omega
theorem seed_i {a b c d : Int} {g : Nat → P2} (h : ∀ i, i < seedN a b → g i = seedPt a b c d i) : ∀ i, i < seedN a b → I2 (g i) := fun i hi => by rw [h i hi]; exact (seed_near a b c d i hi).i
end Go.Proofs.Ytejlappndcakeaa.Y
