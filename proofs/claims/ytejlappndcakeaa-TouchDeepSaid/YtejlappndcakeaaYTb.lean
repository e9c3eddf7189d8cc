/- The base of touches: vectors, rotations, corners, normals, in plain words and exactly. -/
import Derived.Test.YtejlappndcakeaaYSe
import Derived.Test.YtejlappndcakeaaYDv
import Derived.OpenShut
namespace Go.Proofs.Ytejlappndcakeaa.Y
open Go Go.RowKit Go.Proofs.Ytejlappndcakeaa.E Go.Proofs.Ytejlappndcakeaa.Ma Go.Proofs.Ytejlappndcakeaa.Fw
set_option linter.unusedVariables false
set_option linter.unusedSimpArgs false

def vadd (a b : P2) : P2 := (add a.1 b.1, add a.2 b.2)
def vneg (a : P2) : P2 := (neg a.1, neg a.2)
def vscale (a : P2) (s : Int) : P2 := (mul a.1 s, mul a.2 s)
def vapply (r a : P2) : P2 := (sub (mul r.1 a.1) (mul r.2 a.2), add (mul r.2 a.1) (mul r.1 a.2))
def bringI (a lo hi : Int) : Int := if hi < (if lo > wh a then lo else wh a) then hi else (if lo > wh a then lo else wh a)
def bring2 (a : P2) (m : Int) : P2 := (bringI a.1 (-m) m, bringI a.2 (-m) m)
theorem vadd_s (a b : P2) : S2 (vadd a b) := ⟨add_s _ _, add_s _ _⟩
theorem vneg_s {a : P2} (h : I2 a) : S2 (vneg a) := ⟨neg_s h.1, neg_s h.2⟩
theorem vscale_s {a : P2} {s : Int} (h : I2 a) (hs : I64 s) : S2 (vscale a s) := ⟨mul_s h.1 hs, mul_s h.2 hs⟩
theorem vapply_s (r a : P2) : S2 (vapply r a) := ⟨sub_s _ _, add_s _ _⟩
theorem cross_s (a b : P2) : S63 (cross a b) := sub_s _ _
theorem dot_s (a b : P2) : S63 (dot a b) := add_s _ _
theorem bringI_b {a m : Int} (hm : 0 ≤ m) : -m ≤ bringI a (-m) m ∧ bringI a (-m) m ≤ m := by
  unfold bringI
  repeat' split
  all_goals omega
theorem vadd_eq {a b : P2} (ha : I2 a) (hb : I2 b) : vec.Add.f (a, b) = some (vadd a b) := by
  obtain ⟨a1, a2⟩ := a; obtain ⟨b1, b2⟩ := b
  rw [vec.Add.eq, add_eq' ha.1 hb.1, Option.bind_some, add_eq' ha.2 hb.2]; rfl
theorem vneg_eq {a : P2} (ha : I2 a) : vec.Neg.f a = some (vneg a) := by
  obtain ⟨a1, a2⟩ := a
  rw [vec.Neg.eq, neg_eq ha.1, Option.bind_some, neg_eq ha.2]; rfl
theorem vscale_eq {a : P2} {s : Int} (ha : I2 a) (hs : I64 s) : vec.Scale.f (a, s) = some (vscale a s) := by
  obtain ⟨a1, a2⟩ := a
  rw [vec.Scale.eq, mul_eq ha.1 hs, Option.bind_some, mul_eq ha.2 hs]; rfl
theorem vapply_eq {r a : P2} (hr : I2 r) (ha : I2 a) : vec.Apply.f (r, a) = some (vapply r a) := by
  obtain ⟨a1, a2⟩ := a; obtain ⟨r1, r2⟩ := r
  rw [vec.Apply.eq, mul_eq hr.1 ha.1, Option.bind_some, mul_eq hr.2 ha.2, Option.bind_some, sub_eq' (mul_s hr.1 ha.1).i (mul_s hr.2 ha.2).i, Option.bind_some, mul_eq hr.2 ha.1, Option.bind_some, mul_eq hr.1 ha.2, Option.bind_some, add_eq' (mul_s hr.2 ha.1).i (mul_s hr.1 ha.2).i]; rfl
theorem bringI_eq (a lo hi : Int) : fix.Bring.f (a, lo, hi) = some (bringI a lo hi) := by
  rw [fix.Bring.eq, whole_eq, Option.bind_some]; rfl
theorem bring2_eq {a : P2} {m : Int} (h0 : 0 ≤ m) (h1 : m ≤ 9223372036854775807) : vec.Bring.f (a, m) = some (bring2 a m) := by
  obtain ⟨a1, a2⟩ := a
  rw [vec.Bring.eq]
  rw [w64 (x := 0 - m) (by unfold I64; omega), Int.zero_sub, bringI_eq, Option.bind_some, bringI_eq]; rfl

/-! ### Rotations -/
theorem m10 (x : Int) : Go.bits .and .i64 x 1023 = x % 1024 := mask (m := 10) (by omega) x
theorem tab_b : ∀ i : Fin 257, 0 ≤ List.getD Tab3586caee i.val 0 ∧ List.getD Tab3586caee i.val 0 ≤ 4294967296 := by decide +kernel
theorem Sine_eq {k : Int} (h0 : 0 ≤ k) (h1 : k ≤ 256) : ∃ v, api.Sine.f k = some v ∧ I64 v := by
  have := tab_b ⟨k.toNat, by omega⟩
  refine ⟨List.getD Tab3586caee k.toNat 0, ?_, by unfold I64; simp only at this; omega⟩
  rw [api.Sine.eq]
  simp only [Bool.cond_decide]
  rw [if_neg (by omega), if_neg (by omega), show ((decide (0 ≤ k)) && (decide (k < 257))) = true by simp; omega]
  rfl
theorem sine1_eq {n : Int} (h0 : 0 ≤ n) (h1 : n ≤ 512) : ∃ v, turn.sine_1.f n = some v ∧ I64 v := by
  rw [turn.sine_1.eq]
  simp only [m10, Bool.cond_decide]
  rw [show n % 1024 = n by omega]
  split
  · obtain ⟨v, a, b⟩ := Sine_eq (k := n) h0 (by omega)
    rw [a]; exact ⟨v, rfl, b⟩
  · rw [w64 (x := 512 - n) (by unfold I64; omega)]
    obtain ⟨v, a, b⟩ := Sine_eq (k := 512 - n) (by omega) (by omega)
    rw [a]; exact ⟨v, rfl, b⟩
theorem sine_eq (n : Int) : ∃ v, turn.sine.f n = some v ∧ I64 v := by
  rw [turn.sine.eq]
  simp only [m10, Bool.cond_decide]
  have b0 : 0 ≤ n % 1024 ∧ n % 1024 < 1024 := by omega
  generalize n % 1024 = k at *
  split
  · obtain ⟨v, a, b⟩ := Sine_eq (k := k) (by omega) (by omega)
    rw [a]; exact ⟨v, rfl, b⟩
  · split
    · rw [w64 (x := 512 - k) (by unfold I64; omega)]
      obtain ⟨v, a, b⟩ := Sine_eq (k := 512 - k) (by omega) (by omega)
      rw [a]; exact ⟨v, rfl, b⟩
    · rw [w64 (x := k - 512) (by unfold I64; omega)]
      obtain ⟨v, a, b⟩ := sine1_eq (n := k - 512) (by omega) (by omega)
      rw [a]
      refine ⟨_, rfl, ?_⟩
      rw [IntKind.wrap_i64]; unfold I64; omega
noncomputable def rotF (a : Int) : P2 := (turn.Of.f a).getD (0, 0)
theorem rot_eq (a : Int) : turn.Of.f a = some (rotF a) ∧ I2 (rotF a) := by
  have h : ∃ r, turn.Of.f a = some r ∧ I2 r := by
    rw [turn.Of.eq, turn.Step.eq, turn.Wrap.eq, Option.bind_some, Option.bind_some]
    obtain ⟨v, a1, a2⟩ := sine_eq (IntKind.i64.wrap (Int.fdiv (Go.bits .and .i64 a 4294967295) (2 ^ 22) + 256))
    obtain ⟨u, b1, b2⟩ := sine_eq (Int.fdiv (Go.bits .and .i64 a 4294967295) (2 ^ 22))
    rw [a1, b1]
    exact ⟨(v, u), rfl, a2, b2⟩
  obtain ⟨r, h1, h2⟩ := h
  unfold rotF
  rw [h1]
  exact ⟨rfl, h2⟩

/-! ### Lists that are made row by row -/
def cut0 {α : Type} (z : α) (n : Nat) (h : Nat → α) : Nat → α := fun j => if j < n then h j else z
theorem upd_cut0 {α : Type} (z : α) (i : Nat) (h : Nat → α) : upd1 (cut0 z i h) i (h i) = cut0 z (i + 1) h := by
  funext j
  unfold upd1 cut0
  by_cases h1 : j = i
  · subst h1; simp
  · have : (j < i) = (j < i + 1) := by simp; omega
    simp [h1, this]
theorem cut0_zero {α : Type} (z : α) (h : Nat → α) : cut0 z 0 h = fun _ => z := by funext j; simp [cut0]
theorem cut0_lt {α : Type} {z : α} {n j : Nat} {h : Nat → α} (hj : j < n) : cut0 z n h j = h j := by unfold cut0; rw [if_pos hj]
theorem cut0_congr {α : Type} {z : α} {n : Nat} {h g : Nat → α} (e : ∀ j, j < n → h j = g j) : cut0 z n h = cut0 z n g := by
  funext j
  unfold cut0
  split
  · exact e j (by assumption)
  · rfl
def normOf (n : Nat) (g : Nat → P2) (i : Nat) : P2 := (vunit ((vsub (g ((i + 1) % n)) (g i)).2, neg (vsub (g ((i + 1) % n)) (g i)).1)).1
theorem normOf_s (n : Nat) (g : Nat → P2) (i : Nat) : S2 (normOf n g i) := by
  have h := vsub_s (g ((i + 1) % n)) (g i)
  exact vunit_s (a := ((vsub (g ((i + 1) % n)) (g i)).2, neg (vsub (g ((i + 1) % n)) (g i)).1)) ⟨h.2.i, (neg_s h.1.i).i⟩
theorem normals_loop (n : Nat) (hn : n ≤ 1000) (g : Nat → P2) (hg : ∀ i, i < n → I2 (g i)) (k0 : Nat) : ∀ (d i k : Nat), i + d = n → d < k →
    shape.Normals.l2 k0 k i (fun j => Rii.enc (cut0 (0, 0) i (normOf n g) j)) n (fun i => Rii.enc (g i)) n i = some (n, cut0 (0, 0) n (normOf n g))
  | 0, i, k, h1, h3 => by
    obtain ⟨k, rfl⟩ : ∃ m, k = m + 1 := ⟨k - 1, by omega⟩
    have : i = n := by omega
    subst this
    rw [shape.Normals.l2_eq]
    simp only [Bool.cond_decide]
    rw [if_neg (by omega), dec_tTL, decRows_enc Rii_dec]
  | d + 1, i, k, h1, h3 => by
    obtain ⟨k, rfl⟩ : ∃ m, k = m + 1 := ⟨k - 1, by omega⟩
    have hi : i < n := by omega
    have hq : (i + 1) % n < n := Nat.mod_lt _ (by omega)
    have hs := vsub_s (g ((i + 1) % n)) (g i)
    have ih := normals_loop n hn g hg k0 d (i + 1) k (by omega) (by omega)
    rw [shape.Normals.l2_eq]
    simp only [tmod_next hi hn]
    simp only [Bool.cond_decide, ix_ok hi, ix_ok hq, cond_true, Int.toNat_natCast, row_upd_ren Rii_ren, wsucc hi hn]
    rw [if_pos (by omega), if_pos (by omega), vsub_eq (a := g ((i + 1) % n)) (b := g i) (hg _ hq) (hg _ hi), Option.bind_some, neg_eq hs.1.i, Option.bind_some, unit_eq (a := ((vsub (g ((i + 1) % n)) (g i)).2, neg (vsub (g ((i + 1) % n)) (g i)).1)) ⟨hs.2.i, (neg_s hs.1.i).i⟩, Option.bind_some, if_pos (by omega)]
    have e : upd1 (cut0 (0, 0) i (normOf n g)) i (normOf n g i) = cut0 (0, 0) (i + 1) (normOf n g) := upd_cut0 _ _ _
    rw [← e] at ih
    exact ih
theorem Normals_ex (n : Nat) (hn : n ≤ 1000) (g : Nat → P2) (hg : ∀ i, i < n → I2 (g i)) : shape.Normals.f (n, fun i => Rii.enc (g i)) = some (n, cut0 (0, 0) n (normOf n g)) := by
  have h := normals_loop n hn g hg 1000000 n 0 1000000 (by omega) (by omega)
  rw [cut0_zero] at h
  show shape.Normals.g 1000000 _ = _
  rw [shape.Normals.eq]
  exact h
noncomputable def inPlace (pos : P2) (ang : Int) (g : Nat → P2) (i : Nat) : P2 := vadd pos (vapply (rotF ang) (g i))
theorem corners_loop (kd r ang : Int) (pos : P2) (hp : I2 pos) (n : Nat) (hn : n ≤ 1000) (g : Nat → P2) (hg : ∀ i, i < n → I2 (g i)) (k0 : Nat) : ∀ (d i k : Nat), i + d = n → d < k →
    shape.Corners.l2 k0 k kd r n (fun i => Rii.enc (g i)) pos.1 pos.2 (rotF ang).1 (rotF ang).2 i (fun j => Rii.enc (cut0 (0, 0) i (inPlace pos ang g) j)) n i = some (n, cut0 (0, 0) n (inPlace pos ang g))
  | 0, i, k, h1, h3 => by
    obtain ⟨k, rfl⟩ : ∃ m, k = m + 1 := ⟨k - 1, by omega⟩
    have : i = n := by omega
    subst this
    rw [shape.Corners.l2_eq]
    simp only [Bool.cond_decide]
    rw [if_neg (by omega), dec_tTL, decRows_enc Rii_dec]
  | d + 1, i, k, h1, h3 => by
    obtain ⟨k, rfl⟩ : ∃ m, k = m + 1 := ⟨k - 1, by omega⟩
    have hi : i < n := by omega
    have ih := corners_loop kd r ang pos hp n hn g hg k0 d (i + 1) k (by omega) (by omega)
    rw [shape.Corners.l2_eq]
    simp only [Bool.cond_decide, ix_ok hi, cond_true, Int.toNat_natCast, row_upd_ren Rii_ren, wsucc hi hn]
    rw [if_pos (by omega), vapply_eq (r := rotF ang) (a := g i) (rot_eq ang).2 (hg _ hi), Option.bind_some, vadd_eq (a := pos) (b := vapply (rotF ang) (g i)) hp (vapply_s _ _).i, Option.bind_some, if_pos (by omega)]
    have e : upd1 (cut0 (0, 0) i (inPlace pos ang g)) i (inPlace pos ang g i) = cut0 (0, 0) (i + 1) (inPlace pos ang g) := upd_cut0 _ _ _
    rw [← e] at ih
    exact ih
noncomputable def cornersP (kd : Int) (n : Nat) (g : Nat → P2) (pos : P2) (ang : Int) : Nat × (Nat → P2) := if kd = 2 then (n, cut0 (0, 0) n (inPlace pos ang g)) else (0, fun _ => (0, 0))
theorem Corners_ex (kd r ang : Int) (pos : P2) (hp : I2 pos) (n : Nat) (hn : n ≤ 1000) (g : Nat → P2) (hg : ∀ i, i < n → I2 (g i)) : shape.Corners.f ((kd, r, (n, fun i => Rii.enc (g i))), pos, ang) = some (cornersP kd n g pos ang) := by
  have h := corners_loop kd r ang pos hp n hn g hg 1000000 n 0 1000000 (by omega) (by omega)
  rw [cut0_zero] at h
  obtain ⟨px, py⟩ := pos
  show shape.Corners.g 1000000 _ = _
  rw [shape.Corners.eq]
  unfold cornersP
  by_cases h2 : kd = 2
  · subst h2
    simp only [bne_self_eq_false, cond_false, if_true]
    rw [(rot_eq ang).1, Option.bind_some]
    exact h
  · rw [show (kd != 2) = true by simpa using h2, if_neg h2]
    exact dec_tTL0 _ _ _
theorem cornersP_s (kd : Int) (n : Nat) (g : Nat → P2) (pos : P2) (ang : Int) (i : Nat) : S2 ((cornersP kd n g pos ang).2 i) := by
  unfold cornersP
  split
  · show S2 (cut0 _ _ _ i)
    unfold cut0
    split
    · exact vadd_s _ _
    · unfold S2 S63; simp
  · show S2 (0, 0)
    unfold S2 S63; simp
theorem cornersP_n (kd : Int) (n : Nat) (g : Nat → P2) (pos : P2) (ang : Int) (hn : n ≤ 1000) : (cornersP kd n g pos ang).1 ≤ 1000 := by
  unfold cornersP
  split
  · exact hn
  · show 0 ≤ 1000; omega
end Go.Proofs.Ytejlappndcakeaa.Y
