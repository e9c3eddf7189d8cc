/- Worlds: finding, removing, rising (printed by wip/tools/mkwb.py). -/
import Derived.Test.YtbcnifnmccaleaaYWa
namespace Go.Proofs.Ytbcnifnmccaleaa.Y
open Go Go.RowKit Go.Proofs.Ytbcnifnmccaleaa.E Go.Proofs.Ytbcnifnmccaleaa.Ma Go.Proofs.Ytbcnifnmccaleaa.Fw
set_option linter.unusedVariables false
set_option linter.unusedSimpArgs false
set_option maxRecDepth 10000

/-- Rows that are right as far as the list goes. -/
theorem rowT_rows {β : Type} {T : RowT β} (hT : ∀ x, T.row.dec (T.row.enc x) = some x) (n : Nat) (g : Nat → β) (G : Nat → List AV) (hG : ∀ i, i < n → G i = T.row.enc (g i)) :
    ∃ y, T.dec (.slc 0 0 none none) ⟨true, T.e, T.sz, n, G, none⟩ = some y ∧ lst y = lst (n, g) ∧ y.1 = n := by
  unfold RowT.dec rowsDec
  simp only [Nat.beq_refl, Bool.and_self]
  rw [if_pos fun i hi => ⟨g i, by rw [hG i hi, hT]⟩]
  refine ⟨_, rfl, ?_, rfl⟩
  unfold lst
  apply List.map_congr_left
  intro i hi
  have hi' : i < n := by simpa using hi
  show (T.row.dec (G i)).getD T.z = g i
  rw [hG i hi', hT]; rfl
theorem filter_all {α : Type} (p : α → Bool) (n : Nat) (g : Nat → α) (h : ∀ j, j < n → p (g j) = false) : ((List.range n).map g).filter (fun b => !p b) = (List.range n).map g := by
  rw [List.filter_eq_self]
  intro a ha
  simp only [List.mem_map, List.mem_range] at ha
  obtain ⟨j, hj, rfl⟩ := ha
  rw [h j hj]; rfl
theorem cmp_eq (a b : Int) : cmp.Compare_int.f (a, b) = some (cmpI a b) := by
  rw [cmp.Compare_int.eq, cmp.isNaN_int.eq, Option.bind_some, cmp.isNaN_int.eq, Option.bind_some]
  have h : ∀ x : Int, (x != x) = false := fun x => by simp
  rw [h, h, cond_false, cond_false]
  unfold cmpI
  by_cases h1 : a < b
  · simp [h1]
  · by_cases h2 : b < a
    · simp [h1, h2]
    · simp [h1, h2]

/-! ### Body RemoveBody_1 -/
def goneB (x : Int) (a : BT) : Bool := a.1 == x
theorem goneB_eq (a : BT) (x : Int) : world.RemoveBody_1.f (a, x) = some (goneB x a) := by
  have e : world.RemoveBody_1.f (a, x) = some (a.1 == x) := by kernel_rfl
  unfold goneB
  exact e
theorem indexB (n : Nat) (hn : n ≤ 900000) (g : Nat → BT) (x : Int) : (∃ q, q < n ∧ goneB x (g q) = true ∧ (∀ j, j < q → goneB x (g j) = false) ∧ slices.IndexFunc_lBody_Body.f ((n, fun i => RiiiiiiiiiiL2.enc (g i)), x) = some (q : Int)) ∨
    ((∀ j, j < n → goneB x (g j) = false) ∧ slices.IndexFunc_lBody_Body.f ((n, fun i => RiiiiiiiiiiL2.enc (g i)), x) = some (-1)) := by
  have h := scan_index (n := n) (by omega) (fun i => goneB x (g i)) (fun K i => slices.IndexFunc_lBody_Body.l0 1000000 K n (fun i => RiiiiiiiiiiL2.enc (g i)) x (n : Int) i) (fun k i => by
    rw [slices.IndexFunc_lBody_Body.l0_eq]
    simp only [goneB_eq, Option.bind_some]) n 0 1000000 (by omega) (by omega) (fun j hj => by omega)
  have e : slices.IndexFunc_lBody_Body.f ((n, fun i => RiiiiiiiiiiL2.enc (g i)), x) = slices.IndexFunc_lBody_Body.l0 1000000 1000000 n (fun i => RiiiiiiiiiiL2.enc (g i)) x (n : Int) ((0 : Nat) : Int) := slices.IndexFunc_lBody_Body.eq 1000000 n g x
  rw [e]
  exact h
theorem deleteB (n : Nat) (hn : n ≤ 900000) (g : Nat → BT) (x : Int) : ∃ y, slices.DeleteFunc_lBody_Body.f ((n, fun i => RiiiiiiiiiiL2.enc (g i)), x) = some y ∧ lst y = (lst (n, g)).filter (fun b => !goneB x b) := by
  have e : slices.DeleteFunc_lBody_Body.f ((n, fun i => RiiiiiiiiiiL2.enc (g i)), x) = slices.DeleteFunc_lBody_Body.g 1000000 ((n, fun i => RiiiiiiiiiiL2.enc (g i)), x) := rfl
  rw [e, slices.DeleteFunc_lBody_Body.eq]
  rcases indexB n hn g x with ⟨q, h1, h2, h3, h4⟩ | ⟨h1, h4⟩
  · rw [h4, Option.bind_some]
    have hq : ((q : Int) == -1) = false := by simp
    rw [hq, cond_false, wrap_nat q (by omega)]
    obtain ⟨m, g', e1, e2, e3⟩ := scan_delete (n := n) (by omega) (goneB x) g (fun K g i j => slices.DeleteFunc_lBody_Body.l0 1000000 K n (fun t => RiiiiiiiiiiL2.enc (g t)) x i j)
      (fun g i => bif (decide (0 ≤ i) && decide (i < ((n : Nat) : Int))) then (bif (decide (0 ≤ i) && decide (i ≤ ((n : Nat) : Int))) then (RowT.mk RiiiiiiiiiiL2 43 11 (0, 0, 0, 0, 0, 0, 0, 0, 0, 0, (0, fun _ => []))).dec (.slc 0 0 none none) ⟨true, 43, 11, Int.toNat i, (fun t => cloL (if t < Int.toNat i then RiiiiiiiiiiL2.enc (g t) else [.val (.int .i64 0), .val (.int .i64 0), .val (.int .i64 0), .val (.int .i64 0), .val (.int .i64 0), .val (.int .i64 0), .val (.int .i64 0), .val (.int .i64 0), .val (.int .i64 0), .val (.int .i64 0), .val (.slice none 0 0)])), none⟩ else none) else none)
      (fun k g i j => by
        rw [slices.DeleteFunc_lBody_Body.l0_eq]
        simp only [goneB_eq, Option.bind_some, row_upd_ren RiiiiiiiiiiL2_ren]) (n - (q + 1)) q (q + 1) 1000000 g (by omega) (by omega) (by omega) (fun t _ _ => rfl) (by
        rw [List.range_succ, List.map_append, List.filter_append, filter_all _ _ _ h3]
        simp [h2])
    rw [e3, in_nat m n (by omega), cond_true]
    have e4 : (decide (0 ≤ (m : Int)) && decide ((m : Int) ≤ ((n : Nat) : Int))) = true := by simp; omega
    rw [e4, cond_true, Int.toNat_natCast]
    obtain ⟨y, y1, y2, y3⟩ := rowT_rows (T := (RowT.mk RiiiiiiiiiiL2 43 11 (0, 0, 0, 0, 0, 0, 0, 0, 0, 0, (0, fun _ => [])))) RiiiiiiiiiiL2_dec m g' (fun t => cloL (if t < m then RiiiiiiiiiiL2.enc (g' t) else [.val (.int .i64 0), .val (.int .i64 0), .val (.int .i64 0), .val (.int .i64 0), .val (.int .i64 0), .val (.int .i64 0), .val (.int .i64 0), .val (.int .i64 0), .val (.int .i64 0), .val (.int .i64 0), .val (.slice none 0 0)])) (fun i hi => by simp only [if_pos hi]; exact RiiiiiiiiiiL2_clo _)
    exact ⟨y, y1, y2.trans e2⟩
  · rw [h4, Option.bind_some]
    obtain ⟨y, y1, y2, y3⟩ := rowT_rows (T := (RowT.mk RiiiiiiiiiiL2 43 11 (0, 0, 0, 0, 0, 0, 0, 0, 0, 0, (0, fun _ => [])))) RiiiiiiiiiiL2_dec n g (fun t => RiiiiiiiiiiL2.enc (g t)) (fun i hi => rfl)
    refine ⟨y, y1, ?_⟩
    rw [y2]
    exact (filter_all _ _ _ h1).symm
theorem withoutB (n : Nat) (hn : n ≤ 900000) (g : Nat → BT) (x : Int) : ∃ y, world.without_Body.f ((n, fun i => RiiiiiiiiiiL2.enc (g i)), x) = some y ∧ lst y = (lst (n, g)).filter (fun b => !goneB x b) := by
  have hc : decide (n * 104 ≤ 140737488355328) = true := by simp; omega
  rw [world.without_Body.eq, slices.Clone_lBody_Body.eq, hc, cond_true, Option.bind_some]
  obtain ⟨y, h1, h2⟩ := deleteB n hn g x
  refine ⟨y, ?_, h2⟩
  simp only [h1, Option.bind_some, dec_tTL, decRows_enc RiiiiiiiiiiL2_dec]

/-! ### Joint RemoveBody_2 -/
def goneJ (x : Int) (a : JT) : Bool := a.2.1 == x || a.2.2.1 == x
theorem goneJ_eq (a : JT) (x : Int) : world.RemoveBody_2.f (a, x) = some (goneJ x a) := by
  rw [world.RemoveBody_2.eq]
  unfold goneJ
  cases h : (a.2.1 == x) <;> simp
theorem indexJ (n : Nat) (hn : n ≤ 900000) (g : Nat → JT) (x : Int) : (∃ q, q < n ∧ goneJ x (g q) = true ∧ (∀ j, j < q → goneJ x (g j) = false) ∧ slices.IndexFunc_lJoint_Joint.f ((n, fun i => Riiiiiiii.enc (g i)), x) = some (q : Int)) ∨
    ((∀ j, j < n → goneJ x (g j) = false) ∧ slices.IndexFunc_lJoint_Joint.f ((n, fun i => Riiiiiiii.enc (g i)), x) = some (-1)) := by
  have h := scan_index (n := n) (by omega) (fun i => goneJ x (g i)) (fun K i => slices.IndexFunc_lJoint_Joint.l0 1000000 K n (fun i => Riiiiiiii.enc (g i)) x (n : Int) i) (fun k i => by
    rw [slices.IndexFunc_lJoint_Joint.l0_eq]
    simp only [goneJ_eq, Option.bind_some]) n 0 1000000 (by omega) (by omega) (fun j hj => by omega)
  have e : slices.IndexFunc_lJoint_Joint.f ((n, fun i => Riiiiiiii.enc (g i)), x) = slices.IndexFunc_lJoint_Joint.l0 1000000 1000000 n (fun i => Riiiiiiii.enc (g i)) x (n : Int) ((0 : Nat) : Int) := slices.IndexFunc_lJoint_Joint.eq 1000000 n g x
  rw [e]
  exact h
theorem deleteJ (n : Nat) (hn : n ≤ 900000) (g : Nat → JT) (x : Int) : ∃ y, slices.DeleteFunc_lJoint_Joint.f ((n, fun i => Riiiiiiii.enc (g i)), x) = some y ∧ lst y = (lst (n, g)).filter (fun b => !goneJ x b) := by
  have e : slices.DeleteFunc_lJoint_Joint.f ((n, fun i => Riiiiiiii.enc (g i)), x) = slices.DeleteFunc_lJoint_Joint.g 1000000 ((n, fun i => Riiiiiiii.enc (g i)), x) := rfl
  rw [e, slices.DeleteFunc_lJoint_Joint.eq]
  rcases indexJ n hn g x with ⟨q, h1, h2, h3, h4⟩ | ⟨h1, h4⟩
  · rw [h4, Option.bind_some]
    have hq : ((q : Int) == -1) = false := by simp
    rw [hq, cond_false, wrap_nat q (by omega)]
    obtain ⟨m, g', e1, e2, e3⟩ := scan_delete (n := n) (by omega) (goneJ x) g (fun K g i j => slices.DeleteFunc_lJoint_Joint.l0 1000000 K n (fun t => Riiiiiiii.enc (g t)) x i j)
      (fun g i => bif (decide (0 ≤ i) && decide (i < ((n : Nat) : Int))) then (bif (decide (0 ≤ i) && decide (i ≤ ((n : Nat) : Int))) then (RowT.mk Riiiiiiii 51 8 (0, 0, 0, 0, 0, 0, 0, 0)).dec (.slc 0 0 none none) ⟨true, 51, 8, Int.toNat i, (fun t => cloL (if t < Int.toNat i then Riiiiiiii.enc (g t) else [.val (.int .i64 0), .val (.int .i64 0), .val (.int .i64 0), .val (.int .i64 0), .val (.int .i64 0), .val (.int .i64 0), .val (.int .i64 0), .val (.int .i64 0)])), none⟩ else none) else none)
      (fun k g i j => by
        rw [slices.DeleteFunc_lJoint_Joint.l0_eq]
        simp only [goneJ_eq, Option.bind_some, row_upd_ren Riiiiiiii_ren]) (n - (q + 1)) q (q + 1) 1000000 g (by omega) (by omega) (by omega) (fun t _ _ => rfl) (by
        rw [List.range_succ, List.map_append, List.filter_append, filter_all _ _ _ h3]
        simp [h2])
    rw [e3, in_nat m n (by omega), cond_true]
    have e4 : (decide (0 ≤ (m : Int)) && decide ((m : Int) ≤ ((n : Nat) : Int))) = true := by simp; omega
    rw [e4, cond_true, Int.toNat_natCast]
    obtain ⟨y, y1, y2, y3⟩ := rowT_rows (T := (RowT.mk Riiiiiiii 51 8 (0, 0, 0, 0, 0, 0, 0, 0))) Riiiiiiii_dec m g' (fun t => cloL (if t < m then Riiiiiiii.enc (g' t) else [.val (.int .i64 0), .val (.int .i64 0), .val (.int .i64 0), .val (.int .i64 0), .val (.int .i64 0), .val (.int .i64 0), .val (.int .i64 0), .val (.int .i64 0)])) (fun i hi => by simp only [if_pos hi]; exact Riiiiiiii_clo _)
    exact ⟨y, y1, y2.trans e2⟩
  · rw [h4, Option.bind_some]
    obtain ⟨y, y1, y2, y3⟩ := rowT_rows (T := (RowT.mk Riiiiiiii 51 8 (0, 0, 0, 0, 0, 0, 0, 0))) Riiiiiiii_dec n g (fun t => Riiiiiiii.enc (g t)) (fun i hi => rfl)
    refine ⟨y, y1, ?_⟩
    rw [y2]
    exact (filter_all _ _ _ h1).symm
theorem withoutJ (n : Nat) (hn : n ≤ 900000) (g : Nat → JT) (x : Int) : ∃ y, world.without_Joint.f ((n, fun i => Riiiiiiii.enc (g i)), x) = some y ∧ lst y = (lst (n, g)).filter (fun b => !goneJ x b) := by
  have hc : decide (n * 64 ≤ 140737488355328) = true := by simp; omega
  rw [world.without_Joint.eq, slices.Clone_lJoint_Joint.eq, hc, cond_true, Option.bind_some]
  obtain ⟨y, h1, h2⟩ := deleteJ n hn g x
  refine ⟨y, ?_, h2⟩
  simp only [h1, Option.bind_some, dec_tTL, decRows_enc Riiiiiiii_dec]

/-! ### Joint RemoveJoint_1 -/
def goneJ_v1 (x : Int) (a : JT) : Bool := a.1 == x
theorem goneJ_v1_eq (a : JT) (x : Int) : world.RemoveJoint_1.f (a, x) = some (goneJ_v1 x a) := by
  have e : world.RemoveJoint_1.f (a, x) = some (a.1 == x) := by kernel_rfl
  unfold goneJ_v1
  exact e
theorem indexJ_v1 (n : Nat) (hn : n ≤ 900000) (g : Nat → JT) (x : Int) : (∃ q, q < n ∧ goneJ_v1 x (g q) = true ∧ (∀ j, j < q → goneJ_v1 x (g j) = false) ∧ slices.IndexFunc_lJoint_Joint_v1.f ((n, fun i => Riiiiiiii.enc (g i)), x) = some (q : Int)) ∨
    ((∀ j, j < n → goneJ_v1 x (g j) = false) ∧ slices.IndexFunc_lJoint_Joint_v1.f ((n, fun i => Riiiiiiii.enc (g i)), x) = some (-1)) := by
  have h := scan_index (n := n) (by omega) (fun i => goneJ_v1 x (g i)) (fun K i => slices.IndexFunc_lJoint_Joint_v1.l0 1000000 K n (fun i => Riiiiiiii.enc (g i)) x (n : Int) i) (fun k i => by
    rw [slices.IndexFunc_lJoint_Joint_v1.l0_eq]
    simp only [goneJ_v1_eq, Option.bind_some]) n 0 1000000 (by omega) (by omega) (fun j hj => by omega)
  have e : slices.IndexFunc_lJoint_Joint_v1.f ((n, fun i => Riiiiiiii.enc (g i)), x) = slices.IndexFunc_lJoint_Joint_v1.l0 1000000 1000000 n (fun i => Riiiiiiii.enc (g i)) x (n : Int) ((0 : Nat) : Int) := slices.IndexFunc_lJoint_Joint_v1.eq 1000000 n g x
  rw [e]
  exact h
theorem deleteJ_v1 (n : Nat) (hn : n ≤ 900000) (g : Nat → JT) (x : Int) : ∃ y, slices.DeleteFunc_lJoint_Joint_v1.f ((n, fun i => Riiiiiiii.enc (g i)), x) = some y ∧ lst y = (lst (n, g)).filter (fun b => !goneJ_v1 x b) := by
  have e : slices.DeleteFunc_lJoint_Joint_v1.f ((n, fun i => Riiiiiiii.enc (g i)), x) = slices.DeleteFunc_lJoint_Joint_v1.g 1000000 ((n, fun i => Riiiiiiii.enc (g i)), x) := rfl
  rw [e, slices.DeleteFunc_lJoint_Joint_v1.eq]
  rcases indexJ_v1 n hn g x with ⟨q, h1, h2, h3, h4⟩ | ⟨h1, h4⟩
  · rw [h4, Option.bind_some]
    have hq : ((q : Int) == -1) = false := by simp
    rw [hq, cond_false, wrap_nat q (by omega)]
    obtain ⟨m, g', e1, e2, e3⟩ := scan_delete (n := n) (by omega) (goneJ_v1 x) g (fun K g i j => slices.DeleteFunc_lJoint_Joint_v1.l0 1000000 K n (fun t => Riiiiiiii.enc (g t)) x i j)
      (fun g i => bif (decide (0 ≤ i) && decide (i < ((n : Nat) : Int))) then (bif (decide (0 ≤ i) && decide (i ≤ ((n : Nat) : Int))) then (RowT.mk Riiiiiiii 51 8 (0, 0, 0, 0, 0, 0, 0, 0)).dec (.slc 0 0 none none) ⟨true, 51, 8, Int.toNat i, (fun t => cloL (if t < Int.toNat i then Riiiiiiii.enc (g t) else [.val (.int .i64 0), .val (.int .i64 0), .val (.int .i64 0), .val (.int .i64 0), .val (.int .i64 0), .val (.int .i64 0), .val (.int .i64 0), .val (.int .i64 0)])), none⟩ else none) else none)
      (fun k g i j => by
        rw [slices.DeleteFunc_lJoint_Joint_v1.l0_eq]
        simp only [goneJ_v1_eq, Option.bind_some, row_upd_ren Riiiiiiii_ren]) (n - (q + 1)) q (q + 1) 1000000 g (by omega) (by omega) (by omega) (fun t _ _ => rfl) (by
        rw [List.range_succ, List.map_append, List.filter_append, filter_all _ _ _ h3]
        simp [h2])
    rw [e3, in_nat m n (by omega), cond_true]
    have e4 : (decide (0 ≤ (m : Int)) && decide ((m : Int) ≤ ((n : Nat) : Int))) = true := by simp; omega
    rw [e4, cond_true, Int.toNat_natCast]
    obtain ⟨y, y1, y2, y3⟩ := rowT_rows (T := (RowT.mk Riiiiiiii 51 8 (0, 0, 0, 0, 0, 0, 0, 0))) Riiiiiiii_dec m g' (fun t => cloL (if t < m then Riiiiiiii.enc (g' t) else [.val (.int .i64 0), .val (.int .i64 0), .val (.int .i64 0), .val (.int .i64 0), .val (.int .i64 0), .val (.int .i64 0), .val (.int .i64 0), .val (.int .i64 0)])) (fun i hi => by simp only [if_pos hi]; exact Riiiiiiii_clo _)
    exact ⟨y, y1, y2.trans e2⟩
  · rw [h4, Option.bind_some]
    obtain ⟨y, y1, y2, y3⟩ := rowT_rows (T := (RowT.mk Riiiiiiii 51 8 (0, 0, 0, 0, 0, 0, 0, 0))) Riiiiiiii_dec n g (fun t => Riiiiiiii.enc (g t)) (fun i hi => rfl)
    refine ⟨y, y1, ?_⟩
    rw [y2]
    exact (filter_all _ _ _ h1).symm
theorem withoutJ_v1 (n : Nat) (hn : n ≤ 900000) (g : Nat → JT) (x : Int) : ∃ y, world.without_Joint_v1.f ((n, fun i => Riiiiiiii.enc (g i)), x) = some y ∧ lst y = (lst (n, g)).filter (fun b => !goneJ_v1 x b) := by
  have hc : decide (n * 64 ≤ 140737488355328) = true := by simp; omega
  rw [world.without_Joint_v1.eq, slices.Clone_lJoint_Joint.eq, hc, cond_true, Option.bind_some]
  obtain ⟨y, h1, h2⟩ := deleteJ_v1 n hn g x
  refine ⟨y, ?_, h2⟩
  simp only [h1, Option.bind_some, dec_tTL, decRows_enc Riiiiiiii_dec]

/-! ### Contact RemoveBody_3 -/
def goneC (x : Int) (a : CT) : Bool := a.1 == x || a.2.1 == x
theorem goneC_eq (a : CT) (x : Int) : world.RemoveBody_3.f (a, x) = some (goneC x a) := by
  rw [world.RemoveBody_3.eq]
  unfold goneC
  cases h : (a.1 == x) <;> simp
theorem indexC (n : Nat) (hn : n ≤ 900000) (g : Nat → CT) (x : Int) : (∃ q, q < n ∧ goneC x (g q) = true ∧ (∀ j, j < q → goneC x (g j) = false) ∧ slices.IndexFunc_lContact_Contact.f ((n, fun i => Riiiii.enc (g i)), x) = some (q : Int)) ∨
    ((∀ j, j < n → goneC x (g j) = false) ∧ slices.IndexFunc_lContact_Contact.f ((n, fun i => Riiiii.enc (g i)), x) = some (-1)) := by
  have h := scan_index (n := n) (by omega) (fun i => goneC x (g i)) (fun K i => slices.IndexFunc_lContact_Contact.l0 1000000 K n (fun i => Riiiii.enc (g i)) x (n : Int) i) (fun k i => by
    rw [slices.IndexFunc_lContact_Contact.l0_eq]
    simp only [goneC_eq, Option.bind_some]) n 0 1000000 (by omega) (by omega) (fun j hj => by omega)
  have e : slices.IndexFunc_lContact_Contact.f ((n, fun i => Riiiii.enc (g i)), x) = slices.IndexFunc_lContact_Contact.l0 1000000 1000000 n (fun i => Riiiii.enc (g i)) x (n : Int) ((0 : Nat) : Int) := slices.IndexFunc_lContact_Contact.eq 1000000 n g x
  rw [e]
  exact h
theorem deleteC (n : Nat) (hn : n ≤ 900000) (g : Nat → CT) (x : Int) : ∃ y, slices.DeleteFunc_lContact_Contact.f ((n, fun i => Riiiii.enc (g i)), x) = some y ∧ lst y = (lst (n, g)).filter (fun b => !goneC x b) := by
  have e : slices.DeleteFunc_lContact_Contact.f ((n, fun i => Riiiii.enc (g i)), x) = slices.DeleteFunc_lContact_Contact.g 1000000 ((n, fun i => Riiiii.enc (g i)), x) := rfl
  rw [e, slices.DeleteFunc_lContact_Contact.eq]
  rcases indexC n hn g x with ⟨q, h1, h2, h3, h4⟩ | ⟨h1, h4⟩
  · rw [h4, Option.bind_some]
    have hq : ((q : Int) == -1) = false := by simp
    rw [hq, cond_false, wrap_nat q (by omega)]
    obtain ⟨m, g', e1, e2, e3⟩ := scan_delete (n := n) (by omega) (goneC x) g (fun K g i j => slices.DeleteFunc_lContact_Contact.l0 1000000 K n (fun t => Riiiii.enc (g t)) x i j)
      (fun g i => bif (decide (0 ≤ i) && decide (i < ((n : Nat) : Int))) then (bif (decide (0 ≤ i) && decide (i ≤ ((n : Nat) : Int))) then (RowT.mk Riiiii 69 5 (0, 0, 0, 0, 0)).dec (.slc 0 0 none none) ⟨true, 69, 5, Int.toNat i, (fun t => cloL (if t < Int.toNat i then Riiiii.enc (g t) else [.val (.int .i64 0), .val (.int .i64 0), .val (.int .i64 0), .val (.int .i64 0), .val (.int .i64 0)])), none⟩ else none) else none)
      (fun k g i j => by
        rw [slices.DeleteFunc_lContact_Contact.l0_eq]
        simp only [goneC_eq, Option.bind_some, row_upd_ren Riiiii_ren]) (n - (q + 1)) q (q + 1) 1000000 g (by omega) (by omega) (by omega) (fun t _ _ => rfl) (by
        rw [List.range_succ, List.map_append, List.filter_append, filter_all _ _ _ h3]
        simp [h2])
    rw [e3, in_nat m n (by omega), cond_true]
    have e4 : (decide (0 ≤ (m : Int)) && decide ((m : Int) ≤ ((n : Nat) : Int))) = true := by simp; omega
    rw [e4, cond_true, Int.toNat_natCast]
    obtain ⟨y, y1, y2, y3⟩ := rowT_rows (T := (RowT.mk Riiiii 69 5 (0, 0, 0, 0, 0))) Riiiii_dec m g' (fun t => cloL (if t < m then Riiiii.enc (g' t) else [.val (.int .i64 0), .val (.int .i64 0), .val (.int .i64 0), .val (.int .i64 0), .val (.int .i64 0)])) (fun i hi => by simp only [if_pos hi]; exact Riiiii_clo _)
    exact ⟨y, y1, y2.trans e2⟩
  · rw [h4, Option.bind_some]
    obtain ⟨y, y1, y2, y3⟩ := rowT_rows (T := (RowT.mk Riiiii 69 5 (0, 0, 0, 0, 0))) Riiiii_dec n g (fun t => Riiiii.enc (g t)) (fun i hi => rfl)
    refine ⟨y, y1, ?_⟩
    rw [y2]
    exact (filter_all _ _ _ h1).symm
theorem withoutC (n : Nat) (hn : n ≤ 900000) (g : Nat → CT) (x : Int) : ∃ y, world.without_Contact.f ((n, fun i => Riiiii.enc (g i)), x) = some y ∧ lst y = (lst (n, g)).filter (fun b => !goneC x b) := by
  have hc : decide (n * 40 ≤ 140737488355328) = true := by simp; omega
  rw [world.without_Contact.eq, slices.Clone_lContact_Contact.eq, hc, cond_true, Option.bind_some]
  obtain ⟨y, h1, h2⟩ := deleteC n hn g x
  refine ⟨y, ?_, h2⟩
  simp only [h1, Option.bind_some, dec_tTL, decRows_enc Riiiii_dec]

/-! ### Body: finding, rising -/
theorem keyB_eq (a : BT) (x : Int) : world.find_Body_1.f (a, x, ()) = some (cmpI a.1 x) := by
  have e : world.find_Body_1.f (a, x, ()) = (world.Body_1.f a).bind fun r1 => (cmp.Compare_int.f (r1, x)).bind fun r2 => some r2 := by kernel_rfl
  have e2 : world.Body_1.f a = some a.1 := by kernel_rfl
  rw [e, e2, Option.bind_some, cmp_eq, Option.bind_some]
theorem findB (n : Nat) (hn : n ≤ 900000) (g : Nat → BT) (hs : ∀ a b, a < b → b < n → (g a).1 < (g b).1) (x : Int) :
    (∃ p, p < n ∧ (g p).1 = x ∧ world.find_Body.f ((n, fun i => RiiiiiiiiiiL2.enc (g i)), x, ()) = some ((p : Int), true)) ∨ ((∀ p, p < n → (g p).1 ≠ x) ∧ world.find_Body.f ((n, fun i => RiiiiiiiiiiL2.enc (g i)), x, ()) = some (0, false)) := by
  obtain ⟨p, h1, h2, h3, b, h4, h5⟩ := scan_bs (n := n) (by omega) (fun i => (g i).1) x (fun K i j => slices.BinarySearchFunc_lBody_Body_int.l0 1000000 K n (fun i => RiiiiiiiiiiL2.enc (g i)) x (n : Int) i j) (fun k i j => by
    rw [slices.BinarySearchFunc_lBody_Body_int.l0_eq]
    simp only [keyB_eq, Option.bind_some]
    rfl) hs n 0 n 1000000 (by omega) (by omega) (by omega) (by omega) (fun a ha => by omega) (fun a h1 h2 => by omega)
  have e : slices.BinarySearchFunc_lBody_Body_int.f ((n, fun i => RiiiiiiiiiiL2.enc (g i)), x, ()) = slices.BinarySearchFunc_lBody_Body_int.l0 1000000 1000000 n (fun i => RiiiiiiiiiiL2.enc (g i)) x (n : Int) ((0 : Nat) : Int) (n : Int) := slices.BinarySearchFunc_lBody_Body_int.eq 1000000 n g x
  rw [world.find_Body.eq, e, h5, Option.bind_some]
  cases b with
  | true => exact .inl ⟨p, (h4.1 rfl).1, (h4.1 rfl).2, rfl⟩
  | false =>
    refine .inr ⟨fun t ht he => ?_, rfl⟩
    have hne : ¬ (p < n ∧ (g p).1 = x) := fun hh => by have := h4.2 hh; cases this
    by_cases htp : t < p
    · have := h2 t htp; omega
    · have h6 := h3 t (by omega) ht
      by_cases e : t = p
      · subst e; exact hne ⟨ht, he⟩
      · have h7 := h3 p (Nat.le_refl _) (by omega)
        have h8 := hs p t (by omega) ht
        omega
def RiseB (n : Nat) (g : Nat → BT) (next : Int) : Prop := (∀ t, t < n → (if t = 0 then 0 else (g (t - 1)).1) < (g t).1 ∧ (g t).1 < next) ∧ 1 ≤ next
theorem risingB (n : Nat) (hn : n ≤ 900000) (g : Nat → BT) (next : Int) : Tells (world.rising_Body.f ((n, fun i => RiiiiiiiiiiL2.enc (g i)), next, ())) (RiseB n g next) := by
  have e2 : ∀ a : BT, world.Right_1.f a = some a.1 := fun a => by kernel_rfl
  have h := scan_rise (n := n) (by omega) (fun i => (g i).1) next (fun K last i => world.rising_Body.l0 1000000 K next last n (fun i => RiiiiiiiiiiL2.enc (g i)) (n : Int) i) (fun k last i => by
    rw [world.rising_Body.l0_eq]
    simp only [e2, Option.bind_some]) n 0 1000000 0 (by omega) (by omega)
  have e : world.rising_Body.f ((n, fun i => RiiiiiiiiiiL2.enc (g i)), next, ()) = world.rising_Body.l0 1000000 1000000 next 0 n (fun i => RiiiiiiiiiiL2.enc (g i)) (n : Int) ((0 : Nat) : Int) := world.rising_Body.eq 1000000 n g next
  rw [e]
  obtain ⟨b, h1, h2⟩ := h
  refine ⟨b, h1, h2.trans ⟨fun hq => ⟨fun t ht => hq.1 t (by omega) ht, hq.2⟩, fun hq => ⟨fun t _ ht => hq.1 t ht, hq.2⟩⟩⟩
theorem RiseB.pos {n : Nat} {g : Nat → BT} {next : Int} (h : RiseB n g next) : ∀ t, t < n → 0 < (g t).1 ∧ (g t).1 < next
  | 0, ht => by have := h.1 0 ht; rw [if_pos rfl] at this; exact this
  | t + 1, ht => by
    have := h.1 (t + 1) ht
    rw [if_neg (by omega), Nat.add_sub_cancel] at this
    have h2 := h.pos t (by omega)
    omega
theorem RiseB.asc {n : Nat} {g : Nat → BT} {next : Int} (h : RiseB n g next) (a : Nat) : ∀ b, a < b → b < n → (g a).1 < (g b).1
  | 0, hab, _ => by omega
  | b + 1, hab, hb => by
    have := h.1 (b + 1) hb
    rw [if_neg (by omega), Nat.add_sub_cancel] at this
    by_cases e : a = b
    · subst e; exact this.1
    · have := h.asc a b (by omega) (by omega)
      omega
theorem RiseB.of {n : Nat} {g : Nat → BT} {next : Int} (h1 : ∀ t, t < n → 0 < (g t).1 ∧ (g t).1 < next) (h2 : ∀ a b, a < b → b < n → (g a).1 < (g b).1) (h3 : 1 ≤ next) : RiseB n g next :=
  ⟨fun t ht => by
    refine ⟨?_, (h1 t ht).2⟩
    split
    · exact (h1 t ht).1
    · exact h2 (t - 1) t (by omega) ht, h3⟩

/-! ### Joint: finding, rising -/
theorem keyJ_eq (a : JT) (x : Int) : world.find_Joint_1.f (a, x, ()) = some (cmpI a.1 x) := by
  have e : world.find_Joint_1.f (a, x, ()) = (world.Joint_1.f a).bind fun r1 => (cmp.Compare_int.f (r1, x)).bind fun r2 => some r2 := by kernel_rfl
  have e2 : world.Joint_1.f a = some a.1 := by kernel_rfl
  rw [e, e2, Option.bind_some, cmp_eq, Option.bind_some]
theorem findJ (n : Nat) (hn : n ≤ 900000) (g : Nat → JT) (hs : ∀ a b, a < b → b < n → (g a).1 < (g b).1) (x : Int) :
    (∃ p, p < n ∧ (g p).1 = x ∧ world.find_Joint.f ((n, fun i => Riiiiiiii.enc (g i)), x, ()) = some ((p : Int), true)) ∨ ((∀ p, p < n → (g p).1 ≠ x) ∧ world.find_Joint.f ((n, fun i => Riiiiiiii.enc (g i)), x, ()) = some (0, false)) := by
  obtain ⟨p, h1, h2, h3, b, h4, h5⟩ := scan_bs (n := n) (by omega) (fun i => (g i).1) x (fun K i j => slices.BinarySearchFunc_lJoint_Joint_int.l0 1000000 K n (fun i => Riiiiiiii.enc (g i)) x (n : Int) i j) (fun k i j => by
    rw [slices.BinarySearchFunc_lJoint_Joint_int.l0_eq]
    simp only [keyJ_eq, Option.bind_some]
    rfl) hs n 0 n 1000000 (by omega) (by omega) (by omega) (by omega) (fun a ha => by omega) (fun a h1 h2 => by omega)
  have e : slices.BinarySearchFunc_lJoint_Joint_int.f ((n, fun i => Riiiiiiii.enc (g i)), x, ()) = slices.BinarySearchFunc_lJoint_Joint_int.l0 1000000 1000000 n (fun i => Riiiiiiii.enc (g i)) x (n : Int) ((0 : Nat) : Int) (n : Int) := slices.BinarySearchFunc_lJoint_Joint_int.eq 1000000 n g x
  rw [world.find_Joint.eq, e, h5, Option.bind_some]
  cases b with
  | true => exact .inl ⟨p, (h4.1 rfl).1, (h4.1 rfl).2, rfl⟩
  | false =>
    refine .inr ⟨fun t ht he => ?_, rfl⟩
    have hne : ¬ (p < n ∧ (g p).1 = x) := fun hh => by have := h4.2 hh; cases this
    by_cases htp : t < p
    · have := h2 t htp; omega
    · have h6 := h3 t (by omega) ht
      by_cases e : t = p
      · subst e; exact hne ⟨ht, he⟩
      · have h7 := h3 p (Nat.le_refl _) (by omega)
        have h8 := hs p t (by omega) ht
        omega
def RiseJ (n : Nat) (g : Nat → JT) (next : Int) : Prop := (∀ t, t < n → (if t = 0 then 0 else (g (t - 1)).1) < (g t).1 ∧ (g t).1 < next) ∧ 1 ≤ next
theorem risingJ (n : Nat) (hn : n ≤ 900000) (g : Nat → JT) (next : Int) : Tells (world.rising_Joint.f ((n, fun i => Riiiiiiii.enc (g i)), next, ())) (RiseJ n g next) := by
  have e2 : ∀ a : JT, world.Right_2.f a = some a.1 := fun a => by kernel_rfl
  have h := scan_rise (n := n) (by omega) (fun i => (g i).1) next (fun K last i => world.rising_Joint.l0 1000000 K next last n (fun i => Riiiiiiii.enc (g i)) (n : Int) i) (fun k last i => by
    rw [world.rising_Joint.l0_eq]
    simp only [e2, Option.bind_some]) n 0 1000000 0 (by omega) (by omega)
  have e : world.rising_Joint.f ((n, fun i => Riiiiiiii.enc (g i)), next, ()) = world.rising_Joint.l0 1000000 1000000 next 0 n (fun i => Riiiiiiii.enc (g i)) (n : Int) ((0 : Nat) : Int) := world.rising_Joint.eq 1000000 n g next
  rw [e]
  obtain ⟨b, h1, h2⟩ := h
  refine ⟨b, h1, h2.trans ⟨fun hq => ⟨fun t ht => hq.1 t (by omega) ht, hq.2⟩, fun hq => ⟨fun t _ ht => hq.1 t ht, hq.2⟩⟩⟩
theorem RiseJ.pos {n : Nat} {g : Nat → JT} {next : Int} (h : RiseJ n g next) : ∀ t, t < n → 0 < (g t).1 ∧ (g t).1 < next
  | 0, ht => by have := h.1 0 ht; rw [if_pos rfl] at this; exact this
  | t + 1, ht => by
    have := h.1 (t + 1) ht
    rw [if_neg (by omega), Nat.add_sub_cancel] at this
    have h2 := h.pos t (by omega)
    omega
theorem RiseJ.asc {n : Nat} {g : Nat → JT} {next : Int} (h : RiseJ n g next) (a : Nat) : ∀ b, a < b → b < n → (g a).1 < (g b).1
  | 0, hab, _ => by omega
  | b + 1, hab, hb => by
    have := h.1 (b + 1) hb
    rw [if_neg (by omega), Nat.add_sub_cancel] at this
    by_cases e : a = b
    · subst e; exact this.1
    · have := h.asc a b (by omega) (by omega)
      omega
theorem RiseJ.of {n : Nat} {g : Nat → JT} {next : Int} (h1 : ∀ t, t < n → 0 < (g t).1 ∧ (g t).1 < next) (h2 : ∀ a b, a < b → b < n → (g a).1 < (g b).1) (h3 : 1 ≤ next) : RiseJ n g next :=
  ⟨fun t ht => by
    refine ⟨?_, (h1 t ht).2⟩
    split
    · exact (h1 t ht).1
    · exact h2 (t - 1) t (by omega) ht, h3⟩
end Go.Proofs.Ytbcnifnmccaleaa.Y
