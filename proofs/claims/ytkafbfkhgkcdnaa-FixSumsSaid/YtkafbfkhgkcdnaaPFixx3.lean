-- Printed by a program of this session (wip/tools/myprint.py) out of the translation; Lean checks it.
import Derived.Test.YtkafbfkhgkcdnaaPFixx0
import Derived.Test.YtkafbfkhgkcdnaaPFixx1
import Derived.Test.YtkafbfkhgkcdnaaPFixx2
namespace Go.Proofs.Ytkafbfkhgkcdnaa.PFix
open Go.RowKit Go.Proofs.YtkafbfkhgkcdnaaW.PrintWords Go.Proofs.YtkafbfkhgkcdnaaW.PrintLast Go.Proofs.YtkafbfkhgkcdnaaW.PrintMore
attribute [local go_sem] max2_int min2_int max_two min_two max_three min_three max_four min_four   -- for this text's walks alone
set_option linter.unusedVariables false
set_option linter.unusedSimpArgs false

/-! ### bagatellelaw01_size: function 15 -/
def bagatellelaw01_size.f (a0 : Int) : Option (Int) := if a0 = (-9223372036854775808) then (some 9223372036854775807) else (if a0 < 0 then (some (IntKind.u64.wrap (wrap64 (-a0)))) else (some (IntKind.u64.wrap (a0))))
set_option maxHeartbeats 8000000 in
set_option maxRecDepth 100000 in
theorem bagatellelaw01_size.calls (a0 : Int) (r : Int) (w : World) (h : bagatellelaw01_size.f a0 = some r) :
    Calls Try.prog 15 #[.int .i64 a0] w fun e w' => e = .returned (.int .u64 r) ∧ Drawn0 w w' := by
  have H : (if a0 = (-9223372036854775808) then (some 9223372036854775807) else (if a0 < 0 then (some (IntKind.u64.wrap (wrap64 (-a0)))) else (some (IntKind.u64.wrap (a0))))) = some r := h
  clear h
  by_cases c2 : a0 = (-9223372036854775808)
  · rw [if_pos c2] at H
    have c2b0 : (a0 == (-9223372036854775808)) = true := beq_iff_eq.mpr c2
    have c2b1 : (a0 != (-9223372036854775808)) = false := bne_eq_false_iff_eq.mpr c2
    clear c2
    obtain rfl := Option.some.inj H
    go_enter Try.func15, Try.ntmps15
    go_wp2
    go_ret
    exact ⟨by first | rfl | (simp; done) | (simp [*]; done) | (simp [wrap64]; done) | (congr 2 <;> first | rfl | (unfold wrap64; omega)), by repeat (first | exact Drawn0.refl _ | apply Drawn0.step)⟩
  · rw [if_neg c2] at H
    have c2b0 : (a0 == (-9223372036854775808)) = false := beq_eq_false_iff_ne.mpr c2
    have c2b1 : (a0 != (-9223372036854775808)) = true := bne_iff_ne.mpr c2
    by_cases c3 : a0 < 0
    · rw [if_pos c3] at H
      have c3b0 : decide (a0 < 0) = true := decide_eq_true c3
      clear c3
      obtain rfl := Option.some.inj H
      go_enter Try.func15, Try.ntmps15
      go_wp2
      go_ret
      exact ⟨by first | rfl | (simp; done) | (simp [*]; done) | (simp [wrap64]; done) | (congr 2 <;> first | rfl | (unfold wrap64; omega)), by repeat (first | exact Drawn0.refl _ | apply Drawn0.step)⟩
    · rw [if_neg c3] at H
      have c3b0 : decide (a0 < 0) = false := decide_eq_false c3
      clear c3
      obtain rfl := Option.some.inj H
      go_enter Try.func15, Try.ntmps15
      go_wp2
      go_ret
      exact ⟨by first | rfl | (simp; done) | (simp [*]; done) | (simp [wrap64]; done) | (congr 2 <;> first | rfl | (unfold wrap64; omega)), by repeat (first | exact Drawn0.refl _ | apply Drawn0.step)⟩

/-! ### bagatellelaw01_cmp: function 16 -/
def bagatellelaw01_cmp.j0 : Nat → Bool → Bool → Int → Int → Bool → Int → Int → Option (Int)
  | 0, _, _, _, _, _, _, _ => none
  | k + 1, x5, x138000, x138001, x138002, x139000, x139001, x139002 => if x5 = true then (some (-1)) else (if x138001 = x139001 then (if x138002 = x139002 then (some 0) else (some 1)) else (some 1))
def bagatellelaw01_cmp.f (k : Nat) (a0_0 : Bool) (a0_1 : Int) (a0_2 : Int) (a1_0 : Bool) (a1_1 : Int) (a1_2 : Int) : Option (Int) := if a0_1 < a1_1 then (bagatellelaw01_cmp.j0 k true a0_0 a0_1 a0_2 a1_0 a1_1 a1_2) else (if a0_1 = a1_1 then (bagatellelaw01_cmp.j0 k (decide (a0_2 < a1_2)) a0_0 a0_1 a0_2 a1_0 a1_1 a1_2) else (bagatellelaw01_cmp.j0 k false a0_0 a0_1 a0_2 a1_0 a1_1 a1_2))
theorem bagatellelaw01_cmp.mono_l : ∀ k, (∀ y0 y1 y2 y3 y4 y5 y6, LeO (bagatellelaw01_cmp.j0 k y0 y1 y2 y3 y4 y5 y6) (bagatellelaw01_cmp.j0 (k + 1) y0 y1 y2 y3 y4 y5 y6))
  | 0 => fun _ _ _ _ _ _ _ r h => by simp [bagatellelaw01_cmp.j0] at h
  | k + 1 => by
    have ih0 := bagatellelaw01_cmp.mono_l k
    · intro y0 y1 y2 y3 y4 y5 y6
      unfold bagatellelaw01_cmp.j0
      repeat' first
      | (with_reducible exact ih0 _ _ _ _ _ _ _)
      | (with_reducible exact LeO.refl _)
      | (with_reducible exact LeO.none _)
      | (with_reducible refine LeO.ite ?_ ?_)
      | (with_reducible refine LeO.bind ?_ (fun _ => ?_))
      | exact ih0 _ _ _ _ _ _ _
      | exact LeO.none _
      | refine LeO.ite ?_ ?_
      | refine LeO.bind ?_ (fun _ => ?_)
theorem bagatellelaw01_cmp.mono : ∀ a0 a1 a2 a3 a4 a5 k, LeO (bagatellelaw01_cmp.f k a0 a1 a2 a3 a4 a5) (bagatellelaw01_cmp.f (k + 1) a0 a1 a2 a3 a4 a5) := by
  intro a0 a1 a2 a3 a4 a5 k
  have ih0 := bagatellelaw01_cmp.mono_l k
  unfold bagatellelaw01_cmp.f
  repeat' first
      | (with_reducible exact ih0 _ _ _ _ _ _ _)
      | (with_reducible exact LeO.refl _)
      | (with_reducible exact LeO.none _)
      | (with_reducible refine LeO.ite ?_ ?_)
      | (with_reducible refine LeO.bind ?_ (fun _ => ?_))
      | exact ih0 _ _ _ _ _ _ _
      | exact LeO.none _
      | refine LeO.ite ?_ ?_
      | refine LeO.bind ?_ (fun _ => ?_)
set_option maxHeartbeats 8000000 in
set_option maxRecDepth 100000 in
theorem bagatellelaw01_cmp.calls (k : Nat) (a0_0 : Bool) (a0_1 : Int) (a0_2 : Int) (a1_0 : Bool) (a1_1 : Int) (a1_2 : Int) (r : Int) (w : World) (h : bagatellelaw01_cmp.f k a0_0 a0_1 a0_2 a1_0 a1_1 a1_2 = some r) :
    Calls Try.prog 16 #[.agg #[.bool a0_0, .int .u64 a0_1, .int .u64 a0_2], .agg #[.bool a1_0, .int .u64 a1_1, .int .u64 a1_2]] w fun e w' => e = .returned (.int .i64 r) ∧ Below w.heap.size w w' := by
  have hu27 := Try.underlying27
  have HB := Aside0.mk (Below.refl w.heap.size w)
  have H : (if a0_1 < a1_1 then (bagatellelaw01_cmp.j0 k true a0_0 a0_1 a0_2 a1_0 a1_1 a1_2) else (if a0_1 = a1_1 then (bagatellelaw01_cmp.j0 k (decide (a0_2 < a1_2)) a0_0 a0_1 a0_2 a1_0 a1_1 a1_2) else (bagatellelaw01_cmp.j0 k false a0_0 a0_1 a0_2 a1_0 a1_1 a1_2))) = some r := h
  clear h
  have HC3 := Aside0.mk H
  clear H
  go_enter Try.func16, Try.ntmps16
  go_upto_region 1 with (first | ((with_reducible refine gate_dst (N := 2) rfl ?_); refine box_event ?hg (N := 2) ?hd (cs := #[.bool a0_0, .int .u64 a0_1, .int .u64 a0_2]) (t := 27) ?hr ?_; (case hd => rfl); (case hg => rfl); (case hr => first | (go_simp; done) | (go_simp; rfl)); intro gb137 hg w4 hbox hb; have n0_ := Aside0.mk (below_step (by repeat (first | (with_reducible first | exact HB.out | apply below_alloc | apply pw_below_drewN | apply below_drew1) | exact HB.out)) hb); have n1_ := Aside0.mk (hbox); have n2_ := Aside0.mk ((by rw [hg]; exact (below_size (by repeat (first | (with_reducible first | exact HB.out | apply below_alloc | apply pw_below_drewN | apply below_drew1) | exact HB.out))) : w.heap.size ≤ gb137)); have n3_ := Aside0.mk ((by rw [hg]; exact (below_size (by repeat (first | (with_reducible first | exact HB.out | apply below_alloc | apply pw_below_drewN | apply below_drew1) | exact HB.out))) : w.heap.size ≤ gb137)); clear HB; have HB := n0_; have BK137 := n1_; have GW137 := n2_; have GE137 := n3_; clear n0_ n1_ n2_ n3_; clear hb hbox hg) | ((with_reducible refine gate_dst (N := 3) rfl ?_); refine box_event ?hg (N := 3) ?hd (cs := #[.bool a1_0, .int .u64 a1_1, .int .u64 a1_2]) (t := 27) ?hr ?_; (case hd => rfl); (case hg => rfl); (case hr => first | (go_simp; done) | (go_simp; rfl)); intro gb138 hg w5 hbox hb; have n0_ := Aside0.mk (blk_below (g := gb137) (o := .cells #[.bool a0_0, .int .u64 a0_1, .int .u64 a0_2] 27 (0, 0)) (by (with_reducible repeat (first | refine blk_drewN ?_ _ | refine blk_drew ?_ | refine blk_alloc ?_ _)); exact BK137.out) hb); have n1_ := Aside0.mk (below_step (by repeat (first | (with_reducible first | exact HB.out | apply below_alloc | apply pw_below_drewN | apply below_drew1 | refine below_set ?_ GE137.out) | exact HB.out)) hb); have n2_ := Aside0.mk (hbox); have n3_ := Aside0.mk ((by rw [hg]; exact (below_size (by repeat (first | (with_reducible first | exact HB.out | apply below_alloc | apply pw_below_drewN | apply below_drew1 | refine below_set ?_ GE137.out) | exact HB.out))) : w.heap.size ≤ gb138)); have n4_ := Aside0.mk ((by rw [hg]; exact (below_size (by repeat (first | (with_reducible first | exact HB.out | apply below_alloc | apply pw_below_drewN | apply below_drew1 | refine below_set ?_ GE137.out) | exact HB.out))) : w.heap.size ≤ gb138)); have n5_ := Aside0.mk ((by rw [hg]; exact Nat.ne_of_lt (blk_lt (g := gb137) (o := .cells #[.bool a0_0, .int .u64 a0_1, .int .u64 a0_2] 27 (0, 0)) (by (with_reducible repeat (first | refine blk_drewN ?_ _ | refine blk_drew ?_ | refine blk_alloc ?_ _)); exact BK137.out)) : gb137 ≠ gb138)); have n6_ := Aside0.mk ((by rw [hg]; exact Nat.ne_of_gt (blk_lt (g := gb137) (o := .cells #[.bool a0_0, .int .u64 a0_1, .int .u64 a0_2] 27 (0, 0)) (by (with_reducible repeat (first | refine blk_drewN ?_ _ | refine blk_drew ?_ | refine blk_alloc ?_ _)); exact BK137.out)) : gb138 ≠ gb137)); clear BK137; clear HB; have BK137 := n0_; have HB := n1_; have BK138 := n2_; have GW138 := n3_; have GE138 := n4_; have NB137_138 := n5_; have NB138_137 := n6_; clear n0_ n1_ n2_ n3_ n4_ n5_ n6_; clear hb hbox hg))
  (try simp only [Act.put, List.setIfInBounds_toArray, List.set_cons_zero, List.set_cons_succ])
  go_cut [5] (fun v5 wc => ∃ (kq : Nat) (x5_2 : Bool), v5 = .bool x5_2 ∧ Aside0 (bagatellelaw01_cmp.j0 kq x5_2 a0_0 a0_1 a0_2 a1_0 a1_1 a1_2 = some r) ∧ Aside0 (kq ≤ k) ∧ Aside0 (wc.heap[gb137]? = some (.cells #[.bool a0_0, .int .u64 a0_1, .int .u64 a0_2] 27 (0, 0))) ∧ Aside0 (wc.heap[gb138]? = some (.cells #[.bool a1_0, .int .u64 a1_1, .int .u64 a1_2] 27 (0, 0))) ∧ Aside0 (Below w.heap.size w wc))
  case first =>
    have H := HC3.out
    clear HC3
    by_cases c6 : a0_1 < a1_1
    · rw [if_pos c6] at H
      have c6b0 : decide (a0_1 < a1_1) = true := decide_eq_true c6
      clear c6
      (first | rw [c6b0] | (simp only [i64_w, i32_w]; rw [c6b0]) | skip)
      have H' := Aside0.mk H
      clear H
      have hnb7 := NB137_138.out
      have hnc7 := NB138_137.out
      have hcz8_0 : w5.cell? ⟨gb137, 0, none⟩ = some (.bool a0_0) := (blk_cell BK137.out 0).trans rfl
      have hcz8_1 : w5.cell? ⟨gb137, 1, none⟩ = some (.int .u64 a0_1) := (blk_cell BK137.out 1).trans rfl
      have hcz8_2 : w5.cell? ⟨gb137, 2, none⟩ = some (.int .u64 a0_2) := (blk_cell BK137.out 2).trans rfl
      have hfz8_0 := blk_frozen BK137.out 0
      have hfz8_1 := blk_frozen BK137.out 1
      have hfz8_2 := blk_frozen BK137.out 2
      have hcz9_0 : w5.cell? ⟨gb138, 0, none⟩ = some (.bool a1_0) := (blk_cell BK138.out 0).trans rfl
      have hcz9_1 : w5.cell? ⟨gb138, 1, none⟩ = some (.int .u64 a1_1) := (blk_cell BK138.out 1).trans rfl
      have hcz9_2 : w5.cell? ⟨gb138, 2, none⟩ = some (.int .u64 a1_2) := (blk_cell BK138.out 2).trans rfl
      have hfz9_0 := blk_frozen BK138.out 0
      have hfz9_1 := blk_frozen BK138.out 1
      have hfz9_2 := blk_frozen BK138.out 2
      go_wp2
      go_meet
      case rel => exact ⟨_, (true), (by first | rfl | (simp; done) | (simp [*]; done) | (simp [wrap64]; done) | (congr 2 <;> first | rfl | (unfold wrap64; omega))), H', ⟨by first | omega | exact Nat.le_refl _⟩, ⟨by (with_reducible repeat (first | refine blk_drewN ?_ _ | refine blk_drew ?_ | refine blk_alloc ?_ _)); exact BK137.out⟩, ⟨by (with_reducible repeat (first | refine blk_drewN ?_ _ | refine blk_drew ?_ | refine blk_alloc ?_ _)); exact BK138.out⟩, ⟨by repeat (first | (with_reducible first | exact HB.out | apply below_alloc | apply pw_below_drewN | apply below_drew1 | refine below_set ?_ GE137.out | refine below_set ?_ GE138.out) | exact HB.out)⟩⟩
    · rw [if_neg c6] at H
      have c6b0 : decide (a0_1 < a1_1) = false := decide_eq_false c6
      clear c6
      (first | rw [c6b0] | (simp only [i64_w, i32_w]; rw [c6b0]) | skip)
      by_cases c10 : a0_1 = a1_1
      · rw [if_pos c10] at H
        have c10b0 : (a0_1 == a1_1) = true := beq_iff_eq.mpr c10
        have c10b1 : (a0_1 != a1_1) = false := bne_eq_false_iff_eq.mpr c10
        clear c10
        have H' := Aside0.mk H
        clear H
        have hnb11 := NB137_138.out
        have hnc11 := NB138_137.out
        have hcz12_0 : w5.cell? ⟨gb137, 0, none⟩ = some (.bool a0_0) := (blk_cell BK137.out 0).trans rfl
        have hcz12_1 : w5.cell? ⟨gb137, 1, none⟩ = some (.int .u64 a0_1) := (blk_cell BK137.out 1).trans rfl
        have hcz12_2 : w5.cell? ⟨gb137, 2, none⟩ = some (.int .u64 a0_2) := (blk_cell BK137.out 2).trans rfl
        have hfz12_0 := blk_frozen BK137.out 0
        have hfz12_1 := blk_frozen BK137.out 1
        have hfz12_2 := blk_frozen BK137.out 2
        have hcz13_0 : w5.cell? ⟨gb138, 0, none⟩ = some (.bool a1_0) := (blk_cell BK138.out 0).trans rfl
        have hcz13_1 : w5.cell? ⟨gb138, 1, none⟩ = some (.int .u64 a1_1) := (blk_cell BK138.out 1).trans rfl
        have hcz13_2 : w5.cell? ⟨gb138, 2, none⟩ = some (.int .u64 a1_2) := (blk_cell BK138.out 2).trans rfl
        have hfz13_0 := blk_frozen BK138.out 0
        have hfz13_1 := blk_frozen BK138.out 1
        have hfz13_2 := blk_frozen BK138.out 2
        go_wp2
        go_meet
        case rel => exact ⟨_, (decide (a0_2 < a1_2)), (by first | rfl | (simp; done) | (simp [*]; done) | (simp [wrap64]; done) | (congr 2 <;> first | rfl | (unfold wrap64; omega))), H', ⟨by first | omega | exact Nat.le_refl _⟩, ⟨by (with_reducible repeat (first | refine blk_drewN ?_ _ | refine blk_drew ?_ | refine blk_alloc ?_ _)); exact BK137.out⟩, ⟨by (with_reducible repeat (first | refine blk_drewN ?_ _ | refine blk_drew ?_ | refine blk_alloc ?_ _)); exact BK138.out⟩, ⟨by repeat (first | (with_reducible first | exact HB.out | apply below_alloc | apply pw_below_drewN | apply below_drew1 | refine below_set ?_ GE137.out | refine below_set ?_ GE138.out) | exact HB.out)⟩⟩
      · rw [if_neg c10] at H
        have c10b0 : (a0_1 == a1_1) = false := beq_eq_false_iff_ne.mpr c10
        have c10b1 : (a0_1 != a1_1) = true := bne_iff_ne.mpr c10
        have H' := Aside0.mk H
        clear H
        have hnb14 := NB137_138.out
        have hnc14 := NB138_137.out
        have hcz15_0 : w5.cell? ⟨gb137, 0, none⟩ = some (.bool a0_0) := (blk_cell BK137.out 0).trans rfl
        have hcz15_1 : w5.cell? ⟨gb137, 1, none⟩ = some (.int .u64 a0_1) := (blk_cell BK137.out 1).trans rfl
        have hcz15_2 : w5.cell? ⟨gb137, 2, none⟩ = some (.int .u64 a0_2) := (blk_cell BK137.out 2).trans rfl
        have hfz15_0 := blk_frozen BK137.out 0
        have hfz15_1 := blk_frozen BK137.out 1
        have hfz15_2 := blk_frozen BK137.out 2
        have hcz16_0 : w5.cell? ⟨gb138, 0, none⟩ = some (.bool a1_0) := (blk_cell BK138.out 0).trans rfl
        have hcz16_1 : w5.cell? ⟨gb138, 1, none⟩ = some (.int .u64 a1_1) := (blk_cell BK138.out 1).trans rfl
        have hcz16_2 : w5.cell? ⟨gb138, 2, none⟩ = some (.int .u64 a1_2) := (blk_cell BK138.out 2).trans rfl
        have hfz16_0 := blk_frozen BK138.out 0
        have hfz16_1 := blk_frozen BK138.out 1
        have hfz16_2 := blk_frozen BK138.out 2
        go_wp2
        go_meet
        case rel => exact ⟨_, (false), (by first | rfl | (simp; done) | (simp [*]; done) | (simp [wrap64]; done) | (congr 2 <;> first | rfl | (unfold wrap64; omega))), H', ⟨by first | omega | exact Nat.le_refl _⟩, ⟨by (with_reducible repeat (first | refine blk_drewN ?_ _ | refine blk_drew ?_ | refine blk_alloc ?_ _)); exact BK137.out⟩, ⟨by (with_reducible repeat (first | refine blk_drewN ?_ _ | refine blk_drew ?_ | refine blk_alloc ?_ _)); exact BK138.out⟩, ⟨by repeat (first | (with_reducible first | exact HB.out | apply below_alloc | apply pw_below_drewN | apply below_drew1 | refine below_set ?_ GE137.out | refine below_set ?_ GE138.out) | exact HB.out)⟩⟩
  case rest =>
    clear HC3
    try clear c1
    try clear p2
    try clear c6
    try clear c6b0
    try clear p6
    try clear c7
    try clear c10
    try clear c10b0
    try clear c10b1
    try clear c11
    try clear c14
    try clear c16
    try clear hcz12_0
    try clear hcz12_1
    try clear hcz12_2
    try clear hcz13_0
    try clear hcz13_1
    try clear hcz13_2
    try clear hcz15_0
    try clear hcz15_1
    try clear hcz15_2
    try clear hcz16_0
    try clear hcz16_1
    try clear hcz16_2
    try clear hcz8_0
    try clear hcz8_1
    try clear hcz8_2
    try clear hcz9_0
    try clear hcz9_1
    try clear hcz9_2
    try clear hfz12_0
    try clear hfz12_1
    try clear hfz12_2
    try clear hfz13_0
    try clear hfz13_1
    try clear hfz13_2
    try clear hfz15_0
    try clear hfz15_1
    try clear hfz15_2
    try clear hfz16_0
    try clear hfz16_1
    try clear hfz16_2
    try clear hfz8_0
    try clear hfz8_1
    try clear hfz8_2
    try clear hfz9_0
    try clear hfz9_1
    try clear hfz9_2
    obtain ⟨kq, x5_2, rfl, HA, HJ2, BK137, BK138, HB⟩ := hcut
    cases kq with
    | zero => exact absurd HA.out (by simp [bagatellelaw01_cmp.j0])
    | succ kj2 =>
      have H := HA.out
      clear HA
      simp only [bagatellelaw01_cmp.j0] at H
      by_cases c17 : x5_2 = true
      · subst c17
        have H1 : (some (-1)) = some r := by rw [if_pos rfl] at H; exact H
        clear H
        have H := H1
        clear H1
        obtain rfl := Option.some.inj H
        go_wp2
        go_ret
        exact ⟨by first | rfl | (simp [errW_none, errW_some] <;> rfl) | (simp [*, errW_none, errW_some] <;> rfl) | (simp [wrap64]; done) | (congr 2 <;> first | rfl | (unfold wrap64; omega)), by repeat (first | (with_reducible first | exact HB.out | apply below_alloc | apply pw_below_drewN | apply below_drew1 | refine below_set ?_ GE137.out | refine below_set ?_ GE138.out) | exact HB.out)⟩
      · replace c17 := Bool.eq_false_iff.mpr c17
        subst c17
        have H1 : (if a0_1 = a1_1 then (if a0_2 = a1_2 then (some 0) else (some 1)) else (some 1)) = some r := by rw [if_neg (show ¬ (false = true) by decide)] at H; exact H
        clear H
        have H := H1
        clear H1
        by_cases c18 : a0_1 = a1_1
        · rw [if_pos c18] at H
          have c18b0 : (a0_1 == a1_1) = true := beq_iff_eq.mpr c18
          have c18b1 : (a0_1 != a1_1) = false := bne_eq_false_iff_eq.mpr c18
          clear c18
          by_cases c19 : a0_2 = a1_2
          · rw [if_pos c19] at H
            have c19b0 : (a0_2 == a1_2) = true := beq_iff_eq.mpr c19
            have c19b1 : (a0_2 != a1_2) = false := bne_eq_false_iff_eq.mpr c19
            clear c19
            obtain rfl := Option.some.inj H
            have hnb20 := NB137_138.out
            have hnc20 := NB138_137.out
            have hcz21_0 : wc.cell? ⟨gb137, 0, none⟩ = some (.bool a0_0) := (blk_cell BK137.out 0).trans rfl
            have hcz21_1 : wc.cell? ⟨gb137, 1, none⟩ = some (.int .u64 a0_1) := (blk_cell BK137.out 1).trans rfl
            have hcz21_2 : wc.cell? ⟨gb137, 2, none⟩ = some (.int .u64 a0_2) := (blk_cell BK137.out 2).trans rfl
            have hfz21_0 := blk_frozen BK137.out 0
            have hfz21_1 := blk_frozen BK137.out 1
            have hfz21_2 := blk_frozen BK137.out 2
            have hcz22_0 : wc.cell? ⟨gb138, 0, none⟩ = some (.bool a1_0) := (blk_cell BK138.out 0).trans rfl
            have hcz22_1 : wc.cell? ⟨gb138, 1, none⟩ = some (.int .u64 a1_1) := (blk_cell BK138.out 1).trans rfl
            have hcz22_2 : wc.cell? ⟨gb138, 2, none⟩ = some (.int .u64 a1_2) := (blk_cell BK138.out 2).trans rfl
            have hfz22_0 := blk_frozen BK138.out 0
            have hfz22_1 := blk_frozen BK138.out 1
            have hfz22_2 := blk_frozen BK138.out 2
            go_wp2
            go_ret
            exact ⟨by first | rfl | (simp [errW_none, errW_some] <;> rfl) | (simp [*, errW_none, errW_some] <;> rfl) | (simp [wrap64]; done) | (congr 2 <;> first | rfl | (unfold wrap64; omega)), by repeat (first | (with_reducible first | exact HB.out | apply below_alloc | apply pw_below_drewN | apply below_drew1 | refine below_set ?_ GE137.out | refine below_set ?_ GE138.out) | exact HB.out)⟩
          · rw [if_neg c19] at H
            have c19b0 : (a0_2 == a1_2) = false := beq_eq_false_iff_ne.mpr c19
            have c19b1 : (a0_2 != a1_2) = true := bne_iff_ne.mpr c19
            obtain rfl := Option.some.inj H
            have hnb23 := NB137_138.out
            have hnc23 := NB138_137.out
            have hcz24_0 : wc.cell? ⟨gb137, 0, none⟩ = some (.bool a0_0) := (blk_cell BK137.out 0).trans rfl
            have hcz24_1 : wc.cell? ⟨gb137, 1, none⟩ = some (.int .u64 a0_1) := (blk_cell BK137.out 1).trans rfl
            have hcz24_2 : wc.cell? ⟨gb137, 2, none⟩ = some (.int .u64 a0_2) := (blk_cell BK137.out 2).trans rfl
            have hfz24_0 := blk_frozen BK137.out 0
            have hfz24_1 := blk_frozen BK137.out 1
            have hfz24_2 := blk_frozen BK137.out 2
            have hcz25_0 : wc.cell? ⟨gb138, 0, none⟩ = some (.bool a1_0) := (blk_cell BK138.out 0).trans rfl
            have hcz25_1 : wc.cell? ⟨gb138, 1, none⟩ = some (.int .u64 a1_1) := (blk_cell BK138.out 1).trans rfl
            have hcz25_2 : wc.cell? ⟨gb138, 2, none⟩ = some (.int .u64 a1_2) := (blk_cell BK138.out 2).trans rfl
            have hfz25_0 := blk_frozen BK138.out 0
            have hfz25_1 := blk_frozen BK138.out 1
            have hfz25_2 := blk_frozen BK138.out 2
            go_wp2
            go_ret
            exact ⟨by first | rfl | (simp [errW_none, errW_some] <;> rfl) | (simp [*, errW_none, errW_some] <;> rfl) | (simp [wrap64]; done) | (congr 2 <;> first | rfl | (unfold wrap64; omega)), by repeat (first | (with_reducible first | exact HB.out | apply below_alloc | apply pw_below_drewN | apply below_drew1 | refine below_set ?_ GE137.out | refine below_set ?_ GE138.out) | exact HB.out)⟩
        · rw [if_neg c18] at H
          have c18b0 : (a0_1 == a1_1) = false := beq_eq_false_iff_ne.mpr c18
          have c18b1 : (a0_1 != a1_1) = true := bne_iff_ne.mpr c18
          obtain rfl := Option.some.inj H
          have hnb26 := NB137_138.out
          have hnc26 := NB138_137.out
          have hcz27_0 : wc.cell? ⟨gb137, 0, none⟩ = some (.bool a0_0) := (blk_cell BK137.out 0).trans rfl
          have hcz27_1 : wc.cell? ⟨gb137, 1, none⟩ = some (.int .u64 a0_1) := (blk_cell BK137.out 1).trans rfl
          have hcz27_2 : wc.cell? ⟨gb137, 2, none⟩ = some (.int .u64 a0_2) := (blk_cell BK137.out 2).trans rfl
          have hfz27_0 := blk_frozen BK137.out 0
          have hfz27_1 := blk_frozen BK137.out 1
          have hfz27_2 := blk_frozen BK137.out 2
          have hcz28_0 : wc.cell? ⟨gb138, 0, none⟩ = some (.bool a1_0) := (blk_cell BK138.out 0).trans rfl
          have hcz28_1 : wc.cell? ⟨gb138, 1, none⟩ = some (.int .u64 a1_1) := (blk_cell BK138.out 1).trans rfl
          have hcz28_2 : wc.cell? ⟨gb138, 2, none⟩ = some (.int .u64 a1_2) := (blk_cell BK138.out 2).trans rfl
          have hfz28_0 := blk_frozen BK138.out 0
          have hfz28_1 := blk_frozen BK138.out 1
          have hfz28_2 := blk_frozen BK138.out 2
          go_wp2
          go_ret
          exact ⟨by first | rfl | (simp [errW_none, errW_some] <;> rfl) | (simp [*, errW_none, errW_some] <;> rfl) | (simp [wrap64]; done) | (congr 2 <;> first | rfl | (unfold wrap64; omega)), by repeat (first | (with_reducible first | exact HB.out | apply below_alloc | apply pw_below_drewN | apply below_drew1 | refine below_set ?_ GE137.out | refine below_set ?_ GE138.out) | exact HB.out)⟩

/-! ### bagatellelaw01_FixMuls: function 3 -/
def bagatellelaw01_FixMuls.j0 : Nat → Int → Int → Int → Bool → Option (Bool)
  | 0, _, _, _, _ => none
  | k + 1, x0, x1, x5, x51 => if x51 = true then (some false) else ((fix_Mul.f k x1 x0).bind fun t164 => (if x5 = t164 then (if x5 = 0 then ((fix_Mul.f k (mx x0 (-9223372036854775807)) 4294967296).bind fun t165 => (some (t165 == (mx x0 (-9223372036854775807))))) else (if ((decide (x5 < 0)) == ((decide (x0 < 0)) != (decide (x1 < 0)))) = true then ((fix_Mul.f k (mx x0 (-9223372036854775807)) 4294967296).bind fun t166 => (some (t166 == (mx x0 (-9223372036854775807))))) else (some false))) else (some false)))
def bagatellelaw01_FixMuls.f (k : Nat) (a0 : Int) (a1 : Int) : Option (Bool) := (bagatellelaw01_fit.f k).bind fun t139 => (if t139 = true then ((fix_Mul.f k a0 a1).bind fun t140 => ((bagatellelaw01_size.f a0).bind fun t141 => ((bagatellelaw01_size.f a1).bind fun t142 => ((bagatellelaw01_times.f t141 t142).bind fun bt143 => ((bagatellelaw01_size.f t140).bind fun t147 => ((bagatellelaw01_times.f t147 4294967296).bind fun bt148 => ((bagatellelaw01_size.f t140).bind fun t152 => ((bagatellelaw01_times.f (IntKind.u64.wrap (t152 + 1)) 4294967296).bind fun bt153 => ((bagatellelaw01_size.f t140).bind fun t157 => (if t157 < 9223372036854775807 then ((bagatellelaw01_cmp.f k bt148.1 bt148.2.1 bt148.2.2 bt143.1 bt143.2.1 bt143.2.2).bind fun t158 => (if t158 > 0 then (bagatellelaw01_FixMuls.j0 k a0 a1 t140 true) else ((bagatellelaw01_cmp.f k bt153.1 bt153.2.1 bt153.2.2 bt143.1 bt143.2.1 bt143.2.2).bind fun t159 => (if t159 ≤ 0 then (bagatellelaw01_FixMuls.j0 k a0 a1 t140 true) else ((bagatellelaw01_size.f t140).bind fun t160 => (if t160 = 9223372036854775807 then ((bagatellelaw01_cmp.f k bt148.1 bt148.2.1 bt148.2.2 bt143.1 bt143.2.1 bt143.2.2).bind fun t161 => (bagatellelaw01_FixMuls.j0 k a0 a1 t140 (decide (t161 > 0)))) else (bagatellelaw01_FixMuls.j0 k a0 a1 t140 false))))))) else ((bagatellelaw01_size.f t140).bind fun t162 => (if t162 = 9223372036854775807 then ((bagatellelaw01_cmp.f k bt148.1 bt148.2.1 bt148.2.2 bt143.1 bt143.2.1 bt143.2.2).bind fun t163 => (bagatellelaw01_FixMuls.j0 k a0 a1 t140 (decide (t163 > 0)))) else (bagatellelaw01_FixMuls.j0 k a0 a1 t140 false))))))))))))) else (some false))
theorem bagatellelaw01_FixMuls.mono_l : ∀ k, (∀ y0 y1 y2 y3, LeO (bagatellelaw01_FixMuls.j0 k y0 y1 y2 y3) (bagatellelaw01_FixMuls.j0 (k + 1) y0 y1 y2 y3))
  | 0 => fun _ _ _ _ r h => by simp [bagatellelaw01_FixMuls.j0] at h
  | k + 1 => by
    have ih0 := bagatellelaw01_FixMuls.mono_l k
    · intro y0 y1 y2 y3
      unfold bagatellelaw01_FixMuls.j0
      repeat' first
      | (with_reducible exact ih0 _ _ _ _)
      | (with_reducible exact bagatellelaw01_cmp.mono _ _ _ _ _ _ _)
      | (with_reducible exact bagatellelaw01_fit.mono _)
      | (with_reducible exact fix_Mul.mono _ _ _)
      | (with_reducible exact LeO.refl _)
      | (with_reducible exact LeO.none _)
      | (with_reducible refine LeO.ite ?_ ?_)
      | (with_reducible refine LeO.bind ?_ (fun _ => ?_))
      | exact ih0 _ _ _ _
      | exact bagatellelaw01_cmp.mono _ _ _ _ _ _ _
      | exact bagatellelaw01_fit.mono _
      | exact fix_Mul.mono _ _ _
      | exact LeO.none _
      | refine LeO.ite ?_ ?_
      | refine LeO.bind ?_ (fun _ => ?_)
theorem bagatellelaw01_FixMuls.mono : ∀ a0 a1 k, LeO (bagatellelaw01_FixMuls.f k a0 a1) (bagatellelaw01_FixMuls.f (k + 1) a0 a1) := by
  intro a0 a1 k
  have ih0 := bagatellelaw01_FixMuls.mono_l k
  unfold bagatellelaw01_FixMuls.f
  repeat' first
      | (with_reducible exact ih0 _ _ _ _)
      | (with_reducible exact bagatellelaw01_cmp.mono _ _ _ _ _ _ _)
      | (with_reducible exact bagatellelaw01_fit.mono _)
      | (with_reducible exact fix_Mul.mono _ _ _)
      | (with_reducible exact LeO.refl _)
      | (with_reducible exact LeO.none _)
      | (with_reducible refine LeO.ite ?_ ?_)
      | (with_reducible refine LeO.bind ?_ (fun _ => ?_))
      | exact ih0 _ _ _ _
      | exact bagatellelaw01_cmp.mono _ _ _ _ _ _ _
      | exact bagatellelaw01_fit.mono _
      | exact fix_Mul.mono _ _ _
      | exact LeO.none _
      | refine LeO.ite ?_ ?_
      | refine LeO.bind ?_ (fun _ => ?_)
set_option maxHeartbeats 8000000 in
set_option maxRecDepth 100000 in
theorem bagatellelaw01_FixMuls.calls (k : Nat) (a0 : Int) (a1 : Int) (r : Bool) (w : World) (h : bagatellelaw01_FixMuls.f k a0 a1 = some r) :
    Calls Try.prog 3 #[.int .i64 a0, .int .i64 a1] w fun e w' => e = .returned (.bool r) ∧ Below w.heap.size w w' := by
  have hu27 := Try.underlying27
  have HB := Aside0.mk (Below.refl w.heap.size w)
  have H : ((bagatellelaw01_fit.f k).bind fun t139 => (if t139 = true then ((fix_Mul.f k a0 a1).bind fun t140 => ((bagatellelaw01_size.f a0).bind fun t141 => ((bagatellelaw01_size.f a1).bind fun t142 => ((bagatellelaw01_times.f t141 t142).bind fun bt143 => ((bagatellelaw01_size.f t140).bind fun t147 => ((bagatellelaw01_times.f t147 4294967296).bind fun bt148 => ((bagatellelaw01_size.f t140).bind fun t152 => ((bagatellelaw01_times.f (IntKind.u64.wrap (t152 + 1)) 4294967296).bind fun bt153 => ((bagatellelaw01_size.f t140).bind fun t157 => (if t157 < 9223372036854775807 then ((bagatellelaw01_cmp.f k bt148.1 bt148.2.1 bt148.2.2 bt143.1 bt143.2.1 bt143.2.2).bind fun t158 => (if t158 > 0 then (bagatellelaw01_FixMuls.j0 k a0 a1 t140 true) else ((bagatellelaw01_cmp.f k bt153.1 bt153.2.1 bt153.2.2 bt143.1 bt143.2.1 bt143.2.2).bind fun t159 => (if t159 ≤ 0 then (bagatellelaw01_FixMuls.j0 k a0 a1 t140 true) else ((bagatellelaw01_size.f t140).bind fun t160 => (if t160 = 9223372036854775807 then ((bagatellelaw01_cmp.f k bt148.1 bt148.2.1 bt148.2.2 bt143.1 bt143.2.1 bt143.2.2).bind fun t161 => (bagatellelaw01_FixMuls.j0 k a0 a1 t140 (decide (t161 > 0)))) else (bagatellelaw01_FixMuls.j0 k a0 a1 t140 false))))))) else ((bagatellelaw01_size.f t140).bind fun t162 => (if t162 = 9223372036854775807 then ((bagatellelaw01_cmp.f k bt148.1 bt148.2.1 bt148.2.2 bt143.1 bt143.2.1 bt143.2.2).bind fun t163 => (bagatellelaw01_FixMuls.j0 k a0 a1 t140 (decide (t163 > 0)))) else (bagatellelaw01_FixMuls.j0 k a0 a1 t140 false))))))))))))) else (some false))) = some r := h
  clear h
  replace H := Option.bind_eq_some_iff.mp H
  obtain ⟨t139, A30, H⟩ := H
  replace H : (if t139 = true then ((fix_Mul.f k a0 a1).bind fun t140 => ((bagatellelaw01_size.f a0).bind fun t141 => ((bagatellelaw01_size.f a1).bind fun t142 => ((bagatellelaw01_times.f t141 t142).bind fun bt143 => ((bagatellelaw01_size.f t140).bind fun t147 => ((bagatellelaw01_times.f t147 4294967296).bind fun bt148 => ((bagatellelaw01_size.f t140).bind fun t152 => ((bagatellelaw01_times.f (IntKind.u64.wrap (t152 + 1)) 4294967296).bind fun bt153 => ((bagatellelaw01_size.f t140).bind fun t157 => (if t157 < 9223372036854775807 then ((bagatellelaw01_cmp.f k bt148.1 bt148.2.1 bt148.2.2 bt143.1 bt143.2.1 bt143.2.2).bind fun t158 => (if t158 > 0 then (bagatellelaw01_FixMuls.j0 k a0 a1 t140 true) else ((bagatellelaw01_cmp.f k bt153.1 bt153.2.1 bt153.2.2 bt143.1 bt143.2.1 bt143.2.2).bind fun t159 => (if t159 ≤ 0 then (bagatellelaw01_FixMuls.j0 k a0 a1 t140 true) else ((bagatellelaw01_size.f t140).bind fun t160 => (if t160 = 9223372036854775807 then ((bagatellelaw01_cmp.f k bt148.1 bt148.2.1 bt148.2.2 bt143.1 bt143.2.1 bt143.2.2).bind fun t161 => (bagatellelaw01_FixMuls.j0 k a0 a1 t140 (decide (t161 > 0)))) else (bagatellelaw01_FixMuls.j0 k a0 a1 t140 false))))))) else ((bagatellelaw01_size.f t140).bind fun t162 => (if t162 = 9223372036854775807 then ((bagatellelaw01_cmp.f k bt148.1 bt148.2.1 bt148.2.2 bt143.1 bt143.2.1 bt143.2.2).bind fun t163 => (bagatellelaw01_FixMuls.j0 k a0 a1 t140 (decide (t163 > 0)))) else (bagatellelaw01_FixMuls.j0 k a0 a1 t140 false))))))))))))) else (some false)) = some r := H
  have A3 := Aside0.mk A30
  clear A30
  by_cases c4 : t139 = true
  · subst c4
    have H1 : ((fix_Mul.f k a0 a1).bind fun t140 => ((bagatellelaw01_size.f a0).bind fun t141 => ((bagatellelaw01_size.f a1).bind fun t142 => ((bagatellelaw01_times.f t141 t142).bind fun bt143 => ((bagatellelaw01_size.f t140).bind fun t147 => ((bagatellelaw01_times.f t147 4294967296).bind fun bt148 => ((bagatellelaw01_size.f t140).bind fun t152 => ((bagatellelaw01_times.f (IntKind.u64.wrap (t152 + 1)) 4294967296).bind fun bt153 => ((bagatellelaw01_size.f t140).bind fun t157 => (if t157 < 9223372036854775807 then ((bagatellelaw01_cmp.f k bt148.1 bt148.2.1 bt148.2.2 bt143.1 bt143.2.1 bt143.2.2).bind fun t158 => (if t158 > 0 then (bagatellelaw01_FixMuls.j0 k a0 a1 t140 true) else ((bagatellelaw01_cmp.f k bt153.1 bt153.2.1 bt153.2.2 bt143.1 bt143.2.1 bt143.2.2).bind fun t159 => (if t159 ≤ 0 then (bagatellelaw01_FixMuls.j0 k a0 a1 t140 true) else ((bagatellelaw01_size.f t140).bind fun t160 => (if t160 = 9223372036854775807 then ((bagatellelaw01_cmp.f k bt148.1 bt148.2.1 bt148.2.2 bt143.1 bt143.2.1 bt143.2.2).bind fun t161 => (bagatellelaw01_FixMuls.j0 k a0 a1 t140 (decide (t161 > 0)))) else (bagatellelaw01_FixMuls.j0 k a0 a1 t140 false))))))) else ((bagatellelaw01_size.f t140).bind fun t162 => (if t162 = 9223372036854775807 then ((bagatellelaw01_cmp.f k bt148.1 bt148.2.1 bt148.2.2 bt143.1 bt143.2.1 bt143.2.2).bind fun t163 => (bagatellelaw01_FixMuls.j0 k a0 a1 t140 (decide (t163 > 0)))) else (bagatellelaw01_FixMuls.j0 k a0 a1 t140 false))))))))))))) = some r := by rw [if_pos rfl] at H; exact H
    clear H
    have H := H1
    clear H1
    replace H := Option.bind_eq_some_iff.mp H
    obtain ⟨t140, A50, H⟩ := H
    replace H : ((bagatellelaw01_size.f a0).bind fun t141 => ((bagatellelaw01_size.f a1).bind fun t142 => ((bagatellelaw01_times.f t141 t142).bind fun bt143 => ((bagatellelaw01_size.f t140).bind fun t147 => ((bagatellelaw01_times.f t147 4294967296).bind fun bt148 => ((bagatellelaw01_size.f t140).bind fun t152 => ((bagatellelaw01_times.f (IntKind.u64.wrap (t152 + 1)) 4294967296).bind fun bt153 => ((bagatellelaw01_size.f t140).bind fun t157 => (if t157 < 9223372036854775807 then ((bagatellelaw01_cmp.f k bt148.1 bt148.2.1 bt148.2.2 bt143.1 bt143.2.1 bt143.2.2).bind fun t158 => (if t158 > 0 then (bagatellelaw01_FixMuls.j0 k a0 a1 t140 true) else ((bagatellelaw01_cmp.f k bt153.1 bt153.2.1 bt153.2.2 bt143.1 bt143.2.1 bt143.2.2).bind fun t159 => (if t159 ≤ 0 then (bagatellelaw01_FixMuls.j0 k a0 a1 t140 true) else ((bagatellelaw01_size.f t140).bind fun t160 => (if t160 = 9223372036854775807 then ((bagatellelaw01_cmp.f k bt148.1 bt148.2.1 bt148.2.2 bt143.1 bt143.2.1 bt143.2.2).bind fun t161 => (bagatellelaw01_FixMuls.j0 k a0 a1 t140 (decide (t161 > 0)))) else (bagatellelaw01_FixMuls.j0 k a0 a1 t140 false))))))) else ((bagatellelaw01_size.f t140).bind fun t162 => (if t162 = 9223372036854775807 then ((bagatellelaw01_cmp.f k bt148.1 bt148.2.1 bt148.2.2 bt143.1 bt143.2.1 bt143.2.2).bind fun t163 => (bagatellelaw01_FixMuls.j0 k a0 a1 t140 (decide (t163 > 0)))) else (bagatellelaw01_FixMuls.j0 k a0 a1 t140 false)))))))))))) = some r := H
    have A5 := Aside0.mk A50
    clear A50
    replace H := Option.bind_eq_some_iff.mp H
    obtain ⟨t141, A60, H⟩ := H
    replace H : ((bagatellelaw01_size.f a1).bind fun t142 => ((bagatellelaw01_times.f t141 t142).bind fun bt143 => ((bagatellelaw01_size.f t140).bind fun t147 => ((bagatellelaw01_times.f t147 4294967296).bind fun bt148 => ((bagatellelaw01_size.f t140).bind fun t152 => ((bagatellelaw01_times.f (IntKind.u64.wrap (t152 + 1)) 4294967296).bind fun bt153 => ((bagatellelaw01_size.f t140).bind fun t157 => (if t157 < 9223372036854775807 then ((bagatellelaw01_cmp.f k bt148.1 bt148.2.1 bt148.2.2 bt143.1 bt143.2.1 bt143.2.2).bind fun t158 => (if t158 > 0 then (bagatellelaw01_FixMuls.j0 k a0 a1 t140 true) else ((bagatellelaw01_cmp.f k bt153.1 bt153.2.1 bt153.2.2 bt143.1 bt143.2.1 bt143.2.2).bind fun t159 => (if t159 ≤ 0 then (bagatellelaw01_FixMuls.j0 k a0 a1 t140 true) else ((bagatellelaw01_size.f t140).bind fun t160 => (if t160 = 9223372036854775807 then ((bagatellelaw01_cmp.f k bt148.1 bt148.2.1 bt148.2.2 bt143.1 bt143.2.1 bt143.2.2).bind fun t161 => (bagatellelaw01_FixMuls.j0 k a0 a1 t140 (decide (t161 > 0)))) else (bagatellelaw01_FixMuls.j0 k a0 a1 t140 false))))))) else ((bagatellelaw01_size.f t140).bind fun t162 => (if t162 = 9223372036854775807 then ((bagatellelaw01_cmp.f k bt148.1 bt148.2.1 bt148.2.2 bt143.1 bt143.2.1 bt143.2.2).bind fun t163 => (bagatellelaw01_FixMuls.j0 k a0 a1 t140 (decide (t163 > 0)))) else (bagatellelaw01_FixMuls.j0 k a0 a1 t140 false))))))))))) = some r := H
    have A6 := Aside0.mk A60
    clear A60
    replace H := Option.bind_eq_some_iff.mp H
    obtain ⟨t142, A70, H⟩ := H
    replace H : ((bagatellelaw01_times.f t141 t142).bind fun bt143 => ((bagatellelaw01_size.f t140).bind fun t147 => ((bagatellelaw01_times.f t147 4294967296).bind fun bt148 => ((bagatellelaw01_size.f t140).bind fun t152 => ((bagatellelaw01_times.f (IntKind.u64.wrap (t152 + 1)) 4294967296).bind fun bt153 => ((bagatellelaw01_size.f t140).bind fun t157 => (if t157 < 9223372036854775807 then ((bagatellelaw01_cmp.f k bt148.1 bt148.2.1 bt148.2.2 bt143.1 bt143.2.1 bt143.2.2).bind fun t158 => (if t158 > 0 then (bagatellelaw01_FixMuls.j0 k a0 a1 t140 true) else ((bagatellelaw01_cmp.f k bt153.1 bt153.2.1 bt153.2.2 bt143.1 bt143.2.1 bt143.2.2).bind fun t159 => (if t159 ≤ 0 then (bagatellelaw01_FixMuls.j0 k a0 a1 t140 true) else ((bagatellelaw01_size.f t140).bind fun t160 => (if t160 = 9223372036854775807 then ((bagatellelaw01_cmp.f k bt148.1 bt148.2.1 bt148.2.2 bt143.1 bt143.2.1 bt143.2.2).bind fun t161 => (bagatellelaw01_FixMuls.j0 k a0 a1 t140 (decide (t161 > 0)))) else (bagatellelaw01_FixMuls.j0 k a0 a1 t140 false))))))) else ((bagatellelaw01_size.f t140).bind fun t162 => (if t162 = 9223372036854775807 then ((bagatellelaw01_cmp.f k bt148.1 bt148.2.1 bt148.2.2 bt143.1 bt143.2.1 bt143.2.2).bind fun t163 => (bagatellelaw01_FixMuls.j0 k a0 a1 t140 (decide (t163 > 0)))) else (bagatellelaw01_FixMuls.j0 k a0 a1 t140 false)))))))))) = some r := H
    have A7 := Aside0.mk A70
    clear A70
    replace H := Option.bind_eq_some_iff.mp H
    obtain ⟨⟨t143, t144, t145⟩, A80, H⟩ := H
    replace H : ((bagatellelaw01_size.f t140).bind fun t147 => ((bagatellelaw01_times.f t147 4294967296).bind fun bt148 => ((bagatellelaw01_size.f t140).bind fun t152 => ((bagatellelaw01_times.f (IntKind.u64.wrap (t152 + 1)) 4294967296).bind fun bt153 => ((bagatellelaw01_size.f t140).bind fun t157 => (if t157 < 9223372036854775807 then ((bagatellelaw01_cmp.f k bt148.1 bt148.2.1 bt148.2.2 t143 t144 t145).bind fun t158 => (if t158 > 0 then (bagatellelaw01_FixMuls.j0 k a0 a1 t140 true) else ((bagatellelaw01_cmp.f k bt153.1 bt153.2.1 bt153.2.2 t143 t144 t145).bind fun t159 => (if t159 ≤ 0 then (bagatellelaw01_FixMuls.j0 k a0 a1 t140 true) else ((bagatellelaw01_size.f t140).bind fun t160 => (if t160 = 9223372036854775807 then ((bagatellelaw01_cmp.f k bt148.1 bt148.2.1 bt148.2.2 t143 t144 t145).bind fun t161 => (bagatellelaw01_FixMuls.j0 k a0 a1 t140 (decide (t161 > 0)))) else (bagatellelaw01_FixMuls.j0 k a0 a1 t140 false))))))) else ((bagatellelaw01_size.f t140).bind fun t162 => (if t162 = 9223372036854775807 then ((bagatellelaw01_cmp.f k bt148.1 bt148.2.1 bt148.2.2 t143 t144 t145).bind fun t163 => (bagatellelaw01_FixMuls.j0 k a0 a1 t140 (decide (t163 > 0)))) else (bagatellelaw01_FixMuls.j0 k a0 a1 t140 false))))))))) = some r := H
    have A8 := Aside0.mk A80
    clear A80
    replace H := Option.bind_eq_some_iff.mp H
    obtain ⟨t147, A90, H⟩ := H
    replace H : ((bagatellelaw01_times.f t147 4294967296).bind fun bt148 => ((bagatellelaw01_size.f t140).bind fun t152 => ((bagatellelaw01_times.f (IntKind.u64.wrap (t152 + 1)) 4294967296).bind fun bt153 => ((bagatellelaw01_size.f t140).bind fun t157 => (if t157 < 9223372036854775807 then ((bagatellelaw01_cmp.f k bt148.1 bt148.2.1 bt148.2.2 t143 t144 t145).bind fun t158 => (if t158 > 0 then (bagatellelaw01_FixMuls.j0 k a0 a1 t140 true) else ((bagatellelaw01_cmp.f k bt153.1 bt153.2.1 bt153.2.2 t143 t144 t145).bind fun t159 => (if t159 ≤ 0 then (bagatellelaw01_FixMuls.j0 k a0 a1 t140 true) else ((bagatellelaw01_size.f t140).bind fun t160 => (if t160 = 9223372036854775807 then ((bagatellelaw01_cmp.f k bt148.1 bt148.2.1 bt148.2.2 t143 t144 t145).bind fun t161 => (bagatellelaw01_FixMuls.j0 k a0 a1 t140 (decide (t161 > 0)))) else (bagatellelaw01_FixMuls.j0 k a0 a1 t140 false))))))) else ((bagatellelaw01_size.f t140).bind fun t162 => (if t162 = 9223372036854775807 then ((bagatellelaw01_cmp.f k bt148.1 bt148.2.1 bt148.2.2 t143 t144 t145).bind fun t163 => (bagatellelaw01_FixMuls.j0 k a0 a1 t140 (decide (t163 > 0)))) else (bagatellelaw01_FixMuls.j0 k a0 a1 t140 false)))))))) = some r := H
    have A9 := Aside0.mk A90
    clear A90
    replace H := Option.bind_eq_some_iff.mp H
    obtain ⟨⟨t148, t149, t150⟩, A100, H⟩ := H
    replace H : ((bagatellelaw01_size.f t140).bind fun t152 => ((bagatellelaw01_times.f (IntKind.u64.wrap (t152 + 1)) 4294967296).bind fun bt153 => ((bagatellelaw01_size.f t140).bind fun t157 => (if t157 < 9223372036854775807 then ((bagatellelaw01_cmp.f k t148 t149 t150 t143 t144 t145).bind fun t158 => (if t158 > 0 then (bagatellelaw01_FixMuls.j0 k a0 a1 t140 true) else ((bagatellelaw01_cmp.f k bt153.1 bt153.2.1 bt153.2.2 t143 t144 t145).bind fun t159 => (if t159 ≤ 0 then (bagatellelaw01_FixMuls.j0 k a0 a1 t140 true) else ((bagatellelaw01_size.f t140).bind fun t160 => (if t160 = 9223372036854775807 then ((bagatellelaw01_cmp.f k t148 t149 t150 t143 t144 t145).bind fun t161 => (bagatellelaw01_FixMuls.j0 k a0 a1 t140 (decide (t161 > 0)))) else (bagatellelaw01_FixMuls.j0 k a0 a1 t140 false))))))) else ((bagatellelaw01_size.f t140).bind fun t162 => (if t162 = 9223372036854775807 then ((bagatellelaw01_cmp.f k t148 t149 t150 t143 t144 t145).bind fun t163 => (bagatellelaw01_FixMuls.j0 k a0 a1 t140 (decide (t163 > 0)))) else (bagatellelaw01_FixMuls.j0 k a0 a1 t140 false))))))) = some r := H
    have A10 := Aside0.mk A100
    clear A100
    replace H := Option.bind_eq_some_iff.mp H
    obtain ⟨t152, A110, H⟩ := H
    replace H : ((bagatellelaw01_times.f (IntKind.u64.wrap (t152 + 1)) 4294967296).bind fun bt153 => ((bagatellelaw01_size.f t140).bind fun t157 => (if t157 < 9223372036854775807 then ((bagatellelaw01_cmp.f k t148 t149 t150 t143 t144 t145).bind fun t158 => (if t158 > 0 then (bagatellelaw01_FixMuls.j0 k a0 a1 t140 true) else ((bagatellelaw01_cmp.f k bt153.1 bt153.2.1 bt153.2.2 t143 t144 t145).bind fun t159 => (if t159 ≤ 0 then (bagatellelaw01_FixMuls.j0 k a0 a1 t140 true) else ((bagatellelaw01_size.f t140).bind fun t160 => (if t160 = 9223372036854775807 then ((bagatellelaw01_cmp.f k t148 t149 t150 t143 t144 t145).bind fun t161 => (bagatellelaw01_FixMuls.j0 k a0 a1 t140 (decide (t161 > 0)))) else (bagatellelaw01_FixMuls.j0 k a0 a1 t140 false))))))) else ((bagatellelaw01_size.f t140).bind fun t162 => (if t162 = 9223372036854775807 then ((bagatellelaw01_cmp.f k t148 t149 t150 t143 t144 t145).bind fun t163 => (bagatellelaw01_FixMuls.j0 k a0 a1 t140 (decide (t163 > 0)))) else (bagatellelaw01_FixMuls.j0 k a0 a1 t140 false)))))) = some r := H
    have A11 := Aside0.mk A110
    clear A110
    replace H := Option.bind_eq_some_iff.mp H
    obtain ⟨⟨t153, t154, t155⟩, A120, H⟩ := H
    replace H : ((bagatellelaw01_size.f t140).bind fun t157 => (if t157 < 9223372036854775807 then ((bagatellelaw01_cmp.f k t148 t149 t150 t143 t144 t145).bind fun t158 => (if t158 > 0 then (bagatellelaw01_FixMuls.j0 k a0 a1 t140 true) else ((bagatellelaw01_cmp.f k t153 t154 t155 t143 t144 t145).bind fun t159 => (if t159 ≤ 0 then (bagatellelaw01_FixMuls.j0 k a0 a1 t140 true) else ((bagatellelaw01_size.f t140).bind fun t160 => (if t160 = 9223372036854775807 then ((bagatellelaw01_cmp.f k t148 t149 t150 t143 t144 t145).bind fun t161 => (bagatellelaw01_FixMuls.j0 k a0 a1 t140 (decide (t161 > 0)))) else (bagatellelaw01_FixMuls.j0 k a0 a1 t140 false))))))) else ((bagatellelaw01_size.f t140).bind fun t162 => (if t162 = 9223372036854775807 then ((bagatellelaw01_cmp.f k t148 t149 t150 t143 t144 t145).bind fun t163 => (bagatellelaw01_FixMuls.j0 k a0 a1 t140 (decide (t163 > 0)))) else (bagatellelaw01_FixMuls.j0 k a0 a1 t140 false))))) = some r := H
    have A12 := Aside0.mk A120
    clear A120
    have HC13 := Aside0.mk H
    clear H
    go_enter Try.func3, Try.ntmps3
    go_upto_region 7 with (first | ((with_reducible refine gate_callee (f := 12) rfl ?_); refine goesL_ (some 9) rfl rfl Try.func12 (by kernel_rfl) rfl #[] rfl (by (try simp only [List.map_toArray, List.map_cons, List.map_nil]); first | done | rfl | (simp only [List.length_drop, List.length_take]; rfl)) ?_; (with_reducible refine (bagatellelaw01_fit.calls k  true _ A3.out).mono ?_); rintro e w14 ⟨rfl, hb⟩; refine ⟨_, rfl, ?_⟩; have n0_ := Aside0.mk (below_step (by repeat (first | (with_reducible first | exact HB.out | apply below_alloc | apply pw_below_drewN | apply below_drew1) | exact HB.out)) hb); clear HB; have HB := n0_; clear n0_; (try clear hb); (try clear hb2); (try clear hk); (try clear hi)) | ((with_reducible refine gate_callee (f := 13) rfl ?_); refine goesL_ (some 13) rfl rfl Try.func13 (by kernel_rfl) rfl #[.int .i64 a0, .int .i64 a1] rfl (by (try simp only [List.map_toArray, List.map_cons, List.map_nil]); first | done | rfl | (simp only [List.length_drop, List.length_take]; rfl)) ?_; (with_reducible refine (fix_Mul.calls k a0 a1 t140 _ A5.out).mono ?_); rintro e w15 ⟨rfl, hb⟩; refine ⟨_, rfl, ?_⟩; have n0_ := Aside0.mk (below_step (by repeat (first | (with_reducible first | exact HB.out | apply below_alloc | apply pw_below_drewN | apply below_drew1) | exact HB.out)) hb); clear HB; have HB := n0_; clear n0_; (try clear hb); (try clear hb2); (try clear hk); (try clear hi)) | ((with_reducible refine gate_callee (f := 15) rfl ?_); refine goesL_ (some 15) rfl rfl Try.func15 (by kernel_rfl) rfl #[.int .i64 a0] rfl (by (try simp only [List.map_toArray, List.map_cons, List.map_nil]); first | done | rfl | (simp only [List.length_drop, List.length_take]; rfl)) ?_; (with_reducible refine (bagatellelaw01_size.calls a0 t141 _ A6.out).mono ?_); rintro e w' ⟨rfl, ⟨nd, rfl⟩⟩; refine ⟨_, rfl, ?_⟩; (try (rw [drewN_self w15]; generalize hq_ : World.drewN w15 _ = w15; have n0_ : Aside0 (Below w.heap.size w w15) := ⟨by rw [← hq_]; exact (by repeat (first | (with_reducible first | exact HB.out | apply below_alloc | apply pw_below_drewN | apply below_drew1) | exact HB.out))⟩; clear HB hq_; have HB := n0_; clear n0_))) | ((with_reducible refine gate_callee (f := 15) rfl ?_); refine goesL_ (some 17) rfl rfl Try.func15 (by kernel_rfl) rfl #[.int .i64 a1] rfl (by (try simp only [List.map_toArray, List.map_cons, List.map_nil]); first | done | rfl | (simp only [List.length_drop, List.length_take]; rfl)) ?_; (with_reducible refine (bagatellelaw01_size.calls a1 t142 _ A7.out).mono ?_); rintro e w' ⟨rfl, ⟨nd, rfl⟩⟩; refine ⟨_, rfl, ?_⟩; (try (rw [drewN_self w15]; generalize hq_ : World.drewN w15 _ = w15; have n0_ : Aside0 (Below w.heap.size w w15) := ⟨by rw [← hq_]; exact (by repeat (first | (with_reducible first | exact HB.out | apply below_alloc | apply pw_below_drewN | apply below_drew1) | exact HB.out))⟩; clear HB hq_; have HB := n0_; clear n0_))) | ((with_reducible refine gate_callee (f := 14) rfl ?_); refine goesL_ (some 18) rfl rfl Try.func14 (by kernel_rfl) rfl #[.int .u64 t141, .int .u64 t142] rfl (by (try simp only [List.map_toArray, List.map_cons, List.map_nil]); first | done | rfl | (simp only [List.length_drop, List.length_take]; rfl)) ?_; (with_reducible refine (bagatellelaw01_times.calls t141 t142 t143 t144 t145 _ A8.out).mono ?_); rintro e w16 ⟨rfl, hb⟩; refine ⟨_, rfl, ?_⟩; have n0_ := Aside0.mk (below_step (by repeat (first | (with_reducible first | exact HB.out | apply below_alloc | apply pw_below_drewN | apply below_drew1) | exact HB.out)) hb); clear HB; have HB := n0_; clear n0_; (try clear hb); (try clear hb2); (try clear hk); (try clear hi)) | ((with_reducible refine gate_dst (N := 6) rfl ?_); (try (refine gate_guard (by rfl) ?_; dsimp only)); refine box_event ?hg (N := 6) ?hd (cs := #[.bool false, .int .u64 0, .int .u64 0]) (t := 27) ?hr ?_; (case hd => rfl); (case hg => rfl); (case hr => first | (go_simp; done) | (go_simp; rfl)); intro gb146 hg w17 hbox hb; have n0_ := Aside0.mk (below_step (by repeat (first | (with_reducible first | exact HB.out | apply below_alloc | apply pw_below_drewN | apply below_drew1) | exact HB.out)) hb); have n1_ := Aside0.mk (hbox); have n2_ := Aside0.mk ((by rw [hg]; exact (below_size (by repeat (first | (with_reducible first | exact HB.out | apply below_alloc | apply pw_below_drewN | apply below_drew1) | exact HB.out))) : w.heap.size ≤ gb146)); have n3_ := Aside0.mk ((by rw [hg]; exact (below_size (by repeat (first | (with_reducible first | exact HB.out | apply below_alloc | apply pw_below_drewN | apply below_drew1) | exact HB.out))) : w.heap.size ≤ gb146)); clear HB; have HB := n0_; have BK146 := n1_; have GW146 := n2_; have GE146 := n3_; clear n0_ n1_ n2_ n3_; clear hb hbox hg; have hcz18_0 : w17.cell? ⟨gb146, 0, none⟩ = some (.bool false) := (blk_cell BK146.out 0).trans rfl; have hcz18_1 : w17.cell? ⟨gb146, 1, none⟩ = some (.int .u64 0) := (blk_cell BK146.out 1).trans rfl; have hcz18_2 : w17.cell? ⟨gb146, 2, none⟩ = some (.int .u64 0) := (blk_cell BK146.out 2).trans rfl; have hfz18_0 := blk_frozen BK146.out 0; have hfz18_1 := blk_frozen BK146.out 1; have hfz18_2 := blk_frozen BK146.out 2) | ((with_reducible refine gate_callee (f := 15) rfl ?_); refine goesL_ (some 20) rfl rfl Try.func15 (by kernel_rfl) rfl #[.int .i64 t140] rfl (by (try simp only [List.map_toArray, List.map_cons, List.map_nil]); first | done | rfl | (simp only [List.length_drop, List.length_take]; rfl)) ?_; (with_reducible refine (bagatellelaw01_size.calls t140 t147 _ A9.out).mono ?_); rintro e w' ⟨rfl, ⟨nd, rfl⟩⟩; refine ⟨_, rfl, ?_⟩) | ((with_reducible refine gate_callee (f := 14) rfl ?_); refine goesL_ (some 21) rfl rfl Try.func14 (by kernel_rfl) rfl #[.int .u64 t147, .int .u64 4294967296] rfl (by (try simp only [List.map_toArray, List.map_cons, List.map_nil]); first | done | rfl | (simp only [List.length_drop, List.length_take]; rfl)) ?_; (with_reducible refine (bagatellelaw01_times.calls t147 4294967296 t148 t149 t150 _ A10.out).mono ?_); rintro e w19 ⟨rfl, hb⟩; refine ⟨_, rfl, ?_⟩; have n0_ := Aside0.mk (blk_below (g := gb146) (o := .cells #[.bool t143, .int .u64 t144, .int .u64 t145] 27 (0, 0)) (by (with_reducible repeat (first | refine blk_drewN ?_ _ | refine blk_drew ?_ | refine blk_alloc ?_ _)); refine blk_put (cs := #[.bool t143, .int .u64 t144, .int .u64 0]) ?_ 2 _ rfl; (with_reducible repeat (first | refine blk_drewN ?_ _ | refine blk_drew ?_ | refine blk_alloc ?_ _)); refine blk_put (cs := #[.bool t143, .int .u64 0, .int .u64 0]) ?_ 1 _ rfl; (with_reducible repeat (first | refine blk_drewN ?_ _ | refine blk_drew ?_ | refine blk_alloc ?_ _)); refine blk_put (cs := #[.bool false, .int .u64 0, .int .u64 0]) ?_ 0 _ rfl; (with_reducible repeat (first | refine blk_drewN ?_ _ | refine blk_drew ?_ | refine blk_alloc ?_ _)); exact BK146.out) hb); have n1_ := Aside0.mk (below_step (by repeat (first | (with_reducible first | exact HB.out | apply below_alloc | apply pw_below_drewN | apply below_drew1 | refine below_set ?_ GE146.out) | exact HB.out)) hb); clear BK146; clear HB; have BK146 := n0_; have HB := n1_; clear n0_ n1_; (try clear hb); (try clear hb2); (try clear hk); (try clear hi)) | ((with_reducible refine gate_dst (N := 7) rfl ?_); (try (refine gate_guard (by rfl) ?_; dsimp only)); refine box_event ?hg (N := 7) ?hd (cs := #[.bool false, .int .u64 0, .int .u64 0]) (t := 27) ?hr ?_; (case hd => rfl); (case hg => rfl); (case hr => first | (go_simp; done) | (go_simp; rfl)); intro gb151 hg w20 hbox hb; have n0_ := Aside0.mk (blk_below (g := gb146) (o := .cells #[.bool t143, .int .u64 t144, .int .u64 t145] 27 (0, 0)) (by (with_reducible repeat (first | refine blk_drewN ?_ _ | refine blk_drew ?_ | refine blk_alloc ?_ _)); exact BK146.out) hb); have n1_ := Aside0.mk (below_step (by repeat (first | (with_reducible first | exact HB.out | apply below_alloc | apply pw_below_drewN | apply below_drew1 | refine below_set ?_ GE146.out) | exact HB.out)) hb); have n2_ := Aside0.mk (hbox); have n3_ := Aside0.mk ((by rw [hg]; exact (below_size (by repeat (first | (with_reducible first | exact HB.out | apply below_alloc | apply pw_below_drewN | apply below_drew1 | refine below_set ?_ GE146.out) | exact HB.out))) : w.heap.size ≤ gb151)); have n4_ := Aside0.mk ((by rw [hg]; exact (below_size (by repeat (first | (with_reducible first | exact HB.out | apply below_alloc | apply pw_below_drewN | apply below_drew1 | refine below_set ?_ GE146.out) | exact HB.out))) : w.heap.size ≤ gb151)); have n5_ := Aside0.mk ((by rw [hg]; exact Nat.ne_of_lt (blk_lt (g := gb146) (o := .cells #[.bool t143, .int .u64 t144, .int .u64 t145] 27 (0, 0)) (by (with_reducible repeat (first | refine blk_drewN ?_ _ | refine blk_drew ?_ | refine blk_alloc ?_ _)); exact BK146.out)) : gb146 ≠ gb151)); have n6_ := Aside0.mk ((by rw [hg]; exact Nat.ne_of_gt (blk_lt (g := gb146) (o := .cells #[.bool t143, .int .u64 t144, .int .u64 t145] 27 (0, 0)) (by (with_reducible repeat (first | refine blk_drewN ?_ _ | refine blk_drew ?_ | refine blk_alloc ?_ _)); exact BK146.out)) : gb151 ≠ gb146)); clear BK146; clear HB; have BK146 := n0_; have HB := n1_; have BK151 := n2_; have GW151 := n3_; have GE151 := n4_; have NB146_151 := n5_; have NB151_146 := n6_; clear n0_ n1_ n2_ n3_ n4_ n5_ n6_; clear hb hbox hg; have hnb21 := NB151_146.out; have hnc21 := NB146_151.out; have hcz22_0 : w20.cell? ⟨gb151, 0, none⟩ = some (.bool false) := (blk_cell BK151.out 0).trans rfl; have hcz22_1 : w20.cell? ⟨gb151, 1, none⟩ = some (.int .u64 0) := (blk_cell BK151.out 1).trans rfl; have hcz22_2 : w20.cell? ⟨gb151, 2, none⟩ = some (.int .u64 0) := (blk_cell BK151.out 2).trans rfl; have hfz22_0 := blk_frozen BK151.out 0; have hfz22_1 := blk_frozen BK151.out 1; have hfz22_2 := blk_frozen BK151.out 2) | ((with_reducible refine gate_callee (f := 15) rfl ?_); refine goesL_ (some 23) rfl rfl Try.func15 (by kernel_rfl) rfl #[.int .i64 t140] rfl (by (try simp only [List.map_toArray, List.map_cons, List.map_nil]); first | done | rfl | (simp only [List.length_drop, List.length_take]; rfl)) ?_; (with_reducible refine (bagatellelaw01_size.calls t140 t152 _ A11.out).mono ?_); rintro e w' ⟨rfl, ⟨nd, rfl⟩⟩; refine ⟨_, rfl, ?_⟩) | ((with_reducible refine gate_callee (f := 14) rfl ?_); refine goesL_ (some 25) rfl rfl Try.func14 (by kernel_rfl) rfl #[.int .u64 (IntKind.u64.wrap (t152 + 1)), .int .u64 4294967296] rfl (by (try simp only [List.map_toArray, List.map_cons, List.map_nil]); first | done | rfl | (simp only [List.length_drop, List.length_take]; rfl)) ?_; (with_reducible refine (bagatellelaw01_times.calls (IntKind.u64.wrap (t152 + 1)) 4294967296 t153 t154 t155 _ A12.out).mono ?_); rintro e w23 ⟨rfl, hb⟩; refine ⟨_, rfl, ?_⟩; have n0_ := Aside0.mk (blk_below (g := gb146) (o := .cells #[.bool t143, .int .u64 t144, .int .u64 t145] 27 (0, 0)) (by (with_reducible repeat (first | refine blk_drewN ?_ _ | refine blk_drew ?_ | refine blk_alloc ?_ _)); refine blk_far ?_ NB146_151.out _; (with_reducible repeat (first | refine blk_drewN ?_ _ | refine blk_drew ?_ | refine blk_alloc ?_ _)); refine blk_far ?_ NB146_151.out _; (with_reducible repeat (first | refine blk_drewN ?_ _ | refine blk_drew ?_ | refine blk_alloc ?_ _)); refine blk_far ?_ NB146_151.out _; (with_reducible repeat (first | refine blk_drewN ?_ _ | refine blk_drew ?_ | refine blk_alloc ?_ _)); exact BK146.out) hb); have n1_ := Aside0.mk (blk_below (g := gb151) (o := .cells #[.bool t148, .int .u64 t149, .int .u64 t150] 27 (0, 0)) (by (with_reducible repeat (first | refine blk_drewN ?_ _ | refine blk_drew ?_ | refine blk_alloc ?_ _)); refine blk_put (cs := #[.bool t148, .int .u64 t149, .int .u64 0]) ?_ 2 _ rfl; (with_reducible repeat (first | refine blk_drewN ?_ _ | refine blk_drew ?_ | refine blk_alloc ?_ _)); refine blk_put (cs := #[.bool t148, .int .u64 0, .int .u64 0]) ?_ 1 _ rfl; (with_reducible repeat (first | refine blk_drewN ?_ _ | refine blk_drew ?_ | refine blk_alloc ?_ _)); refine blk_put (cs := #[.bool false, .int .u64 0, .int .u64 0]) ?_ 0 _ rfl; (with_reducible repeat (first | refine blk_drewN ?_ _ | refine blk_drew ?_ | refine blk_alloc ?_ _)); exact BK151.out) hb); have n2_ := Aside0.mk (below_step (by repeat (first | (with_reducible first | exact HB.out | apply below_alloc | apply pw_below_drewN | apply below_drew1 | refine below_set ?_ GE146.out | refine below_set ?_ GE151.out) | exact HB.out)) hb); clear BK146; clear BK151; clear HB; have BK146 := n0_; have BK151 := n1_; have HB := n2_; clear n0_ n1_ n2_; (try clear hb); (try clear hb2); (try clear hk); (try clear hi)) | ((with_reducible refine gate_dst (N := 8) rfl ?_); (try (refine gate_guard (by rfl) ?_; dsimp only)); refine box_event ?hg (N := 8) ?hd (cs := #[.bool false, .int .u64 0, .int .u64 0]) (t := 27) ?hr ?_; (case hd => rfl); (case hg => rfl); (case hr => first | (go_simp; done) | (go_simp; rfl)); intro gb156 hg w24 hbox hb; have n0_ := Aside0.mk (blk_below (g := gb146) (o := .cells #[.bool t143, .int .u64 t144, .int .u64 t145] 27 (0, 0)) (by (with_reducible repeat (first | refine blk_drewN ?_ _ | refine blk_drew ?_ | refine blk_alloc ?_ _)); exact BK146.out) hb); have n1_ := Aside0.mk (blk_below (g := gb151) (o := .cells #[.bool t148, .int .u64 t149, .int .u64 t150] 27 (0, 0)) (by (with_reducible repeat (first | refine blk_drewN ?_ _ | refine blk_drew ?_ | refine blk_alloc ?_ _)); exact BK151.out) hb); have n2_ := Aside0.mk (below_step (by repeat (first | (with_reducible first | exact HB.out | apply below_alloc | apply pw_below_drewN | apply below_drew1 | refine below_set ?_ GE146.out | refine below_set ?_ GE151.out) | exact HB.out)) hb); have n3_ := Aside0.mk (hbox); have n4_ := Aside0.mk ((by rw [hg]; exact (below_size (by repeat (first | (with_reducible first | exact HB.out | apply below_alloc | apply pw_below_drewN | apply below_drew1 | refine below_set ?_ GE146.out | refine below_set ?_ GE151.out) | exact HB.out))) : w.heap.size ≤ gb156)); have n5_ := Aside0.mk ((by rw [hg]; exact (below_size (by repeat (first | (with_reducible first | exact HB.out | apply below_alloc | apply pw_below_drewN | apply below_drew1 | refine below_set ?_ GE146.out | refine below_set ?_ GE151.out) | exact HB.out))) : w.heap.size ≤ gb156)); have n6_ := Aside0.mk ((by rw [hg]; exact Nat.ne_of_lt (blk_lt (g := gb146) (o := .cells #[.bool t143, .int .u64 t144, .int .u64 t145] 27 (0, 0)) (by (with_reducible repeat (first | refine blk_drewN ?_ _ | refine blk_drew ?_ | refine blk_alloc ?_ _)); exact BK146.out)) : gb146 ≠ gb156)); have n7_ := Aside0.mk ((by rw [hg]; exact Nat.ne_of_gt (blk_lt (g := gb146) (o := .cells #[.bool t143, .int .u64 t144, .int .u64 t145] 27 (0, 0)) (by (with_reducible repeat (first | refine blk_drewN ?_ _ | refine blk_drew ?_ | refine blk_alloc ?_ _)); exact BK146.out)) : gb156 ≠ gb146)); have n8_ := Aside0.mk ((by rw [hg]; exact Nat.ne_of_lt (blk_lt (g := gb151) (o := .cells #[.bool t148, .int .u64 t149, .int .u64 t150] 27 (0, 0)) (by (with_reducible repeat (first | refine blk_drewN ?_ _ | refine blk_drew ?_ | refine blk_alloc ?_ _)); exact BK151.out)) : gb151 ≠ gb156)); have n9_ := Aside0.mk ((by rw [hg]; exact Nat.ne_of_gt (blk_lt (g := gb151) (o := .cells #[.bool t148, .int .u64 t149, .int .u64 t150] 27 (0, 0)) (by (with_reducible repeat (first | refine blk_drewN ?_ _ | refine blk_drew ?_ | refine blk_alloc ?_ _)); exact BK151.out)) : gb156 ≠ gb151)); clear BK146; clear BK151; clear HB; have BK146 := n0_; have BK151 := n1_; have HB := n2_; have BK156 := n3_; have GW156 := n4_; have GE156 := n5_; have NB146_156 := n6_; have NB156_146 := n7_; have NB151_156 := n8_; have NB156_151 := n9_; clear n0_ n1_ n2_ n3_ n4_ n5_ n6_ n7_ n8_ n9_; clear hb hbox hg; have hnb25 := NB156_146.out; have hnc25 := NB146_156.out; have hnb26 := NB156_151.out; have hnc26 := NB151_156.out; have hcz27_0 : w24.cell? ⟨gb156, 0, none⟩ = some (.bool false) := (blk_cell BK156.out 0).trans rfl; have hcz27_1 : w24.cell? ⟨gb156, 1, none⟩ = some (.int .u64 0) := (blk_cell BK156.out 1).trans rfl; have hcz27_2 : w24.cell? ⟨gb156, 2, none⟩ = some (.int .u64 0) := (blk_cell BK156.out 2).trans rfl; have hfz27_0 := blk_frozen BK156.out 0; have hfz27_1 := blk_frozen BK156.out 1; have hfz27_2 := blk_frozen BK156.out 2))
    (try simp only [Act.put, List.setIfInBounds_toArray, List.set_cons_zero, List.set_cons_succ])
    go_cut [51] (fun v51 wc => ∃ (kq : Nat) (x51_12 : Bool), v51 = .bool x51_12 ∧ Aside0 (bagatellelaw01_FixMuls.j0 kq a0 a1 t140 x51_12 = some r) ∧ Aside0 (kq ≤ k) ∧ Aside0 (wc.heap[gb146]? = some (.cells #[.bool t143, .int .u64 t144, .int .u64 t145] 27 (0, 0))) ∧ Aside0 (wc.heap[gb151]? = some (.cells #[.bool t148, .int .u64 t149, .int .u64 t150] 27 (0, 0))) ∧ Aside0 (wc.heap[gb156]? = some (.cells #[.bool t153, .int .u64 t154, .int .u64 t155] 27 (0, 0))) ∧ Aside0 (Below w.heap.size w wc))
    case first =>
      have H := HC13.out
      clear HC13
      replace H := Option.bind_eq_some_iff.mp H
      obtain ⟨t157, A280, H⟩ := H
      replace H : (if t157 < 9223372036854775807 then ((bagatellelaw01_cmp.f k t148 t149 t150 t143 t144 t145).bind fun t158 => (if t158 > 0 then (bagatellelaw01_FixMuls.j0 k a0 a1 t140 true) else ((bagatellelaw01_cmp.f k t153 t154 t155 t143 t144 t145).bind fun t159 => (if t159 ≤ 0 then (bagatellelaw01_FixMuls.j0 k a0 a1 t140 true) else ((bagatellelaw01_size.f t140).bind fun t160 => (if t160 = 9223372036854775807 then ((bagatellelaw01_cmp.f k t148 t149 t150 t143 t144 t145).bind fun t161 => (bagatellelaw01_FixMuls.j0 k a0 a1 t140 (decide (t161 > 0)))) else (bagatellelaw01_FixMuls.j0 k a0 a1 t140 false))))))) else ((bagatellelaw01_size.f t140).bind fun t162 => (if t162 = 9223372036854775807 then ((bagatellelaw01_cmp.f k t148 t149 t150 t143 t144 t145).bind fun t163 => (bagatellelaw01_FixMuls.j0 k a0 a1 t140 (decide (t163 > 0)))) else (bagatellelaw01_FixMuls.j0 k a0 a1 t140 false)))) = some r := H
      have A28 := Aside0.mk A280
      clear A280
      by_cases c29 : t157 < 9223372036854775807
      · rw [if_pos c29] at H
        have c29b0 : decide (t157 < 9223372036854775807) = true := decide_eq_true c29
        clear c29
        (first | rw [c29b0] | (simp only [i64_w, i32_w]; rw [c29b0]) | skip)
        replace H := Option.bind_eq_some_iff.mp H
        obtain ⟨t158, A300, H⟩ := H
        replace H : (if t158 > 0 then (bagatellelaw01_FixMuls.j0 k a0 a1 t140 true) else ((bagatellelaw01_cmp.f k t153 t154 t155 t143 t144 t145).bind fun t159 => (if t159 ≤ 0 then (bagatellelaw01_FixMuls.j0 k a0 a1 t140 true) else ((bagatellelaw01_size.f t140).bind fun t160 => (if t160 = 9223372036854775807 then ((bagatellelaw01_cmp.f k t148 t149 t150 t143 t144 t145).bind fun t161 => (bagatellelaw01_FixMuls.j0 k a0 a1 t140 (decide (t161 > 0)))) else (bagatellelaw01_FixMuls.j0 k a0 a1 t140 false)))))) = some r := H
        have A30 := Aside0.mk A300
        clear A300
        by_cases c31 : t158 > 0
        · rw [if_pos c31] at H
          have c31b0 : decide (0 < t158) = true := decide_eq_true c31
          clear c31
          have H' := Aside0.mk H
          clear H
          go_wp2_with (first | ((with_reducible refine gate_callee (f := 15) rfl ?_); refine goesL_ (some 27) rfl rfl Try.func15 (by kernel_rfl) rfl #[.int .i64 t140] rfl (by (try simp only [List.map_toArray, List.map_cons, List.map_nil]); first | done | rfl | (simp only [List.length_drop, List.length_take]; rfl)) ?_; (with_reducible refine (bagatellelaw01_size.calls t140 t157 _ A28.out).mono ?_); rintro e w' ⟨rfl, ⟨nd, rfl⟩⟩; refine ⟨_, rfl, ?_⟩; have hnb32 := NB151_146.out; have hnc32 := NB146_151.out; have hnb33 := NB151_156.out; have hnc33 := NB156_151.out; have hcz34_0 : w24.cell? ⟨gb151, 0, none⟩ = some (.bool t148) := (blk_cell BK151.out 0).trans rfl; have hcz34_1 : w24.cell? ⟨gb151, 1, none⟩ = some (.int .u64 t149) := (blk_cell BK151.out 1).trans rfl; have hcz34_2 : w24.cell? ⟨gb151, 2, none⟩ = some (.int .u64 t150) := (blk_cell BK151.out 2).trans rfl; have hfz34_0 := blk_frozen BK151.out 0; have hfz34_1 := blk_frozen BK151.out 1; have hfz34_2 := blk_frozen BK151.out 2; have hnb35 := NB146_156.out; have hnc35 := NB156_146.out; have hcz36_0 : w24.cell? ⟨gb146, 0, none⟩ = some (.bool t143) := (blk_cell BK146.out 0).trans rfl; have hcz36_1 : w24.cell? ⟨gb146, 1, none⟩ = some (.int .u64 t144) := (blk_cell BK146.out 1).trans rfl; have hcz36_2 : w24.cell? ⟨gb146, 2, none⟩ = some (.int .u64 t145) := (blk_cell BK146.out 2).trans rfl; have hfz36_0 := blk_frozen BK146.out 0; have hfz36_1 := blk_frozen BK146.out 1; have hfz36_2 := blk_frozen BK146.out 2) | (go_at_call 16; (with_reducible refine (bagatellelaw01_cmp.calls k t148 t149 t150 t143 t144 t145 t158 _ A30.out).mono ?_); rintro e w37 ⟨rfl, hb⟩; have n0_ := Aside0.mk (blk_below (g := gb146) (o := .cells #[.bool t143, .int .u64 t144, .int .u64 t145] 27 (0, 0)) (by (with_reducible repeat (first | refine blk_drewN ?_ _ | refine blk_drew ?_ | refine blk_alloc ?_ _)); refine blk_far ?_ NB146_156.out _; (with_reducible repeat (first | refine blk_drewN ?_ _ | refine blk_drew ?_ | refine blk_alloc ?_ _)); refine blk_far ?_ NB146_156.out _; (with_reducible repeat (first | refine blk_drewN ?_ _ | refine blk_drew ?_ | refine blk_alloc ?_ _)); refine blk_far ?_ NB146_156.out _; (with_reducible repeat (first | refine blk_drewN ?_ _ | refine blk_drew ?_ | refine blk_alloc ?_ _)); exact BK146.out) hb); have n1_ := Aside0.mk (blk_below (g := gb151) (o := .cells #[.bool t148, .int .u64 t149, .int .u64 t150] 27 (0, 0)) (by (with_reducible repeat (first | refine blk_drewN ?_ _ | refine blk_drew ?_ | refine blk_alloc ?_ _)); refine blk_far ?_ NB151_156.out _; (with_reducible repeat (first | refine blk_drewN ?_ _ | refine blk_drew ?_ | refine blk_alloc ?_ _)); refine blk_far ?_ NB151_156.out _; (with_reducible repeat (first | refine blk_drewN ?_ _ | refine blk_drew ?_ | refine blk_alloc ?_ _)); refine blk_far ?_ NB151_156.out _; (with_reducible repeat (first | refine blk_drewN ?_ _ | refine blk_drew ?_ | refine blk_alloc ?_ _)); exact BK151.out) hb); have n2_ := Aside0.mk (blk_below (g := gb156) (o := .cells #[.bool t153, .int .u64 t154, .int .u64 t155] 27 (0, 0)) (by (with_reducible repeat (first | refine blk_drewN ?_ _ | refine blk_drew ?_ | refine blk_alloc ?_ _)); refine blk_put (cs := #[.bool t153, .int .u64 t154, .int .u64 0]) ?_ 2 _ rfl; (with_reducible repeat (first | refine blk_drewN ?_ _ | refine blk_drew ?_ | refine blk_alloc ?_ _)); refine blk_put (cs := #[.bool t153, .int .u64 0, .int .u64 0]) ?_ 1 _ rfl; (with_reducible repeat (first | refine blk_drewN ?_ _ | refine blk_drew ?_ | refine blk_alloc ?_ _)); refine blk_put (cs := #[.bool false, .int .u64 0, .int .u64 0]) ?_ 0 _ rfl; (with_reducible repeat (first | refine blk_drewN ?_ _ | refine blk_drew ?_ | refine blk_alloc ?_ _)); exact BK156.out) hb); have n3_ := Aside0.mk (below_step (by repeat (first | (with_reducible first | exact HB.out | apply below_alloc | apply pw_below_drewN | apply below_drew1 | refine below_set ?_ GE146.out | refine below_set ?_ GE151.out | refine below_set ?_ GE156.out) | exact HB.out)) hb); clear BK146; clear BK151; clear BK156; clear HB; have BK146 := n0_; have BK151 := n1_; have BK156 := n2_; have HB := n3_; clear n0_ n1_ n2_ n3_; (try clear hb); (try clear hb2); (try clear hk); (try clear hi)))
          go_meet
          case rel => exact ⟨_, (true), (by first | rfl | (simp; done) | (simp [*]; done) | (simp [wrap64]; done) | (congr 2 <;> first | rfl | (unfold wrap64; omega))), H', ⟨by first | omega | exact Nat.le_refl _⟩, ⟨by (with_reducible repeat (first | refine blk_drewN ?_ _ | refine blk_drew ?_ | refine blk_alloc ?_ _)); exact BK146.out⟩, ⟨by (with_reducible repeat (first | refine blk_drewN ?_ _ | refine blk_drew ?_ | refine blk_alloc ?_ _)); exact BK151.out⟩, ⟨by (with_reducible repeat (first | refine blk_drewN ?_ _ | refine blk_drew ?_ | refine blk_alloc ?_ _)); exact BK156.out⟩, ⟨by repeat (first | (with_reducible first | exact HB.out | apply below_alloc | apply pw_below_drewN | apply below_drew1 | refine below_set ?_ GE146.out | refine below_set ?_ GE151.out | refine below_set ?_ GE156.out) | exact HB.out)⟩⟩
        · rw [if_neg c31] at H
          have c31b0 : decide (0 < t158) = false := decide_eq_false c31
          clear c31
          replace H := Option.bind_eq_some_iff.mp H
          obtain ⟨t159, A380, H⟩ := H
          replace H : (if t159 ≤ 0 then (bagatellelaw01_FixMuls.j0 k a0 a1 t140 true) else ((bagatellelaw01_size.f t140).bind fun t160 => (if t160 = 9223372036854775807 then ((bagatellelaw01_cmp.f k t148 t149 t150 t143 t144 t145).bind fun t161 => (bagatellelaw01_FixMuls.j0 k a0 a1 t140 (decide (t161 > 0)))) else (bagatellelaw01_FixMuls.j0 k a0 a1 t140 false)))) = some r := H
          have A38 := Aside0.mk A380
          clear A380
          by_cases c39 : t159 ≤ 0
          · rw [if_pos c39] at H
            have c39b0 : decide (t159 ≤ 0) = true := decide_eq_true c39
            clear c39
            have H' := Aside0.mk H
            clear H
            go_wp2_with (first | ((with_reducible refine gate_callee (f := 15) rfl ?_); refine goesL_ (some 27) rfl rfl Try.func15 (by kernel_rfl) rfl #[.int .i64 t140] rfl (by (try simp only [List.map_toArray, List.map_cons, List.map_nil]); first | done | rfl | (simp only [List.length_drop, List.length_take]; rfl)) ?_; (with_reducible refine (bagatellelaw01_size.calls t140 t157 _ A28.out).mono ?_); rintro e w' ⟨rfl, ⟨nd, rfl⟩⟩; refine ⟨_, rfl, ?_⟩; have hnb40 := NB151_146.out; have hnc40 := NB146_151.out; have hnb41 := NB151_156.out; have hnc41 := NB156_151.out; have hcz42_0 : w24.cell? ⟨gb151, 0, none⟩ = some (.bool t148) := (blk_cell BK151.out 0).trans rfl; have hcz42_1 : w24.cell? ⟨gb151, 1, none⟩ = some (.int .u64 t149) := (blk_cell BK151.out 1).trans rfl; have hcz42_2 : w24.cell? ⟨gb151, 2, none⟩ = some (.int .u64 t150) := (blk_cell BK151.out 2).trans rfl; have hfz42_0 := blk_frozen BK151.out 0; have hfz42_1 := blk_frozen BK151.out 1; have hfz42_2 := blk_frozen BK151.out 2; have hnb43 := NB146_156.out; have hnc43 := NB156_146.out; have hcz44_0 : w24.cell? ⟨gb146, 0, none⟩ = some (.bool t143) := (blk_cell BK146.out 0).trans rfl; have hcz44_1 : w24.cell? ⟨gb146, 1, none⟩ = some (.int .u64 t144) := (blk_cell BK146.out 1).trans rfl; have hcz44_2 : w24.cell? ⟨gb146, 2, none⟩ = some (.int .u64 t145) := (blk_cell BK146.out 2).trans rfl; have hfz44_0 := blk_frozen BK146.out 0; have hfz44_1 := blk_frozen BK146.out 1; have hfz44_2 := blk_frozen BK146.out 2) | (go_at_call 16; (with_reducible refine (bagatellelaw01_cmp.calls k t148 t149 t150 t143 t144 t145 t158 _ A30.out).mono ?_); rintro e w45 ⟨rfl, hb⟩; have n0_ := Aside0.mk (blk_below (g := gb146) (o := .cells #[.bool t143, .int .u64 t144, .int .u64 t145] 27 (0, 0)) (by (with_reducible repeat (first | refine blk_drewN ?_ _ | refine blk_drew ?_ | refine blk_alloc ?_ _)); refine blk_far ?_ NB146_156.out _; (with_reducible repeat (first | refine blk_drewN ?_ _ | refine blk_drew ?_ | refine blk_alloc ?_ _)); refine blk_far ?_ NB146_156.out _; (with_reducible repeat (first | refine blk_drewN ?_ _ | refine blk_drew ?_ | refine blk_alloc ?_ _)); refine blk_far ?_ NB146_156.out _; (with_reducible repeat (first | refine blk_drewN ?_ _ | refine blk_drew ?_ | refine blk_alloc ?_ _)); exact BK146.out) hb); have n1_ := Aside0.mk (blk_below (g := gb151) (o := .cells #[.bool t148, .int .u64 t149, .int .u64 t150] 27 (0, 0)) (by (with_reducible repeat (first | refine blk_drewN ?_ _ | refine blk_drew ?_ | refine blk_alloc ?_ _)); refine blk_far ?_ NB151_156.out _; (with_reducible repeat (first | refine blk_drewN ?_ _ | refine blk_drew ?_ | refine blk_alloc ?_ _)); refine blk_far ?_ NB151_156.out _; (with_reducible repeat (first | refine blk_drewN ?_ _ | refine blk_drew ?_ | refine blk_alloc ?_ _)); refine blk_far ?_ NB151_156.out _; (with_reducible repeat (first | refine blk_drewN ?_ _ | refine blk_drew ?_ | refine blk_alloc ?_ _)); exact BK151.out) hb); have n2_ := Aside0.mk (blk_below (g := gb156) (o := .cells #[.bool t153, .int .u64 t154, .int .u64 t155] 27 (0, 0)) (by (with_reducible repeat (first | refine blk_drewN ?_ _ | refine blk_drew ?_ | refine blk_alloc ?_ _)); refine blk_put (cs := #[.bool t153, .int .u64 t154, .int .u64 0]) ?_ 2 _ rfl; (with_reducible repeat (first | refine blk_drewN ?_ _ | refine blk_drew ?_ | refine blk_alloc ?_ _)); refine blk_put (cs := #[.bool t153, .int .u64 0, .int .u64 0]) ?_ 1 _ rfl; (with_reducible repeat (first | refine blk_drewN ?_ _ | refine blk_drew ?_ | refine blk_alloc ?_ _)); refine blk_put (cs := #[.bool false, .int .u64 0, .int .u64 0]) ?_ 0 _ rfl; (with_reducible repeat (first | refine blk_drewN ?_ _ | refine blk_drew ?_ | refine blk_alloc ?_ _)); exact BK156.out) hb); have n3_ := Aside0.mk (below_step (by repeat (first | (with_reducible first | exact HB.out | apply below_alloc | apply pw_below_drewN | apply below_drew1 | refine below_set ?_ GE146.out | refine below_set ?_ GE151.out | refine below_set ?_ GE156.out) | exact HB.out)) hb); clear BK146; clear BK151; clear BK156; clear HB; have BK146 := n0_; have BK151 := n1_; have BK156 := n2_; have HB := n3_; clear n0_ n1_ n2_ n3_; (try clear hb); (try clear hb2); (try clear hk); (try clear hi); have hcz46_0 : w45.cell? ⟨gb156, 0, none⟩ = some (.bool t153) := (blk_cell BK156.out 0).trans rfl; have hcz46_1 : w45.cell? ⟨gb156, 1, none⟩ = some (.int .u64 t154) := (blk_cell BK156.out 1).trans rfl; have hcz46_2 : w45.cell? ⟨gb156, 2, none⟩ = some (.int .u64 t155) := (blk_cell BK156.out 2).trans rfl; have hfz46_0 := blk_frozen BK156.out 0; have hfz46_1 := blk_frozen BK156.out 1; have hfz46_2 := blk_frozen BK156.out 2; have hcz47_0 : w45.cell? ⟨gb146, 0, none⟩ = some (.bool t143) := (blk_cell BK146.out 0).trans rfl; have hcz47_1 : w45.cell? ⟨gb146, 1, none⟩ = some (.int .u64 t144) := (blk_cell BK146.out 1).trans rfl; have hcz47_2 : w45.cell? ⟨gb146, 2, none⟩ = some (.int .u64 t145) := (blk_cell BK146.out 2).trans rfl; have hfz47_0 := blk_frozen BK146.out 0; have hfz47_1 := blk_frozen BK146.out 1; have hfz47_2 := blk_frozen BK146.out 2) | (go_at_call 16; (with_reducible refine (bagatellelaw01_cmp.calls k t153 t154 t155 t143 t144 t145 t159 _ A38.out).mono ?_); rintro e w48 ⟨rfl, hb⟩; have n0_ := Aside0.mk (blk_below (g := gb146) (o := .cells #[.bool t143, .int .u64 t144, .int .u64 t145] 27 (0, 0)) (by (with_reducible repeat (first | refine blk_drewN ?_ _ | refine blk_drew ?_ | refine blk_alloc ?_ _)); exact BK146.out) hb); have n1_ := Aside0.mk (blk_below (g := gb151) (o := .cells #[.bool t148, .int .u64 t149, .int .u64 t150] 27 (0, 0)) (by (with_reducible repeat (first | refine blk_drewN ?_ _ | refine blk_drew ?_ | refine blk_alloc ?_ _)); exact BK151.out) hb); have n2_ := Aside0.mk (blk_below (g := gb156) (o := .cells #[.bool t153, .int .u64 t154, .int .u64 t155] 27 (0, 0)) (by (with_reducible repeat (first | refine blk_drewN ?_ _ | refine blk_drew ?_ | refine blk_alloc ?_ _)); exact BK156.out) hb); have n3_ := Aside0.mk (below_step (by repeat (first | (with_reducible first | exact HB.out | apply below_alloc | apply pw_below_drewN | apply below_drew1 | refine below_set ?_ GE146.out | refine below_set ?_ GE151.out | refine below_set ?_ GE156.out) | exact HB.out)) hb); clear BK146; clear BK151; clear BK156; clear HB; have BK146 := n0_; have BK151 := n1_; have BK156 := n2_; have HB := n3_; clear n0_ n1_ n2_ n3_; (try clear hb); (try clear hb2); (try clear hk); (try clear hi)))
            go_meet
            case rel => exact ⟨_, (true), (by first | rfl | (simp; done) | (simp [*]; done) | (simp [wrap64]; done) | (congr 2 <;> first | rfl | (unfold wrap64; omega))), H', ⟨by first | omega | exact Nat.le_refl _⟩, ⟨by (with_reducible repeat (first | refine blk_drewN ?_ _ | refine blk_drew ?_ | refine blk_alloc ?_ _)); exact BK146.out⟩, ⟨by (with_reducible repeat (first | refine blk_drewN ?_ _ | refine blk_drew ?_ | refine blk_alloc ?_ _)); exact BK151.out⟩, ⟨by (with_reducible repeat (first | refine blk_drewN ?_ _ | refine blk_drew ?_ | refine blk_alloc ?_ _)); exact BK156.out⟩, ⟨by repeat (first | (with_reducible first | exact HB.out | apply below_alloc | apply pw_below_drewN | apply below_drew1 | refine below_set ?_ GE146.out | refine below_set ?_ GE151.out | refine below_set ?_ GE156.out) | exact HB.out)⟩⟩
          · rw [if_neg c39] at H
            have c39b0 : decide (t159 ≤ 0) = false := decide_eq_false c39
            clear c39
            replace H := Option.bind_eq_some_iff.mp H
            obtain ⟨t160, A490, H⟩ := H
            replace H : (if t160 = 9223372036854775807 then ((bagatellelaw01_cmp.f k t148 t149 t150 t143 t144 t145).bind fun t161 => (bagatellelaw01_FixMuls.j0 k a0 a1 t140 (decide (t161 > 0)))) else (bagatellelaw01_FixMuls.j0 k a0 a1 t140 false)) = some r := H
            have A49 := Aside0.mk A490
            clear A490
            by_cases c50 : t160 = 9223372036854775807
            · rw [if_pos c50] at H
              have c50b0 : (t160 == 9223372036854775807) = true := beq_iff_eq.mpr c50
              have c50b1 : (t160 != 9223372036854775807) = false := bne_eq_false_iff_eq.mpr c50
              clear c50
              replace H := Option.bind_eq_some_iff.mp H
              obtain ⟨t161, A510, H⟩ := H
              replace H : (bagatellelaw01_FixMuls.j0 k a0 a1 t140 (decide (t161 > 0))) = some r := H
              have A51 := Aside0.mk A510
              clear A510
              have H' := Aside0.mk H
              clear H
              go_wp2_with (first | ((with_reducible refine gate_callee (f := 15) rfl ?_); refine goesL_ (some 27) rfl rfl Try.func15 (by kernel_rfl) rfl #[.int .i64 t140] rfl (by (try simp only [List.map_toArray, List.map_cons, List.map_nil]); first | done | rfl | (simp only [List.length_drop, List.length_take]; rfl)) ?_; (with_reducible refine (bagatellelaw01_size.calls t140 t157 _ A28.out).mono ?_); rintro e w' ⟨rfl, ⟨nd, rfl⟩⟩; refine ⟨_, rfl, ?_⟩; have hnb52 := NB151_146.out; have hnc52 := NB146_151.out; have hnb53 := NB151_156.out; have hnc53 := NB156_151.out; have hcz54_0 : w24.cell? ⟨gb151, 0, none⟩ = some (.bool t148) := (blk_cell BK151.out 0).trans rfl; have hcz54_1 : w24.cell? ⟨gb151, 1, none⟩ = some (.int .u64 t149) := (blk_cell BK151.out 1).trans rfl; have hcz54_2 : w24.cell? ⟨gb151, 2, none⟩ = some (.int .u64 t150) := (blk_cell BK151.out 2).trans rfl; have hfz54_0 := blk_frozen BK151.out 0; have hfz54_1 := blk_frozen BK151.out 1; have hfz54_2 := blk_frozen BK151.out 2; have hnb55 := NB146_156.out; have hnc55 := NB156_146.out; have hcz56_0 : w24.cell? ⟨gb146, 0, none⟩ = some (.bool t143) := (blk_cell BK146.out 0).trans rfl; have hcz56_1 : w24.cell? ⟨gb146, 1, none⟩ = some (.int .u64 t144) := (blk_cell BK146.out 1).trans rfl; have hcz56_2 : w24.cell? ⟨gb146, 2, none⟩ = some (.int .u64 t145) := (blk_cell BK146.out 2).trans rfl; have hfz56_0 := blk_frozen BK146.out 0; have hfz56_1 := blk_frozen BK146.out 1; have hfz56_2 := blk_frozen BK146.out 2) | (go_at_call 16; (with_reducible refine (bagatellelaw01_cmp.calls k t148 t149 t150 t143 t144 t145 t158 _ A30.out).mono ?_); rintro e w57 ⟨rfl, hb⟩; have n0_ := Aside0.mk (blk_below (g := gb146) (o := .cells #[.bool t143, .int .u64 t144, .int .u64 t145] 27 (0, 0)) (by (with_reducible repeat (first | refine blk_drewN ?_ _ | refine blk_drew ?_ | refine blk_alloc ?_ _)); refine blk_far ?_ NB146_156.out _; (with_reducible repeat (first | refine blk_drewN ?_ _ | refine blk_drew ?_ | refine blk_alloc ?_ _)); refine blk_far ?_ NB146_156.out _; (with_reducible repeat (first | refine blk_drewN ?_ _ | refine blk_drew ?_ | refine blk_alloc ?_ _)); refine blk_far ?_ NB146_156.out _; (with_reducible repeat (first | refine blk_drewN ?_ _ | refine blk_drew ?_ | refine blk_alloc ?_ _)); exact BK146.out) hb); have n1_ := Aside0.mk (blk_below (g := gb151) (o := .cells #[.bool t148, .int .u64 t149, .int .u64 t150] 27 (0, 0)) (by (with_reducible repeat (first | refine blk_drewN ?_ _ | refine blk_drew ?_ | refine blk_alloc ?_ _)); refine blk_far ?_ NB151_156.out _; (with_reducible repeat (first | refine blk_drewN ?_ _ | refine blk_drew ?_ | refine blk_alloc ?_ _)); refine blk_far ?_ NB151_156.out _; (with_reducible repeat (first | refine blk_drewN ?_ _ | refine blk_drew ?_ | refine blk_alloc ?_ _)); refine blk_far ?_ NB151_156.out _; (with_reducible repeat (first | refine blk_drewN ?_ _ | refine blk_drew ?_ | refine blk_alloc ?_ _)); exact BK151.out) hb); have n2_ := Aside0.mk (blk_below (g := gb156) (o := .cells #[.bool t153, .int .u64 t154, .int .u64 t155] 27 (0, 0)) (by (with_reducible repeat (first | refine blk_drewN ?_ _ | refine blk_drew ?_ | refine blk_alloc ?_ _)); refine blk_put (cs := #[.bool t153, .int .u64 t154, .int .u64 0]) ?_ 2 _ rfl; (with_reducible repeat (first | refine blk_drewN ?_ _ | refine blk_drew ?_ | refine blk_alloc ?_ _)); refine blk_put (cs := #[.bool t153, .int .u64 0, .int .u64 0]) ?_ 1 _ rfl; (with_reducible repeat (first | refine blk_drewN ?_ _ | refine blk_drew ?_ | refine blk_alloc ?_ _)); refine blk_put (cs := #[.bool false, .int .u64 0, .int .u64 0]) ?_ 0 _ rfl; (with_reducible repeat (first | refine blk_drewN ?_ _ | refine blk_drew ?_ | refine blk_alloc ?_ _)); exact BK156.out) hb); have n3_ := Aside0.mk (below_step (by repeat (first | (with_reducible first | exact HB.out | apply below_alloc | apply pw_below_drewN | apply below_drew1 | refine below_set ?_ GE146.out | refine below_set ?_ GE151.out | refine below_set ?_ GE156.out) | exact HB.out)) hb); clear BK146; clear BK151; clear BK156; clear HB; have BK146 := n0_; have BK151 := n1_; have BK156 := n2_; have HB := n3_; clear n0_ n1_ n2_ n3_; (try clear hb); (try clear hb2); (try clear hk); (try clear hi); have hcz58_0 : w57.cell? ⟨gb156, 0, none⟩ = some (.bool t153) := (blk_cell BK156.out 0).trans rfl; have hcz58_1 : w57.cell? ⟨gb156, 1, none⟩ = some (.int .u64 t154) := (blk_cell BK156.out 1).trans rfl; have hcz58_2 : w57.cell? ⟨gb156, 2, none⟩ = some (.int .u64 t155) := (blk_cell BK156.out 2).trans rfl; have hfz58_0 := blk_frozen BK156.out 0; have hfz58_1 := blk_frozen BK156.out 1; have hfz58_2 := blk_frozen BK156.out 2; have hcz59_0 : w57.cell? ⟨gb146, 0, none⟩ = some (.bool t143) := (blk_cell BK146.out 0).trans rfl; have hcz59_1 : w57.cell? ⟨gb146, 1, none⟩ = some (.int .u64 t144) := (blk_cell BK146.out 1).trans rfl; have hcz59_2 : w57.cell? ⟨gb146, 2, none⟩ = some (.int .u64 t145) := (blk_cell BK146.out 2).trans rfl; have hfz59_0 := blk_frozen BK146.out 0; have hfz59_1 := blk_frozen BK146.out 1; have hfz59_2 := blk_frozen BK146.out 2) | (go_at_call 16; (with_reducible refine (bagatellelaw01_cmp.calls k t153 t154 t155 t143 t144 t145 t159 _ A38.out).mono ?_); rintro e w60 ⟨rfl, hb⟩; have n0_ := Aside0.mk (blk_below (g := gb146) (o := .cells #[.bool t143, .int .u64 t144, .int .u64 t145] 27 (0, 0)) (by (with_reducible repeat (first | refine blk_drewN ?_ _ | refine blk_drew ?_ | refine blk_alloc ?_ _)); exact BK146.out) hb); have n1_ := Aside0.mk (blk_below (g := gb151) (o := .cells #[.bool t148, .int .u64 t149, .int .u64 t150] 27 (0, 0)) (by (with_reducible repeat (first | refine blk_drewN ?_ _ | refine blk_drew ?_ | refine blk_alloc ?_ _)); exact BK151.out) hb); have n2_ := Aside0.mk (blk_below (g := gb156) (o := .cells #[.bool t153, .int .u64 t154, .int .u64 t155] 27 (0, 0)) (by (with_reducible repeat (first | refine blk_drewN ?_ _ | refine blk_drew ?_ | refine blk_alloc ?_ _)); exact BK156.out) hb); have n3_ := Aside0.mk (below_step (by repeat (first | (with_reducible first | exact HB.out | apply below_alloc | apply pw_below_drewN | apply below_drew1 | refine below_set ?_ GE146.out | refine below_set ?_ GE151.out | refine below_set ?_ GE156.out) | exact HB.out)) hb); clear BK146; clear BK151; clear BK156; clear HB; have BK146 := n0_; have BK151 := n1_; have BK156 := n2_; have HB := n3_; clear n0_ n1_ n2_ n3_; (try clear hb); (try clear hb2); (try clear hk); (try clear hi)) | (go_at_call 15; (with_reducible refine (bagatellelaw01_size.calls t140 t160 _ A49.out).mono ?_); rintro e w' ⟨rfl, ⟨nd, rfl⟩⟩; have hcz61_0 : w60.cell? ⟨gb151, 0, none⟩ = some (.bool t148) := (blk_cell BK151.out 0).trans rfl; have hcz61_1 : w60.cell? ⟨gb151, 1, none⟩ = some (.int .u64 t149) := (blk_cell BK151.out 1).trans rfl; have hcz61_2 : w60.cell? ⟨gb151, 2, none⟩ = some (.int .u64 t150) := (blk_cell BK151.out 2).trans rfl; have hfz61_0 := blk_frozen BK151.out 0; have hfz61_1 := blk_frozen BK151.out 1; have hfz61_2 := blk_frozen BK151.out 2; have hcz62_0 : w60.cell? ⟨gb146, 0, none⟩ = some (.bool t143) := (blk_cell BK146.out 0).trans rfl; have hcz62_1 : w60.cell? ⟨gb146, 1, none⟩ = some (.int .u64 t144) := (blk_cell BK146.out 1).trans rfl; have hcz62_2 : w60.cell? ⟨gb146, 2, none⟩ = some (.int .u64 t145) := (blk_cell BK146.out 2).trans rfl; have hfz62_0 := blk_frozen BK146.out 0; have hfz62_1 := blk_frozen BK146.out 1; have hfz62_2 := blk_frozen BK146.out 2) | (go_at_call 16; (with_reducible refine (bagatellelaw01_cmp.calls k t148 t149 t150 t143 t144 t145 t161 _ A51.out).mono ?_); rintro e w63 ⟨rfl, hb⟩; have n0_ := Aside0.mk (blk_below (g := gb146) (o := .cells #[.bool t143, .int .u64 t144, .int .u64 t145] 27 (0, 0)) (by (with_reducible repeat (first | refine blk_drewN ?_ _ | refine blk_drew ?_ | refine blk_alloc ?_ _)); exact BK146.out) hb); have n1_ := Aside0.mk (blk_below (g := gb151) (o := .cells #[.bool t148, .int .u64 t149, .int .u64 t150] 27 (0, 0)) (by (with_reducible repeat (first | refine blk_drewN ?_ _ | refine blk_drew ?_ | refine blk_alloc ?_ _)); exact BK151.out) hb); have n2_ := Aside0.mk (blk_below (g := gb156) (o := .cells #[.bool t153, .int .u64 t154, .int .u64 t155] 27 (0, 0)) (by (with_reducible repeat (first | refine blk_drewN ?_ _ | refine blk_drew ?_ | refine blk_alloc ?_ _)); exact BK156.out) hb); have n3_ := Aside0.mk (below_step (by repeat (first | (with_reducible first | exact HB.out | apply below_alloc | apply pw_below_drewN | apply below_drew1 | refine below_set ?_ GE146.out | refine below_set ?_ GE151.out | refine below_set ?_ GE156.out) | exact HB.out)) hb); clear BK146; clear BK151; clear BK156; clear HB; have BK146 := n0_; have BK151 := n1_; have BK156 := n2_; have HB := n3_; clear n0_ n1_ n2_ n3_; (try clear hb); (try clear hb2); (try clear hk); (try clear hi)))
              go_meet
              case rel => exact ⟨_, (decide (t161 > 0)), (by first | rfl | (simp; done) | (simp [*]; done) | (simp [wrap64]; done) | (congr 2 <;> first | rfl | (unfold wrap64; omega))), H', ⟨by first | omega | exact Nat.le_refl _⟩, ⟨by (with_reducible repeat (first | refine blk_drewN ?_ _ | refine blk_drew ?_ | refine blk_alloc ?_ _)); exact BK146.out⟩, ⟨by (with_reducible repeat (first | refine blk_drewN ?_ _ | refine blk_drew ?_ | refine blk_alloc ?_ _)); exact BK151.out⟩, ⟨by (with_reducible repeat (first | refine blk_drewN ?_ _ | refine blk_drew ?_ | refine blk_alloc ?_ _)); exact BK156.out⟩, ⟨by repeat (first | (with_reducible first | exact HB.out | apply below_alloc | apply pw_below_drewN | apply below_drew1 | refine below_set ?_ GE146.out | refine below_set ?_ GE151.out | refine below_set ?_ GE156.out) | exact HB.out)⟩⟩
            · rw [if_neg c50] at H
              have c50b0 : (t160 == 9223372036854775807) = false := beq_eq_false_iff_ne.mpr c50
              have c50b1 : (t160 != 9223372036854775807) = true := bne_iff_ne.mpr c50
              have H' := Aside0.mk H
              clear H
              go_wp2_with (first | ((with_reducible refine gate_callee (f := 15) rfl ?_); refine goesL_ (some 27) rfl rfl Try.func15 (by kernel_rfl) rfl #[.int .i64 t140] rfl (by (try simp only [List.map_toArray, List.map_cons, List.map_nil]); first | done | rfl | (simp only [List.length_drop, List.length_take]; rfl)) ?_; (with_reducible refine (bagatellelaw01_size.calls t140 t157 _ A28.out).mono ?_); rintro e w' ⟨rfl, ⟨nd, rfl⟩⟩; refine ⟨_, rfl, ?_⟩; have hnb64 := NB151_146.out; have hnc64 := NB146_151.out; have hnb65 := NB151_156.out; have hnc65 := NB156_151.out; have hcz66_0 : w24.cell? ⟨gb151, 0, none⟩ = some (.bool t148) := (blk_cell BK151.out 0).trans rfl; have hcz66_1 : w24.cell? ⟨gb151, 1, none⟩ = some (.int .u64 t149) := (blk_cell BK151.out 1).trans rfl; have hcz66_2 : w24.cell? ⟨gb151, 2, none⟩ = some (.int .u64 t150) := (blk_cell BK151.out 2).trans rfl; have hfz66_0 := blk_frozen BK151.out 0; have hfz66_1 := blk_frozen BK151.out 1; have hfz66_2 := blk_frozen BK151.out 2; have hnb67 := NB146_156.out; have hnc67 := NB156_146.out; have hcz68_0 : w24.cell? ⟨gb146, 0, none⟩ = some (.bool t143) := (blk_cell BK146.out 0).trans rfl; have hcz68_1 : w24.cell? ⟨gb146, 1, none⟩ = some (.int .u64 t144) := (blk_cell BK146.out 1).trans rfl; have hcz68_2 : w24.cell? ⟨gb146, 2, none⟩ = some (.int .u64 t145) := (blk_cell BK146.out 2).trans rfl; have hfz68_0 := blk_frozen BK146.out 0; have hfz68_1 := blk_frozen BK146.out 1; have hfz68_2 := blk_frozen BK146.out 2) | (go_at_call 16; (with_reducible refine (bagatellelaw01_cmp.calls k t148 t149 t150 t143 t144 t145 t158 _ A30.out).mono ?_); rintro e w69 ⟨rfl, hb⟩; have n0_ := Aside0.mk (blk_below (g := gb146) (o := .cells #[.bool t143, .int .u64 t144, .int .u64 t145] 27 (0, 0)) (by (with_reducible repeat (first | refine blk_drewN ?_ _ | refine blk_drew ?_ | refine blk_alloc ?_ _)); refine blk_far ?_ NB146_156.out _; (with_reducible repeat (first | refine blk_drewN ?_ _ | refine blk_drew ?_ | refine blk_alloc ?_ _)); refine blk_far ?_ NB146_156.out _; (with_reducible repeat (first | refine blk_drewN ?_ _ | refine blk_drew ?_ | refine blk_alloc ?_ _)); refine blk_far ?_ NB146_156.out _; (with_reducible repeat (first | refine blk_drewN ?_ _ | refine blk_drew ?_ | refine blk_alloc ?_ _)); exact BK146.out) hb); have n1_ := Aside0.mk (blk_below (g := gb151) (o := .cells #[.bool t148, .int .u64 t149, .int .u64 t150] 27 (0, 0)) (by (with_reducible repeat (first | refine blk_drewN ?_ _ | refine blk_drew ?_ | refine blk_alloc ?_ _)); refine blk_far ?_ NB151_156.out _; (with_reducible repeat (first | refine blk_drewN ?_ _ | refine blk_drew ?_ | refine blk_alloc ?_ _)); refine blk_far ?_ NB151_156.out _; (with_reducible repeat (first | refine blk_drewN ?_ _ | refine blk_drew ?_ | refine blk_alloc ?_ _)); refine blk_far ?_ NB151_156.out _; (with_reducible repeat (first | refine blk_drewN ?_ _ | refine blk_drew ?_ | refine blk_alloc ?_ _)); exact BK151.out) hb); have n2_ := Aside0.mk (blk_below (g := gb156) (o := .cells #[.bool t153, .int .u64 t154, .int .u64 t155] 27 (0, 0)) (by (with_reducible repeat (first | refine blk_drewN ?_ _ | refine blk_drew ?_ | refine blk_alloc ?_ _)); refine blk_put (cs := #[.bool t153, .int .u64 t154, .int .u64 0]) ?_ 2 _ rfl; (with_reducible repeat (first | refine blk_drewN ?_ _ | refine blk_drew ?_ | refine blk_alloc ?_ _)); refine blk_put (cs := #[.bool t153, .int .u64 0, .int .u64 0]) ?_ 1 _ rfl; (with_reducible repeat (first | refine blk_drewN ?_ _ | refine blk_drew ?_ | refine blk_alloc ?_ _)); refine blk_put (cs := #[.bool false, .int .u64 0, .int .u64 0]) ?_ 0 _ rfl; (with_reducible repeat (first | refine blk_drewN ?_ _ | refine blk_drew ?_ | refine blk_alloc ?_ _)); exact BK156.out) hb); have n3_ := Aside0.mk (below_step (by repeat (first | (with_reducible first | exact HB.out | apply below_alloc | apply pw_below_drewN | apply below_drew1 | refine below_set ?_ GE146.out | refine below_set ?_ GE151.out | refine below_set ?_ GE156.out) | exact HB.out)) hb); clear BK146; clear BK151; clear BK156; clear HB; have BK146 := n0_; have BK151 := n1_; have BK156 := n2_; have HB := n3_; clear n0_ n1_ n2_ n3_; (try clear hb); (try clear hb2); (try clear hk); (try clear hi); have hcz70_0 : w69.cell? ⟨gb156, 0, none⟩ = some (.bool t153) := (blk_cell BK156.out 0).trans rfl; have hcz70_1 : w69.cell? ⟨gb156, 1, none⟩ = some (.int .u64 t154) := (blk_cell BK156.out 1).trans rfl; have hcz70_2 : w69.cell? ⟨gb156, 2, none⟩ = some (.int .u64 t155) := (blk_cell BK156.out 2).trans rfl; have hfz70_0 := blk_frozen BK156.out 0; have hfz70_1 := blk_frozen BK156.out 1; have hfz70_2 := blk_frozen BK156.out 2; have hcz71_0 : w69.cell? ⟨gb146, 0, none⟩ = some (.bool t143) := (blk_cell BK146.out 0).trans rfl; have hcz71_1 : w69.cell? ⟨gb146, 1, none⟩ = some (.int .u64 t144) := (blk_cell BK146.out 1).trans rfl; have hcz71_2 : w69.cell? ⟨gb146, 2, none⟩ = some (.int .u64 t145) := (blk_cell BK146.out 2).trans rfl; have hfz71_0 := blk_frozen BK146.out 0; have hfz71_1 := blk_frozen BK146.out 1; have hfz71_2 := blk_frozen BK146.out 2) | (go_at_call 16; (with_reducible refine (bagatellelaw01_cmp.calls k t153 t154 t155 t143 t144 t145 t159 _ A38.out).mono ?_); rintro e w72 ⟨rfl, hb⟩; have n0_ := Aside0.mk (blk_below (g := gb146) (o := .cells #[.bool t143, .int .u64 t144, .int .u64 t145] 27 (0, 0)) (by (with_reducible repeat (first | refine blk_drewN ?_ _ | refine blk_drew ?_ | refine blk_alloc ?_ _)); exact BK146.out) hb); have n1_ := Aside0.mk (blk_below (g := gb151) (o := .cells #[.bool t148, .int .u64 t149, .int .u64 t150] 27 (0, 0)) (by (with_reducible repeat (first | refine blk_drewN ?_ _ | refine blk_drew ?_ | refine blk_alloc ?_ _)); exact BK151.out) hb); have n2_ := Aside0.mk (blk_below (g := gb156) (o := .cells #[.bool t153, .int .u64 t154, .int .u64 t155] 27 (0, 0)) (by (with_reducible repeat (first | refine blk_drewN ?_ _ | refine blk_drew ?_ | refine blk_alloc ?_ _)); exact BK156.out) hb); have n3_ := Aside0.mk (below_step (by repeat (first | (with_reducible first | exact HB.out | apply below_alloc | apply pw_below_drewN | apply below_drew1 | refine below_set ?_ GE146.out | refine below_set ?_ GE151.out | refine below_set ?_ GE156.out) | exact HB.out)) hb); clear BK146; clear BK151; clear BK156; clear HB; have BK146 := n0_; have BK151 := n1_; have BK156 := n2_; have HB := n3_; clear n0_ n1_ n2_ n3_; (try clear hb); (try clear hb2); (try clear hk); (try clear hi)) | (go_at_call 15; (with_reducible refine (bagatellelaw01_size.calls t140 t160 _ A49.out).mono ?_); rintro e w' ⟨rfl, ⟨nd, rfl⟩⟩))
              go_meet
              case rel => exact ⟨_, (false), (by first | rfl | (simp; done) | (simp [*]; done) | (simp [wrap64]; done) | (congr 2 <;> first | rfl | (unfold wrap64; omega))), H', ⟨by first | omega | exact Nat.le_refl _⟩, ⟨by (with_reducible repeat (first | refine blk_drewN ?_ _ | refine blk_drew ?_ | refine blk_alloc ?_ _)); exact BK146.out⟩, ⟨by (with_reducible repeat (first | refine blk_drewN ?_ _ | refine blk_drew ?_ | refine blk_alloc ?_ _)); exact BK151.out⟩, ⟨by (with_reducible repeat (first | refine blk_drewN ?_ _ | refine blk_drew ?_ | refine blk_alloc ?_ _)); exact BK156.out⟩, ⟨by repeat (first | (with_reducible first | exact HB.out | apply below_alloc | apply pw_below_drewN | apply below_drew1 | refine below_set ?_ GE146.out | refine below_set ?_ GE151.out | refine below_set ?_ GE156.out) | exact HB.out)⟩⟩
      · rw [if_neg c29] at H
        have c29b0 : decide (t157 < 9223372036854775807) = false := decide_eq_false c29
        clear c29
        (first | rw [c29b0] | (simp only [i64_w, i32_w]; rw [c29b0]) | skip)
        replace H := Option.bind_eq_some_iff.mp H
        obtain ⟨t162, A730, H⟩ := H
        replace H : (if t162 = 9223372036854775807 then ((bagatellelaw01_cmp.f k t148 t149 t150 t143 t144 t145).bind fun t163 => (bagatellelaw01_FixMuls.j0 k a0 a1 t140 (decide (t163 > 0)))) else (bagatellelaw01_FixMuls.j0 k a0 a1 t140 false)) = some r := H
        have A73 := Aside0.mk A730
        clear A730
        by_cases c74 : t162 = 9223372036854775807
        · rw [if_pos c74] at H
          have c74b0 : (t162 == 9223372036854775807) = true := beq_iff_eq.mpr c74
          have c74b1 : (t162 != 9223372036854775807) = false := bne_eq_false_iff_eq.mpr c74
          clear c74
          replace H := Option.bind_eq_some_iff.mp H
          obtain ⟨t163, A750, H⟩ := H
          replace H : (bagatellelaw01_FixMuls.j0 k a0 a1 t140 (decide (t163 > 0))) = some r := H
          have A75 := Aside0.mk A750
          clear A750
          have H' := Aside0.mk H
          clear H
          go_wp2_with (first | ((with_reducible refine gate_callee (f := 15) rfl ?_); refine goesL_ (some 27) rfl rfl Try.func15 (by kernel_rfl) rfl #[.int .i64 t140] rfl (by (try simp only [List.map_toArray, List.map_cons, List.map_nil]); first | done | rfl | (simp only [List.length_drop, List.length_take]; rfl)) ?_; (with_reducible refine (bagatellelaw01_size.calls t140 t157 _ A28.out).mono ?_); rintro e w' ⟨rfl, ⟨nd, rfl⟩⟩; refine ⟨_, rfl, ?_⟩) | (go_at_call 15; (with_reducible refine (bagatellelaw01_size.calls t140 t162 _ A73.out).mono ?_); rintro e w' ⟨rfl, ⟨nd, rfl⟩⟩; have hnb76 := NB151_146.out; have hnc76 := NB146_151.out; have hnb77 := NB151_156.out; have hnc77 := NB156_151.out; have hcz78_0 : w24.cell? ⟨gb151, 0, none⟩ = some (.bool t148) := (blk_cell BK151.out 0).trans rfl; have hcz78_1 : w24.cell? ⟨gb151, 1, none⟩ = some (.int .u64 t149) := (blk_cell BK151.out 1).trans rfl; have hcz78_2 : w24.cell? ⟨gb151, 2, none⟩ = some (.int .u64 t150) := (blk_cell BK151.out 2).trans rfl; have hfz78_0 := blk_frozen BK151.out 0; have hfz78_1 := blk_frozen BK151.out 1; have hfz78_2 := blk_frozen BK151.out 2; have hnb79 := NB146_156.out; have hnc79 := NB156_146.out; have hcz80_0 : w24.cell? ⟨gb146, 0, none⟩ = some (.bool t143) := (blk_cell BK146.out 0).trans rfl; have hcz80_1 : w24.cell? ⟨gb146, 1, none⟩ = some (.int .u64 t144) := (blk_cell BK146.out 1).trans rfl; have hcz80_2 : w24.cell? ⟨gb146, 2, none⟩ = some (.int .u64 t145) := (blk_cell BK146.out 2).trans rfl; have hfz80_0 := blk_frozen BK146.out 0; have hfz80_1 := blk_frozen BK146.out 1; have hfz80_2 := blk_frozen BK146.out 2) | (go_at_call 16; (with_reducible refine (bagatellelaw01_cmp.calls k t148 t149 t150 t143 t144 t145 t163 _ A75.out).mono ?_); rintro e w81 ⟨rfl, hb⟩; have n0_ := Aside0.mk (blk_below (g := gb146) (o := .cells #[.bool t143, .int .u64 t144, .int .u64 t145] 27 (0, 0)) (by (with_reducible repeat (first | refine blk_drewN ?_ _ | refine blk_drew ?_ | refine blk_alloc ?_ _)); refine blk_far ?_ NB146_156.out _; (with_reducible repeat (first | refine blk_drewN ?_ _ | refine blk_drew ?_ | refine blk_alloc ?_ _)); refine blk_far ?_ NB146_156.out _; (with_reducible repeat (first | refine blk_drewN ?_ _ | refine blk_drew ?_ | refine blk_alloc ?_ _)); refine blk_far ?_ NB146_156.out _; (with_reducible repeat (first | refine blk_drewN ?_ _ | refine blk_drew ?_ | refine blk_alloc ?_ _)); exact BK146.out) hb); have n1_ := Aside0.mk (blk_below (g := gb151) (o := .cells #[.bool t148, .int .u64 t149, .int .u64 t150] 27 (0, 0)) (by (with_reducible repeat (first | refine blk_drewN ?_ _ | refine blk_drew ?_ | refine blk_alloc ?_ _)); refine blk_far ?_ NB151_156.out _; (with_reducible repeat (first | refine blk_drewN ?_ _ | refine blk_drew ?_ | refine blk_alloc ?_ _)); refine blk_far ?_ NB151_156.out _; (with_reducible repeat (first | refine blk_drewN ?_ _ | refine blk_drew ?_ | refine blk_alloc ?_ _)); refine blk_far ?_ NB151_156.out _; (with_reducible repeat (first | refine blk_drewN ?_ _ | refine blk_drew ?_ | refine blk_alloc ?_ _)); exact BK151.out) hb); have n2_ := Aside0.mk (blk_below (g := gb156) (o := .cells #[.bool t153, .int .u64 t154, .int .u64 t155] 27 (0, 0)) (by (with_reducible repeat (first | refine blk_drewN ?_ _ | refine blk_drew ?_ | refine blk_alloc ?_ _)); refine blk_put (cs := #[.bool t153, .int .u64 t154, .int .u64 0]) ?_ 2 _ rfl; (with_reducible repeat (first | refine blk_drewN ?_ _ | refine blk_drew ?_ | refine blk_alloc ?_ _)); refine blk_put (cs := #[.bool t153, .int .u64 0, .int .u64 0]) ?_ 1 _ rfl; (with_reducible repeat (first | refine blk_drewN ?_ _ | refine blk_drew ?_ | refine blk_alloc ?_ _)); refine blk_put (cs := #[.bool false, .int .u64 0, .int .u64 0]) ?_ 0 _ rfl; (with_reducible repeat (first | refine blk_drewN ?_ _ | refine blk_drew ?_ | refine blk_alloc ?_ _)); exact BK156.out) hb); have n3_ := Aside0.mk (below_step (by repeat (first | (with_reducible first | exact HB.out | apply below_alloc | apply pw_below_drewN | apply below_drew1 | refine below_set ?_ GE146.out | refine below_set ?_ GE151.out | refine below_set ?_ GE156.out) | exact HB.out)) hb); clear BK146; clear BK151; clear BK156; clear HB; have BK146 := n0_; have BK151 := n1_; have BK156 := n2_; have HB := n3_; clear n0_ n1_ n2_ n3_; (try clear hb); (try clear hb2); (try clear hk); (try clear hi)))
          go_meet
          case rel => exact ⟨_, (decide (t163 > 0)), (by first | rfl | (simp; done) | (simp [*]; done) | (simp [wrap64]; done) | (congr 2 <;> first | rfl | (unfold wrap64; omega))), H', ⟨by first | omega | exact Nat.le_refl _⟩, ⟨by (with_reducible repeat (first | refine blk_drewN ?_ _ | refine blk_drew ?_ | refine blk_alloc ?_ _)); exact BK146.out⟩, ⟨by (with_reducible repeat (first | refine blk_drewN ?_ _ | refine blk_drew ?_ | refine blk_alloc ?_ _)); exact BK151.out⟩, ⟨by (with_reducible repeat (first | refine blk_drewN ?_ _ | refine blk_drew ?_ | refine blk_alloc ?_ _)); exact BK156.out⟩, ⟨by repeat (first | (with_reducible first | exact HB.out | apply below_alloc | apply pw_below_drewN | apply below_drew1 | refine below_set ?_ GE146.out | refine below_set ?_ GE151.out | refine below_set ?_ GE156.out) | exact HB.out)⟩⟩
        · rw [if_neg c74] at H
          have c74b0 : (t162 == 9223372036854775807) = false := beq_eq_false_iff_ne.mpr c74
          have c74b1 : (t162 != 9223372036854775807) = true := bne_iff_ne.mpr c74
          have H' := Aside0.mk H
          clear H
          go_wp2_with (first | ((with_reducible refine gate_callee (f := 15) rfl ?_); refine goesL_ (some 27) rfl rfl Try.func15 (by kernel_rfl) rfl #[.int .i64 t140] rfl (by (try simp only [List.map_toArray, List.map_cons, List.map_nil]); first | done | rfl | (simp only [List.length_drop, List.length_take]; rfl)) ?_; (with_reducible refine (bagatellelaw01_size.calls t140 t157 _ A28.out).mono ?_); rintro e w' ⟨rfl, ⟨nd, rfl⟩⟩; refine ⟨_, rfl, ?_⟩) | (go_at_call 15; (with_reducible refine (bagatellelaw01_size.calls t140 t162 _ A73.out).mono ?_); rintro e w' ⟨rfl, ⟨nd, rfl⟩⟩))
          go_meet
          case rel => exact ⟨_, (false), (by first | rfl | (simp; done) | (simp [*]; done) | (simp [wrap64]; done) | (congr 2 <;> first | rfl | (unfold wrap64; omega))), H', ⟨by first | omega | exact Nat.le_refl _⟩, ⟨by (with_reducible repeat (first | refine blk_drewN ?_ _ | refine blk_drew ?_ | refine blk_alloc ?_ _)); refine blk_far ?_ NB146_156.out _; (with_reducible repeat (first | refine blk_drewN ?_ _ | refine blk_drew ?_ | refine blk_alloc ?_ _)); refine blk_far ?_ NB146_156.out _; (with_reducible repeat (first | refine blk_drewN ?_ _ | refine blk_drew ?_ | refine blk_alloc ?_ _)); refine blk_far ?_ NB146_156.out _; (with_reducible repeat (first | refine blk_drewN ?_ _ | refine blk_drew ?_ | refine blk_alloc ?_ _)); exact BK146.out⟩, ⟨by (with_reducible repeat (first | refine blk_drewN ?_ _ | refine blk_drew ?_ | refine blk_alloc ?_ _)); refine blk_far ?_ NB151_156.out _; (with_reducible repeat (first | refine blk_drewN ?_ _ | refine blk_drew ?_ | refine blk_alloc ?_ _)); refine blk_far ?_ NB151_156.out _; (with_reducible repeat (first | refine blk_drewN ?_ _ | refine blk_drew ?_ | refine blk_alloc ?_ _)); refine blk_far ?_ NB151_156.out _; (with_reducible repeat (first | refine blk_drewN ?_ _ | refine blk_drew ?_ | refine blk_alloc ?_ _)); exact BK151.out⟩, ⟨by (with_reducible repeat (first | refine blk_drewN ?_ _ | refine blk_drew ?_ | refine blk_alloc ?_ _)); refine blk_put (cs := #[.bool t153, .int .u64 t154, .int .u64 0]) ?_ 2 _ rfl; (with_reducible repeat (first | refine blk_drewN ?_ _ | refine blk_drew ?_ | refine blk_alloc ?_ _)); refine blk_put (cs := #[.bool t153, .int .u64 0, .int .u64 0]) ?_ 1 _ rfl; (with_reducible repeat (first | refine blk_drewN ?_ _ | refine blk_drew ?_ | refine blk_alloc ?_ _)); refine blk_put (cs := #[.bool false, .int .u64 0, .int .u64 0]) ?_ 0 _ rfl; (with_reducible repeat (first | refine blk_drewN ?_ _ | refine blk_drew ?_ | refine blk_alloc ?_ _)); exact BK156.out⟩, ⟨by repeat (first | (with_reducible first | exact HB.out | apply below_alloc | apply pw_below_drewN | apply below_drew1 | refine below_set ?_ GE146.out | refine below_set ?_ GE151.out | refine below_set ?_ GE156.out) | exact HB.out)⟩⟩
    case rest =>
      clear HC13
      try clear c1
      try clear c2
      try clear p2
      try clear c3
      try clear c4
      try clear c5
      try clear c6
      try clear p6
      try clear c7
      try clear c12
      try clear c13
      try clear c14
      try clear c15
      try clear c21
      try clear c25
      try clear c26
      try clear c29
      try clear c29b0
      try clear c31
      try clear c31b0
      try clear c32
      try clear c33
      try clear c35
      try clear c39
      try clear c39b0
      try clear c40
      try clear c41
      try clear c43
      try clear c50
      try clear c50b0
      try clear c50b1
      try clear c52
      try clear c53
      try clear c55
      try clear c64
      try clear p64
      try clear c65
      try clear c67
      try clear c74
      try clear c74b0
      try clear c74b1
      try clear c76
      try clear c77
      try clear c79
      try clear hcz18_0
      try clear hcz18_1
      try clear hcz18_2
      try clear hcz22_0
      try clear hcz22_1
      try clear hcz22_2
      try clear hcz27_0
      try clear hcz27_1
      try clear hcz27_2
      try clear hcz34_0
      try clear hcz34_1
      try clear hcz34_2
      try clear hcz36_0
      try clear hcz36_1
      try clear hcz36_2
      try clear hcz42_0
      try clear hcz42_1
      try clear hcz42_2
      try clear hcz44_0
      try clear hcz44_1
      try clear hcz44_2
      try clear hcz46_0
      try clear hcz46_1
      try clear hcz46_2
      try clear hcz47_0
      try clear hcz47_1
      try clear hcz47_2
      try clear hcz54_0
      try clear hcz54_1
      try clear hcz54_2
      try clear hcz56_0
      try clear hcz56_1
      try clear hcz56_2
      try clear hcz58_0
      try clear hcz58_1
      try clear hcz58_2
      try clear hcz59_0
      try clear hcz59_1
      try clear hcz59_2
      try clear hcz61_0
      try clear hcz61_1
      try clear hcz61_2
      try clear hcz62_0
      try clear hcz62_1
      try clear hcz62_2
      try clear hcz66_0
      try clear hcz66_1
      try clear hcz66_2
      try clear hcz68_0
      try clear hcz68_1
      try clear hcz68_2
      try clear hcz70_0
      try clear hcz70_1
      try clear hcz70_2
      try clear hcz71_0
      try clear hcz71_1
      try clear hcz71_2
      try clear hcz78_0
      try clear hcz78_1
      try clear hcz78_2
      try clear hcz80_0
      try clear hcz80_1
      try clear hcz80_2
      try clear hfz18_0
      try clear hfz18_1
      try clear hfz18_2
      try clear hfz22_0
      try clear hfz22_1
      try clear hfz22_2
      try clear hfz27_0
      try clear hfz27_1
      try clear hfz27_2
      try clear hfz34_0
      try clear hfz34_1
      try clear hfz34_2
      try clear hfz36_0
      try clear hfz36_1
      try clear hfz36_2
      try clear hfz42_0
      try clear hfz42_1
      try clear hfz42_2
      try clear hfz44_0
      try clear hfz44_1
      try clear hfz44_2
      try clear hfz46_0
      try clear hfz46_1
      try clear hfz46_2
      try clear hfz47_0
      try clear hfz47_1
      try clear hfz47_2
      try clear hfz54_0
      try clear hfz54_1
      try clear hfz54_2
      try clear hfz56_0
      try clear hfz56_1
      try clear hfz56_2
      try clear hfz58_0
      try clear hfz58_1
      try clear hfz58_2
      try clear hfz59_0
      try clear hfz59_1
      try clear hfz59_2
      try clear hfz61_0
      try clear hfz61_1
      try clear hfz61_2
      try clear hfz62_0
      try clear hfz62_1
      try clear hfz62_2
      try clear hfz66_0
      try clear hfz66_1
      try clear hfz66_2
      try clear hfz68_0
      try clear hfz68_1
      try clear hfz68_2
      try clear hfz70_0
      try clear hfz70_1
      try clear hfz70_2
      try clear hfz71_0
      try clear hfz71_1
      try clear hfz71_2
      try clear hfz78_0
      try clear hfz78_1
      try clear hfz78_2
      try clear hfz80_0
      try clear hfz80_1
      try clear hfz80_2
      obtain ⟨kq, x51_12, rfl, HA, HJ12, BK146, BK151, BK156, HB⟩ := hcut
      cases kq with
      | zero => exact absurd HA.out (by simp [bagatellelaw01_FixMuls.j0])
      | succ kj12 =>
        have H := HA.out
        clear HA
        simp only [bagatellelaw01_FixMuls.j0] at H
        by_cases c82 : x51_12 = true
        · subst c82
          have H1 : (some false) = some r := by rw [if_pos rfl] at H; exact H
          clear H
          have H := H1
          clear H1
          obtain rfl := Option.some.inj H
          go_wp2
          go_ret
          exact ⟨by first | rfl | (simp [errW_none, errW_some] <;> rfl) | (simp [*, errW_none, errW_some] <;> rfl) | (simp [wrap64]; done) | (congr 2 <;> first | rfl | (unfold wrap64; omega)), by repeat (first | (with_reducible first | exact HB.out | apply below_alloc | apply pw_below_drewN | apply below_drew1 | refine below_set ?_ GE146.out | refine below_set ?_ GE151.out | refine below_set ?_ GE156.out) | exact HB.out)⟩
        · replace c82 := Bool.eq_false_iff.mpr c82
          subst c82
          have H1 : ((fix_Mul.f kj12 a1 a0).bind fun t164 => (if t140 = t164 then (if t140 = 0 then ((fix_Mul.f kj12 (mx a0 (-9223372036854775807)) 4294967296).bind fun t165 => (some (t165 == (mx a0 (-9223372036854775807))))) else (if ((decide (t140 < 0)) == ((decide (a0 < 0)) != (decide (a1 < 0)))) = true then ((fix_Mul.f kj12 (mx a0 (-9223372036854775807)) 4294967296).bind fun t166 => (some (t166 == (mx a0 (-9223372036854775807))))) else (some false))) else (some false))) = some r := by rw [if_neg (show ¬ (false = true) by decide)] at H; exact H
          clear H
          have H := H1
          clear H1
          replace H := Option.bind_eq_some_iff.mp H
          obtain ⟨t164, A830, H⟩ := H
          replace H : (if t140 = t164 then (if t140 = 0 then ((fix_Mul.f kj12 (mx a0 (-9223372036854775807)) 4294967296).bind fun t165 => (some (t165 == (mx a0 (-9223372036854775807))))) else (if ((decide (t140 < 0)) == ((decide (a0 < 0)) != (decide (a1 < 0)))) = true then ((fix_Mul.f kj12 (mx a0 (-9223372036854775807)) 4294967296).bind fun t166 => (some (t166 == (mx a0 (-9223372036854775807))))) else (some false))) else (some false)) = some r := H
          have A83 := Aside0.mk A830
          clear A830
          by_cases c84 : t140 = t164
          · rw [if_pos c84] at H
            have c84b0 : (t140 == t164) = true := beq_iff_eq.mpr c84
            have c84b1 : (t140 != t164) = false := bne_eq_false_iff_eq.mpr c84
            clear c84
            by_cases c85 : t140 = 0
            · rw [if_pos c85] at H
              have c85b0 : (t140 == 0) = true := beq_iff_eq.mpr c85
              have c85b1 : (t140 != 0) = false := bne_eq_false_iff_eq.mpr c85
              clear c85
              obtain ⟨ji86, hji86⟩ : ∃ j_ : Int, (mx a0 (-9223372036854775807)) = j_ := ⟨_, rfl⟩
              replace H : ((fix_Mul.f kj12 (ji86) 4294967296).bind fun t165 => (some (t165 == (ji86)))) = some r := by first | (rw [hji86] at H; exact H) | (simp only [hji86] at H ⊢; exact H)
              (try rw [hji86] at A83)
              have hji86_ : (if a0 < (-9223372036854775807) then (-9223372036854775807) else a0) = ji86 := hji86
              replace H := Option.bind_eq_some_iff.mp H
              obtain ⟨t165, A870, H⟩ := H
              replace H : (some (t165 == (ji86))) = some r := H
              have A87 := Aside0.mk A870
              clear A870
              obtain rfl := Option.some.inj H
              go_wp2_with (first | ((with_reducible refine gate_callee (f := 13) rfl ?_); refine goesL_ (some 55) rfl rfl Try.func13 (by kernel_rfl) rfl #[.int .i64 a1, .int .i64 a0] rfl (by (try simp only [List.map_toArray, List.map_cons, List.map_nil]); first | done | rfl | (simp only [List.length_drop, List.length_take]; rfl)) ?_; (with_reducible refine (fix_Mul.calls kj12 a1 a0 t164 _ A83.out).mono ?_); rintro e w88 ⟨rfl, hb⟩; refine ⟨_, rfl, ?_⟩; have n0_ := Aside0.mk (blk_below (g := gb146) (o := .cells #[.bool t143, .int .u64 t144, .int .u64 t145] 27 (0, 0)) (by (with_reducible repeat (first | refine blk_drewN ?_ _ | refine blk_drew ?_ | refine blk_alloc ?_ _)); exact BK146.out) hb); have n1_ := Aside0.mk (blk_below (g := gb151) (o := .cells #[.bool t148, .int .u64 t149, .int .u64 t150] 27 (0, 0)) (by (with_reducible repeat (first | refine blk_drewN ?_ _ | refine blk_drew ?_ | refine blk_alloc ?_ _)); exact BK151.out) hb); have n2_ := Aside0.mk (blk_below (g := gb156) (o := .cells #[.bool t153, .int .u64 t154, .int .u64 t155] 27 (0, 0)) (by (with_reducible repeat (first | refine blk_drewN ?_ _ | refine blk_drew ?_ | refine blk_alloc ?_ _)); exact BK156.out) hb); have n3_ := Aside0.mk (below_step (by repeat (first | (with_reducible first | exact HB.out | apply below_alloc | apply pw_below_drewN | apply below_drew1 | refine below_set ?_ GE146.out | refine below_set ?_ GE151.out | refine below_set ?_ GE156.out) | exact HB.out)) hb); clear BK146; clear BK151; clear BK156; clear HB; have BK146 := n0_; have BK151 := n1_; have BK156 := n2_; have HB := n3_; clear n0_ n1_ n2_ n3_; (try clear hb); (try clear hb2); (try clear hk); (try clear hi)) | (go_at_call 13; (with_reducible refine (fix_Mul.calls kj12 ji86 4294967296 t165 _ A87.out).mono ?_); rintro e w89 ⟨rfl, hb⟩; have n0_ := Aside0.mk (blk_below (g := gb146) (o := .cells #[.bool t143, .int .u64 t144, .int .u64 t145] 27 (0, 0)) (by (with_reducible repeat (first | refine blk_drewN ?_ _ | refine blk_drew ?_ | refine blk_alloc ?_ _)); exact BK146.out) hb); have n1_ := Aside0.mk (blk_below (g := gb151) (o := .cells #[.bool t148, .int .u64 t149, .int .u64 t150] 27 (0, 0)) (by (with_reducible repeat (first | refine blk_drewN ?_ _ | refine blk_drew ?_ | refine blk_alloc ?_ _)); exact BK151.out) hb); have n2_ := Aside0.mk (blk_below (g := gb156) (o := .cells #[.bool t153, .int .u64 t154, .int .u64 t155] 27 (0, 0)) (by (with_reducible repeat (first | refine blk_drewN ?_ _ | refine blk_drew ?_ | refine blk_alloc ?_ _)); exact BK156.out) hb); have n3_ := Aside0.mk (below_step (by repeat (first | (with_reducible first | exact HB.out | apply below_alloc | apply pw_below_drewN | apply below_drew1 | refine below_set ?_ GE146.out | refine below_set ?_ GE151.out | refine below_set ?_ GE156.out) | exact HB.out)) hb); clear BK146; clear BK151; clear BK156; clear HB; have BK146 := n0_; have BK151 := n1_; have BK156 := n2_; have HB := n3_; clear n0_ n1_ n2_ n3_; (try clear hb); (try clear hb2); (try clear hk); (try clear hi)))
              go_ret
              exact ⟨by first | rfl | (simp [errW_none, errW_some] <;> rfl) | (simp only [← hji86]; first | rfl | (simp [errW_none, errW_some] <;> rfl)) | (simp [*, errW_none, errW_some] <;> rfl) | (simp [wrap64]; done) | (congr 2 <;> first | rfl | (unfold wrap64; omega)), by repeat (first | (with_reducible first | exact HB.out | apply below_alloc | apply pw_below_drewN | apply below_drew1 | refine below_set ?_ GE146.out | refine below_set ?_ GE151.out | refine below_set ?_ GE156.out) | exact HB.out)⟩
            · rw [if_neg c85] at H
              have c85b0 : (t140 == 0) = false := beq_eq_false_iff_ne.mpr c85
              have c85b1 : (t140 != 0) = true := bne_iff_ne.mpr c85
              by_cases c90 : ((decide (t140 < 0)) == ((decide (a0 < 0)) != (decide (a1 < 0)))) = true
              · rw [if_pos c90] at H
                have c90b0 : ((decide (t140 < 0)) == ((decide (a0 < 0)) != (decide (a1 < 0)))) = true := c90
                (try (have c90b1 : decide ((decide (t140 < 0)) = ((decide (a0 < 0)) != (decide (a1 < 0)))) = true := by simpa using c90))
                (try (have c90b2 : ((decide (t140 < 0)) == ((decide (a0 < 0)) != (decide (a1 < 0)))) = true := by simpa using c90))
                (try (have c90b3 : (decide (t140 < 0)) = (!((decide (a0 < 0)) == (decide (a1 < 0)))) := eq_of_beq c90))
                (try (have c90b4 : decide ((decide (t140 < 0)) = (!((decide (a0 < 0)) == (decide (a1 < 0))))) = true := decide_eq_true (eq_of_beq c90)))
                clear c90
                obtain ⟨ji91, hji91⟩ : ∃ j_ : Int, (mx a0 (-9223372036854775807)) = j_ := ⟨_, rfl⟩
                replace H : ((fix_Mul.f kj12 (ji91) 4294967296).bind fun t166 => (some (t166 == (ji91)))) = some r := by first | (rw [hji91] at H; exact H) | (simp only [hji91] at H ⊢; exact H)
                (try rw [hji91] at A83)
                have hji91_ : (if a0 < (-9223372036854775807) then (-9223372036854775807) else a0) = ji91 := hji91
                replace H := Option.bind_eq_some_iff.mp H
                obtain ⟨t166, A920, H⟩ := H
                replace H : (some (t166 == (ji91))) = some r := H
                have A92 := Aside0.mk A920
                clear A920
                obtain rfl := Option.some.inj H
                go_wp2_with (first | ((with_reducible refine gate_callee (f := 13) rfl ?_); refine goesL_ (some 55) rfl rfl Try.func13 (by kernel_rfl) rfl #[.int .i64 a1, .int .i64 a0] rfl (by (try simp only [List.map_toArray, List.map_cons, List.map_nil]); first | done | rfl | (simp only [List.length_drop, List.length_take]; rfl)) ?_; (with_reducible refine (fix_Mul.calls kj12 a1 a0 t164 _ A83.out).mono ?_); rintro e w93 ⟨rfl, hb⟩; refine ⟨_, rfl, ?_⟩; have n0_ := Aside0.mk (blk_below (g := gb146) (o := .cells #[.bool t143, .int .u64 t144, .int .u64 t145] 27 (0, 0)) (by (with_reducible repeat (first | refine blk_drewN ?_ _ | refine blk_drew ?_ | refine blk_alloc ?_ _)); exact BK146.out) hb); have n1_ := Aside0.mk (blk_below (g := gb151) (o := .cells #[.bool t148, .int .u64 t149, .int .u64 t150] 27 (0, 0)) (by (with_reducible repeat (first | refine blk_drewN ?_ _ | refine blk_drew ?_ | refine blk_alloc ?_ _)); exact BK151.out) hb); have n2_ := Aside0.mk (blk_below (g := gb156) (o := .cells #[.bool t153, .int .u64 t154, .int .u64 t155] 27 (0, 0)) (by (with_reducible repeat (first | refine blk_drewN ?_ _ | refine blk_drew ?_ | refine blk_alloc ?_ _)); exact BK156.out) hb); have n3_ := Aside0.mk (below_step (by repeat (first | (with_reducible first | exact HB.out | apply below_alloc | apply pw_below_drewN | apply below_drew1 | refine below_set ?_ GE146.out | refine below_set ?_ GE151.out | refine below_set ?_ GE156.out) | exact HB.out)) hb); clear BK146; clear BK151; clear BK156; clear HB; have BK146 := n0_; have BK151 := n1_; have BK156 := n2_; have HB := n3_; clear n0_ n1_ n2_ n3_; (try clear hb); (try clear hb2); (try clear hk); (try clear hi)) | (go_at_call 13; (with_reducible refine (fix_Mul.calls kj12 ji91 4294967296 t166 _ A92.out).mono ?_); rintro e w94 ⟨rfl, hb⟩; have n0_ := Aside0.mk (blk_below (g := gb146) (o := .cells #[.bool t143, .int .u64 t144, .int .u64 t145] 27 (0, 0)) (by (with_reducible repeat (first | refine blk_drewN ?_ _ | refine blk_drew ?_ | refine blk_alloc ?_ _)); exact BK146.out) hb); have n1_ := Aside0.mk (blk_below (g := gb151) (o := .cells #[.bool t148, .int .u64 t149, .int .u64 t150] 27 (0, 0)) (by (with_reducible repeat (first | refine blk_drewN ?_ _ | refine blk_drew ?_ | refine blk_alloc ?_ _)); exact BK151.out) hb); have n2_ := Aside0.mk (blk_below (g := gb156) (o := .cells #[.bool t153, .int .u64 t154, .int .u64 t155] 27 (0, 0)) (by (with_reducible repeat (first | refine blk_drewN ?_ _ | refine blk_drew ?_ | refine blk_alloc ?_ _)); exact BK156.out) hb); have n3_ := Aside0.mk (below_step (by repeat (first | (with_reducible first | exact HB.out | apply below_alloc | apply pw_below_drewN | apply below_drew1 | refine below_set ?_ GE146.out | refine below_set ?_ GE151.out | refine below_set ?_ GE156.out) | exact HB.out)) hb); clear BK146; clear BK151; clear BK156; clear HB; have BK146 := n0_; have BK151 := n1_; have BK156 := n2_; have HB := n3_; clear n0_ n1_ n2_ n3_; (try clear hb); (try clear hb2); (try clear hk); (try clear hi)))
                go_ret
                exact ⟨by first | rfl | (simp [errW_none, errW_some] <;> rfl) | (simp only [← hji91]; first | rfl | (simp [errW_none, errW_some] <;> rfl)) | (simp [*, errW_none, errW_some] <;> rfl) | (simp [wrap64]; done) | (congr 2 <;> first | rfl | (unfold wrap64; omega)), by repeat (first | (with_reducible first | exact HB.out | apply below_alloc | apply pw_below_drewN | apply below_drew1 | refine below_set ?_ GE146.out | refine below_set ?_ GE151.out | refine below_set ?_ GE156.out) | exact HB.out)⟩
              · rw [if_neg c90] at H
                have c90b0 : ((decide (t140 < 0)) == ((decide (a0 < 0)) != (decide (a1 < 0)))) = false := by simpa using c90
                (try (have c90b1 : decide ((decide (t140 < 0)) = ((decide (a0 < 0)) != (decide (a1 < 0)))) = false := by simpa using c90))
                (try (have c90b2 : ((decide (t140 < 0)) == ((decide (a0 < 0)) != (decide (a1 < 0)))) = false := by simpa using c90))
                (try (have c90b3 : ¬ ((decide (t140 < 0)) = ((decide (a0 < 0)) != (decide (a1 < 0)))) := by simpa using c90))
                (try (have c90b4 : ¬ ((decide (t140 < 0)) = (!((decide (a0 < 0)) == (decide (a1 < 0))))) := fun h_ => c90 (beq_iff_eq.mpr h_)))
                (try (have c90b5 : decide ((decide (t140 < 0)) = (!((decide (a0 < 0)) == (decide (a1 < 0))))) = false := decide_eq_false (fun h_ => c90 (beq_iff_eq.mpr h_))))
                clear c90
                obtain rfl := Option.some.inj H
                go_wp2_with (first | ((with_reducible refine gate_callee (f := 13) rfl ?_); refine goesL_ (some 55) rfl rfl Try.func13 (by kernel_rfl) rfl #[.int .i64 a1, .int .i64 a0] rfl (by (try simp only [List.map_toArray, List.map_cons, List.map_nil]); first | done | rfl | (simp only [List.length_drop, List.length_take]; rfl)) ?_; (with_reducible refine (fix_Mul.calls kj12 a1 a0 t164 _ A83.out).mono ?_); rintro e w95 ⟨rfl, hb⟩; refine ⟨_, rfl, ?_⟩; have n0_ := Aside0.mk (blk_below (g := gb146) (o := .cells #[.bool t143, .int .u64 t144, .int .u64 t145] 27 (0, 0)) (by (with_reducible repeat (first | refine blk_drewN ?_ _ | refine blk_drew ?_ | refine blk_alloc ?_ _)); exact BK146.out) hb); have n1_ := Aside0.mk (blk_below (g := gb151) (o := .cells #[.bool t148, .int .u64 t149, .int .u64 t150] 27 (0, 0)) (by (with_reducible repeat (first | refine blk_drewN ?_ _ | refine blk_drew ?_ | refine blk_alloc ?_ _)); exact BK151.out) hb); have n2_ := Aside0.mk (blk_below (g := gb156) (o := .cells #[.bool t153, .int .u64 t154, .int .u64 t155] 27 (0, 0)) (by (with_reducible repeat (first | refine blk_drewN ?_ _ | refine blk_drew ?_ | refine blk_alloc ?_ _)); exact BK156.out) hb); have n3_ := Aside0.mk (below_step (by repeat (first | (with_reducible first | exact HB.out | apply below_alloc | apply pw_below_drewN | apply below_drew1 | refine below_set ?_ GE146.out | refine below_set ?_ GE151.out | refine below_set ?_ GE156.out) | exact HB.out)) hb); clear BK146; clear BK151; clear BK156; clear HB; have BK146 := n0_; have BK151 := n1_; have BK156 := n2_; have HB := n3_; clear n0_ n1_ n2_ n3_; (try clear hb); (try clear hb2); (try clear hk); (try clear hi)))
                go_ret
                exact ⟨by first | rfl | (simp [errW_none, errW_some] <;> rfl) | (simp [*, errW_none, errW_some] <;> rfl) | (simp [wrap64]; done) | (congr 2 <;> first | rfl | (unfold wrap64; omega)), by repeat (first | (with_reducible first | exact HB.out | apply below_alloc | apply pw_below_drewN | apply below_drew1 | refine below_set ?_ GE146.out | refine below_set ?_ GE151.out | refine below_set ?_ GE156.out) | exact HB.out)⟩
          · rw [if_neg c84] at H
            have c84b0 : (t140 == t164) = false := beq_eq_false_iff_ne.mpr c84
            have c84b1 : (t140 != t164) = true := bne_iff_ne.mpr c84
            obtain rfl := Option.some.inj H
            go_wp2_with (first | ((with_reducible refine gate_callee (f := 13) rfl ?_); refine goesL_ (some 55) rfl rfl Try.func13 (by kernel_rfl) rfl #[.int .i64 a1, .int .i64 a0] rfl (by (try simp only [List.map_toArray, List.map_cons, List.map_nil]); first | done | rfl | (simp only [List.length_drop, List.length_take]; rfl)) ?_; (with_reducible refine (fix_Mul.calls kj12 a1 a0 t164 _ A83.out).mono ?_); rintro e w96 ⟨rfl, hb⟩; refine ⟨_, rfl, ?_⟩; have n0_ := Aside0.mk (blk_below (g := gb146) (o := .cells #[.bool t143, .int .u64 t144, .int .u64 t145] 27 (0, 0)) (by (with_reducible repeat (first | refine blk_drewN ?_ _ | refine blk_drew ?_ | refine blk_alloc ?_ _)); exact BK146.out) hb); have n1_ := Aside0.mk (blk_below (g := gb151) (o := .cells #[.bool t148, .int .u64 t149, .int .u64 t150] 27 (0, 0)) (by (with_reducible repeat (first | refine blk_drewN ?_ _ | refine blk_drew ?_ | refine blk_alloc ?_ _)); exact BK151.out) hb); have n2_ := Aside0.mk (blk_below (g := gb156) (o := .cells #[.bool t153, .int .u64 t154, .int .u64 t155] 27 (0, 0)) (by (with_reducible repeat (first | refine blk_drewN ?_ _ | refine blk_drew ?_ | refine blk_alloc ?_ _)); exact BK156.out) hb); have n3_ := Aside0.mk (below_step (by repeat (first | (with_reducible first | exact HB.out | apply below_alloc | apply pw_below_drewN | apply below_drew1 | refine below_set ?_ GE146.out | refine below_set ?_ GE151.out | refine below_set ?_ GE156.out) | exact HB.out)) hb); clear BK146; clear BK151; clear BK156; clear HB; have BK146 := n0_; have BK151 := n1_; have BK156 := n2_; have HB := n3_; clear n0_ n1_ n2_ n3_; (try clear hb); (try clear hb2); (try clear hk); (try clear hi)))
            go_ret
            exact ⟨by first | rfl | (simp [errW_none, errW_some] <;> rfl) | (simp [*, errW_none, errW_some] <;> rfl) | (simp [wrap64]; done) | (congr 2 <;> first | rfl | (unfold wrap64; omega)), by repeat (first | (with_reducible first | exact HB.out | apply below_alloc | apply pw_below_drewN | apply below_drew1 | refine below_set ?_ GE146.out | refine below_set ?_ GE151.out | refine below_set ?_ GE156.out) | exact HB.out)⟩
  · replace c4 := Bool.eq_false_iff.mpr c4
    subst c4
    have H1 : (some false) = some r := by rw [if_neg (show ¬ (false = true) by decide)] at H; exact H
    clear H
    have H := H1
    clear H1
    obtain rfl := Option.some.inj H
    go_enter Try.func3, Try.ntmps3
    go_wp2_with (first | ((with_reducible refine gate_callee (f := 12) rfl ?_); refine goesL_ (some 9) rfl rfl Try.func12 (by kernel_rfl) rfl #[] rfl (by (try simp only [List.map_toArray, List.map_cons, List.map_nil]); first | done | rfl | (simp only [List.length_drop, List.length_take]; rfl)) ?_; (with_reducible refine (bagatellelaw01_fit.calls k  false _ A3.out).mono ?_); rintro e w97 ⟨rfl, hb⟩; refine ⟨_, rfl, ?_⟩; have n0_ := Aside0.mk (below_step (by repeat (first | (with_reducible first | exact HB.out | apply below_alloc | apply pw_below_drewN | apply below_drew1) | exact HB.out)) hb); clear HB; have HB := n0_; clear n0_; (try clear hb); (try clear hb2); (try clear hk); (try clear hi)))
    go_ret
    exact ⟨by first | rfl | (simp [errW_none, errW_some] <;> rfl) | (simp [*, errW_none, errW_some] <;> rfl) | (simp [wrap64]; done) | (congr 2 <;> first | rfl | (unfold wrap64; omega)), by repeat (first | (with_reducible first | exact HB.out | apply below_alloc | apply pw_below_drewN | apply below_drew1) | exact HB.out)⟩

/-- THE ONE PURE STATEMENT of bagatellelaw01_FixMuls: yours. -/
def bagatellelaw01_FixMuls.Pure : Prop := ∀ (a0 : Int) (a1 : Int), (Lit.int .i64 a0).wf = true → (Lit.int .i64 a1).wf = true → ∃ k, bagatellelaw01_FixMuls.f k a0 a1 = some true
theorem bagatellelaw01_FixMuls.walk (P : bagatellelaw01_FixMuls.Pure) (a0 : Int) (a1 : Int) (w : World) (w0 : (Lit.int .i64 a0).wf = true) (w1 : (Lit.int .i64 a1).wf = true) :
    Calls Try.prog 3 #[.int .i64 a0, .int .i64 a1] w fun e w' => e = .returned (.bool true) ∧ Below w.heap.size w w' := by
  obtain ⟨k, h⟩ := P a0 a1 w0 w1
  refine (bagatellelaw01_FixMuls.calls k a0 a1 true w h).mono ?_
  rintro e w' ⟨rfl, hd⟩
  exact ⟨rfl, hd⟩

end Go.Proofs.Ytkafbfkhgkcdnaa.PFix
