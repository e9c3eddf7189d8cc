-- Printed by a program of this session (wip/tools/myprint.py) out of the translation; Lean checks it.
import Derived.Test.YtbdkcjikphlgfaaPShx0
import Derived.Test.YtbdkcjikphlgfaaPShx1
import Derived.Test.YtbdkcjikphlgfaaPShx2
import Derived.Test.YtbdkcjikphlgfaaPShx5
import Derived.Test.YtbdkcjikphlgfaaPShx7
import Derived.Test.YtbdkcjikphlgfaaPShx8
import Derived.Test.YtbdkcjikphlgfaaPShx9
namespace Go.Proofs.Ytbdkcjikphlgfaa.PSh
open Go.RowKit Go.Proofs.YtbdkcjikphlgfaaW.PrintWords Go.Proofs.YtbdkcjikphlgfaaW.PrintLast Go.Proofs.YtbdkcjikphlgfaaW.PrintMore
attribute [local go_sem] max2_int min2_int max_two min_two max_three min_three max_four min_four   -- for this text's walks alone
set_option linter.unusedVariables false
set_option linter.unusedSimpArgs false

attribute [local go_sem high] eqA34
/-! ### bagatellelaw04_ShapeNormals: function 4 -/
abbrev O4 : Bool := false
abbrev I4 : Bool := true
mutual
def bagatellelaw04_ShapeNormals.l0 : Nat → List (S34) → List (S34) → Int → Int → Int → Int → List (S34) → Option (Bool)
 | 0, _, _, _, _, _, _, _ => none
 | k + 1, x4, x26, x27, x28, x232000, x232001, x232002 => if x28 < x27 then (if 0 ≤ x28 then (if x28 < (x26.length : Int) then (if (x232002.length : Int) = 0 then (none) else (if 0 ≤ (Int.tmod (wrap64 (x28 + 1)) (x232002.length : Int)) then (if (Int.tmod (wrap64 (x28 + 1)) (x232002.length : Int)) < (x232002.length : Int) then ((vec_Sub.f k ((rd_T34 x232002 (Int.tmod (wrap64 (x28 + 1)) (x232002.length : Int))).f0) ((rd_T34 x232002 (Int.tmod (wrap64 (x28 + 1)) (x232002.length : Int))).f1) ((rd_T34 x26 x28).f0) ((rd_T34 x26 x28).f1)).bind fun bt238 => ((vec_Unit.f k bt238.2 (wrap64 (-bt238.1))).bind fun bt241 => (if bt241.2.2 = true then (if x28 < (x4.length : Int) then (if (!(((rd_T34 x4 x28).f0) == bt241.1) || (!(((rd_T34 x4 x28).f1) == bt241.2.1))) = true then (none) else (bagatellelaw04_ShapeNormals.l1 k x4 x26 x27 x28 x232002 (x232002.length : Int) 0 x232000 x232001 x232002 ((rd_T34 x26 x28).f0) ((rd_T34 x26 x28).f1) bt241.1 bt241.2.1)) else (none)) else (none)))) else (none)) else (none))) else (none)) else (none)) else ((shape_Normals.f k ([] : List (S34))).bind fun t251 => (some ((t251.length : Int) == 0)))
def bagatellelaw04_ShapeNormals.l1 : Nat → List (S34) → List (S34) → Int → Int → List (S34) → Int → Int → Int → Int → List (S34) → Int → Int → Int → Int → Option (Bool)
 | 0, _, _, _, _, _, _, _, _, _, _, _, _, _, _ => none
 | k + 1, x4, x26, x27, x28, x66, x67, x68, x232000, x232001, x232002, x237000, x237001, x245000, x245001 => if x68 < x67 then (if 0 ≤ x68 then (if x68 < (x66.length : Int) then ((vec_Sub.f k ((rd_T34 x66 x68).f0) ((rd_T34 x66 x68).f1) x237000 x237001).bind fun bt248 => ((vec_Dot.f k x245000 x245001 bt248.1 bt248.2).bind fun t250 => (if t250 > 4294967 then (none) else (bagatellelaw04_ShapeNormals.l1 k x4 x26 x27 x28 x66 x67 (wrap64 (x68 + 1)) x232000 x232001 x232002 x237000 x237001 x245000 x245001)))) else (none)) else (none)) else (bagatellelaw04_ShapeNormals.l0 k x4 x26 x27 (wrap64 (x28 + 1)) x232000 x232001 x232002)
end
def bagatellelaw04_ShapeNormals.f (k : Nat) (a0_0 : Int) (a0_1 : Int) (a0_2 : Int) (a0_3 : Int) : Option (Bool) := (bagatellelaw04_fit.f k).bind fun t225 => (if t225 = true then ((bagatellelaw04_Seed_Shape.f k a0_0 a0_1 a0_2 a0_3).bind fun bt226 => ((shape_Normals.f k bt226.2.2).bind fun t232 => (if (t232.length : Int) = (bt226.2.2.length : Int) then (bagatellelaw04_ShapeNormals.l0 k t232 bt226.2.2 (bt226.2.2.length : Int) 0 bt226.1 bt226.2.1 bt226.2.2) else (none)))) else (none))
theorem bagatellelaw04_ShapeNormals.mono_l : ∀ k, (∀ y0 y1 y2 y3 y4 y5 y6, LeO (bagatellelaw04_ShapeNormals.l0 k y0 y1 y2 y3 y4 y5 y6) (bagatellelaw04_ShapeNormals.l0 (k + 1) y0 y1 y2 y3 y4 y5 y6)) ∧ (∀ y0 y1 y2 y3 y4 y5 y6 y7 y8 y9 y10 y11 y12 y13, LeO (bagatellelaw04_ShapeNormals.l1 k y0 y1 y2 y3 y4 y5 y6 y7 y8 y9 y10 y11 y12 y13) (bagatellelaw04_ShapeNormals.l1 (k + 1) y0 y1 y2 y3 y4 y5 y6 y7 y8 y9 y10 y11 y12 y13))
 | 0 => ⟨fun _ _ _ _ _ _ _ r h => by simp [bagatellelaw04_ShapeNormals.l0] at h, fun _ _ _ _ _ _ _ _ _ _ _ _ _ _ r h => by simp [bagatellelaw04_ShapeNormals.l1] at h⟩
 | k + 1 => by
  obtain ⟨ih0, ih1⟩ := bagatellelaw04_ShapeNormals.mono_l k
  refine ⟨?_, ?_⟩
  ·intro y0 y1 y2 y3 y4 y5 y6
   unfold bagatellelaw04_ShapeNormals.l0
   repeat' first
   | (with_reducible exact ih0 _ _ _ _ _ _ _)
   | (with_reducible exact ih1 _ _ _ _ _ _ _ _ _ _ _ _ _ _)
   | (with_reducible exact bagatellelaw04_Seed_Shape.mono _ _ _ _ _)
   | (with_reducible exact bagatellelaw04_fit.mono _)
   | (with_reducible exact shape_Normals.mono _ _)
   | (with_reducible exact vec_Dot.mono _ _ _ _ _)
   | (with_reducible exact vec_Sub.mono _ _ _ _ _)
   | (with_reducible exact vec_Unit.mono _ _ _)
   | (with_reducible exact LeO.refl _)
   | (with_reducible exact LeO.none _)
   | (with_reducible refine LeO.ite ?_ ?_)
   | (with_reducible refine LeO.bind ?_ (fun _ => ?_))
   | exact ih0 _ _ _ _ _ _ _
   | exact ih1 _ _ _ _ _ _ _ _ _ _ _ _ _ _
   | exact bagatellelaw04_Seed_Shape.mono _ _ _ _ _
   | exact bagatellelaw04_fit.mono _
   | exact shape_Normals.mono _ _
   | exact vec_Dot.mono _ _ _ _ _
   | exact vec_Sub.mono _ _ _ _ _
   | exact vec_Unit.mono _ _ _
   | exact LeO.none _
   | refine LeO.ite ?_ ?_
   | refine LeO.bind ?_ (fun _ => ?_)
  ·intro y0 y1 y2 y3 y4 y5 y6 y7 y8 y9 y10 y11 y12 y13
   unfold bagatellelaw04_ShapeNormals.l1
   repeat' first
   | (with_reducible exact ih0 _ _ _ _ _ _ _)
   | (with_reducible exact ih1 _ _ _ _ _ _ _ _ _ _ _ _ _ _)
   | (with_reducible exact bagatellelaw04_Seed_Shape.mono _ _ _ _ _)
   | (with_reducible exact bagatellelaw04_fit.mono _)
   | (with_reducible exact shape_Normals.mono _ _)
   | (with_reducible exact vec_Dot.mono _ _ _ _ _)
   | (with_reducible exact vec_Sub.mono _ _ _ _ _)
   | (with_reducible exact vec_Unit.mono _ _ _)
   | (with_reducible exact LeO.refl _)
   | (with_reducible exact LeO.none _)
   | (with_reducible refine LeO.ite ?_ ?_)
   | (with_reducible refine LeO.bind ?_ (fun _ => ?_))
   | exact ih0 _ _ _ _ _ _ _
   | exact ih1 _ _ _ _ _ _ _ _ _ _ _ _ _ _
   | exact bagatellelaw04_Seed_Shape.mono _ _ _ _ _
   | exact bagatellelaw04_fit.mono _
   | exact shape_Normals.mono _ _
   | exact vec_Dot.mono _ _ _ _ _
   | exact vec_Sub.mono _ _ _ _ _
   | exact vec_Unit.mono _ _ _
   | exact LeO.none _
   | refine LeO.ite ?_ ?_
   | refine LeO.bind ?_ (fun _ => ?_)
theorem bagatellelaw04_ShapeNormals.mono : ∀ a0 a1 a2 a3 k, LeO (bagatellelaw04_ShapeNormals.f k a0 a1 a2 a3) (bagatellelaw04_ShapeNormals.f (k + 1) a0 a1 a2 a3) := by
 intro a0 a1 a2 a3 k
 obtain ⟨ih0, ih1⟩ := bagatellelaw04_ShapeNormals.mono_l k
 unfold bagatellelaw04_ShapeNormals.f
 repeat' first
   | (with_reducible exact ih0 _ _ _ _ _ _ _)
   | (with_reducible exact ih1 _ _ _ _ _ _ _ _ _ _ _ _ _ _)
   | (with_reducible exact bagatellelaw04_Seed_Shape.mono _ _ _ _ _)
   | (with_reducible exact bagatellelaw04_fit.mono _)
   | (with_reducible exact shape_Normals.mono _ _)
   | (with_reducible exact vec_Dot.mono _ _ _ _ _)
   | (with_reducible exact vec_Sub.mono _ _ _ _ _)
   | (with_reducible exact vec_Unit.mono _ _ _)
   | (with_reducible exact LeO.refl _)
   | (with_reducible exact LeO.none _)
   | (with_reducible refine LeO.ite ?_ ?_)
   | (with_reducible refine LeO.bind ?_ (fun _ => ?_))
   | exact ih0 _ _ _ _ _ _ _
   | exact ih1 _ _ _ _ _ _ _ _ _ _ _ _ _ _
   | exact bagatellelaw04_Seed_Shape.mono _ _ _ _ _
   | exact bagatellelaw04_fit.mono _
   | exact shape_Normals.mono _ _
   | exact vec_Dot.mono _ _ _ _ _
   | exact vec_Sub.mono _ _ _ _ _
   | exact vec_Unit.mono _ _ _
   | exact LeO.none _
   | refine LeO.ite ?_ ?_
   | refine LeO.bind ?_ (fun _ => ?_)
def bagatellelaw04_ShapeNormals.T10 : Bool × List (List Nat × List Nat) := (true, [([], []), ([0], [0]), ([], []), ([2], [2]), ([], []), ([4], [4]), ([5], [5]), ([3, 6], [3, 6]), ([1, 7], [1, 7]), ([8], [8]), ([], []), ([9, 10], [9, 10]), ([], []), ([12, 11, 11, 0, 1, 2, 3, 4, 5, 6, 7, 8, 9, 10, 11, 12], [11, 12])])
def bagatellelaw04_ShapeNormals.B10 : List Nat := [0, 1, 0, 4, 0, 16, 48, 124, 255, 511, 0, 2047, 0, 8191]
theorem bagatellelaw04_ShapeNormals.tab10 : rtab .any (opsOf Try.f4 10) = bagatellelaw04_ShapeNormals.T10 := by kernel_rfl
theorem bagatellelaw04_ShapeNormals.bits10 : waitsOk bagatellelaw04_ShapeNormals.T10.2 bagatellelaw04_ShapeNormals.B10 = true := by kernel_rfl
def bagatellelaw04_ShapeNormals.T12 : Bool × List (List Nat × List Nat) := (true, [([], []), ([0], [0]), ([1], [1]), ([2], [2]), ([2], [2]), ([3, 4, 2], [2, 3, 4]), ([5, 2], [2, 5]), ([2], [2]), ([6, 7, 2], [2, 6, 7]), ([2, 8], [2, 8])])
def bagatellelaw04_ShapeNormals.B12 : List Nat := [0, 1, 3, 7, 7, 31, 63, 7, 255, 511]
theorem bagatellelaw04_ShapeNormals.tab12 : rtab .any (opsOf Try.f4 12) = bagatellelaw04_ShapeNormals.T12 := by kernel_rfl
theorem bagatellelaw04_ShapeNormals.bits12 : waitsOk bagatellelaw04_ShapeNormals.T12.2 bagatellelaw04_ShapeNormals.B12 = true := by kernel_rfl
set_option maxHeartbeats 8000000 in
set_option maxRecDepth 100000 in
theorem bagatellelaw04_ShapeNormals.calls (k : Nat) (a0_0 : Int) (a0_1 : Int) (a0_2 : Int) (a0_3 : Int) (r : Bool) (w : World) (h : bagatellelaw04_ShapeNormals.f k a0_0 a0_1 a0_2 a0_3 = some r) :
  Calls Try.prog 4 #[.agg #[.int .i64 a0_0, .int .i64 a0_1, .int .i64 a0_2, .int .i64 a0_3]] w fun e w' => e = .returned (.bool r) ∧ Below w.heap.size w w' := by
 have hu27 := Try.underlying27
 have hu25 := Try.underlying25
 have hu34 := Try.underlying34
 have HB := Aside0.mk (Below.refl w.heap.size w)
 have H : ((bagatellelaw04_fit.f k).bind fun t225 => (if t225 = true then ((bagatellelaw04_Seed_Shape.f k a0_0 a0_1 a0_2 a0_3).bind fun bt226 => ((shape_Normals.f k bt226.2.2).bind fun t232 => (if (t232.length : Int) = (bt226.2.2.length : Int) then (bagatellelaw04_ShapeNormals.l0 k t232 bt226.2.2 (bt226.2.2.length : Int) 0 bt226.1 bt226.2.1 bt226.2.2) else (none)))) else (none))) = some r := h
 clear h
 replace H := Option.bind_eq_some_iff.mp H
 obtain ⟨t225, A20, H⟩ := H
 replace H : (if t225 = true then ((bagatellelaw04_Seed_Shape.f k a0_0 a0_1 a0_2 a0_3).bind fun bt226 => ((shape_Normals.f k bt226.2.2).bind fun t232 => (if (t232.length : Int) = (bt226.2.2.length : Int) then (bagatellelaw04_ShapeNormals.l0 k t232 bt226.2.2 (bt226.2.2.length : Int) 0 bt226.1 bt226.2.1 bt226.2.2) else (none)))) else (none)) = some r := H
 have A2 := Aside0.mk A20
 clear A20
 by_cases c3 : t225 = true
 ·subst c3
  have H1 : ((bagatellelaw04_Seed_Shape.f k a0_0 a0_1 a0_2 a0_3).bind fun bt226 => ((shape_Normals.f k bt226.2.2).bind fun t232 => (if (t232.length : Int) = (bt226.2.2.length : Int) then (bagatellelaw04_ShapeNormals.l0 k t232 bt226.2.2 (bt226.2.2.length : Int) 0 bt226.1 bt226.2.1 bt226.2.2) else (none)))) = some r := by rw [if_pos rfl] at H; exact H
  clear H
  have H := H1
  clear H1
  replace H := Option.bind_eq_some_iff.mp H
  obtain ⟨⟨t226, t227, t228⟩, A40, H⟩ := H
  replace H : ((shape_Normals.f k t228).bind fun t232 => (if (t232.length : Int) = (t228.length : Int) then (bagatellelaw04_ShapeNormals.l0 k t232 t228 (t228.length : Int) 0 t226 t227 t228) else (none))) = some r := H
  have A4 := Aside0.mk A40
  clear A40
  replace H := Option.bind_eq_some_iff.mp H
  obtain ⟨t232, A50, H⟩ := H
  replace H : (if (t232.length : Int) = (t228.length : Int) then (bagatellelaw04_ShapeNormals.l0 k t232 t228 (t228.length : Int) 0 t226 t227 t228) else (none)) = some r := H
  have A5 := Aside0.mk A50
  clear A50
  by_cases c6 : (t232.length : Int) = (t228.length : Int)
  ·rw [if_pos c6] at H
   have c6b0 : ((t232.length : Int) == (t228.length : Int)) = true := beq_iff_eq.mpr c6
   have c6b1 : ((t232.length : Int) != (t228.length : Int)) = false := bne_eq_false_iff_eq.mpr c6
   have c6b2 : (t232.length == t228.length) = true := by first | simpa using c6 | (simp at c6 ⊢; omega)
   clear c6
   have H' := Aside0.mk H
   clear H
   go_enter Try.func4, Try.ntmps4
   go_wp2_with (first | ((with_reducible refine gate_dst (N := 1) rfl ?_); refine box_event ?hg (N := 1) ?hd (cs := #[.int .i64 a0_0, .int .i64 a0_1, .int .i64 a0_2, .int .i64 a0_3]) (t := 27) ?hr ?_; (case hd => rfl); (case hg => rfl); (case hr => first | (go_simp; done) | (go_simp; rfl)); intro gb224 hg w7 hbox hb; have n0_ := Aside0.mk (below_step (by repeat (first | (with_reducible first | exact HB.out | apply below_alloc | apply pw_below_drewN | apply below_drew1) | exact HB.out)) hb); have n1_ := Aside0.mk (hbox); have n2_ := Aside0.mk ((by rw [hg]; exact (below_size (by repeat (first | (with_reducible first | exact HB.out | apply below_alloc | apply pw_below_drewN | apply below_drew1) | exact HB.out))) : w.heap.size ≤ gb224)); have n3_ := Aside0.mk ((by rw [hg]; exact (below_size (by repeat (first | (with_reducible first | exact HB.out | apply below_alloc | apply pw_below_drewN | apply below_drew1) | exact HB.out))) : w.heap.size ≤ gb224)); clear HB; have HB := n0_; have BK224 := n1_; have GW224 := n2_; have GE224 := n3_; clear n0_ n1_ n2_ n3_; clear hb hbox hg) | ((with_reducible refine gate_callee (f := 8) rfl ?_); refine goesL_ (some 12) rfl rfl Try.func8 (by kernel_rfl) rfl #[] rfl (by (try simp only [List.map_toArray, List.map_cons, List.map_nil]); first | done | rfl | (simp only [List.length_drop, List.length_take]; rfl)) ?_; (with_reducible refine (bagatellelaw04_fit.calls k  true _ A2.out).mono ?_); rintro e w8 ⟨rfl, hb⟩; refine ⟨_, rfl, ?_⟩; have n0_ := Aside0.mk (blk_below (g := gb224) (o := .cells #[.int .i64 a0_0, .int .i64 a0_1, .int .i64 a0_2, .int .i64 a0_3] 27 (0, 0)) (by (with_reducible repeat (first | refine blk_drewN ?_ _ | refine blk_drew ?_ | refine blk_alloc ?_ _)); exact BK224.out) hb); have n1_ := Aside0.mk (below_step (by repeat (first | (with_reducible first | exact HB.out | apply below_alloc | apply pw_below_drewN | apply below_drew1 | refine below_set ?_ GE224.out) | exact HB.out)) hb); clear BK224; clear HB; have BK224 := n0_; have HB := n1_; clear n0_ n1_; (try clear hb); (try clear hb2); (try clear hk); (try clear hi); have hcz9_0 : w8.cell? ⟨gb224, 0, none⟩ = some (.int .i64 a0_0) := (blk_cell BK224.out 0).trans rfl; have hcz9_1 : w8.cell? ⟨gb224, 1, none⟩ = some (.int .i64 a0_1) := (blk_cell BK224.out 1).trans rfl; have hcz9_2 : w8.cell? ⟨gb224, 2, none⟩ = some (.int .i64 a0_2) := (blk_cell BK224.out 2).trans rfl; have hcz9_3 : w8.cell? ⟨gb224, 3, none⟩ = some (.int .i64 a0_3) := (blk_cell BK224.out 3).trans rfl; have hfz9_0 := blk_frozen BK224.out 0; have hfz9_1 := blk_frozen BK224.out 1; have hfz9_2 := blk_frozen BK224.out 2; have hfz9_3 := blk_frozen BK224.out 3) | ((with_reducible refine gate_callee (f := 11) rfl ?_); refine goesL_ (some 15) rfl rfl Try.func11 (by kernel_rfl) rfl #[.agg #[.int .i64 a0_0, .int .i64 a0_1, .int .i64 a0_2, .int .i64 a0_3]] rfl (by (try simp only [List.map_toArray, List.map_cons, List.map_nil]); first | done | rfl | (simp only [List.length_drop, List.length_take]; rfl)) ?_; (with_reducible refine (bagatellelaw04_Seed_Shape.calls k a0_0 a0_1 a0_2 a0_3 t226 t227 t228 _ A4.out).mono ?_); rintro e w10 ⟨v229, rfl, ho0, hb⟩; refine ⟨_, rfl, ?_⟩; have n0_ := Aside0.mk (Kd.R_lower ho0 (below_size (by repeat (first | (with_reducible first | exact HB.out | apply below_alloc | apply pw_below_drewN | apply below_drew1 | refine below_set ?_ GE224.out) | exact HB.out)))); have n1_ := Aside0.mk (blk_below (g := gb224) (o := .cells #[.int .i64 a0_0, .int .i64 a0_1, .int .i64 a0_2, .int .i64 a0_3] 27 (0, 0)) (by (with_reducible repeat (first | refine blk_drewN ?_ _ | refine blk_drew ?_ | refine blk_alloc ?_ _)); exact BK224.out) hb); have n2_ := Aside0.mk (below_step (by repeat (first | (with_reducible first | exact HB.out | apply below_alloc | apply pw_below_drewN | apply below_drew1 | refine below_set ?_ GE224.out) | exact HB.out)) hb); clear BK224; clear HB; have HO230 := n0_; have BK224 := n1_; have HB := n2_; clear n0_ n1_ n2_; (try clear hb); (try clear hb2); (try clear hk); (try clear hi); (try clear ho0)) | ((with_reducible refine gate_dst (N := 3) rfl ?_); refine box_event ?hg (N := 3) ?hd (cs := #[.int .i64 0, .int .i64 0, .slice none 0 0]) (t := 25) ?hr ?_; (case hd => rfl); (case hg => rfl); (case hr => first | (go_simp; done) | (go_simp; rfl)); intro gb231 hg w11 hbox hb; have n0_ := Aside0.mk (Kd.R_below (by (with_reducible repeat (first | apply Kd.R_alloc | apply Kd.R_drewN | apply Kd.R_drew)); exact HO230.out) hb); have n1_ := Aside0.mk (blk_below (g := gb224) (o := .cells #[.int .i64 a0_0, .int .i64 a0_1, .int .i64 a0_2, .int .i64 a0_3] 27 (0, 0)) (by (with_reducible repeat (first | refine blk_drewN ?_ _ | refine blk_drew ?_ | refine blk_alloc ?_ _)); exact BK224.out) hb); have n2_ := Aside0.mk (below_step (by repeat (first | (with_reducible first | exact HB.out | apply below_alloc | apply pw_below_drewN | apply below_drew1 | refine below_set ?_ GE224.out) | exact HB.out)) hb); have n3_ := Aside0.mk (hbox); have n4_ := Aside0.mk ((by rw [hg]; exact (below_size (by repeat (first | (with_reducible first | exact HB.out | apply below_alloc | apply pw_below_drewN | apply below_drew1 | refine below_set ?_ GE224.out) | exact HB.out))) : w.heap.size ≤ gb231)); have n5_ := Aside0.mk ((by rw [hg]; exact (below_size (by repeat (first | (with_reducible first | exact HB.out | apply below_alloc | apply pw_below_drewN | apply below_drew1 | refine below_set ?_ GE224.out) | exact HB.out))) : w.heap.size ≤ gb231)); have n6_ := Aside0.mk ((by rw [hg]; exact Nat.ne_of_lt (blk_lt (g := gb224) (o := .cells #[.int .i64 a0_0, .int .i64 a0_1, .int .i64 a0_2, .int .i64 a0_3] 27 (0, 0)) (by (with_reducible repeat (first | refine blk_drewN ?_ _ | refine blk_drew ?_ | refine blk_alloc ?_ _)); exact BK224.out)) : gb224 ≠ gb231)); have n7_ := Aside0.mk ((by rw [hg]; exact Nat.ne_of_gt (blk_lt (g := gb224) (o := .cells #[.int .i64 a0_0, .int .i64 a0_1, .int .i64 a0_2, .int .i64 a0_3] 27 (0, 0)) (by (with_reducible repeat (first | refine blk_drewN ?_ _ | refine blk_drew ?_ | refine blk_alloc ?_ _)); exact BK224.out)) : gb231 ≠ gb224)); clear HO230; clear BK224; clear HB; have HO230 := n0_; have BK224 := n1_; have HB := n2_; have BK231 := n3_; have GW231 := n4_; have GE231 := n5_; have NB224_231 := n6_; have NB231_224 := n7_; clear n0_ n1_ n2_ n3_ n4_ n5_ n6_ n7_; clear hb hbox hg; have hnb12 := NB231_224.out; have hnc12 := NB224_231.out; have hcz13_0 : w11.cell? ⟨gb231, 0, none⟩ = some (.int .i64 0) := (blk_cell BK231.out 0).trans rfl; have hcz13_1 : w11.cell? ⟨gb231, 1, none⟩ = some (.int .i64 0) := (blk_cell BK231.out 1).trans rfl; have hcz13_2 : w11.cell? ⟨gb231, 2, none⟩ = some (.slice none 0 0) := (blk_cell BK231.out 2).trans rfl; have hfz13_0 := blk_frozen BK231.out 0; have hfz13_1 := blk_frozen BK231.out 1; have hfz13_2 := blk_frozen BK231.out 2; obtain ⟨Ao14, co14, eo14⟩ := Kd.R_slice HO230.out; subst eo14) | ((with_reducible refine gate_callee (f := 12) rfl ?_); refine goesL_ (some 18) rfl rfl Try.func12 (by kernel_rfl) rfl #[.slice Ao14 t228.length co14] rfl (by (try simp only [List.map_toArray, List.map_cons, List.map_nil]); first | done | rfl | (simp only [List.length_drop, List.length_take]; rfl)) ?_; (with_reducible refine (shape_Normals.calls k _ _ t228 t232 _ ?side1 ?side2 A5.out).mono ?_); (case side1 => refine (Kd.R_reads' (e := 34) (base := w.heap.size) (ok := fun k_ => True) (n := t228.length) (c := co14) ?_).2.2; exact (by (with_reducible repeat (first | apply Kd.R_alloc | apply Kd.R_drewN | apply Kd.R_drew)); exact (Kd.R_mono (Kd.R_far (p := ⟨gb231, 2, none⟩) (Kd.R_far (p := ⟨gb231, 1, none⟩) (Kd.R_far (p := ⟨gb231, 0, none⟩) (Kd.R_types HO230.out BK231.out (by decide)) (fun _ hk => hk.2) (.int .i64 t226)) (fun _ hk => hk.2) (.int .i64 t227)) (fun _ hk => hk.2) (.slice Ao14 t228.length co14)) (fun _ h_ => h_.1)))); (case side2 => exact (Kd.R_reads' HO230.out).2.1); rintro e w15 ⟨v233, rfl, ho0, hb⟩; refine ⟨_, rfl, ?_⟩; have n0_ := Aside0.mk (Kd.R_elder' (by (with_reducible repeat (first | apply Kd.R_alloc | apply Kd.R_drewN | apply Kd.R_drew)); exact (Kd.R_mono (Kd.R_far (p := ⟨gb231, 2, none⟩) (Kd.R_far (p := ⟨gb231, 1, none⟩) (Kd.R_far (p := ⟨gb231, 0, none⟩) (Kd.R_types HO230.out BK231.out (by decide)) (fun _ hk => hk.2) (.int .i64 t226)) (fun _ hk => hk.2) (.int .i64 t227)) (fun _ hk => hk.2) (.slice Ao14 t228.length co14)) (fun _ h_ => h_.1))) (Kd.R_base ho0) hb); have n1_ := Aside0.mk (Kd.R_lower (Kd.R_new' ho0 (Kd.R_lt (by (with_reducible repeat (first | apply Kd.R_alloc | apply Kd.R_drewN | apply Kd.R_drew)); exact (Kd.R_mono (Kd.R_far (p := ⟨gb231, 2, none⟩) (Kd.R_far (p := ⟨gb231, 1, none⟩) (Kd.R_far (p := ⟨gb231, 0, none⟩) (Kd.R_types HO230.out BK231.out (by decide)) (fun _ hk => hk.2) (.int .i64 t226)) (fun _ hk => hk.2) (.int .i64 t227)) (fun _ hk => hk.2) (.slice Ao14 t228.length co14)) (fun _ h_ => h_.1))))) (below_size (by repeat (first | (with_reducible first | exact HB.out | apply below_alloc | apply pw_below_drewN | apply below_drew1 | refine below_set ?_ GE224.out | refine below_set ?_ GE231.out) | exact HB.out)))); have n2_ := Aside0.mk (blk_below (g := gb224) (o := .cells #[.int .i64 a0_0, .int .i64 a0_1, .int .i64 a0_2, .int .i64 a0_3] 27 (0, 0)) (by (with_reducible repeat (first | refine blk_drewN ?_ _ | refine blk_drew ?_ | refine blk_alloc ?_ _)); refine blk_far ?_ NB224_231.out _; (with_reducible repeat (first | refine blk_drewN ?_ _ | refine blk_drew ?_ | refine blk_alloc ?_ _)); refine blk_far ?_ NB224_231.out _; (with_reducible repeat (first | refine blk_drewN ?_ _ | refine blk_drew ?_ | refine blk_alloc ?_ _)); refine blk_far ?_ NB224_231.out _; (with_reducible repeat (first | refine blk_drewN ?_ _ | refine blk_drew ?_ | refine blk_alloc ?_ _)); exact BK224.out) hb); have n3_ := Aside0.mk (blk_below (g := gb231) (o := .cells #[.int .i64 t226, .int .i64 t227, .slice Ao14 t228.length co14] 25 (0, 0)) (by (with_reducible repeat (first | refine blk_drewN ?_ _ | refine blk_drew ?_ | refine blk_alloc ?_ _)); refine blk_put (cs := #[.int .i64 t226, .int .i64 t227, .slice none 0 0]) ?_ 2 _ rfl; (with_reducible repeat (first | refine blk_drewN ?_ _ | refine blk_drew ?_ | refine blk_alloc ?_ _)); refine blk_put (cs := #[.int .i64 t226, .int .i64 0, .slice none 0 0]) ?_ 1 _ rfl; (with_reducible repeat (first | refine blk_drewN ?_ _ | refine blk_drew ?_ | refine blk_alloc ?_ _)); refine blk_put (cs := #[.int .i64 0, .int .i64 0, .slice none 0 0]) ?_ 0 _ rfl; (with_reducible repeat (first | refine blk_drewN ?_ _ | refine blk_drew ?_ | refine blk_alloc ?_ _)); exact BK231.out) hb); have n4_ := Aside0.mk (below_step (by repeat (first | (with_reducible first | exact HB.out | apply below_alloc | apply pw_below_drewN | apply below_drew1 | refine below_set ?_ GE224.out | refine below_set ?_ GE231.out) | exact HB.out)) hb); clear HO230; clear BK224; clear BK231; clear HB; have HO230 := n0_; have HO234 := n1_; have BK224 := n2_; have BK231 := n3_; have HB := n4_; clear n0_ n1_ n2_ n3_ n4_; (try clear hb); (try clear hb2); (try clear hk); (try clear hi); (try clear ho0); obtain ⟨Ao16, co16, eo16⟩ := Kd.R_slice HO234.out; subst eo16; have hcz17_0 : w15.cell? ⟨gb231, 0, none⟩ = some (.int .i64 t226) := (blk_cell BK231.out 0).trans rfl; have hcz17_1 : w15.cell? ⟨gb231, 1, none⟩ = some (.int .i64 t227) := (blk_cell BK231.out 1).trans rfl; have hcz17_2 : w15.cell? ⟨gb231, 2, none⟩ = some (.slice Ao14 t228.length co14) := (blk_cell BK231.out 2).trans rfl; have hfz17_0 := blk_frozen BK231.out 0; have hfz17_1 := blk_frozen BK231.out 1; have hfz17_2 := blk_frozen BK231.out 2))
   go_loopg [28] k (fun kq v28 w' => ∃ (x28_1 : Int), v28 = .int .i64 x28_1 ∧ Aside0 (bagatellelaw04_ShapeNormals.l0 kq t232 t228 (t228.length : Int) x28_1 t226 t227 t228 = some r) ∧ Aside0 (kq ≤ k) ∧ Aside0 (Kd.R k34 34 w' w.heap.size (fun k_ => some k_ ≠ ((.slice Ao14 t228.length co14) : Value).ownBlock ∧ some k_ ≠ ((.slice Ao14 t228.length co14) : Value).ownBlock) (.slice Ao16 t232.length co16) t232) ∧ Aside0 (Kd.R k34 34 w' w.heap.size (fun k_ => some k_ ≠ ((.slice Ao16 t232.length co16) : Value).ownBlock) (.slice Ao14 t228.length co14) t228) ∧ Aside0 (Kd.R k34 34 w' w.heap.size (fun k_ => some k_ ≠ ((.slice Ao16 t232.length co16) : Value).ownBlock) (.slice Ao14 t228.length co14) t228) ∧ Aside0 (w'.heap[gb224]? = some (.cells #[.int .i64 a0_0, .int .i64 a0_1, .int .i64 a0_2, .int .i64 a0_3] 27 (0, 0))) ∧ Aside0 (w'.heap[gb231]? = some (.cells #[.int .i64 t226, .int .i64 t227, (.slice Ao14 t228.length co14)] 25 (0, 0))) ∧ Aside0 (Below w.heap.size w w'))
   case atStart => exact ⟨(0), (by first | rfl | (simp; done) | (simp [*]; done) | (simp [wrap64]; done) | (congr 2 <;> first | rfl | (unfold wrap64; omega))), H', ⟨Nat.le_refl _⟩, ⟨by (with_reducible repeat (first | apply Kd.R_alloc | apply Kd.R_drewN | apply Kd.R_drew)); exact Kd.R_mono HO234.out (fun _ hk => ⟨hk.2, hk.2⟩)⟩, ⟨by (with_reducible repeat (first | apply Kd.R_alloc | apply Kd.R_drewN | apply Kd.R_drew)); exact Kd.R_mono HO230.out (fun _ hk => hk.2)⟩, ⟨by (with_reducible repeat (first | apply Kd.R_alloc | apply Kd.R_drewN | apply Kd.R_drew)); exact Kd.R_mono HO230.out (fun _ hk => hk.2)⟩, ⟨by (with_reducible repeat (first | refine blk_drewN ?_ _ | refine blk_drew ?_ | refine blk_alloc ?_ _)); exact BK224.out⟩, ⟨by (with_reducible repeat (first | refine blk_drewN ?_ _ | refine blk_drew ?_ | refine blk_alloc ?_ _)); exact BK231.out⟩, ⟨by repeat (first | (with_reducible first | exact HB.out | apply below_alloc | apply pw_below_drewN | apply below_drew1 | refine below_set ?_ GE224.out | refine below_set ?_ GE231.out) | exact HB.out)⟩⟩
   case round =>
    clear H'
    try clear c1
    try clear p2
    try clear c3
    try clear c4
    try clear c6
    try clear c6b0
    try clear c6b1
    try clear c6b2
    try clear p6
    try clear c8
    try clear c11
    try clear c12
    try clear hcz13_0
    try clear hcz13_1
    try clear hcz13_2
    try clear hcz17_0
    try clear hcz17_1
    try clear hcz17_2
    try clear hcz9_0
    try clear hcz9_1
    try clear hcz9_2
    try clear hcz9_3
    try clear hfz13_0
    try clear hfz13_1
    try clear hfz13_2
    try clear hfz17_0
    try clear hfz17_1
    try clear hfz17_2
    try clear hfz9_0
    try clear hfz9_1
    try clear hfz9_2
    try clear hfz9_3
    obtain ⟨x28_1, rfl, HA, HK1, HO_4, HO_26, HO_232002, BK224, BK231, HB⟩ := hrel
    cases gk with
    | zero => exact absurd HA.out (by simp [bagatellelaw04_ShapeNormals.l0])
    | succ k1 =>
     have H := HA.out
     clear HA
     simp only [bagatellelaw04_ShapeNormals.l0] at H
     by_cases c18 : x28_1 < (t228.length : Int)
     ·rw [if_pos c18] at H
      have c18b0 : decide (x28_1 < (t228.length : Int)) = true := decide_eq_true c18
      clear c18
      by_cases c19 : 0 ≤ x28_1
      ·rw [if_pos c19] at H
       have c19b0 : decide (0 ≤ x28_1) = true := decide_eq_true c19
       clear c19
       by_cases c20 : x28_1 < (t228.length : Int)
       ·rw [if_pos c20] at H
        have c20b0 : decide (x28_1 < (t228.length : Int)) = true := decide_eq_true c20
        clear c20
        by_cases c21 : (t228.length : Int) = 0
        ·rw [if_pos c21] at H
         exact absurd H (by simp)
        ·rw [if_neg c21] at H
         have c21b0 : ((t228.length : Int) == 0) = false := beq_eq_false_iff_ne.mpr c21
         have c21b1 : ((t228.length : Int) != 0) = true := bne_iff_ne.mpr c21
         have c21b2 : ¬ (t228 = []) := fun h_ => c21 (by rw [h_]; rfl)
         obtain ⟨ji22, hji22⟩ : ∃ j_ : Int, (Int.tmod (wrap64 (x28_1 + 1)) (t228.length : Int)) = j_ := ⟨_, rfl⟩
         replace H : (if 0 ≤ (ji22) then (if (ji22) < (t228.length : Int) then ((vec_Sub.f k1 ((rd_T34 t228 (ji22)).f0) ((rd_T34 t228 (ji22)).f1) ((rd_T34 t228 x28_1).f0) ((rd_T34 t228 x28_1).f1)).bind fun bt238 => ((vec_Unit.f k1 bt238.2 (wrap64 (-bt238.1))).bind fun bt241 => (if bt241.2.2 = true then (if x28_1 < (t232.length : Int) then (if (!(((rd_T34 t232 x28_1).f0) == bt241.1) || (!(((rd_T34 t232 x28_1).f1) == bt241.2.1))) = true then (none) else (bagatellelaw04_ShapeNormals.l1 k1 t232 t228 (t228.length : Int) x28_1 t228 (t228.length : Int) 0 t226 t227 t228 ((rd_T34 t228 x28_1).f0) ((rd_T34 t228 x28_1).f1) bt241.1 bt241.2.1)) else (none)) else (none)))) else (none)) else (none)) = some r := by first | (rw [hji22] at H; exact H) | (simp only [hji22] at H ⊢; exact H)
         by_cases c23 : 0 ≤ (ji22)
         ·rw [if_pos c23] at H
          have c23b0 : decide (0 ≤ (ji22)) = true := decide_eq_true c23
          clear c23
          by_cases c24 : (ji22) < (t228.length : Int)
          ·rw [if_pos c24] at H
           have c24b0 : decide ((ji22) < (t228.length : Int)) = true := decide_eq_true c24
           clear c24
           replace H := Option.bind_eq_some_iff.mp H
           obtain ⟨⟨t238, t239⟩, A250, H⟩ := H
           replace H : ((vec_Unit.f k1 t239 (wrap64 (-t238))).bind fun bt241 => (if bt241.2.2 = true then (if x28_1 < (t232.length : Int) then (if (!(((rd_T34 t232 x28_1).f0) == bt241.1) || (!(((rd_T34 t232 x28_1).f1) == bt241.2.1))) = true then (none) else (bagatellelaw04_ShapeNormals.l1 k1 t232 t228 (t228.length : Int) x28_1 t228 (t228.length : Int) 0 t226 t227 t228 ((rd_T34 t228 x28_1).f0) ((rd_T34 t228 x28_1).f1) bt241.1 bt241.2.1)) else (none)) else (none))) = some r := H
           have A25 := Aside0.mk A250
           clear A250
           replace H := Option.bind_eq_some_iff.mp H
           obtain ⟨⟨t241, t242, t243⟩, A260, H⟩ := H
           replace H : (if t243 = true then (if x28_1 < (t232.length : Int) then (if (!(((rd_T34 t232 x28_1).f0) == t241) || (!(((rd_T34 t232 x28_1).f1) == t242))) = true then (none) else (bagatellelaw04_ShapeNormals.l1 k1 t232 t228 (t228.length : Int) x28_1 t228 (t228.length : Int) 0 t226 t227 t228 ((rd_T34 t228 x28_1).f0) ((rd_T34 t228 x28_1).f1) t241 t242)) else (none)) else (none)) = some r := H
           have A26 := Aside0.mk A260
           clear A260
           by_cases c27 : t243 = true
           ·subst c27
            have H1 : (if x28_1 < (t232.length : Int) then (if (!(((rd_T34 t232 x28_1).f0) == t241) || (!(((rd_T34 t232 x28_1).f1) == t242))) = true then (none) else (bagatellelaw04_ShapeNormals.l1 k1 t232 t228 (t228.length : Int) x28_1 t228 (t228.length : Int) 0 t226 t227 t228 ((rd_T34 t228 x28_1).f0) ((rd_T34 t228 x28_1).f1) t241 t242)) else (none)) = some r := by rw [if_pos rfl] at H; exact H
            clear H
            have H := H1
            clear H1
            by_cases c28 : x28_1 < (t232.length : Int)
            ·rw [if_pos c28] at H
             have c28b0 : decide (x28_1 < (t232.length : Int)) = true := decide_eq_true c28
             clear c28
             by_cases c29 : (!(((rd_T34 t232 x28_1).f0) == t241) || (!(((rd_T34 t232 x28_1).f1) == t242))) = true
             ·rw [if_pos c29] at H
              exact absurd H (by simp)
             ·rw [if_neg c29] at H
              have c29b0 : (!(((rd_T34 t232 x28_1).f0) == t241) || (!(((rd_T34 t232 x28_1).f1) == t242))) = false := by simpa using c29
              clear c29
              have H' := Aside0.mk H
              clear H
              have p235 : 0 ≤ (x28_1 : Int) := of_decide_eq_true (by first | (with_reducible assumption) | assumption)
              have q235 : x28_1 < (t228.length : Int) := of_decide_eq_true (by first | (with_reducible assumption) | assumption)
              obtain ⟨ad235, e235, hx235_0, hx235_1⟩ := at_T34 (Kd.R_reads' HO_26.out).2.2 x28_1 p235 q235
              cases e235
              replace p235 := eq_true p235
              replace q235 := eq_true q235
              try go_wp2_with (first | ((with_reducible refine gate_dst (N := 6) rfl ?_); refine box_event ?hg (N := 6) ?hd (cs := #[.int .i64 0, .int .i64 0]) (t := 34) ?hr ?_; (case hd => rfl); (case hg => rfl); (case hr => first | (go_simp; done) | (go_simp; rfl)); intro gb236 hg w30 hbox hb; have n0_ := Aside0.mk (Kd.R_below (Kd.R_elderB (by (with_reducible repeat (first | apply Kd.R_alloc | apply Kd.R_drewN | apply Kd.R_drew)); exact HO_4.out) gb236 (Nat.le_of_eq hg.symm)) hb); have n1_ := Aside0.mk (Kd.R_below (Kd.R_elderB (by (with_reducible repeat (first | apply Kd.R_alloc | apply Kd.R_drewN | apply Kd.R_drew)); exact HO_26.out) gb236 (Nat.le_of_eq hg.symm)) hb); have n2_ := Aside0.mk (Kd.R_below (Kd.R_elderB (by (with_reducible repeat (first | apply Kd.R_alloc | apply Kd.R_drewN | apply Kd.R_drew)); exact HO_232002.out) gb236 (Nat.le_of_eq hg.symm)) hb); have n3_ := Aside0.mk (blk_below (g := gb224) (o := .cells #[.int .i64 a0_0, .int .i64 a0_1, .int .i64 a0_2, .int .i64 a0_3] 27 (0, 0)) (by (with_reducible repeat (first | refine blk_drewN ?_ _ | refine blk_drew ?_ | refine blk_alloc ?_ _)); exact BK224.out) hb); have n4_ := Aside0.mk (blk_below (g := gb231) (o := .cells #[.int .i64 t226, .int .i64 t227, .slice (some ad235) t228.length co14] 25 (0, 0)) (by (with_reducible repeat (first | refine blk_drewN ?_ _ | refine blk_drew ?_ | refine blk_alloc ?_ _)); exact BK231.out) hb); have n5_ := Aside0.mk (below_step (by repeat (first | (with_reducible first | exact HB.out | apply below_alloc | apply pw_below_drewN | apply below_drew1 | refine below_set ?_ GE224.out | refine below_set ?_ GE231.out) | exact HB.out)) hb); have n6_ := Aside0.mk (hbox); have n7_ := Aside0.mk ((by rw [hg]; exact (below_size (by repeat (first | (with_reducible first | exact HB.out | apply below_alloc | apply pw_below_drewN | apply below_drew1 | refine below_set ?_ GE224.out | refine below_set ?_ GE231.out) | exact HB.out))) : w.heap.size ≤ gb236)); have n8_ := Aside0.mk ((by rw [hg]; exact (below_size (by repeat (first | (with_reducible first | exact HB.out | apply below_alloc | apply pw_below_drewN | apply below_drew1 | refine below_set ?_ GE224.out | refine below_set ?_ GE231.out) | exact HB.out))) : w.heap.size ≤ gb236)); have n9_ := Aside0.mk ((by rw [hg]; exact Nat.ne_of_lt (blk_lt (g := gb224) (o := .cells #[.int .i64 a0_0, .int .i64 a0_1, .int .i64 a0_2, .int .i64 a0_3] 27 (0, 0)) (by (with_reducible repeat (first | refine blk_drewN ?_ _ | refine blk_drew ?_ | refine blk_alloc ?_ _)); exact BK224.out)) : gb224 ≠ gb236)); have n10_ := Aside0.mk ((by rw [hg]; exact Nat.ne_of_gt (blk_lt (g := gb224) (o := .cells #[.int .i64 a0_0, .int .i64 a0_1, .int .i64 a0_2, .int .i64 a0_3] 27 (0, 0)) (by (with_reducible repeat (first | refine blk_drewN ?_ _ | refine blk_drew ?_ | refine blk_alloc ?_ _)); exact BK224.out)) : gb236 ≠ gb224)); have n11_ := Aside0.mk ((by rw [hg]; exact Nat.ne_of_lt (blk_lt (g := gb231) (o := .cells #[.int .i64 t226, .int .i64 t227, .slice (some ad235) t228.length co14] 25 (0, 0)) (by (with_reducible repeat (first | refine blk_drewN ?_ _ | refine blk_drew ?_ | refine blk_alloc ?_ _)); exact BK231.out)) : gb231 ≠ gb236)); have n12_ := Aside0.mk ((by rw [hg]; exact Nat.ne_of_gt (blk_lt (g := gb231) (o := .cells #[.int .i64 t226, .int .i64 t227, .slice (some ad235) t228.length co14] 25 (0, 0)) (by (with_reducible repeat (first | refine blk_drewN ?_ _ | refine blk_drew ?_ | refine blk_alloc ?_ _)); exact BK231.out)) : gb236 ≠ gb231)); clear HO_4; clear HO_26; clear HO_232002; clear BK224; clear BK231; clear HB; have HO_4 := n0_; have HO_26 := n1_; have HO_232002 := n2_; have BK224 := n3_; have BK231 := n4_; have HB := n5_; have BK236 := n6_; have GW236 := n7_; have GE236 := n8_; have NB224_236 := n9_; have NB236_224 := n10_; have NB231_236 := n11_; have NB236_231 := n12_; clear n0_ n1_ n2_ n3_ n4_ n5_ n6_ n7_ n8_ n9_ n10_ n11_ n12_; clear hb hbox hg; have hnb31 := NB236_224.out; have hnc31 := NB224_236.out; have hnb32 := NB236_231.out; have hnc32 := NB231_236.out; have hcz33_0 : w30.cell? ⟨gb236, 0, none⟩ = some (.int .i64 0) := (blk_cell BK236.out 0).trans rfl; have hcz33_1 : w30.cell? ⟨gb236, 1, none⟩ = some (.int .i64 0) := (blk_cell BK236.out 1).trans rfl; have hfz33_0 := blk_frozen BK236.out 0; have hfz33_1 := blk_frozen BK236.out 1))
              have n0_ : Aside0 (Kd.R k34 34 ((w30.setCell ⟨gb236, 0, none⟩ (.int .i64 ((rd_T34 t228 x28_1).f0))).setCell ⟨gb236, 1, none⟩ (.int .i64 ((rd_T34 t228 x28_1).f1))) w.heap.size (fun k_ => some k_ ≠ (.slice (some ad235) t228.length co14 : Value).ownBlock ∧ some k_ ≠ (.slice (some ad235) t228.length co14 : Value).ownBlock ∧ k_ ≠ gb236) (.slice Ao16 t232.length co16) t232) := ⟨by (with_reducible repeat (first | apply Kd.R_alloc | apply Kd.R_drewN | apply Kd.R_drew)); exact Kd.R_mono (Kd.R_far (p := ⟨gb236, 1, none⟩) (Kd.R_far (p := ⟨gb236, 0, none⟩) (Kd.R_mono HO_4.out (fun k_ hk => (⟨hk, hk.2⟩ : _ ∧ k_ ≠ gb236))) (fun _ hk => hk.2) (.int .i64 ((rd_T34 t228 x28_1).f0))) (fun _ hk => hk.2) (.int .i64 ((rd_T34 t228 x28_1).f1))) (fun _ hk => ⟨hk.1.1.1, ⟨hk.1.1.2, hk.1.2⟩⟩)⟩
              have n1_ : Aside0 (Kd.R k34 34 ((w30.setCell ⟨gb236, 0, none⟩ (.int .i64 ((rd_T34 t228 x28_1).f0))).setCell ⟨gb236, 1, none⟩ (.int .i64 ((rd_T34 t228 x28_1).f1))) w.heap.size (fun k_ => some k_ ≠ (.slice Ao16 t232.length co16 : Value).ownBlock ∧ k_ ≠ gb236) (.slice (some ad235) t228.length co14) t228) := ⟨by (with_reducible repeat (first | apply Kd.R_alloc | apply Kd.R_drewN | apply Kd.R_drew)); exact Kd.R_mono (Kd.R_far (p := ⟨gb236, 1, none⟩) (Kd.R_far (p := ⟨gb236, 0, none⟩) (Kd.R_mono HO_26.out (fun k_ hk => (⟨hk, hk.2⟩ : _ ∧ k_ ≠ gb236))) (fun _ hk => hk.2) (.int .i64 ((rd_T34 t228 x28_1).f0))) (fun _ hk => hk.2) (.int .i64 ((rd_T34 t228 x28_1).f1))) (fun _ hk => ⟨hk.1.1, hk.1.2⟩)⟩
              have n2_ : Aside0 (Kd.R k34 34 ((w30.setCell ⟨gb236, 0, none⟩ (.int .i64 ((rd_T34 t228 x28_1).f0))).setCell ⟨gb236, 1, none⟩ (.int .i64 ((rd_T34 t228 x28_1).f1))) w.heap.size (fun k_ => some k_ ≠ (.slice Ao16 t232.length co16 : Value).ownBlock ∧ k_ ≠ gb236) (.slice (some ad235) t228.length co14) t228) := ⟨by (with_reducible repeat (first | apply Kd.R_alloc | apply Kd.R_drewN | apply Kd.R_drew)); exact Kd.R_mono (Kd.R_far (p := ⟨gb236, 1, none⟩) (Kd.R_far (p := ⟨gb236, 0, none⟩) (Kd.R_mono HO_232002.out (fun k_ hk => (⟨hk, hk.2⟩ : _ ∧ k_ ≠ gb236))) (fun _ hk => hk.2) (.int .i64 ((rd_T34 t228 x28_1).f0))) (fun _ hk => hk.2) (.int .i64 ((rd_T34 t228 x28_1).f1))) (fun _ hk => ⟨hk.1.1, hk.1.2⟩)⟩
              have n3_ : Aside0 (((w30.setCell ⟨gb236, 0, none⟩ (.int .i64 ((rd_T34 t228 x28_1).f0))).setCell ⟨gb236, 1, none⟩ (.int .i64 ((rd_T34 t228 x28_1).f1))).heap[gb224]? = some (.cells #[.int .i64 a0_0, .int .i64 a0_1, .int .i64 a0_2, .int .i64 a0_3] 27 (0, 0))) := ⟨by (with_reducible repeat (first | refine blk_drewN ?_ _ | refine blk_drew ?_ | refine blk_alloc ?_ _)); refine blk_far ?_ NB224_236.out _; (with_reducible repeat (first | refine blk_drewN ?_ _ | refine blk_drew ?_ | refine blk_alloc ?_ _)); refine blk_far ?_ NB224_236.out _; (with_reducible repeat (first | refine blk_drewN ?_ _ | refine blk_drew ?_ | refine blk_alloc ?_ _)); exact BK224.out⟩
              have n4_ : Aside0 (((w30.setCell ⟨gb236, 0, none⟩ (.int .i64 ((rd_T34 t228 x28_1).f0))).setCell ⟨gb236, 1, none⟩ (.int .i64 ((rd_T34 t228 x28_1).f1))).heap[gb231]? = some (.cells #[.int .i64 t226, .int .i64 t227, .slice (some ad235) t228.length co14] 25 (0, 0))) := ⟨by (with_reducible repeat (first | refine blk_drewN ?_ _ | refine blk_drew ?_ | refine blk_alloc ?_ _)); refine blk_far ?_ NB231_236.out _; (with_reducible repeat (first | refine blk_drewN ?_ _ | refine blk_drew ?_ | refine blk_alloc ?_ _)); refine blk_far ?_ NB231_236.out _; (with_reducible repeat (first | refine blk_drewN ?_ _ | refine blk_drew ?_ | refine blk_alloc ?_ _)); exact BK231.out⟩
              have n5_ : Aside0 (((w30.setCell ⟨gb236, 0, none⟩ (.int .i64 ((rd_T34 t228 x28_1).f0))).setCell ⟨gb236, 1, none⟩ (.int .i64 ((rd_T34 t228 x28_1).f1))).heap[gb236]? = some (.cells #[.int .i64 ((rd_T34 t228 x28_1).f0), .int .i64 ((rd_T34 t228 x28_1).f1)] 34 (0, 0))) := ⟨by (with_reducible repeat (first | refine blk_drewN ?_ _ | refine blk_drew ?_ | refine blk_alloc ?_ _)); refine blk_put (cs := #[.int .i64 ((rd_T34 t228 x28_1).f0), .int .i64 0]) ?_ 1 _ rfl; (with_reducible repeat (first | refine blk_drewN ?_ _ | refine blk_drew ?_ | refine blk_alloc ?_ _)); refine blk_put (cs := #[.int .i64 0, .int .i64 0]) ?_ 0 _ rfl; (with_reducible repeat (first | refine blk_drewN ?_ _ | refine blk_drew ?_ | refine blk_alloc ?_ _)); exact BK236.out⟩
              have n6_ : Aside0 (Below w.heap.size w ((w30.setCell ⟨gb236, 0, none⟩ (.int .i64 ((rd_T34 t228 x28_1).f0))).setCell ⟨gb236, 1, none⟩ (.int .i64 ((rd_T34 t228 x28_1).f1)))) := ⟨by repeat (first | (with_reducible first | exact HB.out | apply below_alloc | apply pw_below_drewN | apply below_drew1 | refine below_set ?_ GE224.out | refine below_set ?_ GE231.out | refine below_set ?_ GE236.out) | exact HB.out)⟩
              (try clear HO_4)
              (try clear HO_26)
              (try clear HO_232002)
              (try clear BK224)
              (try clear BK231)
              (try clear BK236)
              (try clear HB)
              generalize ((w30.setCell ⟨gb236, 0, none⟩ (.int .i64 ((rd_T34 t228 x28_1).f0))).setCell ⟨gb236, 1, none⟩ (.int .i64 ((rd_T34 t228 x28_1).f1))) = w34 at n0_ n1_ n2_ n3_ n4_ n5_ n6_ ⊢
              have HO_4 := n0_
              have HO_26 := n1_
              have HO_232002 := n2_
              have BK224 := n3_
              have BK231 := n4_
              have BK236 := n5_
              have HB := n6_
              clear n0_ n1_ n2_ n3_ n4_ n5_ n6_
              have n0_ := Aside0.mk (Kd.R_drew HO_4.out)
              have n1_ := Aside0.mk (Kd.R_drew HO_26.out)
              have n2_ := Aside0.mk (Kd.R_drew HO_232002.out)
              have n3_ := Aside0.mk (blk_drew BK224.out)
              have n4_ := Aside0.mk (blk_drew BK231.out)
              have n5_ := Aside0.mk (blk_drew BK236.out)
              have n6_ := Aside0.mk (below_drew1 HB.out)
              clear HO_4
              clear HO_26
              clear HO_232002
              clear BK224
              clear BK231
              clear BK236
              clear HB
              have HO_4 := n0_
              have HO_26 := n1_
              have HO_232002 := n2_
              have BK224 := n3_
              have BK231 := n4_
              have BK236 := n5_
              have HB := n6_
              clear n0_ n1_ n2_ n3_ n4_ n5_ n6_
              have p237 : 0 ≤ ((ji22) : Int) := of_decide_eq_true (by first | (with_reducible assumption) | assumption)
              have q237 : (ji22) < (t228.length : Int) := of_decide_eq_true (by first | (with_reducible assumption) | assumption)
              obtain ⟨ad237, e237, hx237_0, hx237_1⟩ := at_T34 (Kd.R_reads' HO_232002.out).2.2 (ji22) p237 q237
              obtain rfl : ad235 = ad237 := (by injection e237)
              replace p237 := eq_true p237
              replace q237 := eq_true q237
              refine start_ (n := 14) (S := fun w' => w'.cell? ⟨gb231, 0, none⟩ = some (.int .i64 t226) ∧ w'.cell? ⟨gb231, 1, none⟩ = some (.int .i64 t227) ∧ w'.cell? ⟨gb231, 2, none⟩ = some (.slice (some ad235) t228.length co14) ∧ w'.cell? ⟨gb236, 0, none⟩ = some (.int .i64 ((rd_T34 t228 x28_1).f0)) ∧ w'.cell? ⟨gb236, 1, none⟩ = some (.int .i64 ((rd_T34 t228 x28_1).f1)) ∧ w'.cell? (ad235.add (((ji22)).toNat * 2)) = some (.int .i64 ((rd_T34 t228 (ji22)).f0)) ∧ w'.cell? ⟨(ad235.add (((ji22)).toNat * 2)).block, (ad235.add (((ji22)).toNat * 2)).off + 1, none⟩ = some (.int .i64 ((rd_T34 t228 (ji22)).f1))) (ds := []) #[O4,O4,O4,O4,O4,O4,O4,O4,O4,O4,O4,O4,O4,O4] (by kernel_rfl) rfl rfl ⟨(blk_cell BK231.out 0).trans rfl, (blk_cell BK231.out 1).trans rfl, (blk_cell BK231.out 2).trans rfl, (blk_cell BK236.out 0).trans rfl, (blk_cell BK236.out 1).trans rfl, hx237_0, hx237_1⟩ (fun hHeld => ?_); refine with_tabW bagatellelaw04_ShapeNormals.tab10 bagatellelaw04_ShapeNormals.bits10 (fun HT_ HW_ => ?_)
              generalize w34.drew = w35 at HO_4 HO_26 HO_232002 BK224 BK231 BK236 HB hx237_0 hx237_1 hHeld ⊢
              refine pure_ (i := 0) (N := some 33) (v := ?_) (a' := ?_) #[I4,O4,O4,O4,O4,O4,O4,O4,O4,O4,O4,O4,O4,O4] rfl rfl (any_of HT_.out (by kernel_rfl)) (fun _ _ _ h => h) (Or.inl ⟨by rfl, ?_⟩) ?_ ?_
              rotate_left
              ·intro w'
               go_simp
               with_reducible rfl
              rotate_left
              ·simp only [Act.put, List.setIfInBounds_toArray, List.set_cons_zero, List.set_cons_succ, i64_w, i32_w]
               rfl
              refine pure_ (i := 2) (N := some 35) (v := ?_) (a' := ?_) #[I4,O4,I4,O4,O4,O4,O4,O4,O4,O4,O4,O4,O4,O4] rfl rfl (any_of HT_.out (by kernel_rfl)) (fun _ _ _ h => h) (Or.inl ⟨by rfl, ?_⟩) ?_ ?_
              rotate_left
              ·intro w'
               go_simp
               with_reducible rfl
              rotate_left
              ·simp only [Act.put, List.setIfInBounds_toArray, List.set_cons_zero, List.set_cons_succ, i64_w, i32_w]
               rfl
              refine pure_ (i := 3) (N := some 36) (v := ?_) (a' := ?_) #[I4,O4,I4,I4,O4,O4,O4,O4,O4,O4,O4,O4,O4,O4] rfl rfl (any_of HT_.out (by kernel_rfl)) (fun _ _ _ h => h) (Or.inl ⟨by rfl, ?_⟩) ?_ ?_
              rotate_left
              ·intro w'
               go_simp
               with_reducible rfl
              rotate_left
              ·simp only [Act.put, List.setIfInBounds_toArray, List.set_cons_zero, List.set_cons_succ, i64_w, i32_w]
               rfl
              refine pure_ (i := 4) (N := some 37) (v := ?_) (a' := ?_) #[I4,O4,I4,I4,I4,O4,O4,O4,O4,O4,O4,O4,O4,O4] rfl rfl (any_of HT_.out (by kernel_rfl)) (fun _ _ _ h => h) (Or.inl ⟨by rfl, ?_⟩) ?_ ?_
              rotate_left
              ·intro w'
               go_simp
               with_reducible rfl
              rotate_left
              ·simp only [Act.put, List.setIfInBounds_toArray, List.set_cons_zero, List.set_cons_succ, i64_w, i32_w]
               rfl
              refine take_ (i := 1) (N := some 34) (v := ?_) (a' := ?_) #[I4,I4,I4,I4,I4,O4,O4,O4,O4,O4,O4,O4,O4,O4] rfl rfl (take_ofW HT_.out HW_.out (by kernel_rfl)) (fun _ _ _ h => h) (Or.inl ⟨by rfl, ?_⟩) hHeld ?_ ?_
              rotate_left
              ·rintro w' ⟨s0, s1, s2, s3, s4, s5, s6⟩
               go_simp
               with_reducible rfl
              rotate_left
              ·simp only [Act.put, List.setIfInBounds_toArray, List.set_cons_zero, List.set_cons_succ, i64_w, i32_w]
               rfl
              refine take_ (i := 5) (N := some 38) (v := ?_) (a' := ?_) #[I4,I4,I4,I4,I4,I4,O4,O4,O4,O4,O4,O4,O4,O4] rfl rfl (take_ofW HT_.out HW_.out (by kernel_rfl)) (fun _ _ _ h => h) (Or.inl ⟨by rfl, ?_⟩) hHeld ?_ ?_
              rotate_left
              ·rintro w' ⟨s0, s1, s2, s3, s4, s5, s6⟩
               go_simp
               with_reducible rfl
              rotate_left
              ·simp only [Act.put, List.setIfInBounds_toArray, List.set_cons_zero, List.set_cons_succ, i64_w, i32_w]
               rfl
              refine pure_ (i := 6) (N := some 39) (v := ?_) (a' := ?_) #[I4,I4,I4,I4,I4,I4,I4,O4,O4,O4,O4,O4,O4,O4] rfl rfl (any_of HT_.out (by kernel_rfl)) (fun _ _ _ h => h) (Or.inl ⟨by rfl, ?_⟩) ?_ ?_
              rotate_left
              ·intro w'
               go_simp
               with_reducible rfl
              rotate_left
              ·simp only [Act.put, List.setIfInBounds_toArray, List.set_cons_zero, List.set_cons_succ, i64_w, i32_w]
               rfl
              refine pure_ (i := 7) (N := some 40) (v := ?_) (a' := ?_) #[I4,I4,I4,I4,I4,I4,I4,I4,O4,O4,O4,O4,O4,O4] rfl rfl (any_of HT_.out (by kernel_rfl)) (fun _ _ _ h => h) (Or.inl ⟨by rfl, ?_⟩) ?_ ?_
              rotate_left
              ·intro w'
               go_simp
               with_reducible rfl
              rotate_left
              ·simp only [Act.put, List.setIfInBounds_toArray, List.set_cons_zero, List.set_cons_succ, i64_w, i32_w]
               rfl
              refine pure_ (i := 8) (N := some 41) (v := ?_) (a' := ?_) #[I4,I4,I4,I4,I4,I4,I4,I4,I4,O4,O4,O4,O4,O4] rfl rfl (any_of HT_.out (by kernel_rfl)) (fun _ _ _ h => h) (Or.inl ⟨by rfl, ?_⟩) ?_ ?_
              rotate_left
              ·intro w'
               go_simp
               with_reducible rfl
              rotate_left
              ·simp only [Act.put, List.setIfInBounds_toArray, List.set_cons_zero, List.set_cons_succ, i64_w, i32_w]
               rfl
              refine take_ (i := 9) (N := some 42) (v := ?_) (a' := ?_) #[I4,I4,I4,I4,I4,I4,I4,I4,I4,I4,O4,O4,O4,O4] rfl rfl (take_ofW HT_.out HW_.out (by kernel_rfl)) (fun _ _ _ h => h) (Or.inl ⟨by rfl, ?_⟩) hHeld ?_ ?_
              rotate_left
              ·rintro w' ⟨s0, s1, s2, s3, s4, s5, s6⟩
               go_simp
               with_reducible rfl
              rotate_left
              ·simp only [Act.put, List.setIfInBounds_toArray, List.set_cons_zero, List.set_cons_succ, i64_w, i32_w]
               rfl
              refine take_ (i := 10) (N := some 43) (v := ?_) (a' := ?_) #[I4,I4,I4,I4,I4,I4,I4,I4,I4,I4,I4,O4,O4,O4] rfl rfl (take_ofW HT_.out HW_.out (by kernel_rfl)) (fun _ _ _ h => h) (Or.inl ⟨by rfl, ?_⟩) hHeld ?_ ?_
              rotate_left
              ·rintro w' ⟨s0, s1, s2, s3, s4, s5, s6⟩
               go_simp
               with_reducible rfl
              rotate_left
              ·simp only [Act.put, List.setIfInBounds_toArray, List.set_cons_zero, List.set_cons_succ, i64_w, i32_w]
               rfl
              refine join_ (σ := Nat) 1 #[I4,I4,I4,I4,I4,I4,I4,I4,I4,I4,I4,I4,I4,O4] (fun s_ => [(44, .agg #[.int .i64 t238, .int .i64 t239]), (7, .pointer (some ⟨s_, 0, none⟩))]) (fun s_ w' => (w'.cell? ⟨gb231, 0, none⟩ = some (.int .i64 t226) ∧ w'.cell? ⟨gb231, 1, none⟩ = some (.int .i64 t227) ∧ w'.cell? ⟨gb231, 2, none⟩ = some (.slice (some ad235) t228.length co14) ∧ w'.cell? ⟨gb236, 0, none⟩ = some (.int .i64 ((rd_T34 t228 x28_1).f0)) ∧ w'.cell? ⟨gb236, 1, none⟩ = some (.int .i64 ((rd_T34 t228 x28_1).f1)) ∧ w'.cell? (ad235.add (((ji22)).toNat * 2)) = some (.int .i64 ((rd_T34 t228 (ji22)).f0)) ∧ w'.cell? ⟨(ad235.add (((ji22)).toNat * 2)).block, (ad235.add (((ji22)).toNat * 2)).off + 1, none⟩ = some (.int .i64 ((rd_T34 t228 (ji22)).f1))) ∧ (Kd.R k34 34 w' w.heap.size (fun k_ => some k_ ≠ (.slice Ao16 t232.length co16 : Value).ownBlock ∧ k_ ≠ gb236 ∧ k_ ≠ s_) (.slice (some ad235) t228.length co14) t228) ∧ (Kd.R k34 34 w' w.heap.size (fun k_ => some k_ ≠ (.slice Ao16 t232.length co16 : Value).ownBlock ∧ k_ ≠ gb236 ∧ k_ ≠ s_) (.slice (some ad235) t228.length co14) t228) ∧ (Kd.R k34 34 w' w.heap.size (fun k_ => some k_ ≠ (.slice (some ad235) t228.length co14 : Value).ownBlock ∧ some k_ ≠ (.slice (some ad235) t228.length co14 : Value).ownBlock ∧ k_ ≠ gb236 ∧ k_ ≠ s_) (.slice Ao16 t232.length co16) t232) ∧ (w'.heap[gb224]? = some (.cells #[.int .i64 a0_0, .int .i64 a0_1, .int .i64 a0_2, .int .i64 a0_3] 27 (0, 0))) ∧ (w'.heap[gb231]? = some (.cells #[.int .i64 t226, .int .i64 t227, .slice (some ad235) t228.length co14] 25 (0, 0))) ∧ (w'.heap[gb236]? = some (.cells #[.int .i64 ((rd_T34 t228 x28_1).f0), .int .i64 ((rd_T34 t228 x28_1).f1)] 34 (0, 0))) ∧ (w'.heap[s_]? = some (.cells #[.int .i64 0, .int .i64 0] 34 (0, 0))) ∧ (w.heap.size ≤ s_) ∧ (w.heap.size ≤ s_) ∧ (gb224 ≠ s_) ∧ (s_ ≠ gb224) ∧ (gb231 ≠ s_) ∧ (s_ ≠ gb231) ∧ (gb236 ≠ s_) ∧ (s_ ≠ gb236) ∧ (Below w.heap.size w w')) ?_ ?_
              rotate_left
              ·intro hCont
               refine two_ (i := 11) (j := 12) (Ni := some 44) (Nj := some 7) #[I4,I4,I4,I4,I4,I4,I4,I4,I4,I4,I4,I4,O4,O4] #[I4,I4,I4,I4,I4,I4,I4,I4,I4,I4,I4,O4,I4,O4] rfl rfl rfl rfl (two_of HT_.out (by kernel_rfl)) (by decide) (by decide) (fun K hK => ?_) (fun K hK => ?_)
               ·skip
                refine goes_ Try.func13 (by kernel_rfl) rfl #[.agg #[.int .i64 ((rd_T34 t228 (ji22)).f0), .int .i64 ((rd_T34 t228 (ji22)).f1)], .agg #[.int .i64 ((rd_T34 t228 x28_1).f0), .int .i64 ((rd_T34 t228 x28_1).f1)]] (by rfl) rfl rfl (by (try simp only [List.map_toArray, List.map_cons, List.map_nil]); first | done | (simp only [hji22]; rfl) | rfl | (simp only [List.length_drop, List.length_take]; rfl)) ?_
                with_reducible refine (vec_Sub.calls k1 ((rd_T34 t228 (ji22)).f0) ((rd_T34 t228 (ji22)).f1) ((rd_T34 t228 x28_1).f0) ((rd_T34 t228 x28_1).f1) t238 t239 _ A25.out).mono ?_
                rintro e w36 ⟨rfl, hb⟩
                have HS5_ := (hb.cell (World.block_lt_of_cell? _ _ (hHeld.2.2.2.2.2.1))).trans (hHeld.2.2.2.2.2.1)
                have HS6_ := (hb.cell (World.block_lt_of_cell? _ _ (hHeld.2.2.2.2.2.2))).trans (hHeld.2.2.2.2.2.2)
                refine ⟨_, rfl, ?_⟩
                have n0_ := Aside0.mk (Kd.R_below (by (with_reducible repeat (first | apply Kd.R_alloc | apply Kd.R_drewN | apply Kd.R_drew)); exact HO_4.out) hb)
                have n1_ := Aside0.mk (Kd.R_below (by (with_reducible repeat (first | apply Kd.R_alloc | apply Kd.R_drewN | apply Kd.R_drew)); exact HO_26.out) hb)
                have n2_ := Aside0.mk (Kd.R_below (by (with_reducible repeat (first | apply Kd.R_alloc | apply Kd.R_drewN | apply Kd.R_drew)); exact HO_232002.out) hb)
                have n3_ := Aside0.mk (blk_below (g := gb224) (o := .cells #[.int .i64 a0_0, .int .i64 a0_1, .int .i64 a0_2, .int .i64 a0_3] 27 (0, 0)) (by (with_reducible repeat (first | refine blk_drewN ?_ _ | refine blk_drew ?_ | refine blk_alloc ?_ _)); exact BK224.out) hb)
                have n4_ := Aside0.mk (blk_below (g := gb231) (o := .cells #[.int .i64 t226, .int .i64 t227, .slice (some ad235) t228.length co14] 25 (0, 0)) (by (with_reducible repeat (first | refine blk_drewN ?_ _ | refine blk_drew ?_ | refine blk_alloc ?_ _)); exact BK231.out) hb)
                have n5_ := Aside0.mk (blk_below (g := gb236) (o := .cells #[.int .i64 ((rd_T34 t228 x28_1).f0), .int .i64 ((rd_T34 t228 x28_1).f1)] 34 (0, 0)) (by (with_reducible repeat (first | refine blk_drewN ?_ _ | refine blk_drew ?_ | refine blk_alloc ?_ _)); exact BK236.out) hb)
                have n6_ := Aside0.mk (below_step (by repeat (first | (with_reducible first | exact HB.out | apply below_alloc | apply pw_below_drewN | apply below_drew1 | refine below_set ?_ GE224.out | refine below_set ?_ GE231.out | refine below_set ?_ GE236.out) | exact HB.out)) hb)
                clear HO_4
                clear HO_26
                clear HO_232002
                clear BK224
                clear BK231
                clear BK236
                clear HB
                have HO_4 := n0_
                have HO_26 := n1_
                have HO_232002 := n2_
                have BK224 := n3_
                have BK231 := n4_
                have BK236 := n5_
                have HB := n6_
                clear n0_ n1_ n2_ n3_ n4_ n5_ n6_
                (try clear hb)
                (try clear hb2)
                (try clear hk)
                (try clear hi)
                refine hK.out _ _ ⟨(blk_cell BK231.out 0).trans rfl, (blk_cell BK231.out 1).trans rfl, (blk_cell BK231.out 2).trans rfl, (blk_cell BK236.out 0).trans rfl, (blk_cell BK236.out 1).trans rfl, HS5_, HS6_⟩ (fun hHeld => ?_)
                clear hK K
                refine norm_ (a' := ?_) ?_ ?_
                rotate_left
                ·show Act.put _ (some 44) _ = _
                 simp only [Act.put, List.setIfInBounds_toArray, List.set_cons_zero, List.set_cons_succ, i64_w, i32_w]
                 rfl
                refine one_ (i := 12) (N := some 7) #[I4,I4,I4,I4,I4,I4,I4,I4,I4,I4,I4,I4,I4,O4] rfl rfl (one_of HT_.out (by kernel_rfl)) (by decide) (fun K hK => ?_)
                refine box_step ?hg (N := 7) ?hd (cs := #[.int .i64 0, .int .i64 0]) (t := 34) ?hr ?_; (case hd => rfl); (case hg => rfl); (case hr => first | (go_simp; done) | (go_simp; rfl))
                intro gb240 hg w37 hbox hb
                have HS5_ := (hb.cell (World.block_lt_of_cell? _ _ (hHeld.2.2.2.2.2.1))).trans (hHeld.2.2.2.2.2.1)
                have HS6_ := (hb.cell (World.block_lt_of_cell? _ _ (hHeld.2.2.2.2.2.2))).trans (hHeld.2.2.2.2.2.2)
                have n0_ := Aside0.mk (Kd.R_below (Kd.R_elderB (by (with_reducible repeat (first | apply Kd.R_alloc | apply Kd.R_drewN | apply Kd.R_drew)); exact HO_4.out) gb240 (Nat.le_of_eq hg.symm)) hb)
                have n1_ := Aside0.mk (Kd.R_below (Kd.R_elderB (by (with_reducible repeat (first | apply Kd.R_alloc | apply Kd.R_drewN | apply Kd.R_drew)); exact HO_26.out) gb240 (Nat.le_of_eq hg.symm)) hb)
                have n2_ := Aside0.mk (Kd.R_below (Kd.R_elderB (by (with_reducible repeat (first | apply Kd.R_alloc | apply Kd.R_drewN | apply Kd.R_drew)); exact HO_232002.out) gb240 (Nat.le_of_eq hg.symm)) hb)
                have n3_ := Aside0.mk (blk_below (g := gb224) (o := .cells #[.int .i64 a0_0, .int .i64 a0_1, .int .i64 a0_2, .int .i64 a0_3] 27 (0, 0)) (by (with_reducible repeat (first | refine blk_drewN ?_ _ | refine blk_drew ?_ | refine blk_alloc ?_ _)); exact BK224.out) hb)
                have n4_ := Aside0.mk (blk_below (g := gb231) (o := .cells #[.int .i64 t226, .int .i64 t227, .slice (some ad235) t228.length co14] 25 (0, 0)) (by (with_reducible repeat (first | refine blk_drewN ?_ _ | refine blk_drew ?_ | refine blk_alloc ?_ _)); exact BK231.out) hb)
                have n5_ := Aside0.mk (blk_below (g := gb236) (o := .cells #[.int .i64 ((rd_T34 t228 x28_1).f0), .int .i64 ((rd_T34 t228 x28_1).f1)] 34 (0, 0)) (by (with_reducible repeat (first | refine blk_drewN ?_ _ | refine blk_drew ?_ | refine blk_alloc ?_ _)); exact BK236.out) hb)
                have n6_ := Aside0.mk (below_step (by repeat (first | (with_reducible first | exact HB.out | apply below_alloc | apply pw_below_drewN | apply below_drew1 | refine below_set ?_ GE224.out | refine below_set ?_ GE231.out | refine below_set ?_ GE236.out) | exact HB.out)) hb)
                have n7_ := Aside0.mk (hbox)
                have n8_ := Aside0.mk ((by rw [hg]; exact (below_size (by repeat (first | (with_reducible first | exact HB.out | apply below_alloc | apply pw_below_drewN | apply below_drew1 | refine below_set ?_ GE224.out | refine below_set ?_ GE231.out | refine below_set ?_ GE236.out) | exact HB.out))) : w.heap.size ≤ gb240))
                have n9_ := Aside0.mk ((by rw [hg]; exact (below_size (by repeat (first | (with_reducible first | exact HB.out | apply below_alloc | apply pw_below_drewN | apply below_drew1 | refine below_set ?_ GE224.out | refine below_set ?_ GE231.out | refine below_set ?_ GE236.out) | exact HB.out))) : w.heap.size ≤ gb240))
                have n10_ := Aside0.mk ((by rw [hg]; exact Nat.ne_of_lt (blk_lt (g := gb224) (o := .cells #[.int .i64 a0_0, .int .i64 a0_1, .int .i64 a0_2, .int .i64 a0_3] 27 (0, 0)) (by (with_reducible repeat (first | refine blk_drewN ?_ _ | refine blk_drew ?_ | refine blk_alloc ?_ _)); exact BK224.out)) : gb224 ≠ gb240))
                have n11_ := Aside0.mk ((by rw [hg]; exact Nat.ne_of_gt (blk_lt (g := gb224) (o := .cells #[.int .i64 a0_0, .int .i64 a0_1, .int .i64 a0_2, .int .i64 a0_3] 27 (0, 0)) (by (with_reducible repeat (first | refine blk_drewN ?_ _ | refine blk_drew ?_ | refine blk_alloc ?_ _)); exact BK224.out)) : gb240 ≠ gb224))
                have n12_ := Aside0.mk ((by rw [hg]; exact Nat.ne_of_lt (blk_lt (g := gb231) (o := .cells #[.int .i64 t226, .int .i64 t227, .slice (some ad235) t228.length co14] 25 (0, 0)) (by (with_reducible repeat (first | refine blk_drewN ?_ _ | refine blk_drew ?_ | refine blk_alloc ?_ _)); exact BK231.out)) : gb231 ≠ gb240))
                have n13_ := Aside0.mk ((by rw [hg]; exact Nat.ne_of_gt (blk_lt (g := gb231) (o := .cells #[.int .i64 t226, .int .i64 t227, .slice (some ad235) t228.length co14] 25 (0, 0)) (by (with_reducible repeat (first | refine blk_drewN ?_ _ | refine blk_drew ?_ | refine blk_alloc ?_ _)); exact BK231.out)) : gb240 ≠ gb231))
                have n14_ := Aside0.mk ((by rw [hg]; exact Nat.ne_of_lt (blk_lt (g := gb236) (o := .cells #[.int .i64 ((rd_T34 t228 x28_1).f0), .int .i64 ((rd_T34 t228 x28_1).f1)] 34 (0, 0)) (by (with_reducible repeat (first | refine blk_drewN ?_ _ | refine blk_drew ?_ | refine blk_alloc ?_ _)); exact BK236.out)) : gb236 ≠ gb240))
                have n15_ := Aside0.mk ((by rw [hg]; exact Nat.ne_of_gt (blk_lt (g := gb236) (o := .cells #[.int .i64 ((rd_T34 t228 x28_1).f0), .int .i64 ((rd_T34 t228 x28_1).f1)] 34 (0, 0)) (by (with_reducible repeat (first | refine blk_drewN ?_ _ | refine blk_drew ?_ | refine blk_alloc ?_ _)); exact BK236.out)) : gb240 ≠ gb236))
                clear HO_4
                clear HO_26
                clear HO_232002
                clear BK224
                clear BK231
                clear BK236
                clear HB
                have HO_4 := n0_
                have HO_26 := n1_
                have HO_232002 := n2_
                have BK224 := n3_
                have BK231 := n4_
                have BK236 := n5_
                have HB := n6_
                have BK240 := n7_
                have GW240 := n8_
                have GE240 := n9_
                have NB224_240 := n10_
                have NB240_224 := n11_
                have NB231_240 := n12_
                have NB240_231 := n13_
                have NB236_240 := n14_
                have NB240_236 := n15_
                clear n0_ n1_ n2_ n3_ n4_ n5_ n6_ n7_ n8_ n9_ n10_ n11_ n12_ n13_ n14_ n15_
                clear hb hbox hg
                refine hK.out _ _ ⟨(blk_cell BK231.out 0).trans rfl, (blk_cell BK231.out 1).trans rfl, (blk_cell BK231.out 2).trans rfl, (blk_cell BK236.out 0).trans rfl, (blk_cell BK236.out 1).trans rfl, HS5_, HS6_⟩ (fun hHeld => ?_)
                clear hK K
                refine norm_ (a' := ?_) ?_ ?_
                rotate_left
                ·show Act.put _ (some 7) _ = _
                 simp only [Act.put, List.setIfInBounds_toArray, List.set_cons_zero, List.set_cons_succ, i64_w, i32_w]
                 rfl
                exact norm_ (by simp only [putAll, Act.put, List.setIfInBounds_toArray, List.set_cons_zero, List.set_cons_succ]) (hCont (gb240) _ ⟨hHeld, (by (with_reducible repeat (first | apply Kd.R_alloc | apply Kd.R_drewN | apply Kd.R_drew)); exact Kd.R_mono HO_232002.out (fun _ hk => ⟨hk.1.1, ⟨hk.1.2, hk.2⟩⟩)), (by (with_reducible repeat (first | apply Kd.R_alloc | apply Kd.R_drewN | apply Kd.R_drew)); exact Kd.R_mono HO_26.out (fun _ hk => ⟨hk.1.1, ⟨hk.1.2, hk.2⟩⟩)), (by (with_reducible repeat (first | apply Kd.R_alloc | apply Kd.R_drewN | apply Kd.R_drew)); exact Kd.R_mono HO_4.out (fun _ hk => ⟨hk.1.2.1, ⟨hk.1.1, ⟨hk.1.2.2, hk.2⟩⟩⟩)), (by (with_reducible repeat (first | refine blk_drewN ?_ _ | refine blk_drew ?_ | refine blk_alloc ?_ _)); exact BK224.out), (by (with_reducible repeat (first | refine blk_drewN ?_ _ | refine blk_drew ?_ | refine blk_alloc ?_ _)); exact BK231.out), (by (with_reducible repeat (first | refine blk_drewN ?_ _ | refine blk_drew ?_ | refine blk_alloc ?_ _)); exact BK236.out), (by (with_reducible repeat (first | refine blk_drewN ?_ _ | refine blk_drew ?_ | refine blk_alloc ?_ _)); exact BK240.out), GW240.out, GE240.out, NB224_240.out, NB240_224.out, NB231_240.out, NB240_231.out, NB236_240.out, NB240_236.out, (by repeat (first | (with_reducible first | exact HB.out | apply below_alloc | apply pw_below_drewN | apply below_drew1 | refine below_set ?_ GE224.out | refine below_set ?_ GE231.out | refine below_set ?_ GE236.out | refine below_set ?_ GE240.out) | exact HB.out))⟩)
               ·skip
                refine box_step ?hg (N := 7) ?hd (cs := #[.int .i64 0, .int .i64 0]) (t := 34) ?hr ?_; (case hd => rfl); (case hg => rfl); (case hr => first | (go_simp; done) | (go_simp; rfl))
                intro gb240 hg w36 hbox hb
                have HS5_ := (hb.cell (World.block_lt_of_cell? _ _ (hHeld.2.2.2.2.2.1))).trans (hHeld.2.2.2.2.2.1)
                have HS6_ := (hb.cell (World.block_lt_of_cell? _ _ (hHeld.2.2.2.2.2.2))).trans (hHeld.2.2.2.2.2.2)
                have n0_ := Aside0.mk (Kd.R_below (Kd.R_elderB (by (with_reducible repeat (first | apply Kd.R_alloc | apply Kd.R_drewN | apply Kd.R_drew)); exact HO_4.out) gb240 (Nat.le_of_eq hg.symm)) hb)
                have n1_ := Aside0.mk (Kd.R_below (Kd.R_elderB (by (with_reducible repeat (first | apply Kd.R_alloc | apply Kd.R_drewN | apply Kd.R_drew)); exact HO_26.out) gb240 (Nat.le_of_eq hg.symm)) hb)
                have n2_ := Aside0.mk (Kd.R_below (Kd.R_elderB (by (with_reducible repeat (first | apply Kd.R_alloc | apply Kd.R_drewN | apply Kd.R_drew)); exact HO_232002.out) gb240 (Nat.le_of_eq hg.symm)) hb)
                have n3_ := Aside0.mk (blk_below (g := gb224) (o := .cells #[.int .i64 a0_0, .int .i64 a0_1, .int .i64 a0_2, .int .i64 a0_3] 27 (0, 0)) (by (with_reducible repeat (first | refine blk_drewN ?_ _ | refine blk_drew ?_ | refine blk_alloc ?_ _)); exact BK224.out) hb)
                have n4_ := Aside0.mk (blk_below (g := gb231) (o := .cells #[.int .i64 t226, .int .i64 t227, .slice (some ad235) t228.length co14] 25 (0, 0)) (by (with_reducible repeat (first | refine blk_drewN ?_ _ | refine blk_drew ?_ | refine blk_alloc ?_ _)); exact BK231.out) hb)
                have n5_ := Aside0.mk (blk_below (g := gb236) (o := .cells #[.int .i64 ((rd_T34 t228 x28_1).f0), .int .i64 ((rd_T34 t228 x28_1).f1)] 34 (0, 0)) (by (with_reducible repeat (first | refine blk_drewN ?_ _ | refine blk_drew ?_ | refine blk_alloc ?_ _)); exact BK236.out) hb)
                have n6_ := Aside0.mk (below_step (by repeat (first | (with_reducible first | exact HB.out | apply below_alloc | apply pw_below_drewN | apply below_drew1 | refine below_set ?_ GE224.out | refine below_set ?_ GE231.out | refine below_set ?_ GE236.out) | exact HB.out)) hb)
                have n7_ := Aside0.mk (hbox)
                have n8_ := Aside0.mk ((by rw [hg]; exact (below_size (by repeat (first | (with_reducible first | exact HB.out | apply below_alloc | apply pw_below_drewN | apply below_drew1 | refine below_set ?_ GE224.out | refine below_set ?_ GE231.out | refine below_set ?_ GE236.out) | exact HB.out))) : w.heap.size ≤ gb240))
                have n9_ := Aside0.mk ((by rw [hg]; exact (below_size (by repeat (first | (with_reducible first | exact HB.out | apply below_alloc | apply pw_below_drewN | apply below_drew1 | refine below_set ?_ GE224.out | refine below_set ?_ GE231.out | refine below_set ?_ GE236.out) | exact HB.out))) : w.heap.size ≤ gb240))
                have n10_ := Aside0.mk ((by rw [hg]; exact Nat.ne_of_lt (blk_lt (g := gb224) (o := .cells #[.int .i64 a0_0, .int .i64 a0_1, .int .i64 a0_2, .int .i64 a0_3] 27 (0, 0)) (by (with_reducible repeat (first | refine blk_drewN ?_ _ | refine blk_drew ?_ | refine blk_alloc ?_ _)); exact BK224.out)) : gb224 ≠ gb240))
                have n11_ := Aside0.mk ((by rw [hg]; exact Nat.ne_of_gt (blk_lt (g := gb224) (o := .cells #[.int .i64 a0_0, .int .i64 a0_1, .int .i64 a0_2, .int .i64 a0_3] 27 (0, 0)) (by (with_reducible repeat (first | refine blk_drewN ?_ _ | refine blk_drew ?_ | refine blk_alloc ?_ _)); exact BK224.out)) : gb240 ≠ gb224))
                have n12_ := Aside0.mk ((by rw [hg]; exact Nat.ne_of_lt (blk_lt (g := gb231) (o := .cells #[.int .i64 t226, .int .i64 t227, .slice (some ad235) t228.length co14] 25 (0, 0)) (by (with_reducible repeat (first | refine blk_drewN ?_ _ | refine blk_drew ?_ | refine blk_alloc ?_ _)); exact BK231.out)) : gb231 ≠ gb240))
                have n13_ := Aside0.mk ((by rw [hg]; exact Nat.ne_of_gt (blk_lt (g := gb231) (o := .cells #[.int .i64 t226, .int .i64 t227, .slice (some ad235) t228.length co14] 25 (0, 0)) (by (with_reducible repeat (first | refine blk_drewN ?_ _ | refine blk_drew ?_ | refine blk_alloc ?_ _)); exact BK231.out)) : gb240 ≠ gb231))
                have n14_ := Aside0.mk ((by rw [hg]; exact Nat.ne_of_lt (blk_lt (g := gb236) (o := .cells #[.int .i64 ((rd_T34 t228 x28_1).f0), .int .i64 ((rd_T34 t228 x28_1).f1)] 34 (0, 0)) (by (with_reducible repeat (first | refine blk_drewN ?_ _ | refine blk_drew ?_ | refine blk_alloc ?_ _)); exact BK236.out)) : gb236 ≠ gb240))
                have n15_ := Aside0.mk ((by rw [hg]; exact Nat.ne_of_gt (blk_lt (g := gb236) (o := .cells #[.int .i64 ((rd_T34 t228 x28_1).f0), .int .i64 ((rd_T34 t228 x28_1).f1)] 34 (0, 0)) (by (with_reducible repeat (first | refine blk_drewN ?_ _ | refine blk_drew ?_ | refine blk_alloc ?_ _)); exact BK236.out)) : gb240 ≠ gb236))
                clear HO_4
                clear HO_26
                clear HO_232002
                clear BK224
                clear BK231
                clear BK236
                clear HB
                have HO_4 := n0_
                have HO_26 := n1_
                have HO_232002 := n2_
                have BK224 := n3_
                have BK231 := n4_
                have BK236 := n5_
                have HB := n6_
                have BK240 := n7_
                have GW240 := n8_
                have GE240 := n9_
                have NB224_240 := n10_
                have NB240_224 := n11_
                have NB231_240 := n12_
                have NB240_231 := n13_
                have NB236_240 := n14_
                have NB240_236 := n15_
                clear n0_ n1_ n2_ n3_ n4_ n5_ n6_ n7_ n8_ n9_ n10_ n11_ n12_ n13_ n14_ n15_
                clear hb hbox hg
                refine hK.out _ _ ⟨(blk_cell BK231.out 0).trans rfl, (blk_cell BK231.out 1).trans rfl, (blk_cell BK231.out 2).trans rfl, (blk_cell BK236.out 0).trans rfl, (blk_cell BK236.out 1).trans rfl, HS5_, HS6_⟩ (fun hHeld => ?_)
                clear hK K
                refine norm_ (a' := ?_) ?_ ?_
                rotate_left
                ·show Act.put _ (some 7) _ = _
                 simp only [Act.put, List.setIfInBounds_toArray, List.set_cons_zero, List.set_cons_succ, i64_w, i32_w]
                 rfl
                refine one_ (i := 11) (N := some 44) #[I4,I4,I4,I4,I4,I4,I4,I4,I4,I4,I4,I4,I4,O4] rfl rfl (one_of HT_.out (by kernel_rfl)) (by decide) (fun K hK => ?_)
                refine goes_ Try.func13 (by kernel_rfl) rfl #[.agg #[.int .i64 ((rd_T34 t228 (ji22)).f0), .int .i64 ((rd_T34 t228 (ji22)).f1)], .agg #[.int .i64 ((rd_T34 t228 x28_1).f0), .int .i64 ((rd_T34 t228 x28_1).f1)]] (by rfl) rfl rfl (by (try simp only [List.map_toArray, List.map_cons, List.map_nil]); first | done | (simp only [hji22]; rfl) | rfl | (simp only [List.length_drop, List.length_take]; rfl)) ?_
                with_reducible refine (vec_Sub.calls k1 ((rd_T34 t228 (ji22)).f0) ((rd_T34 t228 (ji22)).f1) ((rd_T34 t228 x28_1).f0) ((rd_T34 t228 x28_1).f1) t238 t239 _ A25.out).mono ?_
                rintro e w37 ⟨rfl, hb⟩
                have HS5_ := (hb.cell (World.block_lt_of_cell? _ _ (hHeld.2.2.2.2.2.1))).trans (hHeld.2.2.2.2.2.1)
                have HS6_ := (hb.cell (World.block_lt_of_cell? _ _ (hHeld.2.2.2.2.2.2))).trans (hHeld.2.2.2.2.2.2)
                refine ⟨_, rfl, ?_⟩
                have n0_ := Aside0.mk (Kd.R_below (by (with_reducible repeat (first | apply Kd.R_alloc | apply Kd.R_drewN | apply Kd.R_drew)); exact HO_4.out) hb)
                have n1_ := Aside0.mk (Kd.R_below (by (with_reducible repeat (first | apply Kd.R_alloc | apply Kd.R_drewN | apply Kd.R_drew)); exact HO_26.out) hb)
                have n2_ := Aside0.mk (Kd.R_below (by (with_reducible repeat (first | apply Kd.R_alloc | apply Kd.R_drewN | apply Kd.R_drew)); exact HO_232002.out) hb)
                have n3_ := Aside0.mk (blk_below (g := gb224) (o := .cells #[.int .i64 a0_0, .int .i64 a0_1, .int .i64 a0_2, .int .i64 a0_3] 27 (0, 0)) (by (with_reducible repeat (first | refine blk_drewN ?_ _ | refine blk_drew ?_ | refine blk_alloc ?_ _)); exact BK224.out) hb)
                have n4_ := Aside0.mk (blk_below (g := gb231) (o := .cells #[.int .i64 t226, .int .i64 t227, .slice (some ad235) t228.length co14] 25 (0, 0)) (by (with_reducible repeat (first | refine blk_drewN ?_ _ | refine blk_drew ?_ | refine blk_alloc ?_ _)); exact BK231.out) hb)
                have n5_ := Aside0.mk (blk_below (g := gb236) (o := .cells #[.int .i64 ((rd_T34 t228 x28_1).f0), .int .i64 ((rd_T34 t228 x28_1).f1)] 34 (0, 0)) (by (with_reducible repeat (first | refine blk_drewN ?_ _ | refine blk_drew ?_ | refine blk_alloc ?_ _)); exact BK236.out) hb)
                have n6_ := Aside0.mk (blk_below (g := gb240) (o := .cells #[.int .i64 0, .int .i64 0] 34 (0, 0)) (by (with_reducible repeat (first | refine blk_drewN ?_ _ | refine blk_drew ?_ | refine blk_alloc ?_ _)); exact BK240.out) hb)
                have n7_ := Aside0.mk (below_step (by repeat (first | (with_reducible first | exact HB.out | apply below_alloc | apply pw_below_drewN | apply below_drew1 | refine below_set ?_ GE224.out | refine below_set ?_ GE231.out | refine below_set ?_ GE236.out | refine below_set ?_ GE240.out) | exact HB.out)) hb)
                clear HO_4
                clear HO_26
                clear HO_232002
                clear BK224
                clear BK231
                clear BK236
                clear BK240
                clear HB
                have HO_4 := n0_
                have HO_26 := n1_
                have HO_232002 := n2_
                have BK224 := n3_
                have BK231 := n4_
                have BK236 := n5_
                have BK240 := n6_
                have HB := n7_
                clear n0_ n1_ n2_ n3_ n4_ n5_ n6_ n7_
                (try clear hb)
                (try clear hb2)
                (try clear hk)
                (try clear hi)
                refine hK.out _ _ ⟨(blk_cell BK231.out 0).trans rfl, (blk_cell BK231.out 1).trans rfl, (blk_cell BK231.out 2).trans rfl, (blk_cell BK236.out 0).trans rfl, (blk_cell BK236.out 1).trans rfl, HS5_, HS6_⟩ (fun hHeld => ?_)
                clear hK K
                refine norm_ (a' := ?_) ?_ ?_
                rotate_left
                ·show Act.put _ (some 44) _ = _
                 simp only [Act.put, List.setIfInBounds_toArray, List.set_cons_zero, List.set_cons_succ, i64_w, i32_w]
                 rfl
                exact norm_ (by simp only [putAll, Act.put, List.setIfInBounds_toArray, List.set_cons_zero, List.set_cons_succ]) (hCont (gb240) _ ⟨hHeld, (by (with_reducible repeat (first | apply Kd.R_alloc | apply Kd.R_drewN | apply Kd.R_drew)); exact Kd.R_mono HO_232002.out (fun _ hk => ⟨hk.1.1, ⟨hk.1.2, hk.2⟩⟩)), (by (with_reducible repeat (first | apply Kd.R_alloc | apply Kd.R_drewN | apply Kd.R_drew)); exact Kd.R_mono HO_26.out (fun _ hk => ⟨hk.1.1, ⟨hk.1.2, hk.2⟩⟩)), (by (with_reducible repeat (first | apply Kd.R_alloc | apply Kd.R_drewN | apply Kd.R_drew)); exact Kd.R_mono HO_4.out (fun _ hk => ⟨hk.1.2.1, ⟨hk.1.1, ⟨hk.1.2.2, hk.2⟩⟩⟩)), (by (with_reducible repeat (first | refine blk_drewN ?_ _ | refine blk_drew ?_ | refine blk_alloc ?_ _)); exact BK224.out), (by (with_reducible repeat (first | refine blk_drewN ?_ _ | refine blk_drew ?_ | refine blk_alloc ?_ _)); exact BK231.out), (by (with_reducible repeat (first | refine blk_drewN ?_ _ | refine blk_drew ?_ | refine blk_alloc ?_ _)); exact BK236.out), (by (with_reducible repeat (first | refine blk_drewN ?_ _ | refine blk_drew ?_ | refine blk_alloc ?_ _)); exact BK240.out), GW240.out, GE240.out, NB224_240.out, NB240_224.out, NB231_240.out, NB240_231.out, NB236_240.out, NB240_236.out, (by repeat (first | (with_reducible first | exact HB.out | apply below_alloc | apply pw_below_drewN | apply below_drew1 | refine below_set ?_ GE224.out | refine below_set ?_ GE231.out | refine below_set ?_ GE236.out | refine below_set ?_ GE240.out) | exact HB.out))⟩)
              rintro gb240 w38 ⟨hS_, h0_, h1_, h2_, h3_, h4_, h5_, h6_, h7_, h8_, h9_, h10_, h11_, h12_, h13_, h14_, h15_⟩
              have n0_ : Aside0 (Kd.R k34 34 w38 w.heap.size (fun k_ => some k_ ≠ (.slice Ao16 t232.length co16 : Value).ownBlock ∧ k_ ≠ gb236 ∧ k_ ≠ gb240) (.slice (some ad235) t228.length co14) t228) := ⟨h0_⟩
              have n1_ : Aside0 (Kd.R k34 34 w38 w.heap.size (fun k_ => some k_ ≠ (.slice Ao16 t232.length co16 : Value).ownBlock ∧ k_ ≠ gb236 ∧ k_ ≠ gb240) (.slice (some ad235) t228.length co14) t228) := ⟨h1_⟩
              have n2_ : Aside0 (Kd.R k34 34 w38 w.heap.size (fun k_ => some k_ ≠ (.slice (some ad235) t228.length co14 : Value).ownBlock ∧ some k_ ≠ (.slice (some ad235) t228.length co14 : Value).ownBlock ∧ k_ ≠ gb236 ∧ k_ ≠ gb240) (.slice Ao16 t232.length co16) t232) := ⟨h2_⟩
              have n3_ : Aside0 (w38.heap[gb224]? = some (.cells #[.int .i64 a0_0, .int .i64 a0_1, .int .i64 a0_2, .int .i64 a0_3] 27 (0, 0))) := ⟨h3_⟩
              have n4_ : Aside0 (w38.heap[gb231]? = some (.cells #[.int .i64 t226, .int .i64 t227, .slice (some ad235) t228.length co14] 25 (0, 0))) := ⟨h4_⟩
              have n5_ : Aside0 (w38.heap[gb236]? = some (.cells #[.int .i64 ((rd_T34 t228 x28_1).f0), .int .i64 ((rd_T34 t228 x28_1).f1)] 34 (0, 0))) := ⟨h5_⟩
              have n6_ : Aside0 (w38.heap[gb240]? = some (.cells #[.int .i64 0, .int .i64 0] 34 (0, 0))) := ⟨h6_⟩
              have n7_ : Aside0 (w.heap.size ≤ gb240) := ⟨h7_⟩
              have n8_ : Aside0 (w.heap.size ≤ gb240) := ⟨h8_⟩
              have n9_ : Aside0 (gb224 ≠ gb240) := ⟨h9_⟩
              have n10_ : Aside0 (gb240 ≠ gb224) := ⟨h10_⟩
              have n11_ : Aside0 (gb231 ≠ gb240) := ⟨h11_⟩
              have n12_ : Aside0 (gb240 ≠ gb231) := ⟨h12_⟩
              have n13_ : Aside0 (gb236 ≠ gb240) := ⟨h13_⟩
              have n14_ : Aside0 (gb240 ≠ gb236) := ⟨h14_⟩
              have n15_ : Aside0 (Below w.heap.size w w38) := ⟨h15_⟩
              clear HO_4
              clear HO_26
              clear HO_232002
              clear BK224
              clear BK231
              clear BK236
              clear HB
              clear h0_ h1_ h2_ h3_ h4_ h5_ h6_ h7_ h8_ h9_ h10_ h11_ h12_ h13_ h14_ h15_
              have HO_232002 := n0_
              have HO_26 := n1_
              have HO_4 := n2_
              have BK224 := n3_
              have BK231 := n4_
              have BK236 := n5_
              have BK240 := n6_
              have GW240 := n7_
              have GE240 := n8_
              have NB224_240 := n9_
              have NB240_224 := n10_
              have NB231_240 := n11_
              have NB240_231 := n12_
              have NB236_240 := n13_
              have NB240_236 := n14_
              have HB := n15_
              clear n0_ n1_ n2_ n3_ n4_ n5_ n6_ n7_ n8_ n9_ n10_ n11_ n12_ n13_ n14_ n15_
              have hHeld : w38.cell? ⟨gb231, 0, none⟩ = some (.int .i64 t226) ∧ w38.cell? ⟨gb231, 1, none⟩ = some (.int .i64 t227) ∧ w38.cell? ⟨gb231, 2, none⟩ = some (.slice (some ad235) t228.length co14) ∧ w38.cell? ⟨gb236, 0, none⟩ = some (.int .i64 ((rd_T34 t228 x28_1).f0)) ∧ w38.cell? ⟨gb236, 1, none⟩ = some (.int .i64 ((rd_T34 t228 x28_1).f1)) ∧ w38.cell? (ad235.add (((ji22)).toNat * 2)) = some (.int .i64 ((rd_T34 t228 (ji22)).f0)) ∧ w38.cell? ⟨(ad235.add (((ji22)).toNat * 2)).block, (ad235.add (((ji22)).toNat * 2)).off + 1, none⟩ = some (.int .i64 ((rd_T34 t228 (ji22)).f1)) := hS_
              refine norm_ (a' := ?_) ?_ ?_
              rotate_left
              ·simp only [putAll, Act.put, List.setIfInBounds_toArray, List.set_cons_zero, List.set_cons_succ]
               rfl
              refine one_ (i := 13) (N := none) #[I4,I4,I4,I4,I4,I4,I4,I4,I4,I4,I4,I4,I4,I4] rfl rfl (one_of HT_.out (by kernel_rfl)) (by decide) (fun K hK => ?_)
              have hs39 : w38.cell? ⟨gb240, 0, none⟩ = some (.int .i64 0) := (blk_cell BK240.out 0).trans rfl
              have hfs39 := blk_frozen BK240.out 0
              have hns39_0 := NB224_240.out
              have hns39_1 := NB231_240.out
              have hns39_2 := NB236_240.out
              have hms39_0 := NB240_224.out
              have hms39_1 := NB240_231.out
              have hms39_2 := NB240_236.out
              have hs40 : w38.cell? ⟨gb240, 1, none⟩ = some (.int .i64 0) := (blk_cell BK240.out 1).trans rfl
              have hfs40 := blk_frozen BK240.out 1
              have hns40_0 := NB224_240.out
              have hns40_1 := NB231_240.out
              have hns40_2 := NB236_240.out
              have hms40_0 := NB240_224.out
              have hms40_1 := NB240_231.out
              have hms40_2 := NB240_236.out
              refine skip_ (w1 := ?_) (by rfl) rfl ?_ ?_
              rotate_left
              ·go_simp
               rfl
              refine hK.out _ _ ⟨((cell_far (p := ⟨gb240, _, none⟩) NB231_240.out _).trans (((cell_far (p := ⟨gb240, _, none⟩) NB231_240.out _).trans (hHeld.1)))), ((cell_far (p := ⟨gb240, _, none⟩) NB231_240.out _).trans (((cell_far (p := ⟨gb240, _, none⟩) NB231_240.out _).trans (hHeld.2.1)))), ((cell_far (p := ⟨gb240, _, none⟩) NB231_240.out _).trans (((cell_far (p := ⟨gb240, _, none⟩) NB231_240.out _).trans (hHeld.2.2.1)))), ((cell_far (p := ⟨gb240, _, none⟩) NB236_240.out _).trans (((cell_far (p := ⟨gb240, _, none⟩) NB236_240.out _).trans (hHeld.2.2.2.1)))), ((cell_far (p := ⟨gb240, _, none⟩) NB236_240.out _).trans (((cell_far (p := ⟨gb240, _, none⟩) NB236_240.out _).trans (hHeld.2.2.2.2.1)))), ((cell_far (p := ⟨gb240, _, none⟩) (by first | exact Kd.own_blk (Kd.R_away HO_232002.out (fun _ hk => hk.2.2)) | (rw [add_block]; exact Kd.own_blk (Kd.R_away HO_232002.out (fun _ hk => hk.2.2))) | (show (Addr.add _ _).block ≠ _; rw [add_block]; exact Kd.own_blk (Kd.R_away HO_232002.out (fun _ hk => hk.2.2))) | (dsimp only; exact Kd.own_blk (Kd.R_away HO_232002.out (fun _ hk => hk.2.2)))) _).trans (((cell_far (p := ⟨gb240, _, none⟩) (by first | exact Kd.own_blk (Kd.R_away HO_232002.out (fun _ hk => hk.2.2)) | (rw [add_block]; exact Kd.own_blk (Kd.R_away HO_232002.out (fun _ hk => hk.2.2))) | (show (Addr.add _ _).block ≠ _; rw [add_block]; exact Kd.own_blk (Kd.R_away HO_232002.out (fun _ hk => hk.2.2))) | (dsimp only; exact Kd.own_blk (Kd.R_away HO_232002.out (fun _ hk => hk.2.2)))) _).trans (hHeld.2.2.2.2.2.1)))), ((cell_far (p := ⟨gb240, _, none⟩) (by first | exact Kd.own_blk (Kd.R_away HO_232002.out (fun _ hk => hk.2.2)) | (rw [add_block]; exact Kd.own_blk (Kd.R_away HO_232002.out (fun _ hk => hk.2.2))) | (show (Addr.add _ _).block ≠ _; rw [add_block]; exact Kd.own_blk (Kd.R_away HO_232002.out (fun _ hk => hk.2.2))) | (dsimp only; exact Kd.own_blk (Kd.R_away HO_232002.out (fun _ hk => hk.2.2)))) _).trans (((cell_far (p := ⟨gb240, _, none⟩) (by first | exact Kd.own_blk (Kd.R_away HO_232002.out (fun _ hk => hk.2.2)) | (rw [add_block]; exact Kd.own_blk (Kd.R_away HO_232002.out (fun _ hk => hk.2.2))) | (show (Addr.add _ _).block ≠ _; rw [add_block]; exact Kd.own_blk (Kd.R_away HO_232002.out (fun _ hk => hk.2.2))) | (dsimp only; exact Kd.own_blk (Kd.R_away HO_232002.out (fun _ hk => hk.2.2)))) _).trans (hHeld.2.2.2.2.2.2))))⟩ (fun hHeld => ?_)
              clear hK K
              refine done_ (done_of HT_.out (by kernel_rfl)) ?_
              have hnb41 := NB240_224.out
              have hnc41 := NB224_240.out
              have hnb42 := NB240_231.out
              have hnc42 := NB231_240.out
              have hnb43 := NB240_236.out
              have hnc43 := NB236_240.out
              have hcz44_0 : w38.cell? ⟨gb240, 0, none⟩ = some (.int .i64 0) := (blk_cell BK240.out 0).trans rfl
              have hcz44_1 : w38.cell? ⟨gb240, 1, none⟩ = some (.int .i64 0) := (blk_cell BK240.out 1).trans rfl
              have hfz44_0 := blk_frozen BK240.out 0
              have hfz44_1 := blk_frozen BK240.out 1
              try go_wp2_with (first | ((with_reducible refine gate_callee (f := 14) rfl ?_); refine goesL_ (some 52) rfl rfl Try.func14 (by kernel_rfl) rfl #[.agg #[.int .i64 t239, .int .i64 (wrap64 (-t238))]] rfl (by (try simp only [List.map_toArray, List.map_cons, List.map_nil]); first | done | rfl | (simp only [List.length_drop, List.length_take]; rfl)) ?_; (with_reducible refine (vec_Unit.calls k1 t239 (wrap64 (-t238)) t241 t242 true _ A26.out).mono ?_); rintro e w45 ⟨rfl, hb⟩; refine ⟨_, rfl, ?_⟩; have n0_ := Aside0.mk (Kd.R_below (by (with_reducible repeat (first | apply Kd.R_alloc | apply Kd.R_drewN | apply Kd.R_drew)); exact (Kd.R_mono (Kd.R_far (p := ⟨gb240, 1, none⟩) (Kd.R_far (p := ⟨gb240, 0, none⟩) (Kd.R_mono HO_4.out (fun k_ hk => (⟨hk, hk.2.2.2⟩ : _ ∧ k_ ≠ gb240))) (fun _ hk => hk.2) (.int .i64 t238)) (fun _ hk => hk.2) (.int .i64 t239)) (fun _ h_ => h_.1))) hb); have n1_ := Aside0.mk (Kd.R_below (by (with_reducible repeat (first | apply Kd.R_alloc | apply Kd.R_drewN | apply Kd.R_drew)); exact (Kd.R_mono (Kd.R_far (p := ⟨gb240, 1, none⟩) (Kd.R_far (p := ⟨gb240, 0, none⟩) (Kd.R_mono HO_26.out (fun k_ hk => (⟨hk, hk.2.2⟩ : _ ∧ k_ ≠ gb240))) (fun _ hk => hk.2) (.int .i64 t238)) (fun _ hk => hk.2) (.int .i64 t239)) (fun _ h_ => h_.1))) hb); have n2_ := Aside0.mk (Kd.R_below (by (with_reducible repeat (first | apply Kd.R_alloc | apply Kd.R_drewN | apply Kd.R_drew)); exact (Kd.R_mono (Kd.R_far (p := ⟨gb240, 1, none⟩) (Kd.R_far (p := ⟨gb240, 0, none⟩) (Kd.R_mono HO_232002.out (fun k_ hk => (⟨hk, hk.2.2⟩ : _ ∧ k_ ≠ gb240))) (fun _ hk => hk.2) (.int .i64 t238)) (fun _ hk => hk.2) (.int .i64 t239)) (fun _ h_ => h_.1))) hb); have n3_ := Aside0.mk (blk_below (g := gb224) (o := .cells #[.int .i64 a0_0, .int .i64 a0_1, .int .i64 a0_2, .int .i64 a0_3] 27 (0, 0)) (by (with_reducible repeat (first | refine blk_drewN ?_ _ | refine blk_drew ?_ | refine blk_alloc ?_ _)); refine blk_far ?_ NB224_240.out _; (with_reducible repeat (first | refine blk_drewN ?_ _ | refine blk_drew ?_ | refine blk_alloc ?_ _)); refine blk_far ?_ NB224_240.out _; (with_reducible repeat (first | refine blk_drewN ?_ _ | refine blk_drew ?_ | refine blk_alloc ?_ _)); exact BK224.out) hb); have n4_ := Aside0.mk (blk_below (g := gb231) (o := .cells #[.int .i64 t226, .int .i64 t227, .slice (some ad235) t228.length co14] 25 (0, 0)) (by (with_reducible repeat (first | refine blk_drewN ?_ _ | refine blk_drew ?_ | refine blk_alloc ?_ _)); refine blk_far ?_ NB231_240.out _; (with_reducible repeat (first | refine blk_drewN ?_ _ | refine blk_drew ?_ | refine blk_alloc ?_ _)); refine blk_far ?_ NB231_240.out _; (with_reducible repeat (first | refine blk_drewN ?_ _ | refine blk_drew ?_ | refine blk_alloc ?_ _)); exact BK231.out) hb); have n5_ := Aside0.mk (blk_below (g := gb236) (o := .cells #[.int .i64 ((rd_T34 t228 x28_1).f0), .int .i64 ((rd_T34 t228 x28_1).f1)] 34 (0, 0)) (by (with_reducible repeat (first | refine blk_drewN ?_ _ | refine blk_drew ?_ | refine blk_alloc ?_ _)); refine blk_far ?_ NB236_240.out _; (with_reducible repeat (first | refine blk_drewN ?_ _ | refine blk_drew ?_ | refine blk_alloc ?_ _)); refine blk_far ?_ NB236_240.out _; (with_reducible repeat (first | refine blk_drewN ?_ _ | refine blk_drew ?_ | refine blk_alloc ?_ _)); exact BK236.out) hb); have n6_ := Aside0.mk (blk_below (g := gb240) (o := .cells #[.int .i64 t238, .int .i64 t239] 34 (0, 0)) (by (with_reducible repeat (first | refine blk_drewN ?_ _ | refine blk_drew ?_ | refine blk_alloc ?_ _)); refine blk_put (cs := #[.int .i64 t238, .int .i64 0]) ?_ 1 _ rfl; (with_reducible repeat (first | refine blk_drewN ?_ _ | refine blk_drew ?_ | refine blk_alloc ?_ _)); refine blk_put (cs := #[.int .i64 0, .int .i64 0]) ?_ 0 _ rfl; (with_reducible repeat (first | refine blk_drewN ?_ _ | refine blk_drew ?_ | refine blk_alloc ?_ _)); exact BK240.out) hb); have n7_ := Aside0.mk (below_step (by repeat (first | (with_reducible first | exact HB.out | apply below_alloc | apply pw_below_drewN | apply below_drew1 | refine below_set ?_ GE224.out | refine below_set ?_ GE231.out | refine below_set ?_ GE236.out | refine below_set ?_ GE240.out) | exact HB.out)) hb); clear HO_4; clear HO_26; clear HO_232002; clear BK224; clear BK231; clear BK236; clear BK240; clear HB; have HO_4 := n0_; have HO_26 := n1_; have HO_232002 := n2_; have BK224 := n3_; have BK231 := n4_; have BK236 := n5_; have BK240 := n6_; have HB := n7_; clear n0_ n1_ n2_ n3_ n4_ n5_ n6_ n7_; (try clear hb); (try clear hb2); (try clear hk); (try clear hi)) | ((with_reducible refine gate_dst (N := 8) rfl ?_); refine box_event ?hg (N := 8) ?hd (cs := #[.int .i64 0, .int .i64 0]) (t := 34) ?hr ?_; (case hd => rfl); (case hg => rfl); (case hr => first | (go_simp; done) | (go_simp; rfl)); intro gb244 hg w46 hbox hb; have n0_ := Aside0.mk (Kd.R_below (Kd.R_elderB (by (with_reducible repeat (first | apply Kd.R_alloc | apply Kd.R_drewN | apply Kd.R_drew)); exact HO_4.out) gb244 (Nat.le_of_eq hg.symm)) hb); have n1_ := Aside0.mk (Kd.R_below (Kd.R_elderB (by (with_reducible repeat (first | apply Kd.R_alloc | apply Kd.R_drewN | apply Kd.R_drew)); exact HO_26.out) gb244 (Nat.le_of_eq hg.symm)) hb); have n2_ := Aside0.mk (Kd.R_below (Kd.R_elderB (by (with_reducible repeat (first | apply Kd.R_alloc | apply Kd.R_drewN | apply Kd.R_drew)); exact HO_232002.out) gb244 (Nat.le_of_eq hg.symm)) hb); have n3_ := Aside0.mk (blk_below (g := gb224) (o := .cells #[.int .i64 a0_0, .int .i64 a0_1, .int .i64 a0_2, .int .i64 a0_3] 27 (0, 0)) (by (with_reducible repeat (first | refine blk_drewN ?_ _ | refine blk_drew ?_ | refine blk_alloc ?_ _)); exact BK224.out) hb); have n4_ := Aside0.mk (blk_below (g := gb231) (o := .cells #[.int .i64 t226, .int .i64 t227, .slice (some ad235) t228.length co14] 25 (0, 0)) (by (with_reducible repeat (first | refine blk_drewN ?_ _ | refine blk_drew ?_ | refine blk_alloc ?_ _)); exact BK231.out) hb); have n5_ := Aside0.mk (blk_below (g := gb236) (o := .cells #[.int .i64 ((rd_T34 t228 x28_1).f0), .int .i64 ((rd_T34 t228 x28_1).f1)] 34 (0, 0)) (by (with_reducible repeat (first | refine blk_drewN ?_ _ | refine blk_drew ?_ | refine blk_alloc ?_ _)); exact BK236.out) hb); have n6_ := Aside0.mk (blk_below (g := gb240) (o := .cells #[.int .i64 t238, .int .i64 t239] 34 (0, 0)) (by (with_reducible repeat (first | refine blk_drewN ?_ _ | refine blk_drew ?_ | refine blk_alloc ?_ _)); exact BK240.out) hb); have n7_ := Aside0.mk (below_step (by repeat (first | (with_reducible first | exact HB.out | apply below_alloc | apply pw_below_drewN | apply below_drew1 | refine below_set ?_ GE224.out | refine below_set ?_ GE231.out | refine below_set ?_ GE236.out | refine below_set ?_ GE240.out) | exact HB.out)) hb); have n8_ := Aside0.mk (hbox); have n9_ := Aside0.mk ((by rw [hg]; exact (below_size (by repeat (first | (with_reducible first | exact HB.out | apply below_alloc | apply pw_below_drewN | apply below_drew1 | refine below_set ?_ GE224.out | refine below_set ?_ GE231.out | refine below_set ?_ GE236.out | refine below_set ?_ GE240.out) | exact HB.out))) : w.heap.size ≤ gb244)); have n10_ := Aside0.mk ((by rw [hg]; exact (below_size (by repeat (first | (with_reducible first | exact HB.out | apply below_alloc | apply pw_below_drewN | apply below_drew1 | refine below_set ?_ GE224.out | refine below_set ?_ GE231.out | refine below_set ?_ GE236.out | refine below_set ?_ GE240.out) | exact HB.out))) : w.heap.size ≤ gb244)); have n11_ := Aside0.mk ((by rw [hg]; exact Nat.ne_of_lt (blk_lt (g := gb224) (o := .cells #[.int .i64 a0_0, .int .i64 a0_1, .int .i64 a0_2, .int .i64 a0_3] 27 (0, 0)) (by (with_reducible repeat (first | refine blk_drewN ?_ _ | refine blk_drew ?_ | refine blk_alloc ?_ _)); exact BK224.out)) : gb224 ≠ gb244)); have n12_ := Aside0.mk ((by rw [hg]; exact Nat.ne_of_gt (blk_lt (g := gb224) (o := .cells #[.int .i64 a0_0, .int .i64 a0_1, .int .i64 a0_2, .int .i64 a0_3] 27 (0, 0)) (by (with_reducible repeat (first | refine blk_drewN ?_ _ | refine blk_drew ?_ | refine blk_alloc ?_ _)); exact BK224.out)) : gb244 ≠ gb224)); have n13_ := Aside0.mk ((by rw [hg]; exact Nat.ne_of_lt (blk_lt (g := gb231) (o := .cells #[.int .i64 t226, .int .i64 t227, .slice (some ad235) t228.length co14] 25 (0, 0)) (by (with_reducible repeat (first | refine blk_drewN ?_ _ | refine blk_drew ?_ | refine blk_alloc ?_ _)); exact BK231.out)) : gb231 ≠ gb244)); have n14_ := Aside0.mk ((by rw [hg]; exact Nat.ne_of_gt (blk_lt (g := gb231) (o := .cells #[.int .i64 t226, .int .i64 t227, .slice (some ad235) t228.length co14] 25 (0, 0)) (by (with_reducible repeat (first | refine blk_drewN ?_ _ | refine blk_drew ?_ | refine blk_alloc ?_ _)); exact BK231.out)) : gb244 ≠ gb231)); have n15_ := Aside0.mk ((by rw [hg]; exact Nat.ne_of_lt (blk_lt (g := gb236) (o := .cells #[.int .i64 ((rd_T34 t228 x28_1).f0), .int .i64 ((rd_T34 t228 x28_1).f1)] 34 (0, 0)) (by (with_reducible repeat (first | refine blk_drewN ?_ _ | refine blk_drew ?_ | refine blk_alloc ?_ _)); exact BK236.out)) : gb236 ≠ gb244)); have n16_ := Aside0.mk ((by rw [hg]; exact Nat.ne_of_gt (blk_lt (g := gb236) (o := .cells #[.int .i64 ((rd_T34 t228 x28_1).f0), .int .i64 ((rd_T34 t228 x28_1).f1)] 34 (0, 0)) (by (with_reducible repeat (first | refine blk_drewN ?_ _ | refine blk_drew ?_ | refine blk_alloc ?_ _)); exact BK236.out)) : gb244 ≠ gb236)); have n17_ := Aside0.mk ((by rw [hg]; exact Nat.ne_of_lt (blk_lt (g := gb240) (o := .cells #[.int .i64 t238, .int .i64 t239] 34 (0, 0)) (by (with_reducible repeat (first | refine blk_drewN ?_ _ | refine blk_drew ?_ | refine blk_alloc ?_ _)); exact BK240.out)) : gb240 ≠ gb244)); have n18_ := Aside0.mk ((by rw [hg]; exact Nat.ne_of_gt (blk_lt (g := gb240) (o := .cells #[.int .i64 t238, .int .i64 t239] 34 (0, 0)) (by (with_reducible repeat (first | refine blk_drewN ?_ _ | refine blk_drew ?_ | refine blk_alloc ?_ _)); exact BK240.out)) : gb244 ≠ gb240)); clear HO_4; clear HO_26; clear HO_232002; clear BK224; clear BK231; clear BK236; clear BK240; clear HB; have HO_4 := n0_; have HO_26 := n1_; have HO_232002 := n2_; have BK224 := n3_; have BK231 := n4_; have BK236 := n5_; have BK240 := n6_; have HB := n7_; have BK244 := n8_; have GW244 := n9_; have GE244 := n10_; have NB224_244 := n11_; have NB244_224 := n12_; have NB231_244 := n13_; have NB244_231 := n14_; have NB236_244 := n15_; have NB244_236 := n16_; have NB240_244 := n17_; have NB244_240 := n18_; clear n0_ n1_ n2_ n3_ n4_ n5_ n6_ n7_ n8_ n9_ n10_ n11_ n12_ n13_ n14_ n15_ n16_ n17_ n18_; clear hb hbox hg; have hnb47 := NB244_224.out; have hnc47 := NB224_244.out; have hnb48 := NB244_231.out; have hnc48 := NB231_244.out; have hnb49 := NB244_236.out; have hnc49 := NB236_244.out; have hnb50 := NB244_240.out; have hnc50 := NB240_244.out; have hcz51_0 : w46.cell? ⟨gb244, 0, none⟩ = some (.int .i64 0) := (blk_cell BK244.out 0).trans rfl; have hcz51_1 : w46.cell? ⟨gb244, 1, none⟩ = some (.int .i64 0) := (blk_cell BK244.out 1).trans rfl; have hfz51_0 := blk_frozen BK244.out 0; have hfz51_1 := blk_frozen BK244.out 1))
              have n0_ : Aside0 (Kd.R k34 34 ((w46.setCell ⟨gb244, 0, none⟩ (.int .i64 t241)).setCell ⟨gb244, 1, none⟩ (.int .i64 t242)) w.heap.size (fun k_ => some k_ ≠ (.slice (some ad235) t228.length co14 : Value).ownBlock ∧ some k_ ≠ (.slice (some ad235) t228.length co14 : Value).ownBlock ∧ k_ ≠ gb236 ∧ k_ ≠ gb240 ∧ k_ ≠ gb244) (.slice Ao16 t232.length co16) t232) := ⟨by (with_reducible repeat (first | apply Kd.R_alloc | apply Kd.R_drewN | apply Kd.R_drew)); exact Kd.R_mono (Kd.R_far (p := ⟨gb244, 1, none⟩) (Kd.R_far (p := ⟨gb244, 0, none⟩) (Kd.R_mono HO_4.out (fun k_ hk => (⟨hk, hk.2⟩ : _ ∧ k_ ≠ gb244))) (fun _ hk => hk.2) (.int .i64 t241)) (fun _ hk => hk.2) (.int .i64 t242)) (fun _ hk => ⟨hk.1.1.2.1, ⟨hk.1.1.1, ⟨hk.1.1.2.2.1, ⟨hk.1.1.2.2.2, hk.1.2⟩⟩⟩⟩)⟩
              have n1_ : Aside0 (Kd.R k34 34 ((w46.setCell ⟨gb244, 0, none⟩ (.int .i64 t241)).setCell ⟨gb244, 1, none⟩ (.int .i64 t242)) w.heap.size (fun k_ => some k_ ≠ (.slice Ao16 t232.length co16 : Value).ownBlock ∧ k_ ≠ gb236 ∧ k_ ≠ gb240 ∧ k_ ≠ gb244) (.slice (some ad235) t228.length co14) t228) := ⟨by (with_reducible repeat (first | apply Kd.R_alloc | apply Kd.R_drewN | apply Kd.R_drew)); exact Kd.R_mono (Kd.R_far (p := ⟨gb244, 1, none⟩) (Kd.R_far (p := ⟨gb244, 0, none⟩) (Kd.R_mono HO_26.out (fun k_ hk => (⟨hk, hk.2⟩ : _ ∧ k_ ≠ gb244))) (fun _ hk => hk.2) (.int .i64 t241)) (fun _ hk => hk.2) (.int .i64 t242)) (fun _ hk => ⟨hk.1.1.1, ⟨hk.1.1.2.1, ⟨hk.1.1.2.2, hk.1.2⟩⟩⟩)⟩
              have n2_ : Aside0 (Kd.R k34 34 ((w46.setCell ⟨gb244, 0, none⟩ (.int .i64 t241)).setCell ⟨gb244, 1, none⟩ (.int .i64 t242)) w.heap.size (fun k_ => some k_ ≠ (.slice Ao16 t232.length co16 : Value).ownBlock ∧ k_ ≠ gb236 ∧ k_ ≠ gb240 ∧ k_ ≠ gb244) (.slice (some ad235) t228.length co14) t228) := ⟨by (with_reducible repeat (first | apply Kd.R_alloc | apply Kd.R_drewN | apply Kd.R_drew)); exact Kd.R_mono (Kd.R_far (p := ⟨gb244, 1, none⟩) (Kd.R_far (p := ⟨gb244, 0, none⟩) (Kd.R_mono HO_232002.out (fun k_ hk => (⟨hk, hk.2⟩ : _ ∧ k_ ≠ gb244))) (fun _ hk => hk.2) (.int .i64 t241)) (fun _ hk => hk.2) (.int .i64 t242)) (fun _ hk => ⟨hk.1.1.1, ⟨hk.1.1.2.1, ⟨hk.1.1.2.2, hk.1.2⟩⟩⟩)⟩
              have n3_ : Aside0 (((w46.setCell ⟨gb244, 0, none⟩ (.int .i64 t241)).setCell ⟨gb244, 1, none⟩ (.int .i64 t242)).heap[gb224]? = some (.cells #[.int .i64 a0_0, .int .i64 a0_1, .int .i64 a0_2, .int .i64 a0_3] 27 (0, 0))) := ⟨by (with_reducible repeat (first | refine blk_drewN ?_ _ | refine blk_drew ?_ | refine blk_alloc ?_ _)); refine blk_far ?_ NB224_244.out _; (with_reducible repeat (first | refine blk_drewN ?_ _ | refine blk_drew ?_ | refine blk_alloc ?_ _)); refine blk_far ?_ NB224_244.out _; (with_reducible repeat (first | refine blk_drewN ?_ _ | refine blk_drew ?_ | refine blk_alloc ?_ _)); exact BK224.out⟩
              have n4_ : Aside0 (((w46.setCell ⟨gb244, 0, none⟩ (.int .i64 t241)).setCell ⟨gb244, 1, none⟩ (.int .i64 t242)).heap[gb231]? = some (.cells #[.int .i64 t226, .int .i64 t227, .slice (some ad235) t228.length co14] 25 (0, 0))) := ⟨by (with_reducible repeat (first | refine blk_drewN ?_ _ | refine blk_drew ?_ | refine blk_alloc ?_ _)); refine blk_far ?_ NB231_244.out _; (with_reducible repeat (first | refine blk_drewN ?_ _ | refine blk_drew ?_ | refine blk_alloc ?_ _)); refine blk_far ?_ NB231_244.out _; (with_reducible repeat (first | refine blk_drewN ?_ _ | refine blk_drew ?_ | refine blk_alloc ?_ _)); exact BK231.out⟩
              have n5_ : Aside0 (((w46.setCell ⟨gb244, 0, none⟩ (.int .i64 t241)).setCell ⟨gb244, 1, none⟩ (.int .i64 t242)).heap[gb236]? = some (.cells #[.int .i64 ((rd_T34 t228 x28_1).f0), .int .i64 ((rd_T34 t228 x28_1).f1)] 34 (0, 0))) := ⟨by (with_reducible repeat (first | refine blk_drewN ?_ _ | refine blk_drew ?_ | refine blk_alloc ?_ _)); refine blk_far ?_ NB236_244.out _; (with_reducible repeat (first | refine blk_drewN ?_ _ | refine blk_drew ?_ | refine blk_alloc ?_ _)); refine blk_far ?_ NB236_244.out _; (with_reducible repeat (first | refine blk_drewN ?_ _ | refine blk_drew ?_ | refine blk_alloc ?_ _)); exact BK236.out⟩
              have n6_ : Aside0 (((w46.setCell ⟨gb244, 0, none⟩ (.int .i64 t241)).setCell ⟨gb244, 1, none⟩ (.int .i64 t242)).heap[gb240]? = some (.cells #[.int .i64 t238, .int .i64 t239] 34 (0, 0))) := ⟨by (with_reducible repeat (first | refine blk_drewN ?_ _ | refine blk_drew ?_ | refine blk_alloc ?_ _)); refine blk_far ?_ NB240_244.out _; (with_reducible repeat (first | refine blk_drewN ?_ _ | refine blk_drew ?_ | refine blk_alloc ?_ _)); refine blk_far ?_ NB240_244.out _; (with_reducible repeat (first | refine blk_drewN ?_ _ | refine blk_drew ?_ | refine blk_alloc ?_ _)); exact BK240.out⟩
              have n7_ : Aside0 (((w46.setCell ⟨gb244, 0, none⟩ (.int .i64 t241)).setCell ⟨gb244, 1, none⟩ (.int .i64 t242)).heap[gb244]? = some (.cells #[.int .i64 t241, .int .i64 t242] 34 (0, 0))) := ⟨by (with_reducible repeat (first | refine blk_drewN ?_ _ | refine blk_drew ?_ | refine blk_alloc ?_ _)); refine blk_put (cs := #[.int .i64 t241, .int .i64 0]) ?_ 1 _ rfl; (with_reducible repeat (first | refine blk_drewN ?_ _ | refine blk_drew ?_ | refine blk_alloc ?_ _)); refine blk_put (cs := #[.int .i64 0, .int .i64 0]) ?_ 0 _ rfl; (with_reducible repeat (first | refine blk_drewN ?_ _ | refine blk_drew ?_ | refine blk_alloc ?_ _)); exact BK244.out⟩
              have n8_ : Aside0 (Below w.heap.size w ((w46.setCell ⟨gb244, 0, none⟩ (.int .i64 t241)).setCell ⟨gb244, 1, none⟩ (.int .i64 t242))) := ⟨by repeat (first | (with_reducible first | exact HB.out | apply below_alloc | apply pw_below_drewN | apply below_drew1 | refine below_set ?_ GE224.out | refine below_set ?_ GE231.out | refine below_set ?_ GE236.out | refine below_set ?_ GE240.out | refine below_set ?_ GE244.out) | exact HB.out)⟩
              (try clear HO_4)
              (try clear HO_26)
              (try clear HO_232002)
              (try clear BK224)
              (try clear BK231)
              (try clear BK236)
              (try clear BK240)
              (try clear BK244)
              (try clear HB)
              generalize ((w46.setCell ⟨gb244, 0, none⟩ (.int .i64 t241)).setCell ⟨gb244, 1, none⟩ (.int .i64 t242)) = w52 at n0_ n1_ n2_ n3_ n4_ n5_ n6_ n7_ n8_ ⊢
              have HO_4 := n0_
              have HO_26 := n1_
              have HO_232002 := n2_
              have BK224 := n3_
              have BK231 := n4_
              have BK236 := n5_
              have BK240 := n6_
              have BK244 := n7_
              have HB := n8_
              clear n0_ n1_ n2_ n3_ n4_ n5_ n6_ n7_ n8_
              have n0_ := Aside0.mk (Kd.R_drew HO_4.out)
              have n1_ := Aside0.mk (Kd.R_drew HO_26.out)
              have n2_ := Aside0.mk (Kd.R_drew HO_232002.out)
              have n3_ := Aside0.mk (blk_drew BK224.out)
              have n4_ := Aside0.mk (blk_drew BK231.out)
              have n5_ := Aside0.mk (blk_drew BK236.out)
              have n6_ := Aside0.mk (blk_drew BK240.out)
              have n7_ := Aside0.mk (blk_drew BK244.out)
              have n8_ := Aside0.mk (below_drew1 HB.out)
              clear HO_4
              clear HO_26
              clear HO_232002
              clear BK224
              clear BK231
              clear BK236
              clear BK240
              clear BK244
              clear HB
              have HO_4 := n0_
              have HO_26 := n1_
              have HO_232002 := n2_
              have BK224 := n3_
              have BK231 := n4_
              have BK236 := n5_
              have BK240 := n6_
              have BK244 := n7_
              have HB := n8_
              clear n0_ n1_ n2_ n3_ n4_ n5_ n6_ n7_ n8_
              have p245 : 0 ≤ (x28_1 : Int) := of_decide_eq_true (by first | (with_reducible assumption) | assumption)
              have q245 : x28_1 < (t232.length : Int) := of_decide_eq_true (by first | (with_reducible assumption) | assumption)
              obtain ⟨ad245, e245, hx245_0, hx245_1⟩ := at_T34 (Kd.R_reads' HO_4.out).2.2 x28_1 p245 q245
              cases e245
              replace p245 := eq_true p245
              replace q245 := eq_true q245
              refine start_ (n := 10) (S := fun w' => w'.cell? ⟨gb244, 0, none⟩ = some (.int .i64 t241) ∧ w'.cell? ⟨gb244, 1, none⟩ = some (.int .i64 t242) ∧ w'.cell? (ad245.add ((x28_1).toNat * 2)) = some (.int .i64 ((rd_T34 t232 x28_1).f0)) ∧ w'.cell? ⟨(ad245.add ((x28_1).toNat * 2)).block, (ad245.add ((x28_1).toNat * 2)).off + 1, none⟩ = some (.int .i64 ((rd_T34 t232 x28_1).f1))) (ds := []) #[O4,O4,O4,O4,O4,O4,O4,O4,O4,O4] (by kernel_rfl) rfl rfl ⟨(blk_cell BK244.out 0).trans rfl, (blk_cell BK244.out 1).trans rfl, hx245_0, hx245_1⟩ (fun hHeld => ?_); refine with_tabW bagatellelaw04_ShapeNormals.tab12 bagatellelaw04_ShapeNormals.bits12 (fun HT_ HW_ => ?_)
              generalize w52.drew = w53 at HO_4 HO_26 HO_232002 BK224 BK231 BK236 BK240 BK244 HB hx245_0 hx245_1 hHeld ⊢
              refine pure_ (i := 0) (N := some 55) (v := ?_) (a' := ?_) #[I4,O4,O4,O4,O4,O4,O4,O4,O4,O4] rfl rfl (any_of HT_.out (by kernel_rfl)) (fun _ _ _ h => h) (Or.inl ⟨by rfl, ?_⟩) ?_ ?_
              rotate_left
              ·intro w'
               go_simp
               with_reducible rfl
              rotate_left
              ·simp only [Act.put, List.setIfInBounds_toArray, List.set_cons_zero, List.set_cons_succ, i64_w, i32_w]
               rfl
              refine pure_ (i := 1) (N := some 56) (v := ?_) (a' := ?_) #[I4,I4,O4,O4,O4,O4,O4,O4,O4,O4] rfl rfl (any_of HT_.out (by kernel_rfl)) (fun _ _ _ h => h) (Or.inl ⟨by rfl, ?_⟩) ?_ ?_
              rotate_left
              ·intro w'
               go_simp
               with_reducible rfl
              rotate_left
              ·simp only [Act.put, List.setIfInBounds_toArray, List.set_cons_zero, List.set_cons_succ, i64_w, i32_w]
               rfl
              refine pure_ (i := 2) (N := some 57) (v := ?_) (a' := ?_) #[I4,I4,I4,O4,O4,O4,O4,O4,O4,O4] rfl rfl (any_of HT_.out (by kernel_rfl)) (fun _ _ _ h => h) (Or.inl ⟨by rfl, ?_⟩) ?_ ?_
              rotate_left
              ·intro w'
               go_simp
               with_reducible rfl
              rotate_left
              ·simp only [Act.put, List.setIfInBounds_toArray, List.set_cons_zero, List.set_cons_succ, i64_w, i32_w]
               rfl
              refine pure_ (i := 3) (N := some 58) (v := ?_) (a' := ?_) #[I4,I4,I4,I4,O4,O4,O4,O4,O4,O4] rfl rfl (any_of HT_.out (by kernel_rfl)) (fun _ _ _ h => h) (Or.inl ⟨by rfl, ?_⟩) ?_ ?_
              rotate_left
              ·intro w'
               go_simp
               with_reducible rfl
              rotate_left
              ·simp only [Act.put, List.setIfInBounds_toArray, List.set_cons_zero, List.set_cons_succ, i64_w, i32_w]
               rfl
              refine pure_ (i := 4) (N := some 59) (v := ?_) (a' := ?_) #[I4,I4,I4,I4,I4,O4,O4,O4,O4,O4] rfl rfl (any_of HT_.out (by kernel_rfl)) (fun _ _ _ h => h) (Or.inl ⟨by rfl, ?_⟩) ?_ ?_
              rotate_left
              ·intro w'
               go_simp
               with_reducible rfl
              rotate_left
              ·simp only [Act.put, List.setIfInBounds_toArray, List.set_cons_zero, List.set_cons_succ, i64_w, i32_w]
               rfl
              refine pure_ (i := 5) (N := some 60) (v := ?_) (a' := ?_) #[I4,I4,I4,I4,I4,I4,O4,O4,O4,O4] rfl rfl (any_of HT_.out (by kernel_rfl)) (fun _ _ _ h => h) (Or.inl ⟨by rfl, ?_⟩) ?_ ?_
              rotate_left
              ·intro w'
               go_simp
               with_reducible rfl
              rotate_left
              ·simp only [Act.put, List.setIfInBounds_toArray, List.set_cons_zero, List.set_cons_succ, i64_w, i32_w]
               rfl
              refine take_ (i := 6) (N := some 61) (v := ?_) (a' := ?_) #[I4,I4,I4,I4,I4,I4,I4,O4,O4,O4] rfl rfl (take_ofW HT_.out HW_.out (by kernel_rfl)) (fun _ _ _ h => h) (Or.inl ⟨by rfl, ?_⟩) hHeld ?_ ?_
              rotate_left
              ·rintro w' ⟨s0, s1, s2, s3⟩
               go_simp
               with_reducible rfl
              rotate_left
              ·simp only [Act.put, List.setIfInBounds_toArray, List.set_cons_zero, List.set_cons_succ, i64_w, i32_w]
               rfl
              refine take_ (i := 7) (N := some 62) (v := ?_) (a' := ?_) #[I4,I4,I4,I4,I4,I4,I4,I4,O4,O4] rfl rfl (take_ofW HT_.out HW_.out (by kernel_rfl)) (fun _ _ _ h => h) (Or.inl ⟨by rfl, ?_⟩) hHeld ?_ ?_
              rotate_left
              ·rintro w' ⟨s0, s1, s2, s3⟩
               go_simp
               with_reducible rfl
              rotate_left
              ·simp only [Act.put, List.setIfInBounds_toArray, List.set_cons_zero, List.set_cons_succ, i64_w, i32_w]
               rfl
              refine pure_ (i := 8) (N := some 63) (v := ?_) (a' := ?_) #[I4,I4,I4,I4,I4,I4,I4,I4,I4,O4] rfl rfl (any_of HT_.out (by kernel_rfl)) (fun _ _ _ h => h) (Or.inl ⟨by rfl, ?_⟩) ?_ ?_
              rotate_left
              ·intro w'
               go_simp
               with_reducible rfl
              rotate_left
              ·simp only [Act.put, List.setIfInBounds_toArray, List.set_cons_zero, List.set_cons_succ, i64_w, i32_w]
               rfl
              refine pure_ (i := 9) (N := some 64) (v := ?_) (a' := ?_) #[I4,I4,I4,I4,I4,I4,I4,I4,I4,I4] rfl rfl (any_of HT_.out (by kernel_rfl)) (fun _ _ _ h => h) (Or.inl ⟨by rfl, ?_⟩) ?_ ?_
              rotate_left
              ·intro w'
               go_simp
               with_reducible rfl
              rotate_left
              ·simp only [Act.put, List.setIfInBounds_toArray, List.set_cons_zero, List.set_cons_succ, i64_w, i32_w]
               rfl
              refine done_ (done_of HT_.out (by kernel_rfl)) ?_
              have hnb54 := NB231_224.out
              have hnc54 := NB224_231.out
              have hcz55_0 : w53.cell? ⟨gb231, 0, none⟩ = some (.int .i64 t226) := (blk_cell BK231.out 0).trans rfl
              have hcz55_1 : w53.cell? ⟨gb231, 1, none⟩ = some (.int .i64 t227) := (blk_cell BK231.out 1).trans rfl
              have hcz55_2 : w53.cell? ⟨gb231, 2, none⟩ = some (.slice (some ad235) t228.length co14) := (blk_cell BK231.out 2).trans rfl
              have hfz55_0 := blk_frozen BK231.out 0
              have hfz55_1 := blk_frozen BK231.out 1
              have hfz55_2 := blk_frozen BK231.out 2
              try go_wp2
              go_loopg [68] k1 (fun kq v68 w' => ∃ (x68_2 : Int), v68 = .int .i64 x68_2 ∧ Aside0 (bagatellelaw04_ShapeNormals.l1 kq t232 t228 (t228.length : Int) x28_1 t228 (t228.length : Int) x68_2 t226 t227 t228 ((rd_T34 t228 x28_1).f0) ((rd_T34 t228 x28_1).f1) t241 t242 = some r) ∧ Aside0 (kq ≤ k1) ∧ Aside0 (Kd.R k34 34 w' w.heap.size (fun k_ => some k_ ≠ ((.slice (some ad235) t228.length co14) : Value).ownBlock ∧ some k_ ≠ ((.slice (some ad235) t228.length co14) : Value).ownBlock ∧ some k_ ≠ ((.slice (some ad235) t228.length co14) : Value).ownBlock ∧ k_ ≠ gb236 ∧ k_ ≠ gb240 ∧ k_ ≠ gb244) (.slice (some ad245) t232.length co16) t232) ∧ Aside0 (Kd.R k34 34 w' w.heap.size (fun k_ => some k_ ≠ ((.slice (some ad245) t232.length co16) : Value).ownBlock ∧ k_ ≠ gb236 ∧ k_ ≠ gb240 ∧ k_ ≠ gb244) (.slice (some ad235) t228.length co14) t228) ∧ Aside0 (Kd.R k34 34 w' w.heap.size (fun k_ => some k_ ≠ ((.slice (some ad245) t232.length co16) : Value).ownBlock ∧ k_ ≠ gb236 ∧ k_ ≠ gb240 ∧ k_ ≠ gb244) (.slice (some ad235) t228.length co14) t228) ∧ Aside0 (Kd.R k34 34 w' w.heap.size (fun k_ => some k_ ≠ ((.slice (some ad245) t232.length co16) : Value).ownBlock ∧ k_ ≠ gb236 ∧ k_ ≠ gb240 ∧ k_ ≠ gb244) (.slice (some ad235) t228.length co14) t228) ∧ Aside0 (w'.heap[gb224]? = some (.cells #[.int .i64 a0_0, .int .i64 a0_1, .int .i64 a0_2, .int .i64 a0_3] 27 (0, 0))) ∧ Aside0 (w'.heap[gb231]? = some (.cells #[.int .i64 t226, .int .i64 t227, (.slice (some ad235) t228.length co14)] 25 (0, 0))) ∧ Aside0 (w'.heap[gb236]? = some (.cells #[.int .i64 ((rd_T34 t228 x28_1).f0), .int .i64 ((rd_T34 t228 x28_1).f1)] 34 (0, 0))) ∧ Aside0 (w'.heap[gb240]? = some (.cells #[.int .i64 t238, .int .i64 t239] 34 (0, 0))) ∧ Aside0 (w'.heap[gb244]? = some (.cells #[.int .i64 t241, .int .i64 t242] 34 (0, 0))) ∧ Aside0 (Below w.heap.size w w'))
              case atStart => exact ⟨(0), (by first | rfl | (simp; done) | (simp [*]; done) | (simp [wrap64]; done) | (congr 2 <;> first | rfl | (unfold wrap64; omega))), H', ⟨Nat.le_refl _⟩, ⟨by (with_reducible repeat (first | apply Kd.R_alloc | apply Kd.R_drewN | apply Kd.R_drew)); exact Kd.R_mono HO_4.out (fun _ hk => ⟨hk.1, ⟨hk.2.1, ⟨hk.2.1, ⟨hk.2.2.1, ⟨hk.2.2.2.1, hk.2.2.2.2⟩⟩⟩⟩⟩)⟩, ⟨by (with_reducible repeat (first | apply Kd.R_alloc | apply Kd.R_drewN | apply Kd.R_drew)); exact HO_26.out⟩, ⟨by (with_reducible repeat (first | apply Kd.R_alloc | apply Kd.R_drewN | apply Kd.R_drew)); exact HO_232002.out⟩, ⟨by (with_reducible repeat (first | apply Kd.R_alloc | apply Kd.R_drewN | apply Kd.R_drew)); exact HO_232002.out⟩, ⟨by (with_reducible repeat (first | refine blk_drewN ?_ _ | refine blk_drew ?_ | refine blk_alloc ?_ _)); exact BK224.out⟩, ⟨by (with_reducible repeat (first | refine blk_drewN ?_ _ | refine blk_drew ?_ | refine blk_alloc ?_ _)); exact BK231.out⟩, ⟨by (with_reducible repeat (first | refine blk_drewN ?_ _ | refine blk_drew ?_ | refine blk_alloc ?_ _)); exact BK236.out⟩, ⟨by (with_reducible repeat (first | refine blk_drewN ?_ _ | refine blk_drew ?_ | refine blk_alloc ?_ _)); exact BK240.out⟩, ⟨by (with_reducible repeat (first | refine blk_drewN ?_ _ | refine blk_drew ?_ | refine blk_alloc ?_ _)); exact BK244.out⟩, ⟨by repeat (first | (with_reducible first | exact HB.out | apply below_alloc | apply pw_below_drewN | apply below_drew1 | refine below_set ?_ GE224.out | refine below_set ?_ GE231.out | refine below_set ?_ GE236.out | refine below_set ?_ GE240.out | refine below_set ?_ GE244.out) | exact HB.out)⟩⟩
              case round =>
               clear H'
               try clear c1
               try clear c2
               try clear p2
               try clear q2
               try clear hx2
               try clear c3
               try clear c4
               try clear c5
               try clear p6
               try clear c13
               try clear c14
               try clear p23
               try clear q23
               try clear hx23
               try clear p24
               try clear q24
               try clear hx24
               try clear c28
               try clear c28b0
               try clear c29
               try clear c29b0
               try clear c31
               try clear c32
               try clear c41
               try clear c42
               try clear c43
               try clear c47
               try clear c48
               try clear c49
               try clear c50
               try clear c54
               try clear hcz33_0
               try clear hcz33_1
               try clear hcz44_0
               try clear hcz44_1
               try clear hcz51_0
               try clear hcz51_1
               try clear hcz55_0
               try clear hcz55_1
               try clear hcz55_2
               try clear hfz33_0
               try clear hfz33_1
               try clear hfz44_0
               try clear hfz44_1
               try clear hfz51_0
               try clear hfz51_1
               try clear hfz55_0
               try clear hfz55_1
               try clear hfz55_2
               try clear hx235_0
               try clear hx235_1
               try clear hx237_0
               try clear hx237_1
               try clear hx245_0
               try clear hx245_1
               try clear p235
               try clear p237
               try clear p245
               try clear q235
               try clear q237
               try clear q245
               obtain ⟨x68_2, rfl, HA, HK2, HO_4, HO_26, HO_66, HO_232002, BK224, BK231, BK236, BK240, BK244, HB⟩ := hrel
               cases gk with
               | zero => exact absurd HA.out (by simp [bagatellelaw04_ShapeNormals.l1])
               | succ k2 =>
                have H := HA.out
                clear HA
                simp only [bagatellelaw04_ShapeNormals.l1] at H
                by_cases c56 : x68_2 < (t228.length : Int)
                ·rw [if_pos c56] at H
                 have c56b0 : decide (x68_2 < (t228.length : Int)) = true := decide_eq_true c56
                 clear c56
                 by_cases c57 : 0 ≤ x68_2
                 ·rw [if_pos c57] at H
                  have c57b0 : decide (0 ≤ x68_2) = true := decide_eq_true c57
                  clear c57
                  by_cases c58 : x68_2 < (t228.length : Int)
                  ·rw [if_pos c58] at H
                   have c58b0 : decide (x68_2 < (t228.length : Int)) = true := decide_eq_true c58
                   clear c58
                   replace H := Option.bind_eq_some_iff.mp H
                   obtain ⟨⟨t248, t249⟩, A590, H⟩ := H
                   replace H : ((vec_Dot.f k2 t241 t242 t248 t249).bind fun t250 => (if t250 > 4294967 then (none) else (bagatellelaw04_ShapeNormals.l1 k2 t232 t228 (t228.length : Int) x28_1 t228 (t228.length : Int) (wrap64 (x68_2 + 1)) t226 t227 t228 ((rd_T34 t228 x28_1).f0) ((rd_T34 t228 x28_1).f1) t241 t242))) = some r := H
                   have A59 := Aside0.mk A590
                   clear A590
                   replace H := Option.bind_eq_some_iff.mp H
                   obtain ⟨t250, A600, H⟩ := H
                   replace H : (if t250 > 4294967 then (none) else (bagatellelaw04_ShapeNormals.l1 k2 t232 t228 (t228.length : Int) x28_1 t228 (t228.length : Int) (wrap64 (x68_2 + 1)) t226 t227 t228 ((rd_T34 t228 x28_1).f0) ((rd_T34 t228 x28_1).f1) t241 t242)) = some r := H
                   have A60 := Aside0.mk A600
                   clear A600
                   by_cases c61 : t250 > 4294967
                   ·rw [if_pos c61] at H
                    exact absurd H (by simp)
                   ·rw [if_neg c61] at H
                    have c61b0 : decide (4294967 < t250) = false := decide_eq_false c61
                    clear c61
                    have H' := Aside0.mk H
                    clear H
                    have p246 : 0 ≤ (x68_2 : Int) := of_decide_eq_true (by first | (with_reducible assumption) | assumption)
                    have q246 : x68_2 < (t228.length : Int) := of_decide_eq_true (by first | (with_reducible assumption) | assumption)
                    obtain ⟨ad246, e246, hx246_0, hx246_1⟩ := at_T34 (Kd.R_reads' HO_66.out).2.2 x68_2 p246 q246
                    obtain rfl : ad235 = ad246 := (by injection e246)
                    replace p246 := eq_true p246
                    replace q246 := eq_true q246
                    try go_wp2_with (first | ((with_reducible refine gate_dst (N := 11) rfl ?_); refine box_event ?hg (N := 11) ?hd (cs := #[.int .i64 0, .int .i64 0]) (t := 34) ?hr ?_; (case hd => rfl); (case hg => rfl); (case hr => first | (go_simp; done) | (go_simp; rfl)); intro gb247 hg w62 hbox hb; have n0_ := Aside0.mk (Kd.R_below (Kd.R_elderB (by (with_reducible repeat (first | apply Kd.R_alloc | apply Kd.R_drewN | apply Kd.R_drew)); exact HO_4.out) gb247 (Nat.le_of_eq hg.symm)) hb); have n1_ := Aside0.mk (Kd.R_below (Kd.R_elderB (by (with_reducible repeat (first | apply Kd.R_alloc | apply Kd.R_drewN | apply Kd.R_drew)); exact HO_26.out) gb247 (Nat.le_of_eq hg.symm)) hb); have n2_ := Aside0.mk (Kd.R_below (Kd.R_elderB (by (with_reducible repeat (first | apply Kd.R_alloc | apply Kd.R_drewN | apply Kd.R_drew)); exact HO_66.out) gb247 (Nat.le_of_eq hg.symm)) hb); have n3_ := Aside0.mk (Kd.R_below (Kd.R_elderB (by (with_reducible repeat (first | apply Kd.R_alloc | apply Kd.R_drewN | apply Kd.R_drew)); exact HO_232002.out) gb247 (Nat.le_of_eq hg.symm)) hb); have n4_ := Aside0.mk (blk_below (g := gb224) (o := .cells #[.int .i64 a0_0, .int .i64 a0_1, .int .i64 a0_2, .int .i64 a0_3] 27 (0, 0)) (by (with_reducible repeat (first | refine blk_drewN ?_ _ | refine blk_drew ?_ | refine blk_alloc ?_ _)); exact BK224.out) hb); have n5_ := Aside0.mk (blk_below (g := gb231) (o := .cells #[.int .i64 t226, .int .i64 t227, .slice (some ad235) t228.length co14] 25 (0, 0)) (by (with_reducible repeat (first | refine blk_drewN ?_ _ | refine blk_drew ?_ | refine blk_alloc ?_ _)); exact BK231.out) hb); have n6_ := Aside0.mk (blk_below (g := gb236) (o := .cells #[.int .i64 ((rd_T34 t228 x28_1).f0), .int .i64 ((rd_T34 t228 x28_1).f1)] 34 (0, 0)) (by (with_reducible repeat (first | refine blk_drewN ?_ _ | refine blk_drew ?_ | refine blk_alloc ?_ _)); exact BK236.out) hb); have n7_ := Aside0.mk (blk_below (g := gb240) (o := .cells #[.int .i64 t238, .int .i64 t239] 34 (0, 0)) (by (with_reducible repeat (first | refine blk_drewN ?_ _ | refine blk_drew ?_ | refine blk_alloc ?_ _)); exact BK240.out) hb); have n8_ := Aside0.mk (blk_below (g := gb244) (o := .cells #[.int .i64 t241, .int .i64 t242] 34 (0, 0)) (by (with_reducible repeat (first | refine blk_drewN ?_ _ | refine blk_drew ?_ | refine blk_alloc ?_ _)); exact BK244.out) hb); have n9_ := Aside0.mk (below_step (by repeat (first | (with_reducible first | exact HB.out | apply below_alloc | apply pw_below_drewN | apply below_drew1 | refine below_set ?_ GE224.out | refine below_set ?_ GE231.out | refine below_set ?_ GE236.out | refine below_set ?_ GE240.out | refine below_set ?_ GE244.out) | exact HB.out)) hb); have n10_ := Aside0.mk (hbox); have n11_ := Aside0.mk ((by rw [hg]; exact (below_size (by repeat (first | (with_reducible first | exact HB.out | apply below_alloc | apply pw_below_drewN | apply below_drew1 | refine below_set ?_ GE224.out | refine below_set ?_ GE231.out | refine below_set ?_ GE236.out | refine below_set ?_ GE240.out | refine below_set ?_ GE244.out) | exact HB.out))) : w.heap.size ≤ gb247)); have n12_ := Aside0.mk ((by rw [hg]; exact (below_size (by repeat (first | (with_reducible first | exact HB.out | apply below_alloc | apply pw_below_drewN | apply below_drew1 | refine below_set ?_ GE224.out | refine below_set ?_ GE231.out | refine below_set ?_ GE236.out | refine below_set ?_ GE240.out | refine below_set ?_ GE244.out) | exact HB.out))) : w.heap.size ≤ gb247)); have n13_ := Aside0.mk ((by rw [hg]; exact Nat.ne_of_lt (blk_lt (g := gb224) (o := .cells #[.int .i64 a0_0, .int .i64 a0_1, .int .i64 a0_2, .int .i64 a0_3] 27 (0, 0)) (by (with_reducible repeat (first | refine blk_drewN ?_ _ | refine blk_drew ?_ | refine blk_alloc ?_ _)); exact BK224.out)) : gb224 ≠ gb247)); have n14_ := Aside0.mk ((by rw [hg]; exact Nat.ne_of_gt (blk_lt (g := gb224) (o := .cells #[.int .i64 a0_0, .int .i64 a0_1, .int .i64 a0_2, .int .i64 a0_3] 27 (0, 0)) (by (with_reducible repeat (first | refine blk_drewN ?_ _ | refine blk_drew ?_ | refine blk_alloc ?_ _)); exact BK224.out)) : gb247 ≠ gb224)); have n15_ := Aside0.mk ((by rw [hg]; exact Nat.ne_of_lt (blk_lt (g := gb231) (o := .cells #[.int .i64 t226, .int .i64 t227, .slice (some ad235) t228.length co14] 25 (0, 0)) (by (with_reducible repeat (first | refine blk_drewN ?_ _ | refine blk_drew ?_ | refine blk_alloc ?_ _)); exact BK231.out)) : gb231 ≠ gb247)); have n16_ := Aside0.mk ((by rw [hg]; exact Nat.ne_of_gt (blk_lt (g := gb231) (o := .cells #[.int .i64 t226, .int .i64 t227, .slice (some ad235) t228.length co14] 25 (0, 0)) (by (with_reducible repeat (first | refine blk_drewN ?_ _ | refine blk_drew ?_ | refine blk_alloc ?_ _)); exact BK231.out)) : gb247 ≠ gb231)); have n17_ := Aside0.mk ((by rw [hg]; exact Nat.ne_of_lt (blk_lt (g := gb236) (o := .cells #[.int .i64 ((rd_T34 t228 x28_1).f0), .int .i64 ((rd_T34 t228 x28_1).f1)] 34 (0, 0)) (by (with_reducible repeat (first | refine blk_drewN ?_ _ | refine blk_drew ?_ | refine blk_alloc ?_ _)); exact BK236.out)) : gb236 ≠ gb247)); have n18_ := Aside0.mk ((by rw [hg]; exact Nat.ne_of_gt (blk_lt (g := gb236) (o := .cells #[.int .i64 ((rd_T34 t228 x28_1).f0), .int .i64 ((rd_T34 t228 x28_1).f1)] 34 (0, 0)) (by (with_reducible repeat (first | refine blk_drewN ?_ _ | refine blk_drew ?_ | refine blk_alloc ?_ _)); exact BK236.out)) : gb247 ≠ gb236)); have n19_ := Aside0.mk ((by rw [hg]; exact Nat.ne_of_lt (blk_lt (g := gb240) (o := .cells #[.int .i64 t238, .int .i64 t239] 34 (0, 0)) (by (with_reducible repeat (first | refine blk_drewN ?_ _ | refine blk_drew ?_ | refine blk_alloc ?_ _)); exact BK240.out)) : gb240 ≠ gb247)); have n20_ := Aside0.mk ((by rw [hg]; exact Nat.ne_of_gt (blk_lt (g := gb240) (o := .cells #[.int .i64 t238, .int .i64 t239] 34 (0, 0)) (by (with_reducible repeat (first | refine blk_drewN ?_ _ | refine blk_drew ?_ | refine blk_alloc ?_ _)); exact BK240.out)) : gb247 ≠ gb240)); have n21_ := Aside0.mk ((by rw [hg]; exact Nat.ne_of_lt (blk_lt (g := gb244) (o := .cells #[.int .i64 t241, .int .i64 t242] 34 (0, 0)) (by (with_reducible repeat (first | refine blk_drewN ?_ _ | refine blk_drew ?_ | refine blk_alloc ?_ _)); exact BK244.out)) : gb244 ≠ gb247)); have n22_ := Aside0.mk ((by rw [hg]; exact Nat.ne_of_gt (blk_lt (g := gb244) (o := .cells #[.int .i64 t241, .int .i64 t242] 34 (0, 0)) (by (with_reducible repeat (first | refine blk_drewN ?_ _ | refine blk_drew ?_ | refine blk_alloc ?_ _)); exact BK244.out)) : gb247 ≠ gb244)); clear HO_4; clear HO_26; clear HO_66; clear HO_232002; clear BK224; clear BK231; clear BK236; clear BK240; clear BK244; clear HB; have HO_4 := n0_; have HO_26 := n1_; have HO_66 := n2_; have HO_232002 := n3_; have BK224 := n4_; have BK231 := n5_; have BK236 := n6_; have BK240 := n7_; have BK244 := n8_; have HB := n9_; have BK247 := n10_; have GW247 := n11_; have GE247 := n12_; have NB224_247 := n13_; have NB247_224 := n14_; have NB231_247 := n15_; have NB247_231 := n16_; have NB236_247 := n17_; have NB247_236 := n18_; have NB240_247 := n19_; have NB247_240 := n20_; have NB244_247 := n21_; have NB247_244 := n22_; clear n0_ n1_ n2_ n3_ n4_ n5_ n6_ n7_ n8_ n9_ n10_ n11_ n12_ n13_ n14_ n15_ n16_ n17_ n18_ n19_ n20_ n21_ n22_; clear hb hbox hg; have hnb63 := NB247_224.out; have hnc63 := NB224_247.out; have hnb64 := NB247_231.out; have hnc64 := NB231_247.out; have hnb65 := NB247_236.out; have hnc65 := NB236_247.out; have hnb66 := NB247_240.out; have hnc66 := NB240_247.out; have hnb67 := NB247_244.out; have hnc67 := NB244_247.out; have hcz68_0 : w62.cell? ⟨gb247, 0, none⟩ = some (.int .i64 0) := (blk_cell BK247.out 0).trans rfl; have hcz68_1 : w62.cell? ⟨gb247, 1, none⟩ = some (.int .i64 0) := (blk_cell BK247.out 1).trans rfl; have hfz68_0 := blk_frozen BK247.out 0; have hfz68_1 := blk_frozen BK247.out 1))
                    have n0_ : Aside0 (Kd.R k34 34 ((w62.setCell ⟨gb247, 0, none⟩ (.int .i64 ((rd_T34 t228 x68_2).f0))).setCell ⟨gb247, 1, none⟩ (.int .i64 ((rd_T34 t228 x68_2).f1))) w.heap.size (fun k_ => some k_ ≠ (.slice (some ad235) t228.length co14 : Value).ownBlock ∧ some k_ ≠ (.slice (some ad235) t228.length co14 : Value).ownBlock ∧ some k_ ≠ (.slice (some ad235) t228.length co14 : Value).ownBlock ∧ k_ ≠ gb236 ∧ k_ ≠ gb240 ∧ k_ ≠ gb244 ∧ k_ ≠ gb247) (.slice (some ad245) t232.length co16) t232) := ⟨by (with_reducible repeat (first | apply Kd.R_alloc | apply Kd.R_drewN | apply Kd.R_drew)); exact Kd.R_mono (Kd.R_far (p := ⟨gb247, 1, none⟩) (Kd.R_far (p := ⟨gb247, 0, none⟩) (Kd.R_mono HO_4.out (fun k_ hk => (⟨hk, hk.2⟩ : _ ∧ k_ ≠ gb247))) (fun _ hk => hk.2) (.int .i64 ((rd_T34 t228 x68_2).f0))) (fun _ hk => hk.2) (.int .i64 ((rd_T34 t228 x68_2).f1))) (fun _ hk => ⟨hk.1.1.1, ⟨hk.1.1.2.1, ⟨hk.1.1.2.2.1, ⟨hk.1.1.2.2.2.1, ⟨hk.1.1.2.2.2.2.1, ⟨hk.1.1.2.2.2.2.2, hk.1.2⟩⟩⟩⟩⟩⟩)⟩
                    have n1_ : Aside0 (Kd.R k34 34 ((w62.setCell ⟨gb247, 0, none⟩ (.int .i64 ((rd_T34 t228 x68_2).f0))).setCell ⟨gb247, 1, none⟩ (.int .i64 ((rd_T34 t228 x68_2).f1))) w.heap.size (fun k_ => some k_ ≠ (.slice (some ad245) t232.length co16 : Value).ownBlock ∧ k_ ≠ gb236 ∧ k_ ≠ gb240 ∧ k_ ≠ gb244 ∧ k_ ≠ gb247) (.slice (some ad235) t228.length co14) t228) := ⟨by (with_reducible repeat (first | apply Kd.R_alloc | apply Kd.R_drewN | apply Kd.R_drew)); exact Kd.R_mono (Kd.R_far (p := ⟨gb247, 1, none⟩) (Kd.R_far (p := ⟨gb247, 0, none⟩) (Kd.R_mono HO_26.out (fun k_ hk => (⟨hk, hk.2⟩ : _ ∧ k_ ≠ gb247))) (fun _ hk => hk.2) (.int .i64 ((rd_T34 t228 x68_2).f0))) (fun _ hk => hk.2) (.int .i64 ((rd_T34 t228 x68_2).f1))) (fun _ hk => ⟨hk.1.1.1, ⟨hk.1.1.2.1, ⟨hk.1.1.2.2.1, ⟨hk.1.1.2.2.2, hk.1.2⟩⟩⟩⟩)⟩
                    have n2_ : Aside0 (Kd.R k34 34 ((w62.setCell ⟨gb247, 0, none⟩ (.int .i64 ((rd_T34 t228 x68_2).f0))).setCell ⟨gb247, 1, none⟩ (.int .i64 ((rd_T34 t228 x68_2).f1))) w.heap.size (fun k_ => some k_ ≠ (.slice (some ad245) t232.length co16 : Value).ownBlock ∧ k_ ≠ gb236 ∧ k_ ≠ gb240 ∧ k_ ≠ gb244 ∧ k_ ≠ gb247) (.slice (some ad235) t228.length co14) t228) := ⟨by (with_reducible repeat (first | apply Kd.R_alloc | apply Kd.R_drewN | apply Kd.R_drew)); exact Kd.R_mono (Kd.R_far (p := ⟨gb247, 1, none⟩) (Kd.R_far (p := ⟨gb247, 0, none⟩) (Kd.R_mono HO_66.out (fun k_ hk => (⟨hk, hk.2⟩ : _ ∧ k_ ≠ gb247))) (fun _ hk => hk.2) (.int .i64 ((rd_T34 t228 x68_2).f0))) (fun _ hk => hk.2) (.int .i64 ((rd_T34 t228 x68_2).f1))) (fun _ hk => ⟨hk.1.1.1, ⟨hk.1.1.2.1, ⟨hk.1.1.2.2.1, ⟨hk.1.1.2.2.2, hk.1.2⟩⟩⟩⟩)⟩
                    have n3_ : Aside0 (Kd.R k34 34 ((w62.setCell ⟨gb247, 0, none⟩ (.int .i64 ((rd_T34 t228 x68_2).f0))).setCell ⟨gb247, 1, none⟩ (.int .i64 ((rd_T34 t228 x68_2).f1))) w.heap.size (fun k_ => some k_ ≠ (.slice (some ad245) t232.length co16 : Value).ownBlock ∧ k_ ≠ gb236 ∧ k_ ≠ gb240 ∧ k_ ≠ gb244 ∧ k_ ≠ gb247) (.slice (some ad235) t228.length co14) t228) := ⟨by (with_reducible repeat (first | apply Kd.R_alloc | apply Kd.R_drewN | apply Kd.R_drew)); exact Kd.R_mono (Kd.R_far (p := ⟨gb247, 1, none⟩) (Kd.R_far (p := ⟨gb247, 0, none⟩) (Kd.R_mono HO_232002.out (fun k_ hk => (⟨hk, hk.2⟩ : _ ∧ k_ ≠ gb247))) (fun _ hk => hk.2) (.int .i64 ((rd_T34 t228 x68_2).f0))) (fun _ hk => hk.2) (.int .i64 ((rd_T34 t228 x68_2).f1))) (fun _ hk => ⟨hk.1.1.1, ⟨hk.1.1.2.1, ⟨hk.1.1.2.2.1, ⟨hk.1.1.2.2.2, hk.1.2⟩⟩⟩⟩)⟩
                    have n4_ : Aside0 (((w62.setCell ⟨gb247, 0, none⟩ (.int .i64 ((rd_T34 t228 x68_2).f0))).setCell ⟨gb247, 1, none⟩ (.int .i64 ((rd_T34 t228 x68_2).f1))).heap[gb224]? = some (.cells #[.int .i64 a0_0, .int .i64 a0_1, .int .i64 a0_2, .int .i64 a0_3] 27 (0, 0))) := ⟨by (with_reducible repeat (first | refine blk_drewN ?_ _ | refine blk_drew ?_ | refine blk_alloc ?_ _)); refine blk_far ?_ NB224_247.out _; (with_reducible repeat (first | refine blk_drewN ?_ _ | refine blk_drew ?_ | refine blk_alloc ?_ _)); refine blk_far ?_ NB224_247.out _; (with_reducible repeat (first | refine blk_drewN ?_ _ | refine blk_drew ?_ | refine blk_alloc ?_ _)); exact BK224.out⟩
                    have n5_ : Aside0 (((w62.setCell ⟨gb247, 0, none⟩ (.int .i64 ((rd_T34 t228 x68_2).f0))).setCell ⟨gb247, 1, none⟩ (.int .i64 ((rd_T34 t228 x68_2).f1))).heap[gb231]? = some (.cells #[.int .i64 t226, .int .i64 t227, .slice (some ad235) t228.length co14] 25 (0, 0))) := ⟨by (with_reducible repeat (first | refine blk_drewN ?_ _ | refine blk_drew ?_ | refine blk_alloc ?_ _)); refine blk_far ?_ NB231_247.out _; (with_reducible repeat (first | refine blk_drewN ?_ _ | refine blk_drew ?_ | refine blk_alloc ?_ _)); refine blk_far ?_ NB231_247.out _; (with_reducible repeat (first | refine blk_drewN ?_ _ | refine blk_drew ?_ | refine blk_alloc ?_ _)); exact BK231.out⟩
                    have n6_ : Aside0 (((w62.setCell ⟨gb247, 0, none⟩ (.int .i64 ((rd_T34 t228 x68_2).f0))).setCell ⟨gb247, 1, none⟩ (.int .i64 ((rd_T34 t228 x68_2).f1))).heap[gb236]? = some (.cells #[.int .i64 ((rd_T34 t228 x28_1).f0), .int .i64 ((rd_T34 t228 x28_1).f1)] 34 (0, 0))) := ⟨by (with_reducible repeat (first | refine blk_drewN ?_ _ | refine blk_drew ?_ | refine blk_alloc ?_ _)); refine blk_far ?_ NB236_247.out _; (with_reducible repeat (first | refine blk_drewN ?_ _ | refine blk_drew ?_ | refine blk_alloc ?_ _)); refine blk_far ?_ NB236_247.out _; (with_reducible repeat (first | refine blk_drewN ?_ _ | refine blk_drew ?_ | refine blk_alloc ?_ _)); exact BK236.out⟩
                    have n7_ : Aside0 (((w62.setCell ⟨gb247, 0, none⟩ (.int .i64 ((rd_T34 t228 x68_2).f0))).setCell ⟨gb247, 1, none⟩ (.int .i64 ((rd_T34 t228 x68_2).f1))).heap[gb240]? = some (.cells #[.int .i64 t238, .int .i64 t239] 34 (0, 0))) := ⟨by (with_reducible repeat (first | refine blk_drewN ?_ _ | refine blk_drew ?_ | refine blk_alloc ?_ _)); refine blk_far ?_ NB240_247.out _; (with_reducible repeat (first | refine blk_drewN ?_ _ | refine blk_drew ?_ | refine blk_alloc ?_ _)); refine blk_far ?_ NB240_247.out _; (with_reducible repeat (first | refine blk_drewN ?_ _ | refine blk_drew ?_ | refine blk_alloc ?_ _)); exact BK240.out⟩
                    have n8_ : Aside0 (((w62.setCell ⟨gb247, 0, none⟩ (.int .i64 ((rd_T34 t228 x68_2).f0))).setCell ⟨gb247, 1, none⟩ (.int .i64 ((rd_T34 t228 x68_2).f1))).heap[gb244]? = some (.cells #[.int .i64 t241, .int .i64 t242] 34 (0, 0))) := ⟨by (with_reducible repeat (first | refine blk_drewN ?_ _ | refine blk_drew ?_ | refine blk_alloc ?_ _)); refine blk_far ?_ NB244_247.out _; (with_reducible repeat (first | refine blk_drewN ?_ _ | refine blk_drew ?_ | refine blk_alloc ?_ _)); refine blk_far ?_ NB244_247.out _; (with_reducible repeat (first | refine blk_drewN ?_ _ | refine blk_drew ?_ | refine blk_alloc ?_ _)); exact BK244.out⟩
                    have n9_ : Aside0 (((w62.setCell ⟨gb247, 0, none⟩ (.int .i64 ((rd_T34 t228 x68_2).f0))).setCell ⟨gb247, 1, none⟩ (.int .i64 ((rd_T34 t228 x68_2).f1))).heap[gb247]? = some (.cells #[.int .i64 ((rd_T34 t228 x68_2).f0), .int .i64 ((rd_T34 t228 x68_2).f1)] 34 (0, 0))) := ⟨by (with_reducible repeat (first | refine blk_drewN ?_ _ | refine blk_drew ?_ | refine blk_alloc ?_ _)); refine blk_put (cs := #[.int .i64 ((rd_T34 t228 x68_2).f0), .int .i64 0]) ?_ 1 _ rfl; (with_reducible repeat (first | refine blk_drewN ?_ _ | refine blk_drew ?_ | refine blk_alloc ?_ _)); refine blk_put (cs := #[.int .i64 0, .int .i64 0]) ?_ 0 _ rfl; (with_reducible repeat (first | refine blk_drewN ?_ _ | refine blk_drew ?_ | refine blk_alloc ?_ _)); exact BK247.out⟩
                    have n10_ : Aside0 (Below w.heap.size w ((w62.setCell ⟨gb247, 0, none⟩ (.int .i64 ((rd_T34 t228 x68_2).f0))).setCell ⟨gb247, 1, none⟩ (.int .i64 ((rd_T34 t228 x68_2).f1)))) := ⟨by repeat (first | (with_reducible first | exact HB.out | apply below_alloc | apply pw_below_drewN | apply below_drew1 | refine below_set ?_ GE224.out | refine below_set ?_ GE231.out | refine below_set ?_ GE236.out | refine below_set ?_ GE240.out | refine below_set ?_ GE244.out | refine below_set ?_ GE247.out) | exact HB.out)⟩
                    (try clear HO_4)
                    (try clear HO_26)
                    (try clear HO_66)
                    (try clear HO_232002)
                    (try clear BK224)
                    (try clear BK231)
                    (try clear BK236)
                    (try clear BK240)
                    (try clear BK244)
                    (try clear BK247)
                    (try clear HB)
                    generalize ((w62.setCell ⟨gb247, 0, none⟩ (.int .i64 ((rd_T34 t228 x68_2).f0))).setCell ⟨gb247, 1, none⟩ (.int .i64 ((rd_T34 t228 x68_2).f1))) = w69 at n0_ n1_ n2_ n3_ n4_ n5_ n6_ n7_ n8_ n9_ n10_ ⊢
                    have HO_4 := n0_
                    have HO_26 := n1_
                    have HO_66 := n2_
                    have HO_232002 := n3_
                    have BK224 := n4_
                    have BK231 := n5_
                    have BK236 := n6_
                    have BK240 := n7_
                    have BK244 := n8_
                    have BK247 := n9_
                    have HB := n10_
                    clear n0_ n1_ n2_ n3_ n4_ n5_ n6_ n7_ n8_ n9_ n10_
                    have n0_ := Aside0.mk (Kd.R_drew HO_4.out)
                    have n1_ := Aside0.mk (Kd.R_drew HO_26.out)
                    have n2_ := Aside0.mk (Kd.R_drew HO_66.out)
                    have n3_ := Aside0.mk (Kd.R_drew HO_232002.out)
                    have n4_ := Aside0.mk (blk_drew BK224.out)
                    have n5_ := Aside0.mk (blk_drew BK231.out)
                    have n6_ := Aside0.mk (blk_drew BK236.out)
                    have n7_ := Aside0.mk (blk_drew BK240.out)
                    have n8_ := Aside0.mk (blk_drew BK244.out)
                    have n9_ := Aside0.mk (blk_drew BK247.out)
                    have n10_ := Aside0.mk (below_drew1 HB.out)
                    clear HO_4
                    clear HO_26
                    clear HO_66
                    clear HO_232002
                    clear BK224
                    clear BK231
                    clear BK236
                    clear BK240
                    clear BK244
                    clear BK247
                    clear HB
                    have HO_4 := n0_
                    have HO_26 := n1_
                    have HO_66 := n2_
                    have HO_232002 := n3_
                    have BK224 := n4_
                    have BK231 := n5_
                    have BK236 := n6_
                    have BK240 := n7_
                    have BK244 := n8_
                    have BK247 := n9_
                    have HB := n10_
                    clear n0_ n1_ n2_ n3_ n4_ n5_ n6_ n7_ n8_ n9_ n10_
                    refine start_ (n := 6) (S := fun w' => w'.cell? ⟨gb244, 0, none⟩ = some (.int .i64 t241) ∧ w'.cell? ⟨gb244, 1, none⟩ = some (.int .i64 t242) ∧ w'.cell? ⟨gb247, 0, none⟩ = some (.int .i64 ((rd_T34 t228 x68_2).f0)) ∧ w'.cell? ⟨gb247, 1, none⟩ = some (.int .i64 ((rd_T34 t228 x68_2).f1)) ∧ w'.cell? ⟨gb236, 0, none⟩ = some (.int .i64 ((rd_T34 t228 x28_1).f0)) ∧ w'.cell? ⟨gb236, 1, none⟩ = some (.int .i64 ((rd_T34 t228 x28_1).f1))) (ds := []) #[O4,O4,O4,O4,O4,O4] (by kernel_rfl) rfl rfl ⟨(blk_cell BK244.out 0).trans rfl, (blk_cell BK244.out 1).trans rfl, (blk_cell BK247.out 0).trans rfl, (blk_cell BK247.out 1).trans rfl, (blk_cell BK236.out 0).trans rfl, (blk_cell BK236.out 1).trans rfl⟩ (fun hHeld => ?_)
                    generalize w69.drew = w70 at HO_4 HO_26 HO_66 HO_232002 BK224 BK231 BK236 BK240 BK244 BK247 HB hHeld ⊢
                    refine take_ (i := 0) (N := some 72) (v := ?_) (a' := ?_) #[I4,O4,O4,O4,O4,O4] rfl rfl (by kernel_rfl) (fun _ _ _ h => h) (Or.inl ⟨by rfl, ?_⟩) hHeld ?_ ?_
                    rotate_left
                    ·rintro w' ⟨s0, s1, s2, s3, s4, s5⟩
                     go_simp
                     with_reducible rfl
                    rotate_left
                    ·simp only [Act.put, List.setIfInBounds_toArray, List.set_cons_zero, List.set_cons_succ, i64_w, i32_w]
                     rfl
                    refine take_ (i := 1) (N := some 73) (v := ?_) (a' := ?_) #[I4,I4,O4,O4,O4,O4] rfl rfl (by kernel_rfl) (fun _ _ _ h => h) (Or.inl ⟨by rfl, ?_⟩) hHeld ?_ ?_
                    rotate_left
                    ·rintro w' ⟨s0, s1, s2, s3, s4, s5⟩
                     go_simp
                     with_reducible rfl
                    rotate_left
                    ·simp only [Act.put, List.setIfInBounds_toArray, List.set_cons_zero, List.set_cons_succ, i64_w, i32_w]
                     rfl
                    refine take_ (i := 2) (N := some 74) (v := ?_) (a' := ?_) #[I4,I4,I4,O4,O4,O4] rfl rfl (by kernel_rfl) (fun _ _ _ h => h) (Or.inl ⟨by rfl, ?_⟩) hHeld ?_ ?_
                    rotate_left
                    ·rintro w' ⟨s0, s1, s2, s3, s4, s5⟩
                     go_simp
                     with_reducible rfl
                    rotate_left
                    ·simp only [Act.put, List.setIfInBounds_toArray, List.set_cons_zero, List.set_cons_succ, i64_w, i32_w]
                     rfl
                    refine one_ (i := 3) (N := some 75) #[I4,I4,I4,I4,O4,O4] rfl rfl (by kernel_rfl) (by decide) (fun K hK => ?_)
                    refine goes_ Try.func13 (by kernel_rfl) rfl #[.agg #[.int .i64 ((rd_T34 t228 x68_2).f0), .int .i64 ((rd_T34 t228 x68_2).f1)], .agg #[.int .i64 ((rd_T34 t228 x28_1).f0), .int .i64 ((rd_T34 t228 x28_1).f1)]] (by rfl) rfl rfl (by (try simp only [List.map_toArray, List.map_cons, List.map_nil]); first | done | rfl | (simp only [List.length_drop, List.length_take]; rfl)) ?_
                    with_reducible refine (vec_Sub.calls k2 ((rd_T34 t228 x68_2).f0) ((rd_T34 t228 x68_2).f1) ((rd_T34 t228 x28_1).f0) ((rd_T34 t228 x28_1).f1) t248 t249 _ A59.out).mono ?_
                    rintro e w71 ⟨rfl, hb⟩
                    refine ⟨_, rfl, ?_⟩
                    have n0_ := Aside0.mk (Kd.R_below (by (with_reducible repeat (first | apply Kd.R_alloc | apply Kd.R_drewN | apply Kd.R_drew)); exact HO_4.out) hb)
                    have n1_ := Aside0.mk (Kd.R_below (by (with_reducible repeat (first | apply Kd.R_alloc | apply Kd.R_drewN | apply Kd.R_drew)); exact HO_26.out) hb)
                    have n2_ := Aside0.mk (Kd.R_below (by (with_reducible repeat (first | apply Kd.R_alloc | apply Kd.R_drewN | apply Kd.R_drew)); exact HO_66.out) hb)
                    have n3_ := Aside0.mk (Kd.R_below (by (with_reducible repeat (first | apply Kd.R_alloc | apply Kd.R_drewN | apply Kd.R_drew)); exact HO_232002.out) hb)
                    have n4_ := Aside0.mk (blk_below (g := gb224) (o := .cells #[.int .i64 a0_0, .int .i64 a0_1, .int .i64 a0_2, .int .i64 a0_3] 27 (0, 0)) (by (with_reducible repeat (first | refine blk_drewN ?_ _ | refine blk_drew ?_ | refine blk_alloc ?_ _)); exact BK224.out) hb)
                    have n5_ := Aside0.mk (blk_below (g := gb231) (o := .cells #[.int .i64 t226, .int .i64 t227, .slice (some ad235) t228.length co14] 25 (0, 0)) (by (with_reducible repeat (first | refine blk_drewN ?_ _ | refine blk_drew ?_ | refine blk_alloc ?_ _)); exact BK231.out) hb)
                    have n6_ := Aside0.mk (blk_below (g := gb236) (o := .cells #[.int .i64 ((rd_T34 t228 x28_1).f0), .int .i64 ((rd_T34 t228 x28_1).f1)] 34 (0, 0)) (by (with_reducible repeat (first | refine blk_drewN ?_ _ | refine blk_drew ?_ | refine blk_alloc ?_ _)); exact BK236.out) hb)
                    have n7_ := Aside0.mk (blk_below (g := gb240) (o := .cells #[.int .i64 t238, .int .i64 t239] 34 (0, 0)) (by (with_reducible repeat (first | refine blk_drewN ?_ _ | refine blk_drew ?_ | refine blk_alloc ?_ _)); exact BK240.out) hb)
                    have n8_ := Aside0.mk (blk_below (g := gb244) (o := .cells #[.int .i64 t241, .int .i64 t242] 34 (0, 0)) (by (with_reducible repeat (first | refine blk_drewN ?_ _ | refine blk_drew ?_ | refine blk_alloc ?_ _)); exact BK244.out) hb)
                    have n9_ := Aside0.mk (blk_below (g := gb247) (o := .cells #[.int .i64 ((rd_T34 t228 x68_2).f0), .int .i64 ((rd_T34 t228 x68_2).f1)] 34 (0, 0)) (by (with_reducible repeat (first | refine blk_drewN ?_ _ | refine blk_drew ?_ | refine blk_alloc ?_ _)); exact BK247.out) hb)
                    have n10_ := Aside0.mk (below_step (by repeat (first | (with_reducible first | exact HB.out | apply below_alloc | apply pw_below_drewN | apply below_drew1 | refine below_set ?_ GE224.out | refine below_set ?_ GE231.out | refine below_set ?_ GE236.out | refine below_set ?_ GE240.out | refine below_set ?_ GE244.out | refine below_set ?_ GE247.out) | exact HB.out)) hb)
                    clear HO_4
                    clear HO_26
                    clear HO_66
                    clear HO_232002
                    clear BK224
                    clear BK231
                    clear BK236
                    clear BK240
                    clear BK244
                    clear BK247
                    clear HB
                    have HO_4 := n0_
                    have HO_26 := n1_
                    have HO_66 := n2_
                    have HO_232002 := n3_
                    have BK224 := n4_
                    have BK231 := n5_
                    have BK236 := n6_
                    have BK240 := n7_
                    have BK244 := n8_
                    have BK247 := n9_
                    have HB := n10_
                    clear n0_ n1_ n2_ n3_ n4_ n5_ n6_ n7_ n8_ n9_ n10_
                    (try clear hb)
                    (try clear hb2)
                    (try clear hk)
                    (try clear hi)
                    refine hK.out _ _ ⟨(blk_cell BK244.out 0).trans rfl, (blk_cell BK244.out 1).trans rfl, (blk_cell BK247.out 0).trans rfl, (blk_cell BK247.out 1).trans rfl, (blk_cell BK236.out 0).trans rfl, (blk_cell BK236.out 1).trans rfl⟩ (fun hHeld => ?_)
                    clear hK K
                    refine norm_ (a' := ?_) ?_ ?_
                    rotate_left
                    ·show Act.put _ (some 75) _ = _
                     simp only [Act.put, List.setIfInBounds_toArray, List.set_cons_zero, List.set_cons_succ, i64_w, i32_w]
                     rfl
                    refine one_ (i := 4) (N := some 76) #[I4,I4,I4,I4,I4,O4] rfl rfl (by kernel_rfl) (by decide) (fun K hK => ?_)
                    refine goes_ Try.func15 (by kernel_rfl) rfl #[.agg #[.int .i64 t241, .int .i64 t242], .agg #[.int .i64 t248, .int .i64 t249]] (by rfl) rfl rfl (by (try simp only [List.map_toArray, List.map_cons, List.map_nil]); first | done | rfl | (simp only [List.length_drop, List.length_take]; rfl)) ?_
                    with_reducible refine (vec_Dot.calls k2 t241 t242 t248 t249 t250 _ A60.out).mono ?_
                    rintro e w72 ⟨rfl, hb⟩
                    refine ⟨_, rfl, ?_⟩
                    have n0_ := Aside0.mk (Kd.R_below (by (with_reducible repeat (first | apply Kd.R_alloc | apply Kd.R_drewN | apply Kd.R_drew)); exact HO_4.out) hb)
                    have n1_ := Aside0.mk (Kd.R_below (by (with_reducible repeat (first | apply Kd.R_alloc | apply Kd.R_drewN | apply Kd.R_drew)); exact HO_26.out) hb)
                    have n2_ := Aside0.mk (Kd.R_below (by (with_reducible repeat (first | apply Kd.R_alloc | apply Kd.R_drewN | apply Kd.R_drew)); exact HO_66.out) hb)
                    have n3_ := Aside0.mk (Kd.R_below (by (with_reducible repeat (first | apply Kd.R_alloc | apply Kd.R_drewN | apply Kd.R_drew)); exact HO_232002.out) hb)
                    have n4_ := Aside0.mk (blk_below (g := gb224) (o := .cells #[.int .i64 a0_0, .int .i64 a0_1, .int .i64 a0_2, .int .i64 a0_3] 27 (0, 0)) (by (with_reducible repeat (first | refine blk_drewN ?_ _ | refine blk_drew ?_ | refine blk_alloc ?_ _)); exact BK224.out) hb)
                    have n5_ := Aside0.mk (blk_below (g := gb231) (o := .cells #[.int .i64 t226, .int .i64 t227, .slice (some ad235) t228.length co14] 25 (0, 0)) (by (with_reducible repeat (first | refine blk_drewN ?_ _ | refine blk_drew ?_ | refine blk_alloc ?_ _)); exact BK231.out) hb)
                    have n6_ := Aside0.mk (blk_below (g := gb236) (o := .cells #[.int .i64 ((rd_T34 t228 x28_1).f0), .int .i64 ((rd_T34 t228 x28_1).f1)] 34 (0, 0)) (by (with_reducible repeat (first | refine blk_drewN ?_ _ | refine blk_drew ?_ | refine blk_alloc ?_ _)); exact BK236.out) hb)
                    have n7_ := Aside0.mk (blk_below (g := gb240) (o := .cells #[.int .i64 t238, .int .i64 t239] 34 (0, 0)) (by (with_reducible repeat (first | refine blk_drewN ?_ _ | refine blk_drew ?_ | refine blk_alloc ?_ _)); exact BK240.out) hb)
                    have n8_ := Aside0.mk (blk_below (g := gb244) (o := .cells #[.int .i64 t241, .int .i64 t242] 34 (0, 0)) (by (with_reducible repeat (first | refine blk_drewN ?_ _ | refine blk_drew ?_ | refine blk_alloc ?_ _)); exact BK244.out) hb)
                    have n9_ := Aside0.mk (blk_below (g := gb247) (o := .cells #[.int .i64 ((rd_T34 t228 x68_2).f0), .int .i64 ((rd_T34 t228 x68_2).f1)] 34 (0, 0)) (by (with_reducible repeat (first | refine blk_drewN ?_ _ | refine blk_drew ?_ | refine blk_alloc ?_ _)); exact BK247.out) hb)
                    have n10_ := Aside0.mk (below_step (by repeat (first | (with_reducible first | exact HB.out | apply below_alloc | apply pw_below_drewN | apply below_drew1 | refine below_set ?_ GE224.out | refine below_set ?_ GE231.out | refine below_set ?_ GE236.out | refine below_set ?_ GE240.out | refine below_set ?_ GE244.out | refine below_set ?_ GE247.out) | exact HB.out)) hb)
                    clear HO_4
                    clear HO_26
                    clear HO_66
                    clear HO_232002
                    clear BK224
                    clear BK231
                    clear BK236
                    clear BK240
                    clear BK244
                    clear BK247
                    clear HB
                    have HO_4 := n0_
                    have HO_26 := n1_
                    have HO_66 := n2_
                    have HO_232002 := n3_
                    have BK224 := n4_
                    have BK231 := n5_
                    have BK236 := n6_
                    have BK240 := n7_
                    have BK244 := n8_
                    have BK247 := n9_
                    have HB := n10_
                    clear n0_ n1_ n2_ n3_ n4_ n5_ n6_ n7_ n8_ n9_ n10_
                    (try clear hb)
                    (try clear hb2)
                    (try clear hk)
                    (try clear hi)
                    refine hK.out _ _ ⟨(blk_cell BK244.out 0).trans rfl, (blk_cell BK244.out 1).trans rfl, (blk_cell BK247.out 0).trans rfl, (blk_cell BK247.out 1).trans rfl, (blk_cell BK236.out 0).trans rfl, (blk_cell BK236.out 1).trans rfl⟩ (fun hHeld => ?_)
                    clear hK K
                    refine norm_ (a' := ?_) ?_ ?_
                    rotate_left
                    ·show Act.put _ (some 76) _ = _
                     simp only [Act.put, List.setIfInBounds_toArray, List.set_cons_zero, List.set_cons_succ, i64_w, i32_w]
                     rfl
                    refine pure_ (i := 5) (N := some 77) (v := ?_) (a' := ?_) #[I4,I4,I4,I4,I4,I4] rfl rfl (by kernel_rfl) (fun _ _ _ h => h) (Or.inl ⟨by rfl, ?_⟩) ?_ ?_
                    rotate_left
                    ·intro w'
                     go_simp
                     with_reducible rfl
                    rotate_left
                    ·simp only [Act.put, List.setIfInBounds_toArray, List.set_cons_zero, List.set_cons_succ, i64_w, i32_w]
                     rfl
                    refine done_ (by kernel_rfl) ?_
                    try go_wp2
                    go_roundg k2
                    case measure => have := HK1.out; have := HK2.out; omega
                    case rel => exact ⟨(wrap64 (x68_2 + 1)), (by first | rfl | (simp; done) | (simp [*]; done) | (simp [wrap64]; done) | (congr 2 <;> first | rfl | (unfold wrap64; omega))), H', ⟨by have := HK1.out; have := HK2.out; omega⟩, ⟨by (with_reducible repeat (first | apply Kd.R_alloc | apply Kd.R_drewN | apply Kd.R_drew)); exact Kd.R_mono HO_4.out (fun _ hk => ⟨hk.1, ⟨hk.2.1, ⟨hk.2.2.1, ⟨hk.2.2.2.1, ⟨hk.2.2.2.2.1, hk.2.2.2.2.2.1⟩⟩⟩⟩⟩)⟩, ⟨by (with_reducible repeat (first | apply Kd.R_alloc | apply Kd.R_drewN | apply Kd.R_drew)); exact Kd.R_mono HO_26.out (fun _ hk => ⟨hk.1, ⟨hk.2.1, ⟨hk.2.2.1, hk.2.2.2.1⟩⟩⟩)⟩, ⟨by (with_reducible repeat (first | apply Kd.R_alloc | apply Kd.R_drewN | apply Kd.R_drew)); exact Kd.R_mono HO_66.out (fun _ hk => ⟨hk.1, ⟨hk.2.1, ⟨hk.2.2.1, hk.2.2.2.1⟩⟩⟩)⟩, ⟨by (with_reducible repeat (first | apply Kd.R_alloc | apply Kd.R_drewN | apply Kd.R_drew)); exact Kd.R_mono HO_232002.out (fun _ hk => ⟨hk.1, ⟨hk.2.1, ⟨hk.2.2.1, hk.2.2.2.1⟩⟩⟩)⟩, ⟨by (with_reducible repeat (first | refine blk_drewN ?_ _ | refine blk_drew ?_ | refine blk_alloc ?_ _)); exact BK224.out⟩, ⟨by (with_reducible repeat (first | refine blk_drewN ?_ _ | refine blk_drew ?_ | refine blk_alloc ?_ _)); exact BK231.out⟩, ⟨by (with_reducible repeat (first | refine blk_drewN ?_ _ | refine blk_drew ?_ | refine blk_alloc ?_ _)); exact BK236.out⟩, ⟨by (with_reducible repeat (first | refine blk_drewN ?_ _ | refine blk_drew ?_ | refine blk_alloc ?_ _)); exact BK240.out⟩, ⟨by (with_reducible repeat (first | refine blk_drewN ?_ _ | refine blk_drew ?_ | refine blk_alloc ?_ _)); exact BK244.out⟩, ⟨by repeat (first | (with_reducible first | exact HB.out | apply below_alloc | apply pw_below_drewN | apply below_drew1 | refine below_set ?_ GE224.out | refine below_set ?_ GE231.out | refine below_set ?_ GE236.out | refine below_set ?_ GE240.out | refine below_set ?_ GE244.out | refine below_set ?_ GE247.out) | exact HB.out)⟩⟩
                  ·rw [if_neg c58] at H
                   exact absurd H (by simp)
                 ·rw [if_neg c57] at H
                  exact absurd H (by simp)
                ·rw [if_neg c56] at H
                 have c56b0 : decide (x68_2 < (t228.length : Int)) = false := decide_eq_false c56
                 clear c56
                 have H' := Aside0.mk H
                 clear H
                 go_wp2
                 go_roundg k2
                 case measure => have := HK1.out; have := HK2.out; omega
                 case rel => exact ⟨(wrap64 (x28_1 + 1)), (by first | rfl | (simp; done) | (simp [*]; done) | (simp [wrap64]; done) | (congr 2 <;> first | rfl | (unfold wrap64; omega))), H', ⟨by have := HK1.out; have := HK2.out; omega⟩, ⟨by (with_reducible repeat (first | apply Kd.R_alloc | apply Kd.R_drewN | apply Kd.R_drew)); exact Kd.R_mono HO_4.out (fun _ hk => ⟨hk.1, hk.2.2.1⟩)⟩, ⟨by (with_reducible repeat (first | apply Kd.R_alloc | apply Kd.R_drewN | apply Kd.R_drew)); exact Kd.R_mono HO_26.out (fun _ hk => hk.1)⟩, ⟨by (with_reducible repeat (first | apply Kd.R_alloc | apply Kd.R_drewN | apply Kd.R_drew)); exact Kd.R_mono HO_232002.out (fun _ hk => hk.1)⟩, ⟨by (with_reducible repeat (first | refine blk_drewN ?_ _ | refine blk_drew ?_ | refine blk_alloc ?_ _)); exact BK224.out⟩, ⟨by (with_reducible repeat (first | refine blk_drewN ?_ _ | refine blk_drew ?_ | refine blk_alloc ?_ _)); exact BK231.out⟩, ⟨by repeat (first | (with_reducible first | exact HB.out | apply below_alloc | apply pw_below_drewN | apply below_drew1 | refine below_set ?_ GE224.out | refine below_set ?_ GE231.out | refine below_set ?_ GE236.out | refine below_set ?_ GE240.out | refine below_set ?_ GE244.out) | exact HB.out)⟩⟩
            ·rw [if_neg c28] at H
             exact absurd H (by simp)
           ·replace c27 := Bool.eq_false_iff.mpr c27
            subst c27
            have H1 : (none) = some r := by rw [if_neg (show ¬ (false = true) by decide)] at H; exact H
            clear H
            have H := H1
            clear H1
            exact absurd H (by simp)
          ·rw [if_neg c24] at H
           exact absurd H (by simp)
         ·rw [if_neg c23] at H
          exact absurd H (by simp)
       ·rw [if_neg c20] at H
        exact absurd H (by simp)
      ·rw [if_neg c19] at H
       exact absurd H (by simp)
     ·rw [if_neg c18] at H
      have c18b0 : decide (x28_1 < (t228.length : Int)) = false := decide_eq_false c18
      clear c18
      replace H := Option.bind_eq_some_iff.mp H
      obtain ⟨t251, A730, H⟩ := H
      replace H : (some ((t251.length : Int) == 0)) = some r := H
      have A73 := Aside0.mk A730
      clear A730
      obtain rfl := Option.some.inj H
      go_wp2_with (first | ((with_reducible refine gate_callee (f := 12) rfl ?_); refine goesL_ (some 80) rfl rfl Try.func12 (by kernel_rfl) rfl #[.slice none 0 0] rfl (by (try simp only [List.map_toArray, List.map_cons, List.map_nil]); first | done | rfl | (simp only [List.length_drop, List.length_take]; rfl)) ?_; (refine (shape_Normals.calls k1 _ _ ([] : List (S34)) t251 _ ?side1 ?side2 A73.out).mono ?_); (case side1 => exact Kd.C_nil _ _); (case side2 => exact Nat.le_refl _); rintro e w74 ⟨v252, rfl, ho0, hb⟩; refine ⟨_, rfl, ?_⟩; have n0_ := Aside0.mk (Kd.R_elder' (by (with_reducible repeat (first | apply Kd.R_alloc | apply Kd.R_drewN | apply Kd.R_drew)); exact HO_4.out) (Kd.R_base ho0) hb); have n1_ := Aside0.mk (Kd.R_elder' (by (with_reducible repeat (first | apply Kd.R_alloc | apply Kd.R_drewN | apply Kd.R_drew)); exact HO_26.out) (Kd.R_base ho0) hb); have n2_ := Aside0.mk (Kd.R_elder' (by (with_reducible repeat (first | apply Kd.R_alloc | apply Kd.R_drewN | apply Kd.R_drew)); exact HO_232002.out) (Kd.R_base ho0) hb); have n3_ := Aside0.mk (Kd.R_lower (Kd.R_new' (Kd.R_new' (Kd.R_new' ho0 (Kd.R_lt (by (with_reducible repeat (first | apply Kd.R_alloc | apply Kd.R_drewN | apply Kd.R_drew)); exact HO_4.out))) (Kd.R_lt (by (with_reducible repeat (first | apply Kd.R_alloc | apply Kd.R_drewN | apply Kd.R_drew)); exact HO_26.out))) (Kd.R_lt (by (with_reducible repeat (first | apply Kd.R_alloc | apply Kd.R_drewN | apply Kd.R_drew)); exact HO_232002.out))) (below_size (by repeat (first | (with_reducible first | exact HB.out | apply below_alloc | apply pw_below_drewN | apply below_drew1 | refine below_set ?_ GE224.out | refine below_set ?_ GE231.out) | exact HB.out)))); have n4_ := Aside0.mk (blk_below (g := gb224) (o := .cells #[.int .i64 a0_0, .int .i64 a0_1, .int .i64 a0_2, .int .i64 a0_3] 27 (0, 0)) (by (with_reducible repeat (first | refine blk_drewN ?_ _ | refine blk_drew ?_ | refine blk_alloc ?_ _)); exact BK224.out) hb); have n5_ := Aside0.mk (blk_below (g := gb231) (o := .cells #[.int .i64 t226, .int .i64 t227, .slice Ao14 t228.length co14] 25 (0, 0)) (by (with_reducible repeat (first | refine blk_drewN ?_ _ | refine blk_drew ?_ | refine blk_alloc ?_ _)); exact BK231.out) hb); have n6_ := Aside0.mk (below_step (by repeat (first | (with_reducible first | exact HB.out | apply below_alloc | apply pw_below_drewN | apply below_drew1 | refine below_set ?_ GE224.out | refine below_set ?_ GE231.out) | exact HB.out)) hb); clear HO_4; clear HO_26; clear HO_232002; clear BK224; clear BK231; clear HB; have HO_4 := n0_; have HO_26 := n1_; have HO_232002 := n2_; have HO253 := n3_; have BK224 := n4_; have BK231 := n5_; have HB := n6_; clear n0_ n1_ n2_ n3_ n4_ n5_ n6_; (try clear hb); (try clear hb2); (try clear hk); (try clear hi); (try clear ho0); obtain ⟨Ao75, co75, eo75⟩ := Kd.R_slice HO253.out; subst eo75))
      go_ret
      exact ⟨by first | rfl | (simp [errW_none, errW_some] <;> rfl) | (simp [*, errW_none, errW_some] <;> rfl) | (simp [wrap64]; done) | (congr 2 <;> first | rfl | (unfold wrap64; omega)), by repeat (first | (with_reducible first | exact HB.out | apply below_alloc | apply pw_below_drewN | apply below_drew1 | refine below_set ?_ GE224.out | refine below_set ?_ GE231.out) | exact HB.out)⟩
  ·rw [if_neg c6] at H
   exact absurd H (by simp)
 ·replace c3 := Bool.eq_false_iff.mpr c3
  subst c3
  have H1 : (none) = some r := by rw [if_neg (show ¬ (false = true) by decide)] at H; exact H
  clear H
  have H := H1
  clear H1
  exact absurd H (by simp)

/-- The one pure statement of bagatellelaw04_ShapeNormals. -/
def bagatellelaw04_ShapeNormals.Pure : Prop := ∀ (a0_0 : Int) (a0_1 : Int) (a0_2 : Int) (a0_3 : Int), (Lit.int .i64 a0_0).wf = true → (Lit.int .i64 a0_1).wf = true → (Lit.int .i64 a0_2).wf = true → (Lit.int .i64 a0_3).wf = true → ∃ k, bagatellelaw04_ShapeNormals.f k a0_0 a0_1 a0_2 a0_3 = some true
theorem bagatellelaw04_ShapeNormals.walk (P : bagatellelaw04_ShapeNormals.Pure) (a0_0 : Int) (a0_1 : Int) (a0_2 : Int) (a0_3 : Int) (w : World) (w0_0 : (Lit.int .i64 a0_0).wf = true) (w0_1 : (Lit.int .i64 a0_1).wf = true) (w0_2 : (Lit.int .i64 a0_2).wf = true) (w0_3 : (Lit.int .i64 a0_3).wf = true) :
  Calls Try.prog 4 #[.agg #[.int .i64 a0_0, .int .i64 a0_1, .int .i64 a0_2, .int .i64 a0_3]] w fun e w' => e = .returned (.bool true) ∧ Below w.heap.size w w' := by
 obtain ⟨k, h⟩ := P a0_0 a0_1 a0_2 a0_3 w0_0 w0_1 w0_2 w0_3
 refine (bagatellelaw04_ShapeNormals.calls k a0_0 a0_1 a0_2 a0_3 true w h).mono ?_
 rintro e w' ⟨rfl, hd⟩
 exact ⟨rfl, hd⟩

end Go.Proofs.Ytbdkcjikphlgfaa.PSh
