-- Printed by a program of this session (wip/tools/myprint.py) out of the translation; Lean checks it.
import Derived.Test.YtlbkpfcidpnhgaaPBox0
import Derived.Test.YtlbkpfcidpnhgaaPBox2
import Derived.Test.YtlbkpfcidpnhgaaPBox3
import Derived.Test.YtlbkpfcidpnhgaaPBox6
import Derived.Test.YtlbkpfcidpnhgaaPBox7
import Derived.Test.YtlbkpfcidpnhgaaPBox8
import Derived.Test.YtlbkpfcidpnhgaaPBox10
namespace Go.Proofs.Ytlbkpfcidpnhgaa.PBo
open Go.RowKit Go.Proofs.YtlbkpfcidpnhgaaW.PrintWords Go.Proofs.YtlbkpfcidpnhgaaW.PrintLast Go.Proofs.YtlbkpfcidpnhgaaW.PrintMore
attribute [local go_sem] max2_int min2_int max_two min_two max_three min_three max_four min_four   -- for this text's walks alone
set_option linter.unusedVariables false
set_option linter.unusedSimpArgs false

attribute [local go_sem high] eqA26
/-! ### bagatellelaw06_BoxReaches: function 6 -/
def bagatellelaw06_BoxReaches.f (k : Nat) (a0_0 : Int) (a0_1 : Int) (a0_2 : Int) (a0_3 : Int) (a0_4 : Int) (a0_5 : Int) (a0_6 : Int) (a1_0 : Int) (a1_1 : Int) : Option (Bool) := (bagatellelaw06_fit.f k).bind fun t340 => (if t340 = true then ((bagatellelaw06_Place_Body.f k a0_0 a0_1 a0_2 a0_3 a0_4 a0_5 a0_6).bind fun bt341 => ((vec_Bring.f a1_0 a1_1 4294967296000).bind fun bt355 => ((box_Of.f k bt341.1 bt341.2.1 bt341.2.2.1 bt341.2.2.2.1 bt341.2.2.2.2.1 bt341.2.2.2.2.2.1 bt341.2.2.2.2.2.2.1 bt341.2.2.2.2.2.2.2.1 bt341.2.2.2.2.2.2.2.2.1 bt341.2.2.2.2.2.2.2.2.2.1 bt341.2.2.2.2.2.2.2.2.2.2).bind fun bt357 => ((shape_Reach.f k bt341.2.2.2.2.2.2.2.2.1 bt341.2.2.2.2.2.2.2.2.2.1 bt341.2.2.2.2.2.2.2.2.2.2).bind fun t362 => ((box_Grow.f k bt341.2.1 bt341.2.2.1 bt341.2.1 bt341.2.2.1 (wrap64 (t362 + 1048576))).bind fun bt363 => ((box_Holds.f bt363.1 bt363.2.1 bt363.2.2.1 bt363.2.2.2 bt357.1 bt357.2.1).bind fun t367 => (if t367 = true then ((shape_Reach.f k bt341.2.2.2.2.2.2.2.2.1 bt341.2.2.2.2.2.2.2.2.2.1 bt341.2.2.2.2.2.2.2.2.2.2).bind fun t368 => ((box_Grow.f k bt341.2.1 bt341.2.2.1 bt341.2.1 bt341.2.2.1 (wrap64 (t368 + 1048576))).bind fun bt369 => ((box_Holds.f bt369.1 bt369.2.1 bt369.2.2.1 bt369.2.2.2 bt357.2.2.1 bt357.2.2.2).bind fun t373 => (if t373 = true then ((vec_Add.f k bt341.2.1 bt341.2.2.1 bt355.1 bt355.2).bind fun bt374 => ((box_Of.f k bt341.1 bt374.1 bt374.2 bt341.2.2.2.1 bt341.2.2.2.2.1 bt341.2.2.2.2.2.1 bt341.2.2.2.2.2.2.1 bt341.2.2.2.2.2.2.2.1 bt341.2.2.2.2.2.2.2.2.1 bt341.2.2.2.2.2.2.2.2.2.1 bt341.2.2.2.2.2.2.2.2.2.2).bind fun bt376 => ((vec_Add.f k bt357.1 bt357.2.1 bt355.1 bt355.2).bind fun bt380 => ((vec_Add.f k bt357.2.2.1 bt357.2.2.2 bt355.1 bt355.2).bind fun bt382 => (some ((bt376.1 == bt380.1 && (bt376.2.1 == bt380.2)) && ((bt376.2.2.1 == bt382.1 && (bt376.2.2.2 == bt382.2))))))))) else (none))))) else (none)))))))) else (none))
theorem bagatellelaw06_BoxReaches.mono : ∀ a0 a1 a2 a3 a4 a5 a6 a7 a8 k, LeO (bagatellelaw06_BoxReaches.f k a0 a1 a2 a3 a4 a5 a6 a7 a8) (bagatellelaw06_BoxReaches.f (k + 1) a0 a1 a2 a3 a4 a5 a6 a7 a8) := by
  intro a0 a1 a2 a3 a4 a5 a6 a7 a8 k
  unfold bagatellelaw06_BoxReaches.f
  repeat' first
      | (with_reducible exact bagatellelaw06_Place_Body.mono _ _ _ _ _ _ _ _)
      | (with_reducible exact bagatellelaw06_fit.mono _)
      | (with_reducible exact box_Grow.mono _ _ _ _ _ _)
      | (with_reducible exact box_Of.mono _ _ _ _ _ _ _ _ _ _ _ _)
      | (with_reducible exact shape_Reach.mono _ _ _ _)
      | (with_reducible exact vec_Add.mono _ _ _ _ _)
      | (with_reducible exact LeO.refl _)
      | (with_reducible exact LeO.none _)
      | (with_reducible refine LeO.ite ?_ ?_)
      | (with_reducible refine LeO.bind ?_ (fun _ => ?_))
      | exact bagatellelaw06_Place_Body.mono _ _ _ _ _ _ _ _
      | exact bagatellelaw06_fit.mono _
      | exact box_Grow.mono _ _ _ _ _ _
      | exact box_Of.mono _ _ _ _ _ _ _ _ _ _ _ _
      | exact shape_Reach.mono _ _ _ _
      | exact vec_Add.mono _ _ _ _ _
      | exact LeO.none _
      | refine LeO.ite ?_ ?_
      | refine LeO.bind ?_ (fun _ => ?_)
def bagatellelaw06_BoxReaches.T6 : Bool × List (List Nat × List Nat) := (true, [([], []), ([0], [0]), ([], []), ([2], [2]), ([1, 3], [1, 3]), ([], []), ([5], [5]), ([6], [6]), ([7], [7]), ([4, 8, 7], [4, 8]), ([], []), ([10], [10]), ([9, 11, 9], [9, 11]), ([12], [12]), ([13, 12], [13]), ([14], [14]), ([15, 14], [14, 15]), ([14], [14]), ([17, 14], [14, 17]), ([16, 18, 14], [14, 16, 18]), ([14], [14]), ([20, 14], [14, 20]), ([21, 14, 14], [14, 21]), ([22, 14], [14, 22]), ([19, 23, 22, 14], [14, 19, 23]), ([14], [14]), ([25, 14], [14, 25]), ([24, 26, 24, 14], [14, 24, 26]), ([27, 14], [14, 27]), ([14, 28], [14, 28])])
def bagatellelaw06_BoxReaches.B6 : List Nat := [0, 1, 0, 4, 15, 0, 32, 96, 224, 511, 0, 1024, 4095, 8191, 16383, 32767, 65535, 32767, 163839, 524287, 32767, 1081343, 3178495, 7372799, 16777215, 32767, 33587199, 134217727, 268435455, 536870911]
theorem bagatellelaw06_BoxReaches.tab6 : rtab .any (opsOf Try.f6 6) = bagatellelaw06_BoxReaches.T6 := by kernel_rfl
theorem bagatellelaw06_BoxReaches.bits6 : waitsOk bagatellelaw06_BoxReaches.T6.2 bagatellelaw06_BoxReaches.B6 = true := by kernel_rfl
def bagatellelaw06_BoxReaches.T9 : Bool × List (List Nat × List Nat) := (true, [([], []), ([0], [0]), ([], []), ([2], [2]), ([], []), ([3, 4, 1], [3, 4]), ([], []), ([6], [6]), ([], []), ([7, 8, 5], [7, 8]), ([5, 9], [5, 9]), ([1, 10], [1, 10]), ([11, 9, 0, 1, 2, 3, 4, 5, 6, 7, 8, 9, 10, 11], [11])])
def bagatellelaw06_BoxReaches.B9 : List Nat := [0, 1, 0, 4, 0, 31, 0, 64, 0, 511, 1023, 2047, 4095]
theorem bagatellelaw06_BoxReaches.tab9 : rtab .any (opsOf Try.f6 9) = bagatellelaw06_BoxReaches.T9 := by kernel_rfl
theorem bagatellelaw06_BoxReaches.bits9 : waitsOk bagatellelaw06_BoxReaches.T9.2 bagatellelaw06_BoxReaches.B9 = true := by kernel_rfl
set_option maxHeartbeats 8000000 in
set_option maxRecDepth 100000 in
theorem bagatellelaw06_BoxReaches.calls (k : Nat) (a0_0 : Int) (a0_1 : Int) (a0_2 : Int) (a0_3 : Int) (a0_4 : Int) (a0_5 : Int) (a0_6 : Int) (a1_0 : Int) (a1_1 : Int) (r : Bool) (w : World) (h : bagatellelaw06_BoxReaches.f k a0_0 a0_1 a0_2 a0_3 a0_4 a0_5 a0_6 a1_0 a1_1 = some r) :
    Calls Try.prog 6 #[.agg #[.int .i64 a0_0, .int .i64 a0_1, .int .i64 a0_2, .int .i64 a0_3, .int .i64 a0_4, .int .i64 a0_5, .int .i64 a0_6], .agg #[.int .i64 a1_0, .int .i64 a1_1]] w fun e w' => e = .returned (.bool r) ∧ Below w.heap.size w w' := by
  have hu34 := Try.underlying34
  have hu24 := Try.underlying24
  have hu39 := Try.underlying39
  have hu26 := Try.underlying26
  have hu37 := Try.underlying37
  have HB := Aside0.mk (Below.refl w.heap.size w)
  have H : ((bagatellelaw06_fit.f k).bind fun t340 => (if t340 = true then ((bagatellelaw06_Place_Body.f k a0_0 a0_1 a0_2 a0_3 a0_4 a0_5 a0_6).bind fun bt341 => ((vec_Bring.f a1_0 a1_1 4294967296000).bind fun bt355 => ((box_Of.f k bt341.1 bt341.2.1 bt341.2.2.1 bt341.2.2.2.1 bt341.2.2.2.2.1 bt341.2.2.2.2.2.1 bt341.2.2.2.2.2.2.1 bt341.2.2.2.2.2.2.2.1 bt341.2.2.2.2.2.2.2.2.1 bt341.2.2.2.2.2.2.2.2.2.1 bt341.2.2.2.2.2.2.2.2.2.2).bind fun bt357 => ((shape_Reach.f k bt341.2.2.2.2.2.2.2.2.1 bt341.2.2.2.2.2.2.2.2.2.1 bt341.2.2.2.2.2.2.2.2.2.2).bind fun t362 => ((box_Grow.f k bt341.2.1 bt341.2.2.1 bt341.2.1 bt341.2.2.1 (wrap64 (t362 + 1048576))).bind fun bt363 => ((box_Holds.f bt363.1 bt363.2.1 bt363.2.2.1 bt363.2.2.2 bt357.1 bt357.2.1).bind fun t367 => (if t367 = true then ((shape_Reach.f k bt341.2.2.2.2.2.2.2.2.1 bt341.2.2.2.2.2.2.2.2.2.1 bt341.2.2.2.2.2.2.2.2.2.2).bind fun t368 => ((box_Grow.f k bt341.2.1 bt341.2.2.1 bt341.2.1 bt341.2.2.1 (wrap64 (t368 + 1048576))).bind fun bt369 => ((box_Holds.f bt369.1 bt369.2.1 bt369.2.2.1 bt369.2.2.2 bt357.2.2.1 bt357.2.2.2).bind fun t373 => (if t373 = true then ((vec_Add.f k bt341.2.1 bt341.2.2.1 bt355.1 bt355.2).bind fun bt374 => ((box_Of.f k bt341.1 bt374.1 bt374.2 bt341.2.2.2.1 bt341.2.2.2.2.1 bt341.2.2.2.2.2.1 bt341.2.2.2.2.2.2.1 bt341.2.2.2.2.2.2.2.1 bt341.2.2.2.2.2.2.2.2.1 bt341.2.2.2.2.2.2.2.2.2.1 bt341.2.2.2.2.2.2.2.2.2.2).bind fun bt376 => ((vec_Add.f k bt357.1 bt357.2.1 bt355.1 bt355.2).bind fun bt380 => ((vec_Add.f k bt357.2.2.1 bt357.2.2.2 bt355.1 bt355.2).bind fun bt382 => (some ((bt376.1 == bt380.1 && (bt376.2.1 == bt380.2)) && ((bt376.2.2.1 == bt382.1 && (bt376.2.2.2 == bt382.2))))))))) else (none))))) else (none)))))))) else (none))) = some r := h
  clear h
  replace H := Option.bind_eq_some_iff.mp H
  obtain ⟨t340, A30, H⟩ := H
  replace H : (if t340 = true then ((bagatellelaw06_Place_Body.f k a0_0 a0_1 a0_2 a0_3 a0_4 a0_5 a0_6).bind fun bt341 => ((vec_Bring.f a1_0 a1_1 4294967296000).bind fun bt355 => ((box_Of.f k bt341.1 bt341.2.1 bt341.2.2.1 bt341.2.2.2.1 bt341.2.2.2.2.1 bt341.2.2.2.2.2.1 bt341.2.2.2.2.2.2.1 bt341.2.2.2.2.2.2.2.1 bt341.2.2.2.2.2.2.2.2.1 bt341.2.2.2.2.2.2.2.2.2.1 bt341.2.2.2.2.2.2.2.2.2.2).bind fun bt357 => ((shape_Reach.f k bt341.2.2.2.2.2.2.2.2.1 bt341.2.2.2.2.2.2.2.2.2.1 bt341.2.2.2.2.2.2.2.2.2.2).bind fun t362 => ((box_Grow.f k bt341.2.1 bt341.2.2.1 bt341.2.1 bt341.2.2.1 (wrap64 (t362 + 1048576))).bind fun bt363 => ((box_Holds.f bt363.1 bt363.2.1 bt363.2.2.1 bt363.2.2.2 bt357.1 bt357.2.1).bind fun t367 => (if t367 = true then ((shape_Reach.f k bt341.2.2.2.2.2.2.2.2.1 bt341.2.2.2.2.2.2.2.2.2.1 bt341.2.2.2.2.2.2.2.2.2.2).bind fun t368 => ((box_Grow.f k bt341.2.1 bt341.2.2.1 bt341.2.1 bt341.2.2.1 (wrap64 (t368 + 1048576))).bind fun bt369 => ((box_Holds.f bt369.1 bt369.2.1 bt369.2.2.1 bt369.2.2.2 bt357.2.2.1 bt357.2.2.2).bind fun t373 => (if t373 = true then ((vec_Add.f k bt341.2.1 bt341.2.2.1 bt355.1 bt355.2).bind fun bt374 => ((box_Of.f k bt341.1 bt374.1 bt374.2 bt341.2.2.2.1 bt341.2.2.2.2.1 bt341.2.2.2.2.2.1 bt341.2.2.2.2.2.2.1 bt341.2.2.2.2.2.2.2.1 bt341.2.2.2.2.2.2.2.2.1 bt341.2.2.2.2.2.2.2.2.2.1 bt341.2.2.2.2.2.2.2.2.2.2).bind fun bt376 => ((vec_Add.f k bt357.1 bt357.2.1 bt355.1 bt355.2).bind fun bt380 => ((vec_Add.f k bt357.2.2.1 bt357.2.2.2 bt355.1 bt355.2).bind fun bt382 => (some ((bt376.1 == bt380.1 && (bt376.2.1 == bt380.2)) && ((bt376.2.2.1 == bt382.1 && (bt376.2.2.2 == bt382.2))))))))) else (none))))) else (none)))))))) else (none)) = some r := H
  have A3 := Aside0.mk A30
  clear A30
  by_cases c4 : t340 = true
  · subst c4
    have H1 : ((bagatellelaw06_Place_Body.f k a0_0 a0_1 a0_2 a0_3 a0_4 a0_5 a0_6).bind fun bt341 => ((vec_Bring.f a1_0 a1_1 4294967296000).bind fun bt355 => ((box_Of.f k bt341.1 bt341.2.1 bt341.2.2.1 bt341.2.2.2.1 bt341.2.2.2.2.1 bt341.2.2.2.2.2.1 bt341.2.2.2.2.2.2.1 bt341.2.2.2.2.2.2.2.1 bt341.2.2.2.2.2.2.2.2.1 bt341.2.2.2.2.2.2.2.2.2.1 bt341.2.2.2.2.2.2.2.2.2.2).bind fun bt357 => ((shape_Reach.f k bt341.2.2.2.2.2.2.2.2.1 bt341.2.2.2.2.2.2.2.2.2.1 bt341.2.2.2.2.2.2.2.2.2.2).bind fun t362 => ((box_Grow.f k bt341.2.1 bt341.2.2.1 bt341.2.1 bt341.2.2.1 (wrap64 (t362 + 1048576))).bind fun bt363 => ((box_Holds.f bt363.1 bt363.2.1 bt363.2.2.1 bt363.2.2.2 bt357.1 bt357.2.1).bind fun t367 => (if t367 = true then ((shape_Reach.f k bt341.2.2.2.2.2.2.2.2.1 bt341.2.2.2.2.2.2.2.2.2.1 bt341.2.2.2.2.2.2.2.2.2.2).bind fun t368 => ((box_Grow.f k bt341.2.1 bt341.2.2.1 bt341.2.1 bt341.2.2.1 (wrap64 (t368 + 1048576))).bind fun bt369 => ((box_Holds.f bt369.1 bt369.2.1 bt369.2.2.1 bt369.2.2.2 bt357.2.2.1 bt357.2.2.2).bind fun t373 => (if t373 = true then ((vec_Add.f k bt341.2.1 bt341.2.2.1 bt355.1 bt355.2).bind fun bt374 => ((box_Of.f k bt341.1 bt374.1 bt374.2 bt341.2.2.2.1 bt341.2.2.2.2.1 bt341.2.2.2.2.2.1 bt341.2.2.2.2.2.2.1 bt341.2.2.2.2.2.2.2.1 bt341.2.2.2.2.2.2.2.2.1 bt341.2.2.2.2.2.2.2.2.2.1 bt341.2.2.2.2.2.2.2.2.2.2).bind fun bt376 => ((vec_Add.f k bt357.1 bt357.2.1 bt355.1 bt355.2).bind fun bt380 => ((vec_Add.f k bt357.2.2.1 bt357.2.2.2 bt355.1 bt355.2).bind fun bt382 => (some ((bt376.1 == bt380.1 && (bt376.2.1 == bt380.2)) && ((bt376.2.2.1 == bt382.1 && (bt376.2.2.2 == bt382.2))))))))) else (none))))) else (none)))))))) = some r := by rw [if_pos rfl] at H; exact H
    clear H
    have H := H1
    clear H1
    replace H := Option.bind_eq_some_iff.mp H
    obtain ⟨⟨t341, t342, t343, t344, t345, t346, t347, t348, t349, t350, t351⟩, A50, H⟩ := H
    replace H : ((vec_Bring.f a1_0 a1_1 4294967296000).bind fun bt355 => ((box_Of.f k t341 t342 t343 t344 t345 t346 t347 t348 t349 t350 t351).bind fun bt357 => ((shape_Reach.f k t349 t350 t351).bind fun t362 => ((box_Grow.f k t342 t343 t342 t343 (wrap64 (t362 + 1048576))).bind fun bt363 => ((box_Holds.f bt363.1 bt363.2.1 bt363.2.2.1 bt363.2.2.2 bt357.1 bt357.2.1).bind fun t367 => (if t367 = true then ((shape_Reach.f k t349 t350 t351).bind fun t368 => ((box_Grow.f k t342 t343 t342 t343 (wrap64 (t368 + 1048576))).bind fun bt369 => ((box_Holds.f bt369.1 bt369.2.1 bt369.2.2.1 bt369.2.2.2 bt357.2.2.1 bt357.2.2.2).bind fun t373 => (if t373 = true then ((vec_Add.f k t342 t343 bt355.1 bt355.2).bind fun bt374 => ((box_Of.f k t341 bt374.1 bt374.2 t344 t345 t346 t347 t348 t349 t350 t351).bind fun bt376 => ((vec_Add.f k bt357.1 bt357.2.1 bt355.1 bt355.2).bind fun bt380 => ((vec_Add.f k bt357.2.2.1 bt357.2.2.2 bt355.1 bt355.2).bind fun bt382 => (some ((bt376.1 == bt380.1 && (bt376.2.1 == bt380.2)) && ((bt376.2.2.1 == bt382.1 && (bt376.2.2.2 == bt382.2))))))))) else (none))))) else (none))))))) = some r := H
    have A5 := Aside0.mk A50
    clear A50
    replace H := Option.bind_eq_some_iff.mp H
    obtain ⟨⟨t355, t356⟩, A60, H⟩ := H
    replace H : ((box_Of.f k t341 t342 t343 t344 t345 t346 t347 t348 t349 t350 t351).bind fun bt357 => ((shape_Reach.f k t349 t350 t351).bind fun t362 => ((box_Grow.f k t342 t343 t342 t343 (wrap64 (t362 + 1048576))).bind fun bt363 => ((box_Holds.f bt363.1 bt363.2.1 bt363.2.2.1 bt363.2.2.2 bt357.1 bt357.2.1).bind fun t367 => (if t367 = true then ((shape_Reach.f k t349 t350 t351).bind fun t368 => ((box_Grow.f k t342 t343 t342 t343 (wrap64 (t368 + 1048576))).bind fun bt369 => ((box_Holds.f bt369.1 bt369.2.1 bt369.2.2.1 bt369.2.2.2 bt357.2.2.1 bt357.2.2.2).bind fun t373 => (if t373 = true then ((vec_Add.f k t342 t343 t355 t356).bind fun bt374 => ((box_Of.f k t341 bt374.1 bt374.2 t344 t345 t346 t347 t348 t349 t350 t351).bind fun bt376 => ((vec_Add.f k bt357.1 bt357.2.1 t355 t356).bind fun bt380 => ((vec_Add.f k bt357.2.2.1 bt357.2.2.2 t355 t356).bind fun bt382 => (some ((bt376.1 == bt380.1 && (bt376.2.1 == bt380.2)) && ((bt376.2.2.1 == bt382.1 && (bt376.2.2.2 == bt382.2))))))))) else (none))))) else (none)))))) = some r := H
    have A6 := Aside0.mk A60
    clear A60
    replace H := Option.bind_eq_some_iff.mp H
    obtain ⟨⟨t357, t358, t359, t360⟩, A70, H⟩ := H
    replace H : ((shape_Reach.f k t349 t350 t351).bind fun t362 => ((box_Grow.f k t342 t343 t342 t343 (wrap64 (t362 + 1048576))).bind fun bt363 => ((box_Holds.f bt363.1 bt363.2.1 bt363.2.2.1 bt363.2.2.2 t357 t358).bind fun t367 => (if t367 = true then ((shape_Reach.f k t349 t350 t351).bind fun t368 => ((box_Grow.f k t342 t343 t342 t343 (wrap64 (t368 + 1048576))).bind fun bt369 => ((box_Holds.f bt369.1 bt369.2.1 bt369.2.2.1 bt369.2.2.2 t359 t360).bind fun t373 => (if t373 = true then ((vec_Add.f k t342 t343 t355 t356).bind fun bt374 => ((box_Of.f k t341 bt374.1 bt374.2 t344 t345 t346 t347 t348 t349 t350 t351).bind fun bt376 => ((vec_Add.f k t357 t358 t355 t356).bind fun bt380 => ((vec_Add.f k t359 t360 t355 t356).bind fun bt382 => (some ((bt376.1 == bt380.1 && (bt376.2.1 == bt380.2)) && ((bt376.2.2.1 == bt382.1 && (bt376.2.2.2 == bt382.2))))))))) else (none))))) else (none))))) = some r := H
    have A7 := Aside0.mk A70
    clear A70
    replace H := Option.bind_eq_some_iff.mp H
    obtain ⟨t362, A80, H⟩ := H
    replace H : ((box_Grow.f k t342 t343 t342 t343 (wrap64 (t362 + 1048576))).bind fun bt363 => ((box_Holds.f bt363.1 bt363.2.1 bt363.2.2.1 bt363.2.2.2 t357 t358).bind fun t367 => (if t367 = true then ((shape_Reach.f k t349 t350 t351).bind fun t368 => ((box_Grow.f k t342 t343 t342 t343 (wrap64 (t368 + 1048576))).bind fun bt369 => ((box_Holds.f bt369.1 bt369.2.1 bt369.2.2.1 bt369.2.2.2 t359 t360).bind fun t373 => (if t373 = true then ((vec_Add.f k t342 t343 t355 t356).bind fun bt374 => ((box_Of.f k t341 bt374.1 bt374.2 t344 t345 t346 t347 t348 t349 t350 t351).bind fun bt376 => ((vec_Add.f k t357 t358 t355 t356).bind fun bt380 => ((vec_Add.f k t359 t360 t355 t356).bind fun bt382 => (some ((bt376.1 == bt380.1 && (bt376.2.1 == bt380.2)) && ((bt376.2.2.1 == bt382.1 && (bt376.2.2.2 == bt382.2))))))))) else (none))))) else (none)))) = some r := H
    have A8 := Aside0.mk A80
    clear A80
    replace H := Option.bind_eq_some_iff.mp H
    obtain ⟨⟨t363, t364, t365, t366⟩, A90, H⟩ := H
    replace H : ((box_Holds.f t363 t364 t365 t366 t357 t358).bind fun t367 => (if t367 = true then ((shape_Reach.f k t349 t350 t351).bind fun t368 => ((box_Grow.f k t342 t343 t342 t343 (wrap64 (t368 + 1048576))).bind fun bt369 => ((box_Holds.f bt369.1 bt369.2.1 bt369.2.2.1 bt369.2.2.2 t359 t360).bind fun t373 => (if t373 = true then ((vec_Add.f k t342 t343 t355 t356).bind fun bt374 => ((box_Of.f k t341 bt374.1 bt374.2 t344 t345 t346 t347 t348 t349 t350 t351).bind fun bt376 => ((vec_Add.f k t357 t358 t355 t356).bind fun bt380 => ((vec_Add.f k t359 t360 t355 t356).bind fun bt382 => (some ((bt376.1 == bt380.1 && (bt376.2.1 == bt380.2)) && ((bt376.2.2.1 == bt382.1 && (bt376.2.2.2 == bt382.2))))))))) else (none))))) else (none))) = some r := H
    have A9 := Aside0.mk A90
    clear A90
    replace H := Option.bind_eq_some_iff.mp H
    obtain ⟨t367, A100, H⟩ := H
    replace H : (if t367 = true then ((shape_Reach.f k t349 t350 t351).bind fun t368 => ((box_Grow.f k t342 t343 t342 t343 (wrap64 (t368 + 1048576))).bind fun bt369 => ((box_Holds.f bt369.1 bt369.2.1 bt369.2.2.1 bt369.2.2.2 t359 t360).bind fun t373 => (if t373 = true then ((vec_Add.f k t342 t343 t355 t356).bind fun bt374 => ((box_Of.f k t341 bt374.1 bt374.2 t344 t345 t346 t347 t348 t349 t350 t351).bind fun bt376 => ((vec_Add.f k t357 t358 t355 t356).bind fun bt380 => ((vec_Add.f k t359 t360 t355 t356).bind fun bt382 => (some ((bt376.1 == bt380.1 && (bt376.2.1 == bt380.2)) && ((bt376.2.2.1 == bt382.1 && (bt376.2.2.2 == bt382.2))))))))) else (none))))) else (none)) = some r := H
    have A10 := Aside0.mk A100
    clear A100
    by_cases c11 : t367 = true
    · subst c11
      have H1 : ((shape_Reach.f k t349 t350 t351).bind fun t368 => ((box_Grow.f k t342 t343 t342 t343 (wrap64 (t368 + 1048576))).bind fun bt369 => ((box_Holds.f bt369.1 bt369.2.1 bt369.2.2.1 bt369.2.2.2 t359 t360).bind fun t373 => (if t373 = true then ((vec_Add.f k t342 t343 t355 t356).bind fun bt374 => ((box_Of.f k t341 bt374.1 bt374.2 t344 t345 t346 t347 t348 t349 t350 t351).bind fun bt376 => ((vec_Add.f k t357 t358 t355 t356).bind fun bt380 => ((vec_Add.f k t359 t360 t355 t356).bind fun bt382 => (some ((bt376.1 == bt380.1 && (bt376.2.1 == bt380.2)) && ((bt376.2.2.1 == bt382.1 && (bt376.2.2.2 == bt382.2))))))))) else (none))))) = some r := by rw [if_pos rfl] at H; exact H
      clear H
      have H := H1
      clear H1
      replace H := Option.bind_eq_some_iff.mp H
      obtain ⟨t368, A120, H⟩ := H
      replace H : ((box_Grow.f k t342 t343 t342 t343 (wrap64 (t368 + 1048576))).bind fun bt369 => ((box_Holds.f bt369.1 bt369.2.1 bt369.2.2.1 bt369.2.2.2 t359 t360).bind fun t373 => (if t373 = true then ((vec_Add.f k t342 t343 t355 t356).bind fun bt374 => ((box_Of.f k t341 bt374.1 bt374.2 t344 t345 t346 t347 t348 t349 t350 t351).bind fun bt376 => ((vec_Add.f k t357 t358 t355 t356).bind fun bt380 => ((vec_Add.f k t359 t360 t355 t356).bind fun bt382 => (some ((bt376.1 == bt380.1 && (bt376.2.1 == bt380.2)) && ((bt376.2.2.1 == bt382.1 && (bt376.2.2.2 == bt382.2))))))))) else (none)))) = some r := H
      have A12 := Aside0.mk A120
      clear A120
      replace H := Option.bind_eq_some_iff.mp H
      obtain ⟨⟨t369, t370, t371, t372⟩, A130, H⟩ := H
      replace H : ((box_Holds.f t369 t370 t371 t372 t359 t360).bind fun t373 => (if t373 = true then ((vec_Add.f k t342 t343 t355 t356).bind fun bt374 => ((box_Of.f k t341 bt374.1 bt374.2 t344 t345 t346 t347 t348 t349 t350 t351).bind fun bt376 => ((vec_Add.f k t357 t358 t355 t356).bind fun bt380 => ((vec_Add.f k t359 t360 t355 t356).bind fun bt382 => (some ((bt376.1 == bt380.1 && (bt376.2.1 == bt380.2)) && ((bt376.2.2.1 == bt382.1 && (bt376.2.2.2 == bt382.2))))))))) else (none))) = some r := H
      have A13 := Aside0.mk A130
      clear A130
      replace H := Option.bind_eq_some_iff.mp H
      obtain ⟨t373, A140, H⟩ := H
      replace H : (if t373 = true then ((vec_Add.f k t342 t343 t355 t356).bind fun bt374 => ((box_Of.f k t341 bt374.1 bt374.2 t344 t345 t346 t347 t348 t349 t350 t351).bind fun bt376 => ((vec_Add.f k t357 t358 t355 t356).bind fun bt380 => ((vec_Add.f k t359 t360 t355 t356).bind fun bt382 => (some ((bt376.1 == bt380.1 && (bt376.2.1 == bt380.2)) && ((bt376.2.2.1 == bt382.1 && (bt376.2.2.2 == bt382.2))))))))) else (none)) = some r := H
      have A14 := Aside0.mk A140
      clear A140
      by_cases c15 : t373 = true
      · subst c15
        have H1 : ((vec_Add.f k t342 t343 t355 t356).bind fun bt374 => ((box_Of.f k t341 bt374.1 bt374.2 t344 t345 t346 t347 t348 t349 t350 t351).bind fun bt376 => ((vec_Add.f k t357 t358 t355 t356).bind fun bt380 => ((vec_Add.f k t359 t360 t355 t356).bind fun bt382 => (some ((bt376.1 == bt380.1 && (bt376.2.1 == bt380.2)) && ((bt376.2.2.1 == bt382.1 && (bt376.2.2.2 == bt382.2))))))))) = some r := by rw [if_pos rfl] at H; exact H
        clear H
        have H := H1
        clear H1
        replace H := Option.bind_eq_some_iff.mp H
        obtain ⟨⟨t374, t375⟩, A160, H⟩ := H
        replace H : ((box_Of.f k t341 t374 t375 t344 t345 t346 t347 t348 t349 t350 t351).bind fun bt376 => ((vec_Add.f k t357 t358 t355 t356).bind fun bt380 => ((vec_Add.f k t359 t360 t355 t356).bind fun bt382 => (some ((bt376.1 == bt380.1 && (bt376.2.1 == bt380.2)) && ((bt376.2.2.1 == bt382.1 && (bt376.2.2.2 == bt382.2)))))))) = some r := H
        have A16 := Aside0.mk A160
        clear A160
        replace H := Option.bind_eq_some_iff.mp H
        obtain ⟨⟨t376, t377, t378, t379⟩, A170, H⟩ := H
        replace H : ((vec_Add.f k t357 t358 t355 t356).bind fun bt380 => ((vec_Add.f k t359 t360 t355 t356).bind fun bt382 => (some ((t376 == bt380.1 && (t377 == bt380.2)) && ((t378 == bt382.1 && (t379 == bt382.2))))))) = some r := H
        have A17 := Aside0.mk A170
        clear A170
        replace H := Option.bind_eq_some_iff.mp H
        obtain ⟨⟨t380, t381⟩, A180, H⟩ := H
        replace H : ((vec_Add.f k t359 t360 t355 t356).bind fun bt382 => (some ((t376 == t380 && (t377 == t381)) && ((t378 == bt382.1 && (t379 == bt382.2)))))) = some r := H
        have A18 := Aside0.mk A180
        clear A180
        replace H := Option.bind_eq_some_iff.mp H
        obtain ⟨⟨t382, t383⟩, A190, H⟩ := H
        replace H : (some ((t376 == t380 && (t377 == t381)) && ((t378 == t382 && (t379 == t383))))) = some r := H
        have A19 := Aside0.mk A190
        clear A190
        obtain rfl := Option.some.inj H
        go_enter Try.func6, Try.ntmps6
        try go_wp2_with (first | ((with_reducible refine gate_dst (N := 2) rfl ?_); refine box_event ?hg (N := 2) ?hd (cs := #[.int .i64 a0_0, .int .i64 a0_1, .int .i64 a0_2, .int .i64 a0_3, .int .i64 a0_4, .int .i64 a0_5, .int .i64 a0_6]) (t := 34) ?hr ?_; (case hd => rfl); (case hg => rfl); (case hr => first | (go_simp; done) | (go_simp; rfl)); intro gb338 hg w20 hbox hb; have n0_ := Aside0.mk (below_step (by repeat (first | (with_reducible first | exact HB.out | apply below_alloc | apply pw_below_drewN | apply below_drew1) | exact HB.out)) hb); have n1_ := Aside0.mk (hbox); have n2_ := Aside0.mk ((by rw [hg]; exact (below_size (by repeat (first | (with_reducible first | exact HB.out | apply below_alloc | apply pw_below_drewN | apply below_drew1) | exact HB.out))) : w.heap.size ≤ gb338)); have n3_ := Aside0.mk ((by rw [hg]; exact (below_size (by repeat (first | (with_reducible first | exact HB.out | apply below_alloc | apply pw_below_drewN | apply below_drew1) | exact HB.out))) : w.heap.size ≤ gb338)); clear HB; have HB := n0_; have BK338 := n1_; have GW338 := n2_; have GE338 := n3_; clear n0_ n1_ n2_ n3_; clear hb hbox hg) | ((with_reducible refine gate_dst (N := 3) rfl ?_); refine box_event ?hg (N := 3) ?hd (cs := #[.int .i64 a1_0, .int .i64 a1_1]) (t := 24) ?hr ?_; (case hd => rfl); (case hg => rfl); (case hr => first | (go_simp; done) | (go_simp; rfl)); intro gb339 hg w21 hbox hb; have n0_ := Aside0.mk (blk_below (g := gb338) (o := .cells #[.int .i64 a0_0, .int .i64 a0_1, .int .i64 a0_2, .int .i64 a0_3, .int .i64 a0_4, .int .i64 a0_5, .int .i64 a0_6] 34 (0, 0)) (by (with_reducible repeat (first | refine blk_drewN ?_ _ | refine blk_drew ?_ | refine blk_alloc ?_ _)); exact BK338.out) hb); have n1_ := Aside0.mk (below_step (by repeat (first | (with_reducible first | exact HB.out | apply below_alloc | apply pw_below_drewN | apply below_drew1 | refine below_set ?_ GE338.out) | exact HB.out)) hb); have n2_ := Aside0.mk (hbox); have n3_ := Aside0.mk ((by rw [hg]; exact (below_size (by repeat (first | (with_reducible first | exact HB.out | apply below_alloc | apply pw_below_drewN | apply below_drew1 | refine below_set ?_ GE338.out) | exact HB.out))) : w.heap.size ≤ gb339)); have n4_ := Aside0.mk ((by rw [hg]; exact (below_size (by repeat (first | (with_reducible first | exact HB.out | apply below_alloc | apply pw_below_drewN | apply below_drew1 | refine below_set ?_ GE338.out) | exact HB.out))) : w.heap.size ≤ gb339)); have n5_ := Aside0.mk ((by rw [hg]; exact Nat.ne_of_lt (blk_lt (g := gb338) (o := .cells #[.int .i64 a0_0, .int .i64 a0_1, .int .i64 a0_2, .int .i64 a0_3, .int .i64 a0_4, .int .i64 a0_5, .int .i64 a0_6] 34 (0, 0)) (by (with_reducible repeat (first | refine blk_drewN ?_ _ | refine blk_drew ?_ | refine blk_alloc ?_ _)); exact BK338.out)) : gb338 ≠ gb339)); have n6_ := Aside0.mk ((by rw [hg]; exact Nat.ne_of_gt (blk_lt (g := gb338) (o := .cells #[.int .i64 a0_0, .int .i64 a0_1, .int .i64 a0_2, .int .i64 a0_3, .int .i64 a0_4, .int .i64 a0_5, .int .i64 a0_6] 34 (0, 0)) (by (with_reducible repeat (first | refine blk_drewN ?_ _ | refine blk_drew ?_ | refine blk_alloc ?_ _)); exact BK338.out)) : gb339 ≠ gb338)); clear BK338; clear HB; have BK338 := n0_; have HB := n1_; have BK339 := n2_; have GW339 := n3_; have GE339 := n4_; have NB338_339 := n5_; have NB339_338 := n6_; clear n0_ n1_ n2_ n3_ n4_ n5_ n6_; clear hb hbox hg) | ((with_reducible refine gate_callee (f := 7) rfl ?_); refine goesL_ (some 7) rfl rfl Try.func7 (by kernel_rfl) rfl #[] rfl (by (try simp only [List.map_toArray, List.map_cons, List.map_nil]); first | done | rfl | (simp only [List.length_drop, List.length_take]; rfl)) ?_; (with_reducible refine (bagatellelaw06_fit.calls k  true _ A3.out).mono ?_); rintro e w22 ⟨rfl, hb⟩; refine ⟨_, rfl, ?_⟩; have n0_ := Aside0.mk (blk_below (g := gb338) (o := .cells #[.int .i64 a0_0, .int .i64 a0_1, .int .i64 a0_2, .int .i64 a0_3, .int .i64 a0_4, .int .i64 a0_5, .int .i64 a0_6] 34 (0, 0)) (by (with_reducible repeat (first | refine blk_drewN ?_ _ | refine blk_drew ?_ | refine blk_alloc ?_ _)); exact BK338.out) hb); have n1_ := Aside0.mk (blk_below (g := gb339) (o := .cells #[.int .i64 a1_0, .int .i64 a1_1] 24 (0, 0)) (by (with_reducible repeat (first | refine blk_drewN ?_ _ | refine blk_drew ?_ | refine blk_alloc ?_ _)); exact BK339.out) hb); have n2_ := Aside0.mk (below_step (by repeat (first | (with_reducible first | exact HB.out | apply below_alloc | apply pw_below_drewN | apply below_drew1 | refine below_set ?_ GE338.out | refine below_set ?_ GE339.out) | exact HB.out)) hb); clear BK338; clear BK339; clear HB; have BK338 := n0_; have BK339 := n1_; have HB := n2_; clear n0_ n1_ n2_; (try clear hb); (try clear hb2); (try clear hk); (try clear hi); have hnb23 := NB338_339.out; have hnc23 := NB339_338.out; have hcz24_0 : w22.cell? ⟨gb338, 0, none⟩ = some (.int .i64 a0_0) := (blk_cell BK338.out 0).trans rfl; have hcz24_1 : w22.cell? ⟨gb338, 1, none⟩ = some (.int .i64 a0_1) := (blk_cell BK338.out 1).trans rfl; have hcz24_2 : w22.cell? ⟨gb338, 2, none⟩ = some (.int .i64 a0_2) := (blk_cell BK338.out 2).trans rfl; have hcz24_3 : w22.cell? ⟨gb338, 3, none⟩ = some (.int .i64 a0_3) := (blk_cell BK338.out 3).trans rfl; have hcz24_4 : w22.cell? ⟨gb338, 4, none⟩ = some (.int .i64 a0_4) := (blk_cell BK338.out 4).trans rfl; have hcz24_5 : w22.cell? ⟨gb338, 5, none⟩ = some (.int .i64 a0_5) := (blk_cell BK338.out 5).trans rfl; have hcz24_6 : w22.cell? ⟨gb338, 6, none⟩ = some (.int .i64 a0_6) := (blk_cell BK338.out 6).trans rfl; have hfz24_0 := blk_frozen BK338.out 0; have hfz24_1 := blk_frozen BK338.out 1; have hfz24_2 := blk_frozen BK338.out 2; have hfz24_3 := blk_frozen BK338.out 3; have hfz24_4 := blk_frozen BK338.out 4; have hfz24_5 := blk_frozen BK338.out 5; have hfz24_6 := blk_frozen BK338.out 6) | ((with_reducible refine gate_callee (f := 11) rfl ?_); refine goesL_ (some 10) rfl rfl Try.func11 (by kernel_rfl) rfl #[.agg #[.int .i64 a0_0, .int .i64 a0_1, .int .i64 a0_2, .int .i64 a0_3, .int .i64 a0_4, .int .i64 a0_5, .int .i64 a0_6]] rfl (by (try simp only [List.map_toArray, List.map_cons, List.map_nil]); first | done | rfl | (simp only [List.length_drop, List.length_take]; rfl)) ?_; (with_reducible refine (bagatellelaw06_Place_Body.calls k a0_0 a0_1 a0_2 a0_3 a0_4 a0_5 a0_6 t341 t342 t343 t344 t345 t346 t347 t348 t349 t350 t351 _ A5.out).mono ?_); rintro e w25 ⟨v352, rfl, ho0, hb⟩; refine ⟨_, rfl, ?_⟩; have n0_ := Aside0.mk (Kd.R_lower (Kd.R_newB ho0 (g := gb339) (o := .cells #[.int .i64 a1_0, .int .i64 a1_1] 24 (0, 0)) (by (with_reducible repeat (first | refine blk_drewN ?_ _ | refine blk_drew ?_ | refine blk_alloc ?_ _)); exact BK339.out)) (below_size (by repeat (first | (with_reducible first | exact HB.out | apply below_alloc | apply pw_below_drewN | apply below_drew1 | refine below_set ?_ GE338.out | refine below_set ?_ GE339.out) | exact HB.out)))); have n1_ := Aside0.mk (blk_below (g := gb338) (o := .cells #[.int .i64 a0_0, .int .i64 a0_1, .int .i64 a0_2, .int .i64 a0_3, .int .i64 a0_4, .int .i64 a0_5, .int .i64 a0_6] 34 (0, 0)) (by (with_reducible repeat (first | refine blk_drewN ?_ _ | refine blk_drew ?_ | refine blk_alloc ?_ _)); exact BK338.out) hb); have n2_ := Aside0.mk (blk_below (g := gb339) (o := .cells #[.int .i64 a1_0, .int .i64 a1_1] 24 (0, 0)) (by (with_reducible repeat (first | refine blk_drewN ?_ _ | refine blk_drew ?_ | refine blk_alloc ?_ _)); exact BK339.out) hb); have n3_ := Aside0.mk (below_step (by repeat (first | (with_reducible first | exact HB.out | apply below_alloc | apply pw_below_drewN | apply below_drew1 | refine below_set ?_ GE338.out | refine below_set ?_ GE339.out) | exact HB.out)) hb); clear BK338; clear BK339; clear HB; have HO353 := n0_; have BK338 := n1_; have BK339 := n2_; have HB := n3_; clear n0_ n1_ n2_ n3_; (try clear hb); (try clear hb2); (try clear hk); (try clear hi); (try clear ho0)) | ((with_reducible refine gate_dst (N := 5) rfl ?_); refine box_event ?hg (N := 5) ?hd (cs := #[.int .i64 0, .int .i64 0, .int .i64 0, .int .i64 0, .int .i64 0, .int .i64 0, .int .i64 0, .int .i64 0, .int .i64 0, .int .i64 0, .slice none 0 0]) (t := 39) ?hr ?_; (case hd => rfl); (case hg => rfl); (case hr => first | (go_simp; done) | (go_simp; rfl)); intro gb354 hg w26 hbox hb; have n0_ := Aside0.mk (Kd.R_below (by (with_reducible repeat (first | apply Kd.R_alloc | apply Kd.R_drewN | apply Kd.R_drew)); exact HO353.out) hb); have n1_ := Aside0.mk (blk_below (g := gb338) (o := .cells #[.int .i64 a0_0, .int .i64 a0_1, .int .i64 a0_2, .int .i64 a0_3, .int .i64 a0_4, .int .i64 a0_5, .int .i64 a0_6] 34 (0, 0)) (by (with_reducible repeat (first | refine blk_drewN ?_ _ | refine blk_drew ?_ | refine blk_alloc ?_ _)); exact BK338.out) hb); have n2_ := Aside0.mk (blk_below (g := gb339) (o := .cells #[.int .i64 a1_0, .int .i64 a1_1] 24 (0, 0)) (by (with_reducible repeat (first | refine blk_drewN ?_ _ | refine blk_drew ?_ | refine blk_alloc ?_ _)); exact BK339.out) hb); have n3_ := Aside0.mk (below_step (by repeat (first | (with_reducible first | exact HB.out | apply below_alloc | apply pw_below_drewN | apply below_drew1 | refine below_set ?_ GE338.out | refine below_set ?_ GE339.out) | exact HB.out)) hb); have n4_ := Aside0.mk (hbox); have n5_ := Aside0.mk ((by rw [hg]; exact (below_size (by repeat (first | (with_reducible first | exact HB.out | apply below_alloc | apply pw_below_drewN | apply below_drew1 | refine below_set ?_ GE338.out | refine below_set ?_ GE339.out) | exact HB.out))) : w.heap.size ≤ gb354)); have n6_ := Aside0.mk ((by rw [hg]; exact (below_size (by repeat (first | (with_reducible first | exact HB.out | apply below_alloc | apply pw_below_drewN | apply below_drew1 | refine below_set ?_ GE338.out | refine below_set ?_ GE339.out) | exact HB.out))) : w.heap.size ≤ gb354)); have n7_ := Aside0.mk ((by rw [hg]; exact Nat.ne_of_lt (blk_lt (g := gb338) (o := .cells #[.int .i64 a0_0, .int .i64 a0_1, .int .i64 a0_2, .int .i64 a0_3, .int .i64 a0_4, .int .i64 a0_5, .int .i64 a0_6] 34 (0, 0)) (by (with_reducible repeat (first | refine blk_drewN ?_ _ | refine blk_drew ?_ | refine blk_alloc ?_ _)); exact BK338.out)) : gb338 ≠ gb354)); have n8_ := Aside0.mk ((by rw [hg]; exact Nat.ne_of_gt (blk_lt (g := gb338) (o := .cells #[.int .i64 a0_0, .int .i64 a0_1, .int .i64 a0_2, .int .i64 a0_3, .int .i64 a0_4, .int .i64 a0_5, .int .i64 a0_6] 34 (0, 0)) (by (with_reducible repeat (first | refine blk_drewN ?_ _ | refine blk_drew ?_ | refine blk_alloc ?_ _)); exact BK338.out)) : gb354 ≠ gb338)); have n9_ := Aside0.mk ((by rw [hg]; exact Nat.ne_of_lt (blk_lt (g := gb339) (o := .cells #[.int .i64 a1_0, .int .i64 a1_1] 24 (0, 0)) (by (with_reducible repeat (first | refine blk_drewN ?_ _ | refine blk_drew ?_ | refine blk_alloc ?_ _)); exact BK339.out)) : gb339 ≠ gb354)); have n10_ := Aside0.mk ((by rw [hg]; exact Nat.ne_of_gt (blk_lt (g := gb339) (o := .cells #[.int .i64 a1_0, .int .i64 a1_1] 24 (0, 0)) (by (with_reducible repeat (first | refine blk_drewN ?_ _ | refine blk_drew ?_ | refine blk_alloc ?_ _)); exact BK339.out)) : gb354 ≠ gb339)); clear HO353; clear BK338; clear BK339; clear HB; have HO353 := n0_; have BK338 := n1_; have BK339 := n2_; have HB := n3_; have BK354 := n4_; have GW354 := n5_; have GE354 := n6_; have NB338_354 := n7_; have NB354_338 := n8_; have NB339_354 := n9_; have NB354_339 := n10_; clear n0_ n1_ n2_ n3_ n4_ n5_ n6_ n7_ n8_ n9_ n10_; clear hb hbox hg; have hnb27 := NB354_338.out; have hnc27 := NB338_354.out; have hnb28 := NB354_339.out; have hnc28 := NB339_354.out; have hcz29_0 : w26.cell? ⟨gb354, 0, none⟩ = some (.int .i64 0) := (blk_cell BK354.out 0).trans rfl; have hcz29_1 : w26.cell? ⟨gb354, 1, none⟩ = some (.int .i64 0) := (blk_cell BK354.out 1).trans rfl; have hcz29_2 : w26.cell? ⟨gb354, 2, none⟩ = some (.int .i64 0) := (blk_cell BK354.out 2).trans rfl; have hcz29_3 : w26.cell? ⟨gb354, 3, none⟩ = some (.int .i64 0) := (blk_cell BK354.out 3).trans rfl; have hcz29_4 : w26.cell? ⟨gb354, 4, none⟩ = some (.int .i64 0) := (blk_cell BK354.out 4).trans rfl; have hcz29_5 : w26.cell? ⟨gb354, 5, none⟩ = some (.int .i64 0) := (blk_cell BK354.out 5).trans rfl; have hcz29_6 : w26.cell? ⟨gb354, 6, none⟩ = some (.int .i64 0) := (blk_cell BK354.out 6).trans rfl; have hcz29_7 : w26.cell? ⟨gb354, 7, none⟩ = some (.int .i64 0) := (blk_cell BK354.out 7).trans rfl; have hcz29_8 : w26.cell? ⟨gb354, 8, none⟩ = some (.int .i64 0) := (blk_cell BK354.out 8).trans rfl; have hcz29_9 : w26.cell? ⟨gb354, 9, none⟩ = some (.int .i64 0) := (blk_cell BK354.out 9).trans rfl; have hcz29_10 : w26.cell? ⟨gb354, 10, none⟩ = some (.slice none 0 0) := (blk_cell BK354.out 10).trans rfl; have hfz29_0 := blk_frozen BK354.out 0; have hfz29_1 := blk_frozen BK354.out 1; have hfz29_2 := blk_frozen BK354.out 2; have hfz29_3 := blk_frozen BK354.out 3; have hfz29_4 := blk_frozen BK354.out 4; have hfz29_5 := blk_frozen BK354.out 5; have hfz29_6 := blk_frozen BK354.out 6; have hfz29_7 := blk_frozen BK354.out 7; have hfz29_8 := blk_frozen BK354.out 8; have hfz29_9 := blk_frozen BK354.out 9; have hfz29_10 := blk_frozen BK354.out 10; obtain ⟨Ao30, co30, eo30⟩ := Kd.R_slice HO353.out; subst eo30; have hcz31_0 : w26.cell? ⟨gb339, 0, none⟩ = some (.int .i64 a1_0) := (blk_cell BK339.out 0).trans rfl; have hcz31_1 : w26.cell? ⟨gb339, 1, none⟩ = some (.int .i64 a1_1) := (blk_cell BK339.out 1).trans rfl; have hfz31_0 := blk_frozen BK339.out 0; have hfz31_1 := blk_frozen BK339.out 1) | ((with_reducible refine gate_callee (f := 19) rfl ?_); refine goesL_ (some 12) rfl rfl Try.func19 (by kernel_rfl) rfl #[.agg #[.int .i64 a1_0, .int .i64 a1_1], .int .i64 4294967296000] rfl (by (try simp only [List.map_toArray, List.map_cons, List.map_nil]); first | done | rfl | (simp only [List.length_drop, List.length_take]; rfl)) ?_; (with_reducible refine (vec_Bring.calls a1_0 a1_1 4294967296000 t355 t356 _ A6.out).mono ?_); rintro e w32 ⟨rfl, hb⟩; refine ⟨_, rfl, ?_⟩; have n0_ := Aside0.mk (Kd.R_below (by (with_reducible repeat (first | apply Kd.R_alloc | apply Kd.R_drewN | apply Kd.R_drew)); exact (Kd.R_mono (Kd.R_far (p := ⟨gb354, 10, none⟩) (Kd.R_far (p := ⟨gb354, 9, none⟩) (Kd.R_far (p := ⟨gb354, 8, none⟩) (Kd.R_far (p := ⟨gb354, 7, none⟩) (Kd.R_far (p := ⟨gb354, 6, none⟩) (Kd.R_far (p := ⟨gb354, 5, none⟩) (Kd.R_far (p := ⟨gb354, 4, none⟩) (Kd.R_far (p := ⟨gb354, 3, none⟩) (Kd.R_far (p := ⟨gb354, 2, none⟩) (Kd.R_far (p := ⟨gb354, 1, none⟩) (Kd.R_far (p := ⟨gb354, 0, none⟩) (Kd.R_types HO353.out BK354.out (by decide)) (fun _ hk => hk.2) (.int .i64 t341)) (fun _ hk => hk.2) (.int .i64 t342)) (fun _ hk => hk.2) (.int .i64 t343)) (fun _ hk => hk.2) (.int .i64 t344)) (fun _ hk => hk.2) (.int .i64 t345)) (fun _ hk => hk.2) (.int .i64 t346)) (fun _ hk => hk.2) (.int .i64 t347)) (fun _ hk => hk.2) (.int .i64 t348)) (fun _ hk => hk.2) (.int .i64 t349)) (fun _ hk => hk.2) (.int .i64 t350)) (fun _ hk => hk.2) (.slice Ao30 t351.length co30)) (fun _ h_ => h_.1))) hb); have n1_ := Aside0.mk (blk_below (g := gb338) (o := .cells #[.int .i64 a0_0, .int .i64 a0_1, .int .i64 a0_2, .int .i64 a0_3, .int .i64 a0_4, .int .i64 a0_5, .int .i64 a0_6] 34 (0, 0)) (by (with_reducible repeat (first | refine blk_drewN ?_ _ | refine blk_drew ?_ | refine blk_alloc ?_ _)); refine blk_far ?_ NB338_354.out _; (with_reducible repeat (first | refine blk_drewN ?_ _ | refine blk_drew ?_ | refine blk_alloc ?_ _)); refine blk_far ?_ NB338_354.out _; (with_reducible repeat (first | refine blk_drewN ?_ _ | refine blk_drew ?_ | refine blk_alloc ?_ _)); refine blk_far ?_ NB338_354.out _; (with_reducible repeat (first | refine blk_drewN ?_ _ | refine blk_drew ?_ | refine blk_alloc ?_ _)); refine blk_far ?_ NB338_354.out _; (with_reducible repeat (first | refine blk_drewN ?_ _ | refine blk_drew ?_ | refine blk_alloc ?_ _)); refine blk_far ?_ NB338_354.out _; (with_reducible repeat (first | refine blk_drewN ?_ _ | refine blk_drew ?_ | refine blk_alloc ?_ _)); refine blk_far ?_ NB338_354.out _; (with_reducible repeat (first | refine blk_drewN ?_ _ | refine blk_drew ?_ | refine blk_alloc ?_ _)); refine blk_far ?_ NB338_354.out _; (with_reducible repeat (first | refine blk_drewN ?_ _ | refine blk_drew ?_ | refine blk_alloc ?_ _)); refine blk_far ?_ NB338_354.out _; (with_reducible repeat (first | refine blk_drewN ?_ _ | refine blk_drew ?_ | refine blk_alloc ?_ _)); refine blk_far ?_ NB338_354.out _; (with_reducible repeat (first | refine blk_drewN ?_ _ | refine blk_drew ?_ | refine blk_alloc ?_ _)); refine blk_far ?_ NB338_354.out _; (with_reducible repeat (first | refine blk_drewN ?_ _ | refine blk_drew ?_ | refine blk_alloc ?_ _)); refine blk_far ?_ NB338_354.out _; (with_reducible repeat (first | refine blk_drewN ?_ _ | refine blk_drew ?_ | refine blk_alloc ?_ _)); exact BK338.out) hb); have n2_ := Aside0.mk (blk_below (g := gb339) (o := .cells #[.int .i64 a1_0, .int .i64 a1_1] 24 (0, 0)) (by (with_reducible repeat (first | refine blk_drewN ?_ _ | refine blk_drew ?_ | refine blk_alloc ?_ _)); refine blk_far ?_ NB339_354.out _; (with_reducible repeat (first | refine blk_drewN ?_ _ | refine blk_drew ?_ | refine blk_alloc ?_ _)); refine blk_far ?_ NB339_354.out _; (with_reducible repeat (first | refine blk_drewN ?_ _ | refine blk_drew ?_ | refine blk_alloc ?_ _)); refine blk_far ?_ NB339_354.out _; (with_reducible repeat (first | refine blk_drewN ?_ _ | refine blk_drew ?_ | refine blk_alloc ?_ _)); refine blk_far ?_ NB339_354.out _; (with_reducible repeat (first | refine blk_drewN ?_ _ | refine blk_drew ?_ | refine blk_alloc ?_ _)); refine blk_far ?_ NB339_354.out _; (with_reducible repeat (first | refine blk_drewN ?_ _ | refine blk_drew ?_ | refine blk_alloc ?_ _)); refine blk_far ?_ NB339_354.out _; (with_reducible repeat (first | refine blk_drewN ?_ _ | refine blk_drew ?_ | refine blk_alloc ?_ _)); refine blk_far ?_ NB339_354.out _; (with_reducible repeat (first | refine blk_drewN ?_ _ | refine blk_drew ?_ | refine blk_alloc ?_ _)); refine blk_far ?_ NB339_354.out _; (with_reducible repeat (first | refine blk_drewN ?_ _ | refine blk_drew ?_ | refine blk_alloc ?_ _)); refine blk_far ?_ NB339_354.out _; (with_reducible repeat (first | refine blk_drewN ?_ _ | refine blk_drew ?_ | refine blk_alloc ?_ _)); refine blk_far ?_ NB339_354.out _; (with_reducible repeat (first | refine blk_drewN ?_ _ | refine blk_drew ?_ | refine blk_alloc ?_ _)); refine blk_far ?_ NB339_354.out _; (with_reducible repeat (first | refine blk_drewN ?_ _ | refine blk_drew ?_ | refine blk_alloc ?_ _)); exact BK339.out) hb); have n3_ := Aside0.mk (blk_below (g := gb354) (o := .cells #[.int .i64 t341, .int .i64 t342, .int .i64 t343, .int .i64 t344, .int .i64 t345, .int .i64 t346, .int .i64 t347, .int .i64 t348, .int .i64 t349, .int .i64 t350, .slice Ao30 t351.length co30] 39 (0, 0)) (by (with_reducible repeat (first | refine blk_drewN ?_ _ | refine blk_drew ?_ | refine blk_alloc ?_ _)); refine blk_put (cs := #[.int .i64 t341, .int .i64 t342, .int .i64 t343, .int .i64 t344, .int .i64 t345, .int .i64 t346, .int .i64 t347, .int .i64 t348, .int .i64 t349, .int .i64 t350, .slice none 0 0]) ?_ 10 _ rfl; (with_reducible repeat (first | refine blk_drewN ?_ _ | refine blk_drew ?_ | refine blk_alloc ?_ _)); refine blk_put (cs := #[.int .i64 t341, .int .i64 t342, .int .i64 t343, .int .i64 t344, .int .i64 t345, .int .i64 t346, .int .i64 t347, .int .i64 t348, .int .i64 t349, .int .i64 0, .slice none 0 0]) ?_ 9 _ rfl; (with_reducible repeat (first | refine blk_drewN ?_ _ | refine blk_drew ?_ | refine blk_alloc ?_ _)); refine blk_put (cs := #[.int .i64 t341, .int .i64 t342, .int .i64 t343, .int .i64 t344, .int .i64 t345, .int .i64 t346, .int .i64 t347, .int .i64 t348, .int .i64 0, .int .i64 0, .slice none 0 0]) ?_ 8 _ rfl; (with_reducible repeat (first | refine blk_drewN ?_ _ | refine blk_drew ?_ | refine blk_alloc ?_ _)); refine blk_put (cs := #[.int .i64 t341, .int .i64 t342, .int .i64 t343, .int .i64 t344, .int .i64 t345, .int .i64 t346, .int .i64 t347, .int .i64 0, .int .i64 0, .int .i64 0, .slice none 0 0]) ?_ 7 _ rfl; (with_reducible repeat (first | refine blk_drewN ?_ _ | refine blk_drew ?_ | refine blk_alloc ?_ _)); refine blk_put (cs := #[.int .i64 t341, .int .i64 t342, .int .i64 t343, .int .i64 t344, .int .i64 t345, .int .i64 t346, .int .i64 0, .int .i64 0, .int .i64 0, .int .i64 0, .slice none 0 0]) ?_ 6 _ rfl; (with_reducible repeat (first | refine blk_drewN ?_ _ | refine blk_drew ?_ | refine blk_alloc ?_ _)); refine blk_put (cs := #[.int .i64 t341, .int .i64 t342, .int .i64 t343, .int .i64 t344, .int .i64 t345, .int .i64 0, .int .i64 0, .int .i64 0, .int .i64 0, .int .i64 0, .slice none 0 0]) ?_ 5 _ rfl; (with_reducible repeat (first | refine blk_drewN ?_ _ | refine blk_drew ?_ | refine blk_alloc ?_ _)); refine blk_put (cs := #[.int .i64 t341, .int .i64 t342, .int .i64 t343, .int .i64 t344, .int .i64 0, .int .i64 0, .int .i64 0, .int .i64 0, .int .i64 0, .int .i64 0, .slice none 0 0]) ?_ 4 _ rfl; (with_reducible repeat (first | refine blk_drewN ?_ _ | refine blk_drew ?_ | refine blk_alloc ?_ _)); refine blk_put (cs := #[.int .i64 t341, .int .i64 t342, .int .i64 t343, .int .i64 0, .int .i64 0, .int .i64 0, .int .i64 0, .int .i64 0, .int .i64 0, .int .i64 0, .slice none 0 0]) ?_ 3 _ rfl; (with_reducible repeat (first | refine blk_drewN ?_ _ | refine blk_drew ?_ | refine blk_alloc ?_ _)); refine blk_put (cs := #[.int .i64 t341, .int .i64 t342, .int .i64 0, .int .i64 0, .int .i64 0, .int .i64 0, .int .i64 0, .int .i64 0, .int .i64 0, .int .i64 0, .slice none 0 0]) ?_ 2 _ rfl; (with_reducible repeat (first | refine blk_drewN ?_ _ | refine blk_drew ?_ | refine blk_alloc ?_ _)); refine blk_put (cs := #[.int .i64 t341, .int .i64 0, .int .i64 0, .int .i64 0, .int .i64 0, .int .i64 0, .int .i64 0, .int .i64 0, .int .i64 0, .int .i64 0, .slice none 0 0]) ?_ 1 _ rfl; (with_reducible repeat (first | refine blk_drewN ?_ _ | refine blk_drew ?_ | refine blk_alloc ?_ _)); refine blk_put (cs := #[.int .i64 0, .int .i64 0, .int .i64 0, .int .i64 0, .int .i64 0, .int .i64 0, .int .i64 0, .int .i64 0, .int .i64 0, .int .i64 0, .slice none 0 0]) ?_ 0 _ rfl; (with_reducible repeat (first | refine blk_drewN ?_ _ | refine blk_drew ?_ | refine blk_alloc ?_ _)); exact BK354.out) hb); have n4_ := Aside0.mk (below_step (by repeat (first | (with_reducible first | exact HB.out | apply below_alloc | apply pw_below_drewN | apply below_drew1 | refine below_set ?_ GE338.out | refine below_set ?_ GE339.out | refine below_set ?_ GE354.out) | exact HB.out)) hb); clear HO353; clear BK338; clear BK339; clear BK354; clear HB; have HO353 := n0_; have BK338 := n1_; have BK339 := n2_; have BK354 := n3_; have HB := n4_; clear n0_ n1_ n2_ n3_ n4_; (try clear hb); (try clear hb2); (try clear hk); (try clear hi); have hcz33_0 : w32.cell? ⟨gb339, 0, none⟩ = some (.int .i64 a1_0) := (blk_cell BK339.out 0).trans rfl; have hcz33_1 : w32.cell? ⟨gb339, 1, none⟩ = some (.int .i64 a1_1) := (blk_cell BK339.out 1).trans rfl; have hfz33_0 := blk_frozen BK339.out 0; have hfz33_1 := blk_frozen BK339.out 1; have hcz34_0 : w32.cell? ⟨gb354, 0, none⟩ = some (.int .i64 t341) := (blk_cell BK354.out 0).trans rfl; have hcz34_1 : w32.cell? ⟨gb354, 1, none⟩ = some (.int .i64 t342) := (blk_cell BK354.out 1).trans rfl; have hcz34_2 : w32.cell? ⟨gb354, 2, none⟩ = some (.int .i64 t343) := (blk_cell BK354.out 2).trans rfl; have hcz34_3 : w32.cell? ⟨gb354, 3, none⟩ = some (.int .i64 t344) := (blk_cell BK354.out 3).trans rfl; have hcz34_4 : w32.cell? ⟨gb354, 4, none⟩ = some (.int .i64 t345) := (blk_cell BK354.out 4).trans rfl; have hcz34_5 : w32.cell? ⟨gb354, 5, none⟩ = some (.int .i64 t346) := (blk_cell BK354.out 5).trans rfl; have hcz34_6 : w32.cell? ⟨gb354, 6, none⟩ = some (.int .i64 t347) := (blk_cell BK354.out 6).trans rfl; have hcz34_7 : w32.cell? ⟨gb354, 7, none⟩ = some (.int .i64 t348) := (blk_cell BK354.out 7).trans rfl; have hcz34_8 : w32.cell? ⟨gb354, 8, none⟩ = some (.int .i64 t349) := (blk_cell BK354.out 8).trans rfl; have hcz34_9 : w32.cell? ⟨gb354, 9, none⟩ = some (.int .i64 t350) := (blk_cell BK354.out 9).trans rfl; have hcz34_10 : w32.cell? ⟨gb354, 10, none⟩ = some (.slice Ao30 t351.length co30) := (blk_cell BK354.out 10).trans rfl; have hfz34_0 := blk_frozen BK354.out 0; have hfz34_1 := blk_frozen BK354.out 1; have hfz34_2 := blk_frozen BK354.out 2; have hfz34_3 := blk_frozen BK354.out 3; have hfz34_4 := blk_frozen BK354.out 4; have hfz34_5 := blk_frozen BK354.out 5; have hfz34_6 := blk_frozen BK354.out 6; have hfz34_7 := blk_frozen BK354.out 7; have hfz34_8 := blk_frozen BK354.out 8; have hfz34_9 := blk_frozen BK354.out 9; have hfz34_10 := blk_frozen BK354.out 10) | ((with_reducible refine gate_callee (f := 12) rfl ?_); refine goesL_ (some 14) rfl rfl Try.func12 (by kernel_rfl) rfl #[.agg #[.int .i64 t341, .int .i64 t342, .int .i64 t343, .int .i64 t344, .int .i64 t345, .int .i64 t346, .int .i64 t347, .int .i64 t348, .int .i64 t349, .int .i64 t350, .slice Ao30 t351.length co30]] rfl (by (try simp only [List.map_toArray, List.map_cons, List.map_nil]); first | done | rfl | (simp only [List.length_drop, List.length_take]; rfl)) ?_; (with_reducible refine (box_Of.calls k t341 t342 t343 t344 t345 t346 t347 t348 t349 t350 _ _ t351 t357 t358 t359 t360 _ ?side1 ?side2 A7.out).mono ?_); (case side1 => refine (Kd.R_reads' (e := 24) (base := w.heap.size) (ok := fun k_ => (True ∧ k_ ≠ gb339)) (n := t351.length) (c := co30) ?_).2.2; exact (by (with_reducible repeat (first | apply Kd.R_alloc | apply Kd.R_drewN | apply Kd.R_drew)); exact (Kd.R_mono (Kd.R_far (p := ⟨gb339, 1, none⟩) (Kd.R_far (p := ⟨gb339, 0, none⟩) (Kd.R_mono HO353.out (fun k_ hk => (⟨hk, hk.2⟩ : _ ∧ k_ ≠ gb339))) (fun _ hk => hk.2) (.int .i64 t355)) (fun _ hk => hk.2) (.int .i64 t356)) (fun _ h_ => h_.1)))); (case side2 => exact (Kd.R_reads' HO353.out).2.1); rintro e w35 ⟨rfl, hb⟩; refine ⟨_, rfl, ?_⟩; have n0_ := Aside0.mk (Kd.R_below (by (with_reducible repeat (first | apply Kd.R_alloc | apply Kd.R_drewN | apply Kd.R_drew)); exact (Kd.R_mono (Kd.R_far (p := ⟨gb339, 1, none⟩) (Kd.R_far (p := ⟨gb339, 0, none⟩) (Kd.R_mono HO353.out (fun k_ hk => (⟨hk, hk.2⟩ : _ ∧ k_ ≠ gb339))) (fun _ hk => hk.2) (.int .i64 t355)) (fun _ hk => hk.2) (.int .i64 t356)) (fun _ h_ => h_.1))) hb); have n1_ := Aside0.mk (blk_below (g := gb338) (o := .cells #[.int .i64 a0_0, .int .i64 a0_1, .int .i64 a0_2, .int .i64 a0_3, .int .i64 a0_4, .int .i64 a0_5, .int .i64 a0_6] 34 (0, 0)) (by (with_reducible repeat (first | refine blk_drewN ?_ _ | refine blk_drew ?_ | refine blk_alloc ?_ _)); refine blk_far ?_ NB338_339.out _; (with_reducible repeat (first | refine blk_drewN ?_ _ | refine blk_drew ?_ | refine blk_alloc ?_ _)); refine blk_far ?_ NB338_339.out _; (with_reducible repeat (first | refine blk_drewN ?_ _ | refine blk_drew ?_ | refine blk_alloc ?_ _)); exact BK338.out) hb); have n2_ := Aside0.mk (blk_below (g := gb339) (o := .cells #[.int .i64 t355, .int .i64 t356] 24 (0, 0)) (by (with_reducible repeat (first | refine blk_drewN ?_ _ | refine blk_drew ?_ | refine blk_alloc ?_ _)); refine blk_put (cs := #[.int .i64 t355, .int .i64 a1_1]) ?_ 1 _ rfl; (with_reducible repeat (first | refine blk_drewN ?_ _ | refine blk_drew ?_ | refine blk_alloc ?_ _)); refine blk_put (cs := #[.int .i64 a1_0, .int .i64 a1_1]) ?_ 0 _ rfl; (with_reducible repeat (first | refine blk_drewN ?_ _ | refine blk_drew ?_ | refine blk_alloc ?_ _)); exact BK339.out) hb); have n3_ := Aside0.mk (blk_below (g := gb354) (o := .cells #[.int .i64 t341, .int .i64 t342, .int .i64 t343, .int .i64 t344, .int .i64 t345, .int .i64 t346, .int .i64 t347, .int .i64 t348, .int .i64 t349, .int .i64 t350, .slice Ao30 t351.length co30] 39 (0, 0)) (by (with_reducible repeat (first | refine blk_drewN ?_ _ | refine blk_drew ?_ | refine blk_alloc ?_ _)); refine blk_far ?_ NB354_339.out _; (with_reducible repeat (first | refine blk_drewN ?_ _ | refine blk_drew ?_ | refine blk_alloc ?_ _)); refine blk_far ?_ NB354_339.out _; (with_reducible repeat (first | refine blk_drewN ?_ _ | refine blk_drew ?_ | refine blk_alloc ?_ _)); exact BK354.out) hb); have n4_ := Aside0.mk (below_step (by repeat (first | (with_reducible first | exact HB.out | apply below_alloc | apply pw_below_drewN | apply below_drew1 | refine below_set ?_ GE338.out | refine below_set ?_ GE339.out | refine below_set ?_ GE354.out) | exact HB.out)) hb); clear HO353; clear BK338; clear BK339; clear BK354; clear HB; have HO353 := n0_; have BK338 := n1_; have BK339 := n2_; have BK354 := n3_; have HB := n4_; clear n0_ n1_ n2_ n3_ n4_; (try clear hb); (try clear hb2); (try clear hk); (try clear hi)) | ((with_reducible refine gate_dst (N := 6) rfl ?_); refine box_event ?hg (N := 6) ?hd (cs := #[.int .i64 0, .int .i64 0, .int .i64 0, .int .i64 0]) (t := 26) ?hr ?_; (case hd => rfl); (case hg => rfl); (case hr => first | (go_simp; done) | (go_simp; rfl)); intro gb361 hg w36 hbox hb; have n0_ := Aside0.mk (Kd.R_below (by (with_reducible repeat (first | apply Kd.R_alloc | apply Kd.R_drewN | apply Kd.R_drew)); exact HO353.out) hb); have n1_ := Aside0.mk (blk_below (g := gb338) (o := .cells #[.int .i64 a0_0, .int .i64 a0_1, .int .i64 a0_2, .int .i64 a0_3, .int .i64 a0_4, .int .i64 a0_5, .int .i64 a0_6] 34 (0, 0)) (by (with_reducible repeat (first | refine blk_drewN ?_ _ | refine blk_drew ?_ | refine blk_alloc ?_ _)); exact BK338.out) hb); have n2_ := Aside0.mk (blk_below (g := gb339) (o := .cells #[.int .i64 t355, .int .i64 t356] 24 (0, 0)) (by (with_reducible repeat (first | refine blk_drewN ?_ _ | refine blk_drew ?_ | refine blk_alloc ?_ _)); exact BK339.out) hb); have n3_ := Aside0.mk (blk_below (g := gb354) (o := .cells #[.int .i64 t341, .int .i64 t342, .int .i64 t343, .int .i64 t344, .int .i64 t345, .int .i64 t346, .int .i64 t347, .int .i64 t348, .int .i64 t349, .int .i64 t350, .slice Ao30 t351.length co30] 39 (0, 0)) (by (with_reducible repeat (first | refine blk_drewN ?_ _ | refine blk_drew ?_ | refine blk_alloc ?_ _)); exact BK354.out) hb); have n4_ := Aside0.mk (below_step (by repeat (first | (with_reducible first | exact HB.out | apply below_alloc | apply pw_below_drewN | apply below_drew1 | refine below_set ?_ GE338.out | refine below_set ?_ GE339.out | refine below_set ?_ GE354.out) | exact HB.out)) hb); have n5_ := Aside0.mk (hbox); have n6_ := Aside0.mk ((by rw [hg]; exact (below_size (by repeat (first | (with_reducible first | exact HB.out | apply below_alloc | apply pw_below_drewN | apply below_drew1 | refine below_set ?_ GE338.out | refine below_set ?_ GE339.out | refine below_set ?_ GE354.out) | exact HB.out))) : w.heap.size ≤ gb361)); have n7_ := Aside0.mk ((by rw [hg]; exact (below_size (by repeat (first | (with_reducible first | exact HB.out | apply below_alloc | apply pw_below_drewN | apply below_drew1 | refine below_set ?_ GE338.out | refine below_set ?_ GE339.out | refine below_set ?_ GE354.out) | exact HB.out))) : w.heap.size ≤ gb361)); have n8_ := Aside0.mk ((by rw [hg]; exact Nat.ne_of_lt (blk_lt (g := gb338) (o := .cells #[.int .i64 a0_0, .int .i64 a0_1, .int .i64 a0_2, .int .i64 a0_3, .int .i64 a0_4, .int .i64 a0_5, .int .i64 a0_6] 34 (0, 0)) (by (with_reducible repeat (first | refine blk_drewN ?_ _ | refine blk_drew ?_ | refine blk_alloc ?_ _)); exact BK338.out)) : gb338 ≠ gb361)); have n9_ := Aside0.mk ((by rw [hg]; exact Nat.ne_of_gt (blk_lt (g := gb338) (o := .cells #[.int .i64 a0_0, .int .i64 a0_1, .int .i64 a0_2, .int .i64 a0_3, .int .i64 a0_4, .int .i64 a0_5, .int .i64 a0_6] 34 (0, 0)) (by (with_reducible repeat (first | refine blk_drewN ?_ _ | refine blk_drew ?_ | refine blk_alloc ?_ _)); exact BK338.out)) : gb361 ≠ gb338)); have n10_ := Aside0.mk ((by rw [hg]; exact Nat.ne_of_lt (blk_lt (g := gb339) (o := .cells #[.int .i64 t355, .int .i64 t356] 24 (0, 0)) (by (with_reducible repeat (first | refine blk_drewN ?_ _ | refine blk_drew ?_ | refine blk_alloc ?_ _)); exact BK339.out)) : gb339 ≠ gb361)); have n11_ := Aside0.mk ((by rw [hg]; exact Nat.ne_of_gt (blk_lt (g := gb339) (o := .cells #[.int .i64 t355, .int .i64 t356] 24 (0, 0)) (by (with_reducible repeat (first | refine blk_drewN ?_ _ | refine blk_drew ?_ | refine blk_alloc ?_ _)); exact BK339.out)) : gb361 ≠ gb339)); have n12_ := Aside0.mk ((by rw [hg]; exact Nat.ne_of_lt (blk_lt (g := gb354) (o := .cells #[.int .i64 t341, .int .i64 t342, .int .i64 t343, .int .i64 t344, .int .i64 t345, .int .i64 t346, .int .i64 t347, .int .i64 t348, .int .i64 t349, .int .i64 t350, .slice Ao30 t351.length co30] 39 (0, 0)) (by (with_reducible repeat (first | refine blk_drewN ?_ _ | refine blk_drew ?_ | refine blk_alloc ?_ _)); exact BK354.out)) : gb354 ≠ gb361)); have n13_ := Aside0.mk ((by rw [hg]; exact Nat.ne_of_gt (blk_lt (g := gb354) (o := .cells #[.int .i64 t341, .int .i64 t342, .int .i64 t343, .int .i64 t344, .int .i64 t345, .int .i64 t346, .int .i64 t347, .int .i64 t348, .int .i64 t349, .int .i64 t350, .slice Ao30 t351.length co30] 39 (0, 0)) (by (with_reducible repeat (first | refine blk_drewN ?_ _ | refine blk_drew ?_ | refine blk_alloc ?_ _)); exact BK354.out)) : gb361 ≠ gb354)); clear HO353; clear BK338; clear BK339; clear BK354; clear HB; have HO353 := n0_; have BK338 := n1_; have BK339 := n2_; have BK354 := n3_; have HB := n4_; have BK361 := n5_; have GW361 := n6_; have GE361 := n7_; have NB338_361 := n8_; have NB361_338 := n9_; have NB339_361 := n10_; have NB361_339 := n11_; have NB354_361 := n12_; have NB361_354 := n13_; clear n0_ n1_ n2_ n3_ n4_ n5_ n6_ n7_ n8_ n9_ n10_ n11_ n12_ n13_; clear hb hbox hg; have hnb37 := NB361_338.out; have hnc37 := NB338_361.out; have hnb38 := NB361_339.out; have hnc38 := NB339_361.out; have hnb39 := NB361_354.out; have hnc39 := NB354_361.out; have hcz40_0 : w36.cell? ⟨gb361, 0, none⟩ = some (.int .i64 0) := (blk_cell BK361.out 0).trans rfl; have hcz40_1 : w36.cell? ⟨gb361, 1, none⟩ = some (.int .i64 0) := (blk_cell BK361.out 1).trans rfl; have hcz40_2 : w36.cell? ⟨gb361, 2, none⟩ = some (.int .i64 0) := (blk_cell BK361.out 2).trans rfl; have hcz40_3 : w36.cell? ⟨gb361, 3, none⟩ = some (.int .i64 0) := (blk_cell BK361.out 3).trans rfl; have hfz40_0 := blk_frozen BK361.out 0; have hfz40_1 := blk_frozen BK361.out 1; have hfz40_2 := blk_frozen BK361.out 2; have hfz40_3 := blk_frozen BK361.out 3))
        have n0_ : Aside0 (Kd.R k24 24 ((((w36.setCell ⟨gb361, 0, none⟩ (.int .i64 t357)).setCell ⟨gb361, 1, none⟩ (.int .i64 t358)).setCell ⟨gb361, 2, none⟩ (.int .i64 t359)).setCell ⟨gb361, 3, none⟩ (.int .i64 t360)) w.heap.size (fun k_ => k_ ≠ gb339) (.slice Ao30 t351.length co30) t351) := ⟨by (with_reducible repeat (first | apply Kd.R_alloc | apply Kd.R_drewN | apply Kd.R_drew)); exact Kd.R_mono (Kd.R_far (p := ⟨gb361, 3, none⟩) (Kd.R_far (p := ⟨gb361, 2, none⟩) (Kd.R_far (p := ⟨gb361, 1, none⟩) (Kd.R_far (p := ⟨gb361, 0, none⟩) (Kd.R_types HO353.out BK361.out (by decide)) (fun _ hk => hk.2) (.int .i64 t357)) (fun _ hk => hk.2) (.int .i64 t358)) (fun _ hk => hk.2) (.int .i64 t359)) (fun _ hk => hk.2) (.int .i64 t360)) (fun _ hk => hk.1.2)⟩
        have n1_ : Aside0 (((((w36.setCell ⟨gb361, 0, none⟩ (.int .i64 t357)).setCell ⟨gb361, 1, none⟩ (.int .i64 t358)).setCell ⟨gb361, 2, none⟩ (.int .i64 t359)).setCell ⟨gb361, 3, none⟩ (.int .i64 t360)).heap[gb338]? = some (.cells #[.int .i64 a0_0, .int .i64 a0_1, .int .i64 a0_2, .int .i64 a0_3, .int .i64 a0_4, .int .i64 a0_5, .int .i64 a0_6] 34 (0, 0))) := ⟨by (with_reducible repeat (first | refine blk_drewN ?_ _ | refine blk_drew ?_ | refine blk_alloc ?_ _)); refine blk_far ?_ NB338_361.out _; (with_reducible repeat (first | refine blk_drewN ?_ _ | refine blk_drew ?_ | refine blk_alloc ?_ _)); refine blk_far ?_ NB338_361.out _; (with_reducible repeat (first | refine blk_drewN ?_ _ | refine blk_drew ?_ | refine blk_alloc ?_ _)); refine blk_far ?_ NB338_361.out _; (with_reducible repeat (first | refine blk_drewN ?_ _ | refine blk_drew ?_ | refine blk_alloc ?_ _)); refine blk_far ?_ NB338_361.out _; (with_reducible repeat (first | refine blk_drewN ?_ _ | refine blk_drew ?_ | refine blk_alloc ?_ _)); exact BK338.out⟩
        have n2_ : Aside0 (((((w36.setCell ⟨gb361, 0, none⟩ (.int .i64 t357)).setCell ⟨gb361, 1, none⟩ (.int .i64 t358)).setCell ⟨gb361, 2, none⟩ (.int .i64 t359)).setCell ⟨gb361, 3, none⟩ (.int .i64 t360)).heap[gb339]? = some (.cells #[.int .i64 t355, .int .i64 t356] 24 (0, 0))) := ⟨by (with_reducible repeat (first | refine blk_drewN ?_ _ | refine blk_drew ?_ | refine blk_alloc ?_ _)); refine blk_far ?_ NB339_361.out _; (with_reducible repeat (first | refine blk_drewN ?_ _ | refine blk_drew ?_ | refine blk_alloc ?_ _)); refine blk_far ?_ NB339_361.out _; (with_reducible repeat (first | refine blk_drewN ?_ _ | refine blk_drew ?_ | refine blk_alloc ?_ _)); refine blk_far ?_ NB339_361.out _; (with_reducible repeat (first | refine blk_drewN ?_ _ | refine blk_drew ?_ | refine blk_alloc ?_ _)); refine blk_far ?_ NB339_361.out _; (with_reducible repeat (first | refine blk_drewN ?_ _ | refine blk_drew ?_ | refine blk_alloc ?_ _)); exact BK339.out⟩
        have n3_ : Aside0 (((((w36.setCell ⟨gb361, 0, none⟩ (.int .i64 t357)).setCell ⟨gb361, 1, none⟩ (.int .i64 t358)).setCell ⟨gb361, 2, none⟩ (.int .i64 t359)).setCell ⟨gb361, 3, none⟩ (.int .i64 t360)).heap[gb354]? = some (.cells #[.int .i64 t341, .int .i64 t342, .int .i64 t343, .int .i64 t344, .int .i64 t345, .int .i64 t346, .int .i64 t347, .int .i64 t348, .int .i64 t349, .int .i64 t350, .slice Ao30 t351.length co30] 39 (0, 0))) := ⟨by (with_reducible repeat (first | refine blk_drewN ?_ _ | refine blk_drew ?_ | refine blk_alloc ?_ _)); refine blk_far ?_ NB354_361.out _; (with_reducible repeat (first | refine blk_drewN ?_ _ | refine blk_drew ?_ | refine blk_alloc ?_ _)); refine blk_far ?_ NB354_361.out _; (with_reducible repeat (first | refine blk_drewN ?_ _ | refine blk_drew ?_ | refine blk_alloc ?_ _)); refine blk_far ?_ NB354_361.out _; (with_reducible repeat (first | refine blk_drewN ?_ _ | refine blk_drew ?_ | refine blk_alloc ?_ _)); refine blk_far ?_ NB354_361.out _; (with_reducible repeat (first | refine blk_drewN ?_ _ | refine blk_drew ?_ | refine blk_alloc ?_ _)); exact BK354.out⟩
        have n4_ : Aside0 (((((w36.setCell ⟨gb361, 0, none⟩ (.int .i64 t357)).setCell ⟨gb361, 1, none⟩ (.int .i64 t358)).setCell ⟨gb361, 2, none⟩ (.int .i64 t359)).setCell ⟨gb361, 3, none⟩ (.int .i64 t360)).heap[gb361]? = some (.cells #[.int .i64 t357, .int .i64 t358, .int .i64 t359, .int .i64 t360] 26 (0, 0))) := ⟨by (with_reducible repeat (first | refine blk_drewN ?_ _ | refine blk_drew ?_ | refine blk_alloc ?_ _)); refine blk_put (cs := #[.int .i64 t357, .int .i64 t358, .int .i64 t359, .int .i64 0]) ?_ 3 _ rfl; (with_reducible repeat (first | refine blk_drewN ?_ _ | refine blk_drew ?_ | refine blk_alloc ?_ _)); refine blk_put (cs := #[.int .i64 t357, .int .i64 t358, .int .i64 0, .int .i64 0]) ?_ 2 _ rfl; (with_reducible repeat (first | refine blk_drewN ?_ _ | refine blk_drew ?_ | refine blk_alloc ?_ _)); refine blk_put (cs := #[.int .i64 t357, .int .i64 0, .int .i64 0, .int .i64 0]) ?_ 1 _ rfl; (with_reducible repeat (first | refine blk_drewN ?_ _ | refine blk_drew ?_ | refine blk_alloc ?_ _)); refine blk_put (cs := #[.int .i64 0, .int .i64 0, .int .i64 0, .int .i64 0]) ?_ 0 _ rfl; (with_reducible repeat (first | refine blk_drewN ?_ _ | refine blk_drew ?_ | refine blk_alloc ?_ _)); exact BK361.out⟩
        have n5_ : Aside0 (Below w.heap.size w ((((w36.setCell ⟨gb361, 0, none⟩ (.int .i64 t357)).setCell ⟨gb361, 1, none⟩ (.int .i64 t358)).setCell ⟨gb361, 2, none⟩ (.int .i64 t359)).setCell ⟨gb361, 3, none⟩ (.int .i64 t360))) := ⟨by repeat (first | (with_reducible first | exact HB.out | apply below_alloc | apply pw_below_drewN | apply below_drew1 | refine below_set ?_ GE338.out | refine below_set ?_ GE339.out | refine below_set ?_ GE354.out | refine below_set ?_ GE361.out) | exact HB.out)⟩
        (try clear HO353)
        (try clear BK338)
        (try clear BK339)
        (try clear BK354)
        (try clear BK361)
        (try clear HB)
        generalize ((((w36.setCell ⟨gb361, 0, none⟩ (.int .i64 t357)).setCell ⟨gb361, 1, none⟩ (.int .i64 t358)).setCell ⟨gb361, 2, none⟩ (.int .i64 t359)).setCell ⟨gb361, 3, none⟩ (.int .i64 t360)) = w41 at n0_ n1_ n2_ n3_ n4_ n5_ ⊢
        have HO353 := n0_
        have BK338 := n1_
        have BK339 := n2_
        have BK354 := n3_
        have BK361 := n4_
        have HB := n5_
        clear n0_ n1_ n2_ n3_ n4_ n5_
        have n0_ := Aside0.mk (Kd.R_drew HO353.out)
        have n1_ := Aside0.mk (blk_drew BK338.out)
        have n2_ := Aside0.mk (blk_drew BK339.out)
        have n3_ := Aside0.mk (blk_drew BK354.out)
        have n4_ := Aside0.mk (blk_drew BK361.out)
        have n5_ := Aside0.mk (below_drew1 HB.out)
        clear HO353
        clear BK338
        clear BK339
        clear BK354
        clear BK361
        clear HB
        have HO353 := n0_
        have BK338 := n1_
        have BK339 := n2_
        have BK354 := n3_
        have BK361 := n4_
        have HB := n5_
        clear n0_ n1_ n2_ n3_ n4_ n5_
        refine start_ (n := 30) (S := fun w' => w'.cell? ⟨gb354, 0, none⟩ = some (.int .i64 t341) ∧ w'.cell? ⟨gb354, 1, none⟩ = some (.int .i64 t342) ∧ w'.cell? ⟨gb354, 2, none⟩ = some (.int .i64 t343) ∧ w'.cell? ⟨gb354, 3, none⟩ = some (.int .i64 t344) ∧ w'.cell? ⟨gb354, 4, none⟩ = some (.int .i64 t345) ∧ w'.cell? ⟨gb354, 5, none⟩ = some (.int .i64 t346) ∧ w'.cell? ⟨gb354, 6, none⟩ = some (.int .i64 t347) ∧ w'.cell? ⟨gb354, 7, none⟩ = some (.int .i64 t348) ∧ w'.cell? ⟨gb354, 8, none⟩ = some (.int .i64 t349) ∧ w'.cell? ⟨gb354, 9, none⟩ = some (.int .i64 t350) ∧ w'.cell? ⟨gb354, 10, none⟩ = some (.slice Ao30 t351.length co30) ∧ w'.cell? ⟨gb361, 0, none⟩ = some (.int .i64 t357) ∧ w'.cell? ⟨gb361, 1, none⟩ = some (.int .i64 t358) ∧ w'.cell? ⟨gb361, 2, none⟩ = some (.int .i64 t359) ∧ w'.cell? ⟨gb361, 3, none⟩ = some (.int .i64 t360)) (ds := []) #[false, false, false, false, false, false, false, false, false, false, false, false, false, false, false, false, false, false, false, false, false, false, false, false, false, false, false, false, false, false] (by kernel_rfl) rfl rfl ⟨(blk_cell BK354.out 0).trans rfl, (blk_cell BK354.out 1).trans rfl, (blk_cell BK354.out 2).trans rfl, (blk_cell BK354.out 3).trans rfl, (blk_cell BK354.out 4).trans rfl, (blk_cell BK354.out 5).trans rfl, (blk_cell BK354.out 6).trans rfl, (blk_cell BK354.out 7).trans rfl, (blk_cell BK354.out 8).trans rfl, (blk_cell BK354.out 9).trans rfl, (blk_cell BK354.out 10).trans rfl, (blk_cell BK361.out 0).trans rfl, (blk_cell BK361.out 1).trans rfl, (blk_cell BK361.out 2).trans rfl, (blk_cell BK361.out 3).trans rfl⟩ (fun hHeld => ?_); refine with_tabW bagatellelaw06_BoxReaches.tab6 bagatellelaw06_BoxReaches.bits6 (fun HT_ HW_ => ?_)
        generalize w41.drew = w42 at HO353 BK338 BK339 BK354 BK361 HB hHeld ⊢
        refine pure_ (i := 0) (N := some 15) (v := ?_) (a' := ?_) #[true, false, false, false, false, false, false, false, false, false, false, false, false, false, false, false, false, false, false, false, false, false, false, false, false, false, false, false, false, false] rfl rfl (any_of HT_.out (by kernel_rfl)) (fun _ _ _ h => h) (Or.inl ⟨by rfl, ?_⟩) ?_ ?_
        rotate_left
        · intro w'
          go_simp
          with_reducible rfl
        rotate_left
        · simp only [Act.put, List.setIfInBounds_toArray, List.set_cons_zero, List.set_cons_succ, i64_w, i32_w]
          rfl
        refine pure_ (i := 2) (N := some 17) (v := ?_) (a' := ?_) #[true, false, true, false, false, false, false, false, false, false, false, false, false, false, false, false, false, false, false, false, false, false, false, false, false, false, false, false, false, false] rfl rfl (any_of HT_.out (by kernel_rfl)) (fun _ _ _ h => h) (Or.inl ⟨by rfl, ?_⟩) ?_ ?_
        rotate_left
        · intro w'
          go_simp
          with_reducible rfl
        rotate_left
        · simp only [Act.put, List.setIfInBounds_toArray, List.set_cons_zero, List.set_cons_succ, i64_w, i32_w]
          rfl
        refine pure_ (i := 5) (N := some 20) (v := ?_) (a' := ?_) #[true, false, true, false, false, true, false, false, false, false, false, false, false, false, false, false, false, false, false, false, false, false, false, false, false, false, false, false, false, false] rfl rfl (any_of HT_.out (by kernel_rfl)) (fun _ _ _ h => h) (Or.inl ⟨by rfl, ?_⟩) ?_ ?_
        rotate_left
        · intro w'
          go_simp
          with_reducible rfl
        rotate_left
        · simp only [Act.put, List.setIfInBounds_toArray, List.set_cons_zero, List.set_cons_succ, i64_w, i32_w]
          rfl
        refine pure_ (i := 10) (N := some 25) (v := ?_) (a' := ?_) #[true, false, true, false, false, true, false, false, false, false, true, false, false, false, false, false, false, false, false, false, false, false, false, false, false, false, false, false, false, false] rfl rfl (any_of HT_.out (by kernel_rfl)) (fun _ _ _ h => h) (Or.inl ⟨by rfl, ?_⟩) ?_ ?_
        rotate_left
        · intro w'
          go_simp
          with_reducible rfl
        rotate_left
        · simp only [Act.put, List.setIfInBounds_toArray, List.set_cons_zero, List.set_cons_succ, i64_w, i32_w]
          rfl
        refine take_ (i := 1) (N := some 16) (v := ?_) (a' := ?_) #[true, true, true, false, false, true, false, false, false, false, true, false, false, false, false, false, false, false, false, false, false, false, false, false, false, false, false, false, false, false] rfl rfl (take_ofW HT_.out HW_.out (by kernel_rfl)) (fun _ _ _ h => h) (Or.inl ⟨by rfl, ?_⟩) hHeld ?_ ?_
        rotate_left
        · rintro w' ⟨s0, s1, s2, s3, s4, s5, s6, s7, s8, s9, s10, s11, s12, s13, s14⟩
          go_simp
          with_reducible rfl
        rotate_left
        · simp only [Act.put, List.setIfInBounds_toArray, List.set_cons_zero, List.set_cons_succ, i64_w, i32_w]
          rfl
        refine take_ (i := 3) (N := some 18) (v := ?_) (a' := ?_) #[true, true, true, true, false, true, false, false, false, false, true, false, false, false, false, false, false, false, false, false, false, false, false, false, false, false, false, false, false, false] rfl rfl (take_ofW HT_.out HW_.out (by kernel_rfl)) (fun _ _ _ h => h) (Or.inl ⟨by rfl, ?_⟩) hHeld ?_ ?_
        rotate_left
        · rintro w' ⟨s0, s1, s2, s3, s4, s5, s6, s7, s8, s9, s10, s11, s12, s13, s14⟩
          go_simp
          with_reducible rfl
        rotate_left
        · simp only [Act.put, List.setIfInBounds_toArray, List.set_cons_zero, List.set_cons_succ, i64_w, i32_w]
          rfl
        refine pure_ (i := 4) (N := some 19) (v := ?_) (a' := ?_) #[true, true, true, true, true, true, false, false, false, false, true, false, false, false, false, false, false, false, false, false, false, false, false, false, false, false, false, false, false, false] rfl rfl (any_of HT_.out (by kernel_rfl)) (fun _ _ _ h => h) (Or.inl ⟨by rfl, ?_⟩) ?_ ?_
        rotate_left
        · intro w'
          go_simp
          with_reducible rfl
        rotate_left
        · simp only [Act.put, List.setIfInBounds_toArray, List.set_cons_zero, List.set_cons_succ, i64_w, i32_w]
          rfl
        refine take_ (i := 6) (N := some 21) (v := ?_) (a' := ?_) #[true, true, true, true, true, true, true, false, false, false, true, false, false, false, false, false, false, false, false, false, false, false, false, false, false, false, false, false, false, false] rfl rfl (take_ofW HT_.out HW_.out (by kernel_rfl)) (fun _ _ _ h => h) (Or.inl ⟨by rfl, ?_⟩) hHeld ?_ ?_
        rotate_left
        · rintro w' ⟨s0, s1, s2, s3, s4, s5, s6, s7, s8, s9, s10, s11, s12, s13, s14⟩
          go_simp
          with_reducible rfl
        rotate_left
        · simp only [Act.put, List.setIfInBounds_toArray, List.set_cons_zero, List.set_cons_succ, i64_w, i32_w]
          rfl
        refine take_ (i := 11) (N := some 26) (v := ?_) (a' := ?_) #[true, true, true, true, true, true, true, false, false, false, true, true, false, false, false, false, false, false, false, false, false, false, false, false, false, false, false, false, false, false] rfl rfl (take_ofW HT_.out HW_.out (by kernel_rfl)) (fun _ _ _ h => h) (Or.inl ⟨by rfl, ?_⟩) hHeld ?_ ?_
        rotate_left
        · rintro w' ⟨s0, s1, s2, s3, s4, s5, s6, s7, s8, s9, s10, s11, s12, s13, s14⟩
          go_simp
          with_reducible rfl
        rotate_left
        · simp only [Act.put, List.setIfInBounds_toArray, List.set_cons_zero, List.set_cons_succ, i64_w, i32_w]
          rfl
        refine one_ (i := 7) (N := some 22) #[true, true, true, true, true, true, true, true, false, false, true, true, false, false, false, false, false, false, false, false, false, false, false, false, false, false, false, false, false, false] rfl rfl (one_of HT_.out (by kernel_rfl)) (by decide) (fun K hK => ?_)
        refine goes_ Try.func20 (by kernel_rfl) rfl #[.agg #[.int .i64 t349, .int .i64 t350, .slice Ao30 t351.length co30]] (by rfl) rfl rfl (by (try simp only [List.map_toArray, List.map_cons, List.map_nil]); first | done | rfl | (simp only [List.length_drop, List.length_take]; rfl)) ?_
        with_reducible refine (shape_Reach.calls k t349 t350 _ _ t351 t362 _ ?side1 ?side2 A8.out).mono ?_
        (case side1 => repeat (first | exact (Kd.R_reads' HO353.out).2.2 | (with_reducible refine Kd.C_alloc ?_ _) | (with_reducible refine Kd.C_drewN ?_ _) | (with_reducible refine Kd.C_drew ?_)))
        (case side2 => exact (Kd.R_reads' HO353.out).2.1)
        rintro e w43 ⟨rfl, hb⟩
        refine ⟨_, rfl, ?_⟩
        have n0_ := Aside0.mk (Kd.R_below (by (with_reducible repeat (first | apply Kd.R_alloc | apply Kd.R_drewN | apply Kd.R_drew)); exact HO353.out) hb)
        have n1_ := Aside0.mk (blk_below (g := gb338) (o := .cells #[.int .i64 a0_0, .int .i64 a0_1, .int .i64 a0_2, .int .i64 a0_3, .int .i64 a0_4, .int .i64 a0_5, .int .i64 a0_6] 34 (0, 0)) (by (with_reducible repeat (first | refine blk_drewN ?_ _ | refine blk_drew ?_ | refine blk_alloc ?_ _)); exact BK338.out) hb)
        have n2_ := Aside0.mk (blk_below (g := gb339) (o := .cells #[.int .i64 t355, .int .i64 t356] 24 (0, 0)) (by (with_reducible repeat (first | refine blk_drewN ?_ _ | refine blk_drew ?_ | refine blk_alloc ?_ _)); exact BK339.out) hb)
        have n3_ := Aside0.mk (blk_below (g := gb354) (o := .cells #[.int .i64 t341, .int .i64 t342, .int .i64 t343, .int .i64 t344, .int .i64 t345, .int .i64 t346, .int .i64 t347, .int .i64 t348, .int .i64 t349, .int .i64 t350, .slice Ao30 t351.length co30] 39 (0, 0)) (by (with_reducible repeat (first | refine blk_drewN ?_ _ | refine blk_drew ?_ | refine blk_alloc ?_ _)); exact BK354.out) hb)
        have n4_ := Aside0.mk (blk_below (g := gb361) (o := .cells #[.int .i64 t357, .int .i64 t358, .int .i64 t359, .int .i64 t360] 26 (0, 0)) (by (with_reducible repeat (first | refine blk_drewN ?_ _ | refine blk_drew ?_ | refine blk_alloc ?_ _)); exact BK361.out) hb)
        have n5_ := Aside0.mk (below_step (by repeat (first | (with_reducible first | exact HB.out | apply below_alloc | apply pw_below_drewN | apply below_drew1 | refine below_set ?_ GE338.out | refine below_set ?_ GE339.out | refine below_set ?_ GE354.out | refine below_set ?_ GE361.out) | exact HB.out)) hb)
        clear HO353
        clear BK338
        clear BK339
        clear BK354
        clear BK361
        clear HB
        have HO353 := n0_
        have BK338 := n1_
        have BK339 := n2_
        have BK354 := n3_
        have BK361 := n4_
        have HB := n5_
        clear n0_ n1_ n2_ n3_ n4_ n5_
        (try clear hb)
        (try clear hb2)
        (try clear hk)
        (try clear hi)
        refine hK.out _ _ ⟨(blk_cell BK354.out 0).trans rfl, (blk_cell BK354.out 1).trans rfl, (blk_cell BK354.out 2).trans rfl, (blk_cell BK354.out 3).trans rfl, (blk_cell BK354.out 4).trans rfl, (blk_cell BK354.out 5).trans rfl, (blk_cell BK354.out 6).trans rfl, (blk_cell BK354.out 7).trans rfl, (blk_cell BK354.out 8).trans rfl, (blk_cell BK354.out 9).trans rfl, (blk_cell BK354.out 10).trans rfl, (blk_cell BK361.out 0).trans rfl, (blk_cell BK361.out 1).trans rfl, (blk_cell BK361.out 2).trans rfl, (blk_cell BK361.out 3).trans rfl⟩ (fun hHeld => ?_)
        clear hK K
        refine norm_ (a' := ?_) ?_ ?_
        rotate_left
        · show Act.put _ (some 22) _ = _
          simp only [Act.put, List.setIfInBounds_toArray, List.set_cons_zero, List.set_cons_succ, i64_w, i32_w]
          rfl
        refine pure_ (i := 8) (N := some 23) (v := ?_) (a' := ?_) #[true, true, true, true, true, true, true, true, true, false, true, true, false, false, false, false, false, false, false, false, false, false, false, false, false, false, false, false, false, false] rfl rfl (any_of HT_.out (by kernel_rfl)) (fun _ _ _ h => h) (Or.inl ⟨by rfl, ?_⟩) ?_ ?_
        rotate_left
        · intro w'
          go_simp
          with_reducible rfl
        rotate_left
        · simp only [Act.put, List.setIfInBounds_toArray, List.set_cons_zero, List.set_cons_succ, i64_w, i32_w]
          rfl
        refine one_ (i := 9) (N := some 24) #[true, true, true, true, true, true, true, true, true, true, true, true, false, false, false, false, false, false, false, false, false, false, false, false, false, false, false, false, false, false] rfl rfl (one_of HT_.out (by kernel_rfl)) (by decide) (fun K hK => ?_)
        refine goes_ Try.func8 (by kernel_rfl) rfl #[.agg #[.int .i64 t342, .int .i64 t343, .int .i64 t342, .int .i64 t343], .int .i64 (wrap64 (t362 + 1048576))] (by rfl) rfl rfl (by (try simp only [List.map_toArray, List.map_cons, List.map_nil]); first | done | rfl | (simp only [List.length_drop, List.length_take]; rfl)) ?_
        with_reducible refine (box_Grow.calls k t342 t343 t342 t343 (wrap64 (t362 + 1048576)) t363 t364 t365 t366 _ A9.out).mono ?_
        rintro e w44 ⟨rfl, hb⟩
        refine ⟨_, rfl, ?_⟩
        have n0_ := Aside0.mk (Kd.R_below (by (with_reducible repeat (first | apply Kd.R_alloc | apply Kd.R_drewN | apply Kd.R_drew)); exact HO353.out) hb)
        have n1_ := Aside0.mk (blk_below (g := gb338) (o := .cells #[.int .i64 a0_0, .int .i64 a0_1, .int .i64 a0_2, .int .i64 a0_3, .int .i64 a0_4, .int .i64 a0_5, .int .i64 a0_6] 34 (0, 0)) (by (with_reducible repeat (first | refine blk_drewN ?_ _ | refine blk_drew ?_ | refine blk_alloc ?_ _)); exact BK338.out) hb)
        have n2_ := Aside0.mk (blk_below (g := gb339) (o := .cells #[.int .i64 t355, .int .i64 t356] 24 (0, 0)) (by (with_reducible repeat (first | refine blk_drewN ?_ _ | refine blk_drew ?_ | refine blk_alloc ?_ _)); exact BK339.out) hb)
        have n3_ := Aside0.mk (blk_below (g := gb354) (o := .cells #[.int .i64 t341, .int .i64 t342, .int .i64 t343, .int .i64 t344, .int .i64 t345, .int .i64 t346, .int .i64 t347, .int .i64 t348, .int .i64 t349, .int .i64 t350, .slice Ao30 t351.length co30] 39 (0, 0)) (by (with_reducible repeat (first | refine blk_drewN ?_ _ | refine blk_drew ?_ | refine blk_alloc ?_ _)); exact BK354.out) hb)
        have n4_ := Aside0.mk (blk_below (g := gb361) (o := .cells #[.int .i64 t357, .int .i64 t358, .int .i64 t359, .int .i64 t360] 26 (0, 0)) (by (with_reducible repeat (first | refine blk_drewN ?_ _ | refine blk_drew ?_ | refine blk_alloc ?_ _)); exact BK361.out) hb)
        have n5_ := Aside0.mk (below_step (by repeat (first | (with_reducible first | exact HB.out | apply below_alloc | apply pw_below_drewN | apply below_drew1 | refine below_set ?_ GE338.out | refine below_set ?_ GE339.out | refine below_set ?_ GE354.out | refine below_set ?_ GE361.out) | exact HB.out)) hb)
        clear HO353
        clear BK338
        clear BK339
        clear BK354
        clear BK361
        clear HB
        have HO353 := n0_
        have BK338 := n1_
        have BK339 := n2_
        have BK354 := n3_
        have BK361 := n4_
        have HB := n5_
        clear n0_ n1_ n2_ n3_ n4_ n5_
        (try clear hb)
        (try clear hb2)
        (try clear hk)
        (try clear hi)
        refine hK.out _ _ ⟨(blk_cell BK354.out 0).trans rfl, (blk_cell BK354.out 1).trans rfl, (blk_cell BK354.out 2).trans rfl, (blk_cell BK354.out 3).trans rfl, (blk_cell BK354.out 4).trans rfl, (blk_cell BK354.out 5).trans rfl, (blk_cell BK354.out 6).trans rfl, (blk_cell BK354.out 7).trans rfl, (blk_cell BK354.out 8).trans rfl, (blk_cell BK354.out 9).trans rfl, (blk_cell BK354.out 10).trans rfl, (blk_cell BK361.out 0).trans rfl, (blk_cell BK361.out 1).trans rfl, (blk_cell BK361.out 2).trans rfl, (blk_cell BK361.out 3).trans rfl⟩ (fun hHeld => ?_)
        clear hK K
        refine norm_ (a' := ?_) ?_ ?_
        rotate_left
        · show Act.put _ (some 24) _ = _
          simp only [Act.put, List.setIfInBounds_toArray, List.set_cons_zero, List.set_cons_succ, i64_w, i32_w]
          rfl
        refine one_ (i := 12) (N := some 27) #[true, true, true, true, true, true, true, true, true, true, true, true, true, false, false, false, false, false, false, false, false, false, false, false, false, false, false, false, false, false] rfl rfl (one_of HT_.out (by kernel_rfl)) (by decide) (fun K hK => ?_)
        refine goes_ Try.func16 (by kernel_rfl) rfl #[.agg #[.int .i64 t363, .int .i64 t364, .int .i64 t365, .int .i64 t366], .agg #[.int .i64 t357, .int .i64 t358]] (by rfl) rfl rfl (by (try simp only [List.map_toArray, List.map_cons, List.map_nil]); first | done | rfl | (simp only [List.length_drop, List.length_take]; rfl)) ?_
        with_reducible refine (box_Holds.calls t363 t364 t365 t366 t357 t358 true _ A10.out).mono ?_
        rintro e w45 ⟨rfl, hb⟩
        refine ⟨_, rfl, ?_⟩
        have n0_ := Aside0.mk (Kd.R_below (by (with_reducible repeat (first | apply Kd.R_alloc | apply Kd.R_drewN | apply Kd.R_drew)); exact HO353.out) hb)
        have n1_ := Aside0.mk (blk_below (g := gb338) (o := .cells #[.int .i64 a0_0, .int .i64 a0_1, .int .i64 a0_2, .int .i64 a0_3, .int .i64 a0_4, .int .i64 a0_5, .int .i64 a0_6] 34 (0, 0)) (by (with_reducible repeat (first | refine blk_drewN ?_ _ | refine blk_drew ?_ | refine blk_alloc ?_ _)); exact BK338.out) hb)
        have n2_ := Aside0.mk (blk_below (g := gb339) (o := .cells #[.int .i64 t355, .int .i64 t356] 24 (0, 0)) (by (with_reducible repeat (first | refine blk_drewN ?_ _ | refine blk_drew ?_ | refine blk_alloc ?_ _)); exact BK339.out) hb)
        have n3_ := Aside0.mk (blk_below (g := gb354) (o := .cells #[.int .i64 t341, .int .i64 t342, .int .i64 t343, .int .i64 t344, .int .i64 t345, .int .i64 t346, .int .i64 t347, .int .i64 t348, .int .i64 t349, .int .i64 t350, .slice Ao30 t351.length co30] 39 (0, 0)) (by (with_reducible repeat (first | refine blk_drewN ?_ _ | refine blk_drew ?_ | refine blk_alloc ?_ _)); exact BK354.out) hb)
        have n4_ := Aside0.mk (blk_below (g := gb361) (o := .cells #[.int .i64 t357, .int .i64 t358, .int .i64 t359, .int .i64 t360] 26 (0, 0)) (by (with_reducible repeat (first | refine blk_drewN ?_ _ | refine blk_drew ?_ | refine blk_alloc ?_ _)); exact BK361.out) hb)
        have n5_ := Aside0.mk (below_step (by repeat (first | (with_reducible first | exact HB.out | apply below_alloc | apply pw_below_drewN | apply below_drew1 | refine below_set ?_ GE338.out | refine below_set ?_ GE339.out | refine below_set ?_ GE354.out | refine below_set ?_ GE361.out) | exact HB.out)) hb)
        clear HO353
        clear BK338
        clear BK339
        clear BK354
        clear BK361
        clear HB
        have HO353 := n0_
        have BK338 := n1_
        have BK339 := n2_
        have BK354 := n3_
        have BK361 := n4_
        have HB := n5_
        clear n0_ n1_ n2_ n3_ n4_ n5_
        (try clear hb)
        (try clear hb2)
        (try clear hk)
        (try clear hi)
        refine hK.out _ _ ⟨(blk_cell BK354.out 0).trans rfl, (blk_cell BK354.out 1).trans rfl, (blk_cell BK354.out 2).trans rfl, (blk_cell BK354.out 3).trans rfl, (blk_cell BK354.out 4).trans rfl, (blk_cell BK354.out 5).trans rfl, (blk_cell BK354.out 6).trans rfl, (blk_cell BK354.out 7).trans rfl, (blk_cell BK354.out 8).trans rfl, (blk_cell BK354.out 9).trans rfl, (blk_cell BK354.out 10).trans rfl, (blk_cell BK361.out 0).trans rfl, (blk_cell BK361.out 1).trans rfl, (blk_cell BK361.out 2).trans rfl, (blk_cell BK361.out 3).trans rfl⟩ (fun hHeld => ?_)
        clear hK K
        refine norm_ (a' := ?_) ?_ ?_
        rotate_left
        · show Act.put _ (some 27) _ = _
          simp only [Act.put, List.setIfInBounds_toArray, List.set_cons_zero, List.set_cons_succ, i64_w, i32_w]
          rfl
        refine pure_ (i := 13) (N := some 28) (v := ?_) (a' := ?_) #[true, true, true, true, true, true, true, true, true, true, true, true, true, true, false, false, false, false, false, false, false, false, false, false, false, false, false, false, false, false] rfl rfl (any_of HT_.out (by kernel_rfl)) (fun _ _ _ h => h) (Or.inl ⟨by rfl, ?_⟩) ?_ ?_
        rotate_left
        · intro w'
          go_simp
          with_reducible rfl
        rotate_left
        · simp only [Act.put, List.setIfInBounds_toArray, List.set_cons_zero, List.set_cons_succ, i64_w, i32_w]
          rfl
        refine pure_ (i := 14) (N := some 29) (v := ?_) (a' := ?_) #[true, true, true, true, true, true, true, true, true, true, true, true, true, true, true, false, false, false, false, false, false, false, false, false, false, false, false, false, false, false] rfl rfl (any_of HT_.out (by kernel_rfl)) (fun _ _ _ h => h) (Or.inl ⟨by rfl, ?_⟩) ?_ ?_
        rotate_left
        · intro w'
          go_simp
          with_reducible rfl
        rotate_left
        · simp only [Act.put, List.setIfInBounds_toArray, List.set_cons_zero, List.set_cons_succ, i64_w, i32_w]
          rfl
        refine pure_ (i := 15) (N := some 30) (v := ?_) (a' := ?_) #[true, true, true, true, true, true, true, true, true, true, true, true, true, true, true, true, false, false, false, false, false, false, false, false, false, false, false, false, false, false] rfl rfl (any_of HT_.out (by kernel_rfl)) (fun _ _ _ h => h) (Or.inl ⟨by rfl, ?_⟩) ?_ ?_
        rotate_left
        · intro w'
          go_simp
          with_reducible rfl
        rotate_left
        · simp only [Act.put, List.setIfInBounds_toArray, List.set_cons_zero, List.set_cons_succ, i64_w, i32_w]
          rfl
        refine pure_ (i := 17) (N := some 32) (v := ?_) (a' := ?_) #[true, true, true, true, true, true, true, true, true, true, true, true, true, true, true, true, false, true, false, false, false, false, false, false, false, false, false, false, false, false] rfl rfl (any_of HT_.out (by kernel_rfl)) (fun _ _ _ h => h) (Or.inl ⟨by rfl, ?_⟩) ?_ ?_
        rotate_left
        · intro w'
          go_simp
          with_reducible rfl
        rotate_left
        · simp only [Act.put, List.setIfInBounds_toArray, List.set_cons_zero, List.set_cons_succ, i64_w, i32_w]
          rfl
        refine pure_ (i := 20) (N := some 35) (v := ?_) (a' := ?_) #[true, true, true, true, true, true, true, true, true, true, true, true, true, true, true, true, false, true, false, false, true, false, false, false, false, false, false, false, false, false] rfl rfl (any_of HT_.out (by kernel_rfl)) (fun _ _ _ h => h) (Or.inl ⟨by rfl, ?_⟩) ?_ ?_
        rotate_left
        · intro w'
          go_simp
          with_reducible rfl
        rotate_left
        · simp only [Act.put, List.setIfInBounds_toArray, List.set_cons_zero, List.set_cons_succ, i64_w, i32_w]
          rfl
        refine pure_ (i := 25) (N := some 40) (v := ?_) (a' := ?_) #[true, true, true, true, true, true, true, true, true, true, true, true, true, true, true, true, false, true, false, false, true, false, false, false, false, true, false, false, false, false] rfl rfl (any_of HT_.out (by kernel_rfl)) (fun _ _ _ h => h) (Or.inl ⟨by rfl, ?_⟩) ?_ ?_
        rotate_left
        · intro w'
          go_simp
          with_reducible rfl
        rotate_left
        · simp only [Act.put, List.setIfInBounds_toArray, List.set_cons_zero, List.set_cons_succ, i64_w, i32_w]
          rfl
        refine take_ (i := 16) (N := some 31) (v := ?_) (a' := ?_) #[true, true, true, true, true, true, true, true, true, true, true, true, true, true, true, true, true, true, false, false, true, false, false, false, false, true, false, false, false, false] rfl rfl (take_ofW HT_.out HW_.out (by kernel_rfl)) (fun _ _ _ h => h) (Or.inl ⟨by rfl, ?_⟩) hHeld ?_ ?_
        rotate_left
        · rintro w' ⟨s0, s1, s2, s3, s4, s5, s6, s7, s8, s9, s10, s11, s12, s13, s14⟩
          go_simp
          with_reducible rfl
        rotate_left
        · simp only [Act.put, List.setIfInBounds_toArray, List.set_cons_zero, List.set_cons_succ, i64_w, i32_w]
          rfl
        refine take_ (i := 18) (N := some 33) (v := ?_) (a' := ?_) #[true, true, true, true, true, true, true, true, true, true, true, true, true, true, true, true, true, true, true, false, true, false, false, false, false, true, false, false, false, false] rfl rfl (take_ofW HT_.out HW_.out (by kernel_rfl)) (fun _ _ _ h => h) (Or.inl ⟨by rfl, ?_⟩) hHeld ?_ ?_
        rotate_left
        · rintro w' ⟨s0, s1, s2, s3, s4, s5, s6, s7, s8, s9, s10, s11, s12, s13, s14⟩
          go_simp
          with_reducible rfl
        rotate_left
        · simp only [Act.put, List.setIfInBounds_toArray, List.set_cons_zero, List.set_cons_succ, i64_w, i32_w]
          rfl
        refine pure_ (i := 19) (N := some 34) (v := ?_) (a' := ?_) #[true, true, true, true, true, true, true, true, true, true, true, true, true, true, true, true, true, true, true, true, true, false, false, false, false, true, false, false, false, false] rfl rfl (any_of HT_.out (by kernel_rfl)) (fun _ _ _ h => h) (Or.inl ⟨by rfl, ?_⟩) ?_ ?_
        rotate_left
        · intro w'
          go_simp
          with_reducible rfl
        rotate_left
        · simp only [Act.put, List.setIfInBounds_toArray, List.set_cons_zero, List.set_cons_succ, i64_w, i32_w]
          rfl
        refine take_ (i := 21) (N := some 36) (v := ?_) (a' := ?_) #[true, true, true, true, true, true, true, true, true, true, true, true, true, true, true, true, true, true, true, true, true, true, false, false, false, true, false, false, false, false] rfl rfl (take_ofW HT_.out HW_.out (by kernel_rfl)) (fun _ _ _ h => h) (Or.inl ⟨by rfl, ?_⟩) hHeld ?_ ?_
        rotate_left
        · rintro w' ⟨s0, s1, s2, s3, s4, s5, s6, s7, s8, s9, s10, s11, s12, s13, s14⟩
          go_simp
          with_reducible rfl
        rotate_left
        · simp only [Act.put, List.setIfInBounds_toArray, List.set_cons_zero, List.set_cons_succ, i64_w, i32_w]
          rfl
        refine take_ (i := 26) (N := some 41) (v := ?_) (a' := ?_) #[true, true, true, true, true, true, true, true, true, true, true, true, true, true, true, true, true, true, true, true, true, true, false, false, false, true, true, false, false, false] rfl rfl (take_ofW HT_.out HW_.out (by kernel_rfl)) (fun _ _ _ h => h) (Or.inl ⟨by rfl, ?_⟩) hHeld ?_ ?_
        rotate_left
        · rintro w' ⟨s0, s1, s2, s3, s4, s5, s6, s7, s8, s9, s10, s11, s12, s13, s14⟩
          go_simp
          with_reducible rfl
        rotate_left
        · simp only [Act.put, List.setIfInBounds_toArray, List.set_cons_zero, List.set_cons_succ, i64_w, i32_w]
          rfl
        refine one_ (i := 22) (N := some 37) #[true, true, true, true, true, true, true, true, true, true, true, true, true, true, true, true, true, true, true, true, true, true, true, false, false, true, true, false, false, false] rfl rfl (one_of HT_.out (by kernel_rfl)) (by decide) (fun K hK => ?_)
        refine goes_ Try.func20 (by kernel_rfl) rfl #[.agg #[.int .i64 t349, .int .i64 t350, .slice Ao30 t351.length co30]] (by rfl) rfl rfl (by (try simp only [List.map_toArray, List.map_cons, List.map_nil]); first | done | rfl | (simp only [List.length_drop, List.length_take]; rfl)) ?_
        with_reducible refine (shape_Reach.calls k t349 t350 _ _ t351 t368 _ ?side1 ?side2 A12.out).mono ?_
        (case side1 => repeat (first | exact (Kd.R_reads' HO353.out).2.2 | (with_reducible refine Kd.C_alloc ?_ _) | (with_reducible refine Kd.C_drewN ?_ _) | (with_reducible refine Kd.C_drew ?_)))
        (case side2 => exact (Kd.R_reads' HO353.out).2.1)
        rintro e w46 ⟨rfl, hb⟩
        refine ⟨_, rfl, ?_⟩
        have n0_ := Aside0.mk (Kd.R_below (by (with_reducible repeat (first | apply Kd.R_alloc | apply Kd.R_drewN | apply Kd.R_drew)); exact HO353.out) hb)
        have n1_ := Aside0.mk (blk_below (g := gb338) (o := .cells #[.int .i64 a0_0, .int .i64 a0_1, .int .i64 a0_2, .int .i64 a0_3, .int .i64 a0_4, .int .i64 a0_5, .int .i64 a0_6] 34 (0, 0)) (by (with_reducible repeat (first | refine blk_drewN ?_ _ | refine blk_drew ?_ | refine blk_alloc ?_ _)); exact BK338.out) hb)
        have n2_ := Aside0.mk (blk_below (g := gb339) (o := .cells #[.int .i64 t355, .int .i64 t356] 24 (0, 0)) (by (with_reducible repeat (first | refine blk_drewN ?_ _ | refine blk_drew ?_ | refine blk_alloc ?_ _)); exact BK339.out) hb)
        have n3_ := Aside0.mk (blk_below (g := gb354) (o := .cells #[.int .i64 t341, .int .i64 t342, .int .i64 t343, .int .i64 t344, .int .i64 t345, .int .i64 t346, .int .i64 t347, .int .i64 t348, .int .i64 t349, .int .i64 t350, .slice Ao30 t351.length co30] 39 (0, 0)) (by (with_reducible repeat (first | refine blk_drewN ?_ _ | refine blk_drew ?_ | refine blk_alloc ?_ _)); exact BK354.out) hb)
        have n4_ := Aside0.mk (blk_below (g := gb361) (o := .cells #[.int .i64 t357, .int .i64 t358, .int .i64 t359, .int .i64 t360] 26 (0, 0)) (by (with_reducible repeat (first | refine blk_drewN ?_ _ | refine blk_drew ?_ | refine blk_alloc ?_ _)); exact BK361.out) hb)
        have n5_ := Aside0.mk (below_step (by repeat (first | (with_reducible first | exact HB.out | apply below_alloc | apply pw_below_drewN | apply below_drew1 | refine below_set ?_ GE338.out | refine below_set ?_ GE339.out | refine below_set ?_ GE354.out | refine below_set ?_ GE361.out) | exact HB.out)) hb)
        clear HO353
        clear BK338
        clear BK339
        clear BK354
        clear BK361
        clear HB
        have HO353 := n0_
        have BK338 := n1_
        have BK339 := n2_
        have BK354 := n3_
        have BK361 := n4_
        have HB := n5_
        clear n0_ n1_ n2_ n3_ n4_ n5_
        (try clear hb)
        (try clear hb2)
        (try clear hk)
        (try clear hi)
        refine hK.out _ _ ⟨(blk_cell BK354.out 0).trans rfl, (blk_cell BK354.out 1).trans rfl, (blk_cell BK354.out 2).trans rfl, (blk_cell BK354.out 3).trans rfl, (blk_cell BK354.out 4).trans rfl, (blk_cell BK354.out 5).trans rfl, (blk_cell BK354.out 6).trans rfl, (blk_cell BK354.out 7).trans rfl, (blk_cell BK354.out 8).trans rfl, (blk_cell BK354.out 9).trans rfl, (blk_cell BK354.out 10).trans rfl, (blk_cell BK361.out 0).trans rfl, (blk_cell BK361.out 1).trans rfl, (blk_cell BK361.out 2).trans rfl, (blk_cell BK361.out 3).trans rfl⟩ (fun hHeld => ?_)
        clear hK K
        refine norm_ (a' := ?_) ?_ ?_
        rotate_left
        · show Act.put _ (some 37) _ = _
          simp only [Act.put, List.setIfInBounds_toArray, List.set_cons_zero, List.set_cons_succ, i64_w, i32_w]
          rfl
        refine pure_ (i := 23) (N := some 38) (v := ?_) (a' := ?_) #[true, true, true, true, true, true, true, true, true, true, true, true, true, true, true, true, true, true, true, true, true, true, true, true, false, true, true, false, false, false] rfl rfl (any_of HT_.out (by kernel_rfl)) (fun _ _ _ h => h) (Or.inl ⟨by rfl, ?_⟩) ?_ ?_
        rotate_left
        · intro w'
          go_simp
          with_reducible rfl
        rotate_left
        · simp only [Act.put, List.setIfInBounds_toArray, List.set_cons_zero, List.set_cons_succ, i64_w, i32_w]
          rfl
        refine one_ (i := 24) (N := some 39) #[true, true, true, true, true, true, true, true, true, true, true, true, true, true, true, true, true, true, true, true, true, true, true, true, true, true, true, false, false, false] rfl rfl (one_of HT_.out (by kernel_rfl)) (by decide) (fun K hK => ?_)
        refine goes_ Try.func8 (by kernel_rfl) rfl #[.agg #[.int .i64 t342, .int .i64 t343, .int .i64 t342, .int .i64 t343], .int .i64 (wrap64 (t368 + 1048576))] (by rfl) rfl rfl (by (try simp only [List.map_toArray, List.map_cons, List.map_nil]); first | done | rfl | (simp only [List.length_drop, List.length_take]; rfl)) ?_
        with_reducible refine (box_Grow.calls k t342 t343 t342 t343 (wrap64 (t368 + 1048576)) t369 t370 t371 t372 _ A13.out).mono ?_
        rintro e w47 ⟨rfl, hb⟩
        refine ⟨_, rfl, ?_⟩
        have n0_ := Aside0.mk (Kd.R_below (by (with_reducible repeat (first | apply Kd.R_alloc | apply Kd.R_drewN | apply Kd.R_drew)); exact HO353.out) hb)
        have n1_ := Aside0.mk (blk_below (g := gb338) (o := .cells #[.int .i64 a0_0, .int .i64 a0_1, .int .i64 a0_2, .int .i64 a0_3, .int .i64 a0_4, .int .i64 a0_5, .int .i64 a0_6] 34 (0, 0)) (by (with_reducible repeat (first | refine blk_drewN ?_ _ | refine blk_drew ?_ | refine blk_alloc ?_ _)); exact BK338.out) hb)
        have n2_ := Aside0.mk (blk_below (g := gb339) (o := .cells #[.int .i64 t355, .int .i64 t356] 24 (0, 0)) (by (with_reducible repeat (first | refine blk_drewN ?_ _ | refine blk_drew ?_ | refine blk_alloc ?_ _)); exact BK339.out) hb)
        have n3_ := Aside0.mk (blk_below (g := gb354) (o := .cells #[.int .i64 t341, .int .i64 t342, .int .i64 t343, .int .i64 t344, .int .i64 t345, .int .i64 t346, .int .i64 t347, .int .i64 t348, .int .i64 t349, .int .i64 t350, .slice Ao30 t351.length co30] 39 (0, 0)) (by (with_reducible repeat (first | refine blk_drewN ?_ _ | refine blk_drew ?_ | refine blk_alloc ?_ _)); exact BK354.out) hb)
        have n4_ := Aside0.mk (blk_below (g := gb361) (o := .cells #[.int .i64 t357, .int .i64 t358, .int .i64 t359, .int .i64 t360] 26 (0, 0)) (by (with_reducible repeat (first | refine blk_drewN ?_ _ | refine blk_drew ?_ | refine blk_alloc ?_ _)); exact BK361.out) hb)
        have n5_ := Aside0.mk (below_step (by repeat (first | (with_reducible first | exact HB.out | apply below_alloc | apply pw_below_drewN | apply below_drew1 | refine below_set ?_ GE338.out | refine below_set ?_ GE339.out | refine below_set ?_ GE354.out | refine below_set ?_ GE361.out) | exact HB.out)) hb)
        clear HO353
        clear BK338
        clear BK339
        clear BK354
        clear BK361
        clear HB
        have HO353 := n0_
        have BK338 := n1_
        have BK339 := n2_
        have BK354 := n3_
        have BK361 := n4_
        have HB := n5_
        clear n0_ n1_ n2_ n3_ n4_ n5_
        (try clear hb)
        (try clear hb2)
        (try clear hk)
        (try clear hi)
        refine hK.out _ _ ⟨(blk_cell BK354.out 0).trans rfl, (blk_cell BK354.out 1).trans rfl, (blk_cell BK354.out 2).trans rfl, (blk_cell BK354.out 3).trans rfl, (blk_cell BK354.out 4).trans rfl, (blk_cell BK354.out 5).trans rfl, (blk_cell BK354.out 6).trans rfl, (blk_cell BK354.out 7).trans rfl, (blk_cell BK354.out 8).trans rfl, (blk_cell BK354.out 9).trans rfl, (blk_cell BK354.out 10).trans rfl, (blk_cell BK361.out 0).trans rfl, (blk_cell BK361.out 1).trans rfl, (blk_cell BK361.out 2).trans rfl, (blk_cell BK361.out 3).trans rfl⟩ (fun hHeld => ?_)
        clear hK K
        refine norm_ (a' := ?_) ?_ ?_
        rotate_left
        · show Act.put _ (some 39) _ = _
          simp only [Act.put, List.setIfInBounds_toArray, List.set_cons_zero, List.set_cons_succ, i64_w, i32_w]
          rfl
        refine one_ (i := 27) (N := some 42) #[true, true, true, true, true, true, true, true, true, true, true, true, true, true, true, true, true, true, true, true, true, true, true, true, true, true, true, true, false, false] rfl rfl (one_of HT_.out (by kernel_rfl)) (by decide) (fun K hK => ?_)
        refine goes_ Try.func16 (by kernel_rfl) rfl #[.agg #[.int .i64 t369, .int .i64 t370, .int .i64 t371, .int .i64 t372], .agg #[.int .i64 t359, .int .i64 t360]] (by rfl) rfl rfl (by (try simp only [List.map_toArray, List.map_cons, List.map_nil]); first | done | rfl | (simp only [List.length_drop, List.length_take]; rfl)) ?_
        with_reducible refine (box_Holds.calls t369 t370 t371 t372 t359 t360 true _ A14.out).mono ?_
        rintro e w48 ⟨rfl, hb⟩
        refine ⟨_, rfl, ?_⟩
        have n0_ := Aside0.mk (Kd.R_below (by (with_reducible repeat (first | apply Kd.R_alloc | apply Kd.R_drewN | apply Kd.R_drew)); exact HO353.out) hb)
        have n1_ := Aside0.mk (blk_below (g := gb338) (o := .cells #[.int .i64 a0_0, .int .i64 a0_1, .int .i64 a0_2, .int .i64 a0_3, .int .i64 a0_4, .int .i64 a0_5, .int .i64 a0_6] 34 (0, 0)) (by (with_reducible repeat (first | refine blk_drewN ?_ _ | refine blk_drew ?_ | refine blk_alloc ?_ _)); exact BK338.out) hb)
        have n2_ := Aside0.mk (blk_below (g := gb339) (o := .cells #[.int .i64 t355, .int .i64 t356] 24 (0, 0)) (by (with_reducible repeat (first | refine blk_drewN ?_ _ | refine blk_drew ?_ | refine blk_alloc ?_ _)); exact BK339.out) hb)
        have n3_ := Aside0.mk (blk_below (g := gb354) (o := .cells #[.int .i64 t341, .int .i64 t342, .int .i64 t343, .int .i64 t344, .int .i64 t345, .int .i64 t346, .int .i64 t347, .int .i64 t348, .int .i64 t349, .int .i64 t350, .slice Ao30 t351.length co30] 39 (0, 0)) (by (with_reducible repeat (first | refine blk_drewN ?_ _ | refine blk_drew ?_ | refine blk_alloc ?_ _)); exact BK354.out) hb)
        have n4_ := Aside0.mk (blk_below (g := gb361) (o := .cells #[.int .i64 t357, .int .i64 t358, .int .i64 t359, .int .i64 t360] 26 (0, 0)) (by (with_reducible repeat (first | refine blk_drewN ?_ _ | refine blk_drew ?_ | refine blk_alloc ?_ _)); exact BK361.out) hb)
        have n5_ := Aside0.mk (below_step (by repeat (first | (with_reducible first | exact HB.out | apply below_alloc | apply pw_below_drewN | apply below_drew1 | refine below_set ?_ GE338.out | refine below_set ?_ GE339.out | refine below_set ?_ GE354.out | refine below_set ?_ GE361.out) | exact HB.out)) hb)
        clear HO353
        clear BK338
        clear BK339
        clear BK354
        clear BK361
        clear HB
        have HO353 := n0_
        have BK338 := n1_
        have BK339 := n2_
        have BK354 := n3_
        have BK361 := n4_
        have HB := n5_
        clear n0_ n1_ n2_ n3_ n4_ n5_
        (try clear hb)
        (try clear hb2)
        (try clear hk)
        (try clear hi)
        refine hK.out _ _ ⟨(blk_cell BK354.out 0).trans rfl, (blk_cell BK354.out 1).trans rfl, (blk_cell BK354.out 2).trans rfl, (blk_cell BK354.out 3).trans rfl, (blk_cell BK354.out 4).trans rfl, (blk_cell BK354.out 5).trans rfl, (blk_cell BK354.out 6).trans rfl, (blk_cell BK354.out 7).trans rfl, (blk_cell BK354.out 8).trans rfl, (blk_cell BK354.out 9).trans rfl, (blk_cell BK354.out 10).trans rfl, (blk_cell BK361.out 0).trans rfl, (blk_cell BK361.out 1).trans rfl, (blk_cell BK361.out 2).trans rfl, (blk_cell BK361.out 3).trans rfl⟩ (fun hHeld => ?_)
        clear hK K
        refine norm_ (a' := ?_) ?_ ?_
        rotate_left
        · show Act.put _ (some 42) _ = _
          simp only [Act.put, List.setIfInBounds_toArray, List.set_cons_zero, List.set_cons_succ, i64_w, i32_w]
          rfl
        refine pure_ (i := 28) (N := some 43) (v := ?_) (a' := ?_) #[true, true, true, true, true, true, true, true, true, true, true, true, true, true, true, true, true, true, true, true, true, true, true, true, true, true, true, true, true, false] rfl rfl (any_of HT_.out (by kernel_rfl)) (fun _ _ _ h => h) (Or.inl ⟨by rfl, ?_⟩) ?_ ?_
        rotate_left
        · intro w'
          go_simp
          with_reducible rfl
        rotate_left
        · simp only [Act.put, List.setIfInBounds_toArray, List.set_cons_zero, List.set_cons_succ, i64_w, i32_w]
          rfl
        refine pure_ (i := 29) (N := some 44) (v := ?_) (a' := ?_) #[true, true, true, true, true, true, true, true, true, true, true, true, true, true, true, true, true, true, true, true, true, true, true, true, true, true, true, true, true, true] rfl rfl (any_of HT_.out (by kernel_rfl)) (fun _ _ _ h => h) (Or.inl ⟨by rfl, ?_⟩) ?_ ?_
        rotate_left
        · intro w'
          go_simp
          with_reducible rfl
        rotate_left
        · simp only [Act.put, List.setIfInBounds_toArray, List.set_cons_zero, List.set_cons_succ, i64_w, i32_w]
          rfl
        refine done_ (done_of HT_.out (by kernel_rfl)) ?_
        have hcz49_0 : w48.cell? ⟨gb354, 0, none⟩ = some (.int .i64 t341) := (blk_cell BK354.out 0).trans rfl
        have hcz49_1 : w48.cell? ⟨gb354, 1, none⟩ = some (.int .i64 t342) := (blk_cell BK354.out 1).trans rfl
        have hcz49_2 : w48.cell? ⟨gb354, 2, none⟩ = some (.int .i64 t343) := (blk_cell BK354.out 2).trans rfl
        have hcz49_3 : w48.cell? ⟨gb354, 3, none⟩ = some (.int .i64 t344) := (blk_cell BK354.out 3).trans rfl
        have hcz49_4 : w48.cell? ⟨gb354, 4, none⟩ = some (.int .i64 t345) := (blk_cell BK354.out 4).trans rfl
        have hcz49_5 : w48.cell? ⟨gb354, 5, none⟩ = some (.int .i64 t346) := (blk_cell BK354.out 5).trans rfl
        have hcz49_6 : w48.cell? ⟨gb354, 6, none⟩ = some (.int .i64 t347) := (blk_cell BK354.out 6).trans rfl
        have hcz49_7 : w48.cell? ⟨gb354, 7, none⟩ = some (.int .i64 t348) := (blk_cell BK354.out 7).trans rfl
        have hcz49_8 : w48.cell? ⟨gb354, 8, none⟩ = some (.int .i64 t349) := (blk_cell BK354.out 8).trans rfl
        have hcz49_9 : w48.cell? ⟨gb354, 9, none⟩ = some (.int .i64 t350) := (blk_cell BK354.out 9).trans rfl
        have hcz49_10 : w48.cell? ⟨gb354, 10, none⟩ = some (.slice Ao30 t351.length co30) := (blk_cell BK354.out 10).trans rfl
        have hfz49_0 := blk_frozen BK354.out 0
        have hfz49_1 := blk_frozen BK354.out 1
        have hfz49_2 := blk_frozen BK354.out 2
        have hfz49_3 := blk_frozen BK354.out 3
        have hfz49_4 := blk_frozen BK354.out 4
        have hfz49_5 := blk_frozen BK354.out 5
        have hfz49_6 := blk_frozen BK354.out 6
        have hfz49_7 := blk_frozen BK354.out 7
        have hfz49_8 := blk_frozen BK354.out 8
        have hfz49_9 := blk_frozen BK354.out 9
        have hfz49_10 := blk_frozen BK354.out 10
        have hcz50_0 : w48.cell? ⟨gb339, 0, none⟩ = some (.int .i64 t355) := (blk_cell BK339.out 0).trans rfl
        have hcz50_1 : w48.cell? ⟨gb339, 1, none⟩ = some (.int .i64 t356) := (blk_cell BK339.out 1).trans rfl
        have hfz50_0 := blk_frozen BK339.out 0
        have hfz50_1 := blk_frozen BK339.out 1
        try go_wp2_with (first | ((with_reducible refine gate_callee (f := 14) rfl ?_); refine goesL_ (some 48) rfl rfl Try.func14 (by kernel_rfl) rfl #[.agg #[.int .i64 t342, .int .i64 t343], .agg #[.int .i64 t355, .int .i64 t356]] rfl (by (try simp only [List.map_toArray, List.map_cons, List.map_nil]); first | done | rfl | (simp only [List.length_drop, List.length_take]; rfl)) ?_; (with_reducible refine (vec_Add.calls k t342 t343 t355 t356 t374 t375 _ A16.out).mono ?_); rintro e w51 ⟨rfl, hb⟩; refine ⟨_, rfl, ?_⟩; have n0_ := Aside0.mk (Kd.R_below (by (with_reducible repeat (first | apply Kd.R_alloc | apply Kd.R_drewN | apply Kd.R_drew)); exact HO353.out) hb); have n1_ := Aside0.mk (blk_below (g := gb338) (o := .cells #[.int .i64 a0_0, .int .i64 a0_1, .int .i64 a0_2, .int .i64 a0_3, .int .i64 a0_4, .int .i64 a0_5, .int .i64 a0_6] 34 (0, 0)) (by (with_reducible repeat (first | refine blk_drewN ?_ _ | refine blk_drew ?_ | refine blk_alloc ?_ _)); exact BK338.out) hb); have n2_ := Aside0.mk (blk_below (g := gb339) (o := .cells #[.int .i64 t355, .int .i64 t356] 24 (0, 0)) (by (with_reducible repeat (first | refine blk_drewN ?_ _ | refine blk_drew ?_ | refine blk_alloc ?_ _)); exact BK339.out) hb); have n3_ := Aside0.mk (blk_below (g := gb354) (o := .cells #[.int .i64 t341, .int .i64 t342, .int .i64 t343, .int .i64 t344, .int .i64 t345, .int .i64 t346, .int .i64 t347, .int .i64 t348, .int .i64 t349, .int .i64 t350, .slice Ao30 t351.length co30] 39 (0, 0)) (by (with_reducible repeat (first | refine blk_drewN ?_ _ | refine blk_drew ?_ | refine blk_alloc ?_ _)); exact BK354.out) hb); have n4_ := Aside0.mk (blk_below (g := gb361) (o := .cells #[.int .i64 t357, .int .i64 t358, .int .i64 t359, .int .i64 t360] 26 (0, 0)) (by (with_reducible repeat (first | refine blk_drewN ?_ _ | refine blk_drew ?_ | refine blk_alloc ?_ _)); exact BK361.out) hb); have n5_ := Aside0.mk (below_step (by repeat (first | (with_reducible first | exact HB.out | apply below_alloc | apply pw_below_drewN | apply below_drew1 | refine below_set ?_ GE338.out | refine below_set ?_ GE339.out | refine below_set ?_ GE354.out | refine below_set ?_ GE361.out) | exact HB.out)) hb); clear HO353; clear BK338; clear BK339; clear BK354; clear BK361; clear HB; have HO353 := n0_; have BK338 := n1_; have BK339 := n2_; have BK354 := n3_; have BK361 := n4_; have HB := n5_; clear n0_ n1_ n2_ n3_ n4_ n5_; (try clear hb); (try clear hb2); (try clear hk); (try clear hi); have hcz52_0 : w51.cell? ⟨gb354, 0, none⟩ = some (.int .i64 t341) := (blk_cell BK354.out 0).trans rfl; have hcz52_1 : w51.cell? ⟨gb354, 1, none⟩ = some (.int .i64 t342) := (blk_cell BK354.out 1).trans rfl; have hcz52_2 : w51.cell? ⟨gb354, 2, none⟩ = some (.int .i64 t343) := (blk_cell BK354.out 2).trans rfl; have hcz52_3 : w51.cell? ⟨gb354, 3, none⟩ = some (.int .i64 t344) := (blk_cell BK354.out 3).trans rfl; have hcz52_4 : w51.cell? ⟨gb354, 4, none⟩ = some (.int .i64 t345) := (blk_cell BK354.out 4).trans rfl; have hcz52_5 : w51.cell? ⟨gb354, 5, none⟩ = some (.int .i64 t346) := (blk_cell BK354.out 5).trans rfl; have hcz52_6 : w51.cell? ⟨gb354, 6, none⟩ = some (.int .i64 t347) := (blk_cell BK354.out 6).trans rfl; have hcz52_7 : w51.cell? ⟨gb354, 7, none⟩ = some (.int .i64 t348) := (blk_cell BK354.out 7).trans rfl; have hcz52_8 : w51.cell? ⟨gb354, 8, none⟩ = some (.int .i64 t349) := (blk_cell BK354.out 8).trans rfl; have hcz52_9 : w51.cell? ⟨gb354, 9, none⟩ = some (.int .i64 t350) := (blk_cell BK354.out 9).trans rfl; have hcz52_10 : w51.cell? ⟨gb354, 10, none⟩ = some (.slice Ao30 t351.length co30) := (blk_cell BK354.out 10).trans rfl; have hfz52_0 := blk_frozen BK354.out 0; have hfz52_1 := blk_frozen BK354.out 1; have hfz52_2 := blk_frozen BK354.out 2; have hfz52_3 := blk_frozen BK354.out 3; have hfz52_4 := blk_frozen BK354.out 4; have hfz52_5 := blk_frozen BK354.out 5; have hfz52_6 := blk_frozen BK354.out 6; have hfz52_7 := blk_frozen BK354.out 7; have hfz52_8 := blk_frozen BK354.out 8; have hfz52_9 := blk_frozen BK354.out 9; have hfz52_10 := blk_frozen BK354.out 10))
        have n0_ : Aside0 (Kd.R k24 24 ((w51.setCell ⟨gb354, 1, none⟩ (.int .i64 t374)).setCell ⟨gb354, 2, none⟩ (.int .i64 t375)) w.heap.size (fun k_ => k_ ≠ gb339) (.slice Ao30 t351.length co30) t351) := ⟨by (with_reducible repeat (first | apply Kd.R_alloc | apply Kd.R_drewN | apply Kd.R_drew)); exact Kd.R_mono (Kd.R_far (p := ⟨gb354, 2, none⟩) (Kd.R_far (p := ⟨gb354, 1, none⟩) (Kd.R_types HO353.out BK354.out (by decide)) (fun _ hk => hk.2) (.int .i64 t374)) (fun _ hk => hk.2) (.int .i64 t375)) (fun _ hk => hk.1)⟩
        have n1_ : Aside0 (((w51.setCell ⟨gb354, 1, none⟩ (.int .i64 t374)).setCell ⟨gb354, 2, none⟩ (.int .i64 t375)).heap[gb338]? = some (.cells #[.int .i64 a0_0, .int .i64 a0_1, .int .i64 a0_2, .int .i64 a0_3, .int .i64 a0_4, .int .i64 a0_5, .int .i64 a0_6] 34 (0, 0))) := ⟨by (with_reducible repeat (first | refine blk_drewN ?_ _ | refine blk_drew ?_ | refine blk_alloc ?_ _)); refine blk_far ?_ NB338_354.out _; (with_reducible repeat (first | refine blk_drewN ?_ _ | refine blk_drew ?_ | refine blk_alloc ?_ _)); refine blk_far ?_ NB338_354.out _; (with_reducible repeat (first | refine blk_drewN ?_ _ | refine blk_drew ?_ | refine blk_alloc ?_ _)); exact BK338.out⟩
        have n2_ : Aside0 (((w51.setCell ⟨gb354, 1, none⟩ (.int .i64 t374)).setCell ⟨gb354, 2, none⟩ (.int .i64 t375)).heap[gb339]? = some (.cells #[.int .i64 t355, .int .i64 t356] 24 (0, 0))) := ⟨by (with_reducible repeat (first | refine blk_drewN ?_ _ | refine blk_drew ?_ | refine blk_alloc ?_ _)); refine blk_far ?_ NB339_354.out _; (with_reducible repeat (first | refine blk_drewN ?_ _ | refine blk_drew ?_ | refine blk_alloc ?_ _)); refine blk_far ?_ NB339_354.out _; (with_reducible repeat (first | refine blk_drewN ?_ _ | refine blk_drew ?_ | refine blk_alloc ?_ _)); exact BK339.out⟩
        have n3_ : Aside0 (((w51.setCell ⟨gb354, 1, none⟩ (.int .i64 t374)).setCell ⟨gb354, 2, none⟩ (.int .i64 t375)).heap[gb354]? = some (.cells #[.int .i64 t341, .int .i64 t374, .int .i64 t375, .int .i64 t344, .int .i64 t345, .int .i64 t346, .int .i64 t347, .int .i64 t348, .int .i64 t349, .int .i64 t350, .slice Ao30 t351.length co30] 39 (0, 0))) := ⟨by (with_reducible repeat (first | refine blk_drewN ?_ _ | refine blk_drew ?_ | refine blk_alloc ?_ _)); refine blk_put (cs := #[.int .i64 t341, .int .i64 t374, .int .i64 t343, .int .i64 t344, .int .i64 t345, .int .i64 t346, .int .i64 t347, .int .i64 t348, .int .i64 t349, .int .i64 t350, .slice Ao30 t351.length co30]) ?_ 2 _ rfl; (with_reducible repeat (first | refine blk_drewN ?_ _ | refine blk_drew ?_ | refine blk_alloc ?_ _)); refine blk_put (cs := #[.int .i64 t341, .int .i64 t342, .int .i64 t343, .int .i64 t344, .int .i64 t345, .int .i64 t346, .int .i64 t347, .int .i64 t348, .int .i64 t349, .int .i64 t350, .slice Ao30 t351.length co30]) ?_ 1 _ rfl; (with_reducible repeat (first | refine blk_drewN ?_ _ | refine blk_drew ?_ | refine blk_alloc ?_ _)); exact BK354.out⟩
        have n4_ : Aside0 (((w51.setCell ⟨gb354, 1, none⟩ (.int .i64 t374)).setCell ⟨gb354, 2, none⟩ (.int .i64 t375)).heap[gb361]? = some (.cells #[.int .i64 t357, .int .i64 t358, .int .i64 t359, .int .i64 t360] 26 (0, 0))) := ⟨by (with_reducible repeat (first | refine blk_drewN ?_ _ | refine blk_drew ?_ | refine blk_alloc ?_ _)); refine blk_far ?_ NB361_354.out _; (with_reducible repeat (first | refine blk_drewN ?_ _ | refine blk_drew ?_ | refine blk_alloc ?_ _)); refine blk_far ?_ NB361_354.out _; (with_reducible repeat (first | refine blk_drewN ?_ _ | refine blk_drew ?_ | refine blk_alloc ?_ _)); exact BK361.out⟩
        have n5_ : Aside0 (Below w.heap.size w ((w51.setCell ⟨gb354, 1, none⟩ (.int .i64 t374)).setCell ⟨gb354, 2, none⟩ (.int .i64 t375))) := ⟨by repeat (first | (with_reducible first | exact HB.out | apply below_alloc | apply pw_below_drewN | apply below_drew1 | refine below_set ?_ GE338.out | refine below_set ?_ GE339.out | refine below_set ?_ GE354.out | refine below_set ?_ GE361.out) | exact HB.out)⟩
        (try clear HO353)
        (try clear BK338)
        (try clear BK339)
        (try clear BK354)
        (try clear BK361)
        (try clear HB)
        generalize ((w51.setCell ⟨gb354, 1, none⟩ (.int .i64 t374)).setCell ⟨gb354, 2, none⟩ (.int .i64 t375)) = w53 at n0_ n1_ n2_ n3_ n4_ n5_ ⊢
        have HO353 := n0_
        have BK338 := n1_
        have BK339 := n2_
        have BK354 := n3_
        have BK361 := n4_
        have HB := n5_
        clear n0_ n1_ n2_ n3_ n4_ n5_
        have n0_ := Aside0.mk (Kd.R_drew HO353.out)
        have n1_ := Aside0.mk (blk_drew BK338.out)
        have n2_ := Aside0.mk (blk_drew BK339.out)
        have n3_ := Aside0.mk (blk_drew BK354.out)
        have n4_ := Aside0.mk (blk_drew BK361.out)
        have n5_ := Aside0.mk (below_drew1 HB.out)
        clear HO353
        clear BK338
        clear BK339
        clear BK354
        clear BK361
        clear HB
        have HO353 := n0_
        have BK338 := n1_
        have BK339 := n2_
        have BK354 := n3_
        have BK361 := n4_
        have HB := n5_
        clear n0_ n1_ n2_ n3_ n4_ n5_
        refine start_ (n := 13) (S := fun w' => w'.cell? ⟨gb354, 0, none⟩ = some (.int .i64 t341) ∧ w'.cell? ⟨gb354, 1, none⟩ = some (.int .i64 t374) ∧ w'.cell? ⟨gb354, 2, none⟩ = some (.int .i64 t375) ∧ w'.cell? ⟨gb354, 3, none⟩ = some (.int .i64 t344) ∧ w'.cell? ⟨gb354, 4, none⟩ = some (.int .i64 t345) ∧ w'.cell? ⟨gb354, 5, none⟩ = some (.int .i64 t346) ∧ w'.cell? ⟨gb354, 6, none⟩ = some (.int .i64 t347) ∧ w'.cell? ⟨gb354, 7, none⟩ = some (.int .i64 t348) ∧ w'.cell? ⟨gb354, 8, none⟩ = some (.int .i64 t349) ∧ w'.cell? ⟨gb354, 9, none⟩ = some (.int .i64 t350) ∧ w'.cell? ⟨gb354, 10, none⟩ = some (.slice Ao30 t351.length co30) ∧ w'.cell? ⟨gb361, 0, none⟩ = some (.int .i64 t357) ∧ w'.cell? ⟨gb361, 1, none⟩ = some (.int .i64 t358) ∧ w'.cell? ⟨gb361, 2, none⟩ = some (.int .i64 t359) ∧ w'.cell? ⟨gb361, 3, none⟩ = some (.int .i64 t360) ∧ w'.cell? ⟨gb339, 0, none⟩ = some (.int .i64 t355) ∧ w'.cell? ⟨gb339, 1, none⟩ = some (.int .i64 t356)) (ds := []) #[false, false, false, false, false, false, false, false, false, false, false, false, false] (by kernel_rfl) rfl rfl ⟨(blk_cell BK354.out 0).trans rfl, (blk_cell BK354.out 1).trans rfl, (blk_cell BK354.out 2).trans rfl, (blk_cell BK354.out 3).trans rfl, (blk_cell BK354.out 4).trans rfl, (blk_cell BK354.out 5).trans rfl, (blk_cell BK354.out 6).trans rfl, (blk_cell BK354.out 7).trans rfl, (blk_cell BK354.out 8).trans rfl, (blk_cell BK354.out 9).trans rfl, (blk_cell BK354.out 10).trans rfl, (blk_cell BK361.out 0).trans rfl, (blk_cell BK361.out 1).trans rfl, (blk_cell BK361.out 2).trans rfl, (blk_cell BK361.out 3).trans rfl, (blk_cell BK339.out 0).trans rfl, (blk_cell BK339.out 1).trans rfl⟩ (fun hHeld => ?_); refine with_tabW bagatellelaw06_BoxReaches.tab9 bagatellelaw06_BoxReaches.bits9 (fun HT_ HW_ => ?_)
        generalize w53.drew = w54 at HO353 BK338 BK339 BK354 BK361 HB hHeld ⊢
        refine pure_ (i := 2) (N := some 52) (v := ?_) (a' := ?_) #[false, false, true, false, false, false, false, false, false, false, false, false, false] rfl rfl (any_of HT_.out (by kernel_rfl)) (fun _ _ _ h => h) (Or.inl ⟨by rfl, ?_⟩) ?_ ?_
        rotate_left
        · intro w'
          go_simp
          with_reducible rfl
        rotate_left
        · simp only [Act.put, List.setIfInBounds_toArray, List.set_cons_zero, List.set_cons_succ, i64_w, i32_w]
          rfl
        refine pure_ (i := 6) (N := some 56) (v := ?_) (a' := ?_) #[false, false, true, false, false, false, true, false, false, false, false, false, false] rfl rfl (any_of HT_.out (by kernel_rfl)) (fun _ _ _ h => h) (Or.inl ⟨by rfl, ?_⟩) ?_ ?_
        rotate_left
        · intro w'
          go_simp
          with_reducible rfl
        rotate_left
        · simp only [Act.put, List.setIfInBounds_toArray, List.set_cons_zero, List.set_cons_succ, i64_w, i32_w]
          rfl
        refine take_ (i := 0) (N := some 50) (v := ?_) (a' := ?_) #[true, false, true, false, false, false, true, false, false, false, false, false, false] rfl rfl (take_ofW HT_.out HW_.out (by kernel_rfl)) (fun _ _ _ h => h) (Or.inl ⟨by rfl, ?_⟩) hHeld ?_ ?_
        rotate_left
        · rintro w' ⟨s0, s1, s2, s3, s4, s5, s6, s7, s8, s9, s10, s11, s12, s13, s14, s15, s16⟩
          go_simp
          with_reducible rfl
        rotate_left
        · simp only [Act.put, List.setIfInBounds_toArray, List.set_cons_zero, List.set_cons_succ, i64_w, i32_w]
          rfl
        refine take_ (i := 3) (N := some 53) (v := ?_) (a' := ?_) #[true, false, true, true, false, false, true, false, false, false, false, false, false] rfl rfl (take_ofW HT_.out HW_.out (by kernel_rfl)) (fun _ _ _ h => h) (Or.inl ⟨by rfl, ?_⟩) hHeld ?_ ?_
        rotate_left
        · rintro w' ⟨s0, s1, s2, s3, s4, s5, s6, s7, s8, s9, s10, s11, s12, s13, s14, s15, s16⟩
          go_simp
          with_reducible rfl
        rotate_left
        · simp only [Act.put, List.setIfInBounds_toArray, List.set_cons_zero, List.set_cons_succ, i64_w, i32_w]
          rfl
        refine take_ (i := 4) (N := some 54) (v := ?_) (a' := ?_) #[true, false, true, true, true, false, true, false, false, false, false, false, false] rfl rfl (take_ofW HT_.out HW_.out (by kernel_rfl)) (fun _ _ _ h => h) (Or.inl ⟨by rfl, ?_⟩) hHeld ?_ ?_
        rotate_left
        · rintro w' ⟨s0, s1, s2, s3, s4, s5, s6, s7, s8, s9, s10, s11, s12, s13, s14, s15, s16⟩
          go_simp
          with_reducible rfl
        rotate_left
        · simp only [Act.put, List.setIfInBounds_toArray, List.set_cons_zero, List.set_cons_succ, i64_w, i32_w]
          rfl
        refine take_ (i := 7) (N := some 57) (v := ?_) (a' := ?_) #[true, false, true, true, true, false, true, true, false, false, false, false, false] rfl rfl (take_ofW HT_.out HW_.out (by kernel_rfl)) (fun _ _ _ h => h) (Or.inl ⟨by rfl, ?_⟩) hHeld ?_ ?_
        rotate_left
        · rintro w' ⟨s0, s1, s2, s3, s4, s5, s6, s7, s8, s9, s10, s11, s12, s13, s14, s15, s16⟩
          go_simp
          with_reducible rfl
        rotate_left
        · simp only [Act.put, List.setIfInBounds_toArray, List.set_cons_zero, List.set_cons_succ, i64_w, i32_w]
          rfl
        refine take_ (i := 8) (N := some 58) (v := ?_) (a' := ?_) #[true, false, true, true, true, false, true, true, true, false, false, false, false] rfl rfl (take_ofW HT_.out HW_.out (by kernel_rfl)) (fun _ _ _ h => h) (Or.inl ⟨by rfl, ?_⟩) hHeld ?_ ?_
        rotate_left
        · rintro w' ⟨s0, s1, s2, s3, s4, s5, s6, s7, s8, s9, s10, s11, s12, s13, s14, s15, s16⟩
          go_simp
          with_reducible rfl
        rotate_left
        · simp only [Act.put, List.setIfInBounds_toArray, List.set_cons_zero, List.set_cons_succ, i64_w, i32_w]
          rfl
        refine one_ (i := 1) (N := some 51) #[true, true, true, true, true, false, true, true, true, false, false, false, false] rfl rfl (one_of HT_.out (by kernel_rfl)) (by decide) (fun K hK => ?_)
        refine goes_ Try.func12 (by kernel_rfl) rfl #[.agg #[.int .i64 t341, .int .i64 t374, .int .i64 t375, .int .i64 t344, .int .i64 t345, .int .i64 t346, .int .i64 t347, .int .i64 t348, .int .i64 t349, .int .i64 t350, .slice Ao30 t351.length co30]] (by rfl) rfl rfl (by (try simp only [List.map_toArray, List.map_cons, List.map_nil]); first | done | rfl | (simp only [List.length_drop, List.length_take]; rfl)) ?_
        with_reducible refine (box_Of.calls k t341 t374 t375 t344 t345 t346 t347 t348 t349 t350 _ _ t351 t376 t377 t378 t379 _ ?side1 ?side2 A17.out).mono ?_
        (case side1 => repeat (first | exact (Kd.R_reads' HO353.out).2.2 | (with_reducible refine Kd.C_alloc ?_ _) | (with_reducible refine Kd.C_drewN ?_ _) | (with_reducible refine Kd.C_drew ?_)))
        (case side2 => exact (Kd.R_reads' HO353.out).2.1)
        rintro e w55 ⟨rfl, hb⟩
        refine ⟨_, rfl, ?_⟩
        have n0_ := Aside0.mk (Kd.R_below (by (with_reducible repeat (first | apply Kd.R_alloc | apply Kd.R_drewN | apply Kd.R_drew)); exact HO353.out) hb)
        have n1_ := Aside0.mk (blk_below (g := gb338) (o := .cells #[.int .i64 a0_0, .int .i64 a0_1, .int .i64 a0_2, .int .i64 a0_3, .int .i64 a0_4, .int .i64 a0_5, .int .i64 a0_6] 34 (0, 0)) (by (with_reducible repeat (first | refine blk_drewN ?_ _ | refine blk_drew ?_ | refine blk_alloc ?_ _)); exact BK338.out) hb)
        have n2_ := Aside0.mk (blk_below (g := gb339) (o := .cells #[.int .i64 t355, .int .i64 t356] 24 (0, 0)) (by (with_reducible repeat (first | refine blk_drewN ?_ _ | refine blk_drew ?_ | refine blk_alloc ?_ _)); exact BK339.out) hb)
        have n3_ := Aside0.mk (blk_below (g := gb354) (o := .cells #[.int .i64 t341, .int .i64 t374, .int .i64 t375, .int .i64 t344, .int .i64 t345, .int .i64 t346, .int .i64 t347, .int .i64 t348, .int .i64 t349, .int .i64 t350, .slice Ao30 t351.length co30] 39 (0, 0)) (by (with_reducible repeat (first | refine blk_drewN ?_ _ | refine blk_drew ?_ | refine blk_alloc ?_ _)); exact BK354.out) hb)
        have n4_ := Aside0.mk (blk_below (g := gb361) (o := .cells #[.int .i64 t357, .int .i64 t358, .int .i64 t359, .int .i64 t360] 26 (0, 0)) (by (with_reducible repeat (first | refine blk_drewN ?_ _ | refine blk_drew ?_ | refine blk_alloc ?_ _)); exact BK361.out) hb)
        have n5_ := Aside0.mk (below_step (by repeat (first | (with_reducible first | exact HB.out | apply below_alloc | apply pw_below_drewN | apply below_drew1 | refine below_set ?_ GE338.out | refine below_set ?_ GE339.out | refine below_set ?_ GE354.out | refine below_set ?_ GE361.out) | exact HB.out)) hb)
        clear HO353
        clear BK338
        clear BK339
        clear BK354
        clear BK361
        clear HB
        have HO353 := n0_
        have BK338 := n1_
        have BK339 := n2_
        have BK354 := n3_
        have BK361 := n4_
        have HB := n5_
        clear n0_ n1_ n2_ n3_ n4_ n5_
        (try clear hb)
        (try clear hb2)
        (try clear hk)
        (try clear hi)
        refine hK.out _ _ ⟨(blk_cell BK354.out 0).trans rfl, (blk_cell BK354.out 1).trans rfl, (blk_cell BK354.out 2).trans rfl, (blk_cell BK354.out 3).trans rfl, (blk_cell BK354.out 4).trans rfl, (blk_cell BK354.out 5).trans rfl, (blk_cell BK354.out 6).trans rfl, (blk_cell BK354.out 7).trans rfl, (blk_cell BK354.out 8).trans rfl, (blk_cell BK354.out 9).trans rfl, (blk_cell BK354.out 10).trans rfl, (blk_cell BK361.out 0).trans rfl, (blk_cell BK361.out 1).trans rfl, (blk_cell BK361.out 2).trans rfl, (blk_cell BK361.out 3).trans rfl, (blk_cell BK339.out 0).trans rfl, (blk_cell BK339.out 1).trans rfl⟩ (fun hHeld => ?_)
        clear hK K
        refine norm_ (a' := ?_) ?_ ?_
        rotate_left
        · show Act.put _ (some 51) _ = _
          simp only [Act.put, List.setIfInBounds_toArray, List.set_cons_zero, List.set_cons_succ, i64_w, i32_w]
          rfl
        refine one_ (i := 5) (N := some 55) #[true, true, true, true, true, true, true, true, true, false, false, false, false] rfl rfl (one_of HT_.out (by kernel_rfl)) (by decide) (fun K hK => ?_)
        refine goes_ Try.func14 (by kernel_rfl) rfl #[.agg #[.int .i64 t357, .int .i64 t358], .agg #[.int .i64 t355, .int .i64 t356]] (by rfl) rfl rfl (by (try simp only [List.map_toArray, List.map_cons, List.map_nil]); first | done | rfl | (simp only [List.length_drop, List.length_take]; rfl)) ?_
        with_reducible refine (vec_Add.calls k t357 t358 t355 t356 t380 t381 _ A18.out).mono ?_
        rintro e w56 ⟨rfl, hb⟩
        refine ⟨_, rfl, ?_⟩
        have n0_ := Aside0.mk (Kd.R_below (by (with_reducible repeat (first | apply Kd.R_alloc | apply Kd.R_drewN | apply Kd.R_drew)); exact HO353.out) hb)
        have n1_ := Aside0.mk (blk_below (g := gb338) (o := .cells #[.int .i64 a0_0, .int .i64 a0_1, .int .i64 a0_2, .int .i64 a0_3, .int .i64 a0_4, .int .i64 a0_5, .int .i64 a0_6] 34 (0, 0)) (by (with_reducible repeat (first | refine blk_drewN ?_ _ | refine blk_drew ?_ | refine blk_alloc ?_ _)); exact BK338.out) hb)
        have n2_ := Aside0.mk (blk_below (g := gb339) (o := .cells #[.int .i64 t355, .int .i64 t356] 24 (0, 0)) (by (with_reducible repeat (first | refine blk_drewN ?_ _ | refine blk_drew ?_ | refine blk_alloc ?_ _)); exact BK339.out) hb)
        have n3_ := Aside0.mk (blk_below (g := gb354) (o := .cells #[.int .i64 t341, .int .i64 t374, .int .i64 t375, .int .i64 t344, .int .i64 t345, .int .i64 t346, .int .i64 t347, .int .i64 t348, .int .i64 t349, .int .i64 t350, .slice Ao30 t351.length co30] 39 (0, 0)) (by (with_reducible repeat (first | refine blk_drewN ?_ _ | refine blk_drew ?_ | refine blk_alloc ?_ _)); exact BK354.out) hb)
        have n4_ := Aside0.mk (blk_below (g := gb361) (o := .cells #[.int .i64 t357, .int .i64 t358, .int .i64 t359, .int .i64 t360] 26 (0, 0)) (by (with_reducible repeat (first | refine blk_drewN ?_ _ | refine blk_drew ?_ | refine blk_alloc ?_ _)); exact BK361.out) hb)
        have n5_ := Aside0.mk (below_step (by repeat (first | (with_reducible first | exact HB.out | apply below_alloc | apply pw_below_drewN | apply below_drew1 | refine below_set ?_ GE338.out | refine below_set ?_ GE339.out | refine below_set ?_ GE354.out | refine below_set ?_ GE361.out) | exact HB.out)) hb)
        clear HO353
        clear BK338
        clear BK339
        clear BK354
        clear BK361
        clear HB
        have HO353 := n0_
        have BK338 := n1_
        have BK339 := n2_
        have BK354 := n3_
        have BK361 := n4_
        have HB := n5_
        clear n0_ n1_ n2_ n3_ n4_ n5_
        (try clear hb)
        (try clear hb2)
        (try clear hk)
        (try clear hi)
        refine hK.out _ _ ⟨(blk_cell BK354.out 0).trans rfl, (blk_cell BK354.out 1).trans rfl, (blk_cell BK354.out 2).trans rfl, (blk_cell BK354.out 3).trans rfl, (blk_cell BK354.out 4).trans rfl, (blk_cell BK354.out 5).trans rfl, (blk_cell BK354.out 6).trans rfl, (blk_cell BK354.out 7).trans rfl, (blk_cell BK354.out 8).trans rfl, (blk_cell BK354.out 9).trans rfl, (blk_cell BK354.out 10).trans rfl, (blk_cell BK361.out 0).trans rfl, (blk_cell BK361.out 1).trans rfl, (blk_cell BK361.out 2).trans rfl, (blk_cell BK361.out 3).trans rfl, (blk_cell BK339.out 0).trans rfl, (blk_cell BK339.out 1).trans rfl⟩ (fun hHeld => ?_)
        clear hK K
        refine norm_ (a' := ?_) ?_ ?_
        rotate_left
        · show Act.put _ (some 55) _ = _
          simp only [Act.put, List.setIfInBounds_toArray, List.set_cons_zero, List.set_cons_succ, i64_w, i32_w]
          rfl
        refine one_ (i := 9) (N := some 59) #[true, true, true, true, true, true, true, true, true, true, false, false, false] rfl rfl (one_of HT_.out (by kernel_rfl)) (by decide) (fun K hK => ?_)
        refine goes_ Try.func14 (by kernel_rfl) rfl #[.agg #[.int .i64 t359, .int .i64 t360], .agg #[.int .i64 t355, .int .i64 t356]] (by rfl) rfl rfl (by (try simp only [List.map_toArray, List.map_cons, List.map_nil]); first | done | rfl | (simp only [List.length_drop, List.length_take]; rfl)) ?_
        with_reducible refine (vec_Add.calls k t359 t360 t355 t356 t382 t383 _ A19.out).mono ?_
        rintro e w57 ⟨rfl, hb⟩
        refine ⟨_, rfl, ?_⟩
        have n0_ := Aside0.mk (Kd.R_below (by (with_reducible repeat (first | apply Kd.R_alloc | apply Kd.R_drewN | apply Kd.R_drew)); exact HO353.out) hb)
        have n1_ := Aside0.mk (blk_below (g := gb338) (o := .cells #[.int .i64 a0_0, .int .i64 a0_1, .int .i64 a0_2, .int .i64 a0_3, .int .i64 a0_4, .int .i64 a0_5, .int .i64 a0_6] 34 (0, 0)) (by (with_reducible repeat (first | refine blk_drewN ?_ _ | refine blk_drew ?_ | refine blk_alloc ?_ _)); exact BK338.out) hb)
        have n2_ := Aside0.mk (blk_below (g := gb339) (o := .cells #[.int .i64 t355, .int .i64 t356] 24 (0, 0)) (by (with_reducible repeat (first | refine blk_drewN ?_ _ | refine blk_drew ?_ | refine blk_alloc ?_ _)); exact BK339.out) hb)
        have n3_ := Aside0.mk (blk_below (g := gb354) (o := .cells #[.int .i64 t341, .int .i64 t374, .int .i64 t375, .int .i64 t344, .int .i64 t345, .int .i64 t346, .int .i64 t347, .int .i64 t348, .int .i64 t349, .int .i64 t350, .slice Ao30 t351.length co30] 39 (0, 0)) (by (with_reducible repeat (first | refine blk_drewN ?_ _ | refine blk_drew ?_ | refine blk_alloc ?_ _)); exact BK354.out) hb)
        have n4_ := Aside0.mk (blk_below (g := gb361) (o := .cells #[.int .i64 t357, .int .i64 t358, .int .i64 t359, .int .i64 t360] 26 (0, 0)) (by (with_reducible repeat (first | refine blk_drewN ?_ _ | refine blk_drew ?_ | refine blk_alloc ?_ _)); exact BK361.out) hb)
        have n5_ := Aside0.mk (below_step (by repeat (first | (with_reducible first | exact HB.out | apply below_alloc | apply pw_below_drewN | apply below_drew1 | refine below_set ?_ GE338.out | refine below_set ?_ GE339.out | refine below_set ?_ GE354.out | refine below_set ?_ GE361.out) | exact HB.out)) hb)
        clear HO353
        clear BK338
        clear BK339
        clear BK354
        clear BK361
        clear HB
        have HO353 := n0_
        have BK338 := n1_
        have BK339 := n2_
        have BK354 := n3_
        have BK361 := n4_
        have HB := n5_
        clear n0_ n1_ n2_ n3_ n4_ n5_
        (try clear hb)
        (try clear hb2)
        (try clear hk)
        (try clear hi)
        refine hK.out _ _ ⟨(blk_cell BK354.out 0).trans rfl, (blk_cell BK354.out 1).trans rfl, (blk_cell BK354.out 2).trans rfl, (blk_cell BK354.out 3).trans rfl, (blk_cell BK354.out 4).trans rfl, (blk_cell BK354.out 5).trans rfl, (blk_cell BK354.out 6).trans rfl, (blk_cell BK354.out 7).trans rfl, (blk_cell BK354.out 8).trans rfl, (blk_cell BK354.out 9).trans rfl, (blk_cell BK354.out 10).trans rfl, (blk_cell BK361.out 0).trans rfl, (blk_cell BK361.out 1).trans rfl, (blk_cell BK361.out 2).trans rfl, (blk_cell BK361.out 3).trans rfl, (blk_cell BK339.out 0).trans rfl, (blk_cell BK339.out 1).trans rfl⟩ (fun hHeld => ?_)
        clear hK K
        refine norm_ (a' := ?_) ?_ ?_
        rotate_left
        · show Act.put _ (some 59) _ = _
          simp only [Act.put, List.setIfInBounds_toArray, List.set_cons_zero, List.set_cons_succ, i64_w, i32_w]
          rfl
        refine pure_ (i := 10) (N := some 60) (v := ?_) (a' := ?_) #[true, true, true, true, true, true, true, true, true, true, true, false, false] rfl rfl (any_of HT_.out (by kernel_rfl)) (fun _ _ _ h => h) (Or.inl ⟨by rfl, ?_⟩) ?_ ?_
        rotate_left
        · intro w'
          go_simp
          with_reducible rfl
        rotate_left
        · simp only [Act.put, List.setIfInBounds_toArray, List.set_cons_zero, List.set_cons_succ, i64_w, i32_w]
          rfl
        refine pure_ (i := 11) (N := some 61) (v := ?_) (a' := ?_) #[true, true, true, true, true, true, true, true, true, true, true, true, false] rfl rfl (any_of HT_.out (by kernel_rfl)) (fun _ _ _ h => h) (Or.inl ⟨by rfl, ?_⟩) ?_ ?_
        rotate_left
        · intro w'
          go_simp
          with_reducible rfl
        rotate_left
        · simp only [Act.put, List.setIfInBounds_toArray, List.set_cons_zero, List.set_cons_succ, i64_w, i32_w]
          rfl
        refine pure_ (i := 12) (N := some 4) (v := ?_) (a' := ?_) #[true, true, true, true, true, true, true, true, true, true, true, true, true] rfl rfl (any_of HT_.out (by kernel_rfl)) (fun _ _ _ h => h) (Or.inl ⟨by rfl, ?_⟩) ?_ ?_
        rotate_left
        · intro w'
          go_simp
          with_reducible rfl
        rotate_left
        · simp only [Act.put, List.setIfInBounds_toArray, List.set_cons_zero, List.set_cons_succ, i64_w, i32_w]
          rfl
        refine done_ (done_of HT_.out (by kernel_rfl)) ?_
        try go_wp2
        go_ret
        exact ⟨by first | rfl | (simp [errW_none, errW_some] <;> rfl) | (simp [*, errW_none, errW_some] <;> rfl) | (simp [wrap64]; done) | (congr 2 <;> first | rfl | (unfold wrap64; omega)), by repeat (first | (with_reducible first | exact HB.out | apply below_alloc | apply pw_below_drewN | apply below_drew1 | refine below_set ?_ GE338.out | refine below_set ?_ GE339.out | refine below_set ?_ GE354.out | refine below_set ?_ GE361.out) | exact HB.out)⟩
      · replace c15 := Bool.eq_false_iff.mpr c15
        subst c15
        have H1 : (none) = some r := by rw [if_neg (show ¬ (false = true) by decide)] at H; exact H
        clear H
        have H := H1
        clear H1
        exact absurd H (by simp)
    · replace c11 := Bool.eq_false_iff.mpr c11
      subst c11
      have H1 : (none) = some r := by rw [if_neg (show ¬ (false = true) by decide)] at H; exact H
      clear H
      have H := H1
      clear H1
      exact absurd H (by simp)
  · replace c4 := Bool.eq_false_iff.mpr c4
    subst c4
    have H1 : (none) = some r := by rw [if_neg (show ¬ (false = true) by decide)] at H; exact H
    clear H
    have H := H1
    clear H1
    exact absurd H (by simp)

/-- The one pure statement of bagatellelaw06_BoxReaches. -/
def bagatellelaw06_BoxReaches.Pure : Prop := ∀ (a0_0 : Int) (a0_1 : Int) (a0_2 : Int) (a0_3 : Int) (a0_4 : Int) (a0_5 : Int) (a0_6 : Int) (a1_0 : Int) (a1_1 : Int), (Lit.int .i64 a0_0).wf = true → (Lit.int .i64 a0_1).wf = true → (Lit.int .i64 a0_2).wf = true → (Lit.int .i64 a0_3).wf = true → (Lit.int .i64 a0_4).wf = true → (Lit.int .i64 a0_5).wf = true → (Lit.int .i64 a0_6).wf = true → (Lit.int .i64 a1_0).wf = true → (Lit.int .i64 a1_1).wf = true → ∃ k, bagatellelaw06_BoxReaches.f k a0_0 a0_1 a0_2 a0_3 a0_4 a0_5 a0_6 a1_0 a1_1 = some true
theorem bagatellelaw06_BoxReaches.walk (P : bagatellelaw06_BoxReaches.Pure) (a0_0 : Int) (a0_1 : Int) (a0_2 : Int) (a0_3 : Int) (a0_4 : Int) (a0_5 : Int) (a0_6 : Int) (a1_0 : Int) (a1_1 : Int) (w : World) (w0_0 : (Lit.int .i64 a0_0).wf = true) (w0_1 : (Lit.int .i64 a0_1).wf = true) (w0_2 : (Lit.int .i64 a0_2).wf = true) (w0_3 : (Lit.int .i64 a0_3).wf = true) (w0_4 : (Lit.int .i64 a0_4).wf = true) (w0_5 : (Lit.int .i64 a0_5).wf = true) (w0_6 : (Lit.int .i64 a0_6).wf = true) (w1_0 : (Lit.int .i64 a1_0).wf = true) (w1_1 : (Lit.int .i64 a1_1).wf = true) :
    Calls Try.prog 6 #[.agg #[.int .i64 a0_0, .int .i64 a0_1, .int .i64 a0_2, .int .i64 a0_3, .int .i64 a0_4, .int .i64 a0_5, .int .i64 a0_6], .agg #[.int .i64 a1_0, .int .i64 a1_1]] w fun e w' => e = .returned (.bool true) ∧ Below w.heap.size w w' := by
  obtain ⟨k, h⟩ := P a0_0 a0_1 a0_2 a0_3 a0_4 a0_5 a0_6 a1_0 a1_1 w0_0 w0_1 w0_2 w0_3 w0_4 w0_5 w0_6 w1_0 w1_1
  refine (bagatellelaw06_BoxReaches.calls k a0_0 a0_1 a0_2 a0_3 a0_4 a0_5 a0_6 a1_0 a1_1 true w h).mono ?_
  rintro e w' ⟨rfl, hd⟩
  exact ⟨rfl, hd⟩

end Go.Proofs.Ytlbkpfcidpnhgaa.PBo
