-- Printed by a program of this session (wip/tools/myprint.py) out of the translation; Lean checks it.
import Derived.Test.YtfdjpjainjjljaaPVex0
import Derived.Test.YtfdjpjainjjljaaPVex1
import Derived.Test.YtfdjpjainjjljaaPVex2
import Derived.Test.YtfdjpjainjjljaaPVex5
import Derived.Test.YtfdjpjainjjljaaPVex7
import Derived.Test.YtfdjpjainjjljaaPVex8
import Derived.Test.YtfdjpjainjjljaaPVex10
namespace Go.Proofs.Ytfdjpjainjjljaa.PVe
open Go.RowKit Go.Proofs.YtfdjpjainjjljaaW.PrintWords Go.Proofs.YtfdjpjainjjljaaW.PrintLast Go.Proofs.YtfdjpjainjjljaaW.PrintMore
attribute [local go_sem] max2_int min2_int max_two min_two max_three min_three max_four min_four   -- for this text's walks alone
set_option linter.unusedVariables false
set_option linter.unusedSimpArgs false

attribute [local go_sem high] eqA24
/-! ### bagatellelaw03_VecLaws: function 8 -/
def bagatellelaw03_VecLaws.f (k : Nat) (a0_0 : Int) (a0_1 : Int) (a1_0 : Int) (a1_1 : Int) : Option (Bool) := (bagatellelaw03_fit.f k).bind fun t362 => (if t362 = true then ((vec_Bring.f a0_0 a0_1 17592186044416).bind fun bt363 => ((vec_Bring.f a1_0 a1_1 17592186044416).bind fun bt365 => ((vec_Left.f bt363.1 bt363.2).bind fun bt367 => ((vec_Left.f bt367.1 bt367.2).bind fun bt370 => ((vec_Left.f bt370.1 bt370.2).bind fun bt372 => ((vec_Left.f bt372.1 bt372.2).bind fun bt374 => (if (!(bt374.1 == bt363.1) || (!(bt374.2 == bt363.2))) = true then (none) else ((vec_Left.f bt367.1 bt367.2).bind fun bt376 => ((vec_Neg.f bt363.1 bt363.2).bind fun bt378 => (if (!(bt376.1 == bt378.1) || (!(bt376.2 == bt378.2))) = true then (none) else ((vec_Dot.f k bt363.1 bt363.2 bt367.1 bt367.2).bind fun t380 => (if t380 = 0 then ((vec_Cross.f k bt363.1 bt363.2 bt363.1 bt363.2).bind fun t381 => (if t381 = 0 then ((vec_Add.f k bt363.1 bt363.2 bt365.1 bt365.2).bind fun bt382 => ((vec_Sub.f k bt382.1 bt382.2 bt365.1 bt365.2).bind fun bt384 => (if (!(bt384.1 == bt363.1) || (!(bt384.2 == bt363.2))) = true then (none) else ((vec_Add.f k bt363.1 bt363.2 bt365.1 bt365.2).bind fun bt386 => ((vec_Add.f k bt365.1 bt365.2 bt363.1 bt363.2).bind fun bt388 => (if (!(bt386.1 == bt388.1) || (!(bt386.2 == bt388.2))) = true then (none) else ((vec_Dot.f k bt363.1 bt363.2 bt365.1 bt365.2).bind fun t390 => ((vec_Dot.f k bt365.1 bt365.2 bt363.1 bt363.2).bind fun t391 => (if t390 = t391 then ((vec_Left.f bt365.1 bt365.2).bind fun bt392 => ((vec_Dot.f k bt367.1 bt367.2 bt392.1 bt392.2).bind fun t394 => ((vec_Dot.f k bt363.1 bt363.2 bt365.1 bt365.2).bind fun t395 => (if t394 = t395 then ((vec_Left.f bt365.1 bt365.2).bind fun bt396 => ((vec_Cross.f k bt367.1 bt367.2 bt396.1 bt396.2).bind fun t398 => ((vec_Cross.f k bt363.1 bt363.2 bt365.1 bt365.2).bind fun t399 => (if t398 = t399 then ((vec_Len.f k bt367.1 bt367.2).bind fun t400 => ((vec_Len.f k bt363.1 bt363.2).bind fun t401 => (if t400 = t401 then ((vec_Scale.f k bt363.1 bt363.2 4294967296).bind fun bt402 => (some (bt402.1 == bt363.1 && (bt402.2 == bt363.2)))) else (none)))) else (none))))) else (none))))) else (none)))))))))) else (none))) else (none))))))))))))) else (none))
theorem bagatellelaw03_VecLaws.mono : ∀ a0 a1 a2 a3 k, LeO (bagatellelaw03_VecLaws.f k a0 a1 a2 a3) (bagatellelaw03_VecLaws.f (k + 1) a0 a1 a2 a3) := by
  intro a0 a1 a2 a3 k
  unfold bagatellelaw03_VecLaws.f
  repeat' first
      | (with_reducible exact bagatellelaw03_fit.mono _)
      | (with_reducible exact vec_Add.mono _ _ _ _ _)
      | (with_reducible exact vec_Cross.mono _ _ _ _ _)
      | (with_reducible exact vec_Dot.mono _ _ _ _ _)
      | (with_reducible exact vec_Len.mono _ _ _)
      | (with_reducible exact vec_Scale.mono _ _ _ _)
      | (with_reducible exact vec_Sub.mono _ _ _ _ _)
      | (with_reducible exact LeO.refl _)
      | (with_reducible exact LeO.none _)
      | (with_reducible refine LeO.ite ?_ ?_)
      | (with_reducible refine LeO.bind ?_ (fun _ => ?_))
      | exact bagatellelaw03_fit.mono _
      | exact vec_Add.mono _ _ _ _ _
      | exact vec_Cross.mono _ _ _ _ _
      | exact vec_Dot.mono _ _ _ _ _
      | exact vec_Len.mono _ _ _
      | exact vec_Scale.mono _ _ _ _
      | exact vec_Sub.mono _ _ _ _ _
      | exact LeO.none _
      | refine LeO.ite ?_ ?_
      | refine LeO.bind ?_ (fun _ => ?_)
def bagatellelaw03_VecLaws.T5 : Bool × List (List Nat × List Nat) := (true, [([], []), ([0], [0]), ([1, 1], [1]), ([2, 2], [2]), ([], []), ([3, 4], [3, 4]), ([5, 3], [5]), ([6], [6]), ([7, 6, 6], [6, 7]), ([6], [6]), ([9, 8, 6], [6, 9]), ([8, 10, 6], [6, 8, 10]), ([6, 11], [6, 11]), ([12, 10], [12]), ([13], [13]), ([13], [13]), ([14, 15, 13, 13], [13, 14, 15]), ([16, 13], [13, 16]), ([13, 17], [13, 17]), ([18, 16], [18]), ([19], [19]), ([19], [19]), ([20, 21, 19, 19], [19, 20, 21]), ([22, 19], [19, 22]), ([19, 23], [19, 23])])
def bagatellelaw03_VecLaws.B5 : List Nat := [0, 1, 3, 7, 0, 31, 63, 127, 255, 127, 1023, 2047, 4095, 8191, 16383, 16383, 65535, 131071, 262143, 524287, 1048575, 1048575, 4194303, 8388607, 16777215]
theorem bagatellelaw03_VecLaws.tab5 : rtab .any (opsOf Try.f8 5) = bagatellelaw03_VecLaws.T5 := by kernel_rfl
theorem bagatellelaw03_VecLaws.bits5 : waitsOk bagatellelaw03_VecLaws.T5.2 bagatellelaw03_VecLaws.B5 = true := by kernel_rfl
def bagatellelaw03_VecLaws.T7 : Bool × List (List Nat × List Nat) := (true, [([], []), ([], []), ([0, 1], [0, 1]), ([], []), ([2, 3, 2], [2, 3]), ([], []), ([4, 5], [4, 5]), ([6, 4], [6]), ([7], [7]), ([7], [7]), ([8, 9, 7, 7], [7, 8, 9]), ([7], [7]), ([7], [7]), ([11, 12, 10, 7], [7, 11, 12]), ([10, 13, 7], [7, 10, 13]), ([7, 14], [7, 14]), ([15, 13], [15]), ([16], [16]), ([16], [16]), ([17, 18, 16, 16], [16, 17, 18]), ([16], [16]), ([16], [16]), ([20, 21, 19, 16], [16, 20, 21]), ([19, 22, 16], [16, 19, 22]), ([16, 23], [16, 23])])
def bagatellelaw03_VecLaws.B7 : List Nat := [0, 0, 3, 0, 15, 0, 63, 127, 255, 255, 1023, 255, 255, 8191, 16383, 32767, 65535, 131071, 131071, 524287, 131071, 131071, 4194303, 8388607, 16777215]
theorem bagatellelaw03_VecLaws.tab7 : rtab .any (opsOf Try.f8 7) = bagatellelaw03_VecLaws.T7 := by kernel_rfl
theorem bagatellelaw03_VecLaws.bits7 : waitsOk bagatellelaw03_VecLaws.T7.2 bagatellelaw03_VecLaws.B7 = true := by kernel_rfl
def bagatellelaw03_VecLaws.T9 : Bool × List (List Nat × List Nat) := (true, [([], []), ([], []), ([1], [1]), ([0, 2, 2], [0, 2]), ([], []), ([], []), ([4, 5, 3], [4, 5]), ([3, 6], [3, 6]), ([7, 6], [7]), ([8], [8]), ([8], [8]), ([10, 8, 8], [8, 10]), ([9, 11, 11, 8], [8, 9, 11]), ([8], [8]), ([8], [8]), ([13, 14, 12, 8], [8, 13, 14]), ([12, 15, 8], [8, 12, 15]), ([8, 16], [8, 16]), ([17, 15], [17]), ([18], [18]), ([19, 18, 18], [18, 19]), ([18], [18]), ([21, 20, 18], [18, 21]), ([20, 22, 18], [18, 20, 22]), ([18, 23], [18, 23]), ([24, 22], [24]), ([25], [25]), ([26, 25, 25], [25, 26]), ([25], [25]), ([27, 28, 25], [25, 27, 28]), ([25, 29], [25, 29]), ([30, 27, 0, 1, 2, 3, 4, 5, 6, 7, 8, 9, 10, 11, 12, 13, 14, 15, 16, 17, 18, 19, 20, 21, 22, 23, 24, 25, 26, 27, 28, 29, 30], [30])])
def bagatellelaw03_VecLaws.B9 : List Nat := [0, 0, 2, 7, 0, 0, 63, 127, 255, 511, 511, 1535, 4095, 511, 511, 32767, 65535, 131071, 262143, 524287, 1048575, 524287, 4194303, 8388607, 16777215, 33554431, 67108863, 134217727, 67108863, 536870911, 1073741823, 2147483647]
theorem bagatellelaw03_VecLaws.tab9 : rtab .any (opsOf Try.f8 9) = bagatellelaw03_VecLaws.T9 := by kernel_rfl
theorem bagatellelaw03_VecLaws.bits9 : waitsOk bagatellelaw03_VecLaws.T9.2 bagatellelaw03_VecLaws.B9 = true := by kernel_rfl
set_option maxHeartbeats 8000000 in
set_option maxRecDepth 100000 in
theorem bagatellelaw03_VecLaws.calls (k : Nat) (a0_0 : Int) (a0_1 : Int) (a1_0 : Int) (a1_1 : Int) (r : Bool) (w : World) (h : bagatellelaw03_VecLaws.f k a0_0 a0_1 a1_0 a1_1 = some r) :
    Calls Try.prog 8 #[.agg #[.int .i64 a0_0, .int .i64 a0_1], .agg #[.int .i64 a1_0, .int .i64 a1_1]] w fun e w' => e = .returned (.bool r) ∧ Below w.heap.size w w' := by
  have hu24 := Try.underlying24
  have HB := Aside0.mk (Below.refl w.heap.size w)
  have H : ((bagatellelaw03_fit.f k).bind fun t362 => (if t362 = true then ((vec_Bring.f a0_0 a0_1 17592186044416).bind fun bt363 => ((vec_Bring.f a1_0 a1_1 17592186044416).bind fun bt365 => ((vec_Left.f bt363.1 bt363.2).bind fun bt367 => ((vec_Left.f bt367.1 bt367.2).bind fun bt370 => ((vec_Left.f bt370.1 bt370.2).bind fun bt372 => ((vec_Left.f bt372.1 bt372.2).bind fun bt374 => (if (!(bt374.1 == bt363.1) || (!(bt374.2 == bt363.2))) = true then (none) else ((vec_Left.f bt367.1 bt367.2).bind fun bt376 => ((vec_Neg.f bt363.1 bt363.2).bind fun bt378 => (if (!(bt376.1 == bt378.1) || (!(bt376.2 == bt378.2))) = true then (none) else ((vec_Dot.f k bt363.1 bt363.2 bt367.1 bt367.2).bind fun t380 => (if t380 = 0 then ((vec_Cross.f k bt363.1 bt363.2 bt363.1 bt363.2).bind fun t381 => (if t381 = 0 then ((vec_Add.f k bt363.1 bt363.2 bt365.1 bt365.2).bind fun bt382 => ((vec_Sub.f k bt382.1 bt382.2 bt365.1 bt365.2).bind fun bt384 => (if (!(bt384.1 == bt363.1) || (!(bt384.2 == bt363.2))) = true then (none) else ((vec_Add.f k bt363.1 bt363.2 bt365.1 bt365.2).bind fun bt386 => ((vec_Add.f k bt365.1 bt365.2 bt363.1 bt363.2).bind fun bt388 => (if (!(bt386.1 == bt388.1) || (!(bt386.2 == bt388.2))) = true then (none) else ((vec_Dot.f k bt363.1 bt363.2 bt365.1 bt365.2).bind fun t390 => ((vec_Dot.f k bt365.1 bt365.2 bt363.1 bt363.2).bind fun t391 => (if t390 = t391 then ((vec_Left.f bt365.1 bt365.2).bind fun bt392 => ((vec_Dot.f k bt367.1 bt367.2 bt392.1 bt392.2).bind fun t394 => ((vec_Dot.f k bt363.1 bt363.2 bt365.1 bt365.2).bind fun t395 => (if t394 = t395 then ((vec_Left.f bt365.1 bt365.2).bind fun bt396 => ((vec_Cross.f k bt367.1 bt367.2 bt396.1 bt396.2).bind fun t398 => ((vec_Cross.f k bt363.1 bt363.2 bt365.1 bt365.2).bind fun t399 => (if t398 = t399 then ((vec_Len.f k bt367.1 bt367.2).bind fun t400 => ((vec_Len.f k bt363.1 bt363.2).bind fun t401 => (if t400 = t401 then ((vec_Scale.f k bt363.1 bt363.2 4294967296).bind fun bt402 => (some (bt402.1 == bt363.1 && (bt402.2 == bt363.2)))) else (none)))) else (none))))) else (none))))) else (none)))))))))) else (none))) else (none))))))))))))) else (none))) = some r := h
  clear h
  replace H := Option.bind_eq_some_iff.mp H
  obtain ⟨t362, A30, H⟩ := H
  replace H : (if t362 = true then ((vec_Bring.f a0_0 a0_1 17592186044416).bind fun bt363 => ((vec_Bring.f a1_0 a1_1 17592186044416).bind fun bt365 => ((vec_Left.f bt363.1 bt363.2).bind fun bt367 => ((vec_Left.f bt367.1 bt367.2).bind fun bt370 => ((vec_Left.f bt370.1 bt370.2).bind fun bt372 => ((vec_Left.f bt372.1 bt372.2).bind fun bt374 => (if (!(bt374.1 == bt363.1) || (!(bt374.2 == bt363.2))) = true then (none) else ((vec_Left.f bt367.1 bt367.2).bind fun bt376 => ((vec_Neg.f bt363.1 bt363.2).bind fun bt378 => (if (!(bt376.1 == bt378.1) || (!(bt376.2 == bt378.2))) = true then (none) else ((vec_Dot.f k bt363.1 bt363.2 bt367.1 bt367.2).bind fun t380 => (if t380 = 0 then ((vec_Cross.f k bt363.1 bt363.2 bt363.1 bt363.2).bind fun t381 => (if t381 = 0 then ((vec_Add.f k bt363.1 bt363.2 bt365.1 bt365.2).bind fun bt382 => ((vec_Sub.f k bt382.1 bt382.2 bt365.1 bt365.2).bind fun bt384 => (if (!(bt384.1 == bt363.1) || (!(bt384.2 == bt363.2))) = true then (none) else ((vec_Add.f k bt363.1 bt363.2 bt365.1 bt365.2).bind fun bt386 => ((vec_Add.f k bt365.1 bt365.2 bt363.1 bt363.2).bind fun bt388 => (if (!(bt386.1 == bt388.1) || (!(bt386.2 == bt388.2))) = true then (none) else ((vec_Dot.f k bt363.1 bt363.2 bt365.1 bt365.2).bind fun t390 => ((vec_Dot.f k bt365.1 bt365.2 bt363.1 bt363.2).bind fun t391 => (if t390 = t391 then ((vec_Left.f bt365.1 bt365.2).bind fun bt392 => ((vec_Dot.f k bt367.1 bt367.2 bt392.1 bt392.2).bind fun t394 => ((vec_Dot.f k bt363.1 bt363.2 bt365.1 bt365.2).bind fun t395 => (if t394 = t395 then ((vec_Left.f bt365.1 bt365.2).bind fun bt396 => ((vec_Cross.f k bt367.1 bt367.2 bt396.1 bt396.2).bind fun t398 => ((vec_Cross.f k bt363.1 bt363.2 bt365.1 bt365.2).bind fun t399 => (if t398 = t399 then ((vec_Len.f k bt367.1 bt367.2).bind fun t400 => ((vec_Len.f k bt363.1 bt363.2).bind fun t401 => (if t400 = t401 then ((vec_Scale.f k bt363.1 bt363.2 4294967296).bind fun bt402 => (some (bt402.1 == bt363.1 && (bt402.2 == bt363.2)))) else (none)))) else (none))))) else (none))))) else (none)))))))))) else (none))) else (none))))))))))))) else (none)) = some r := H
  have A3 := Aside0.mk A30
  clear A30
  by_cases c4 : t362 = true
  · subst c4
    have H1 : ((vec_Bring.f a0_0 a0_1 17592186044416).bind fun bt363 => ((vec_Bring.f a1_0 a1_1 17592186044416).bind fun bt365 => ((vec_Left.f bt363.1 bt363.2).bind fun bt367 => ((vec_Left.f bt367.1 bt367.2).bind fun bt370 => ((vec_Left.f bt370.1 bt370.2).bind fun bt372 => ((vec_Left.f bt372.1 bt372.2).bind fun bt374 => (if (!(bt374.1 == bt363.1) || (!(bt374.2 == bt363.2))) = true then (none) else ((vec_Left.f bt367.1 bt367.2).bind fun bt376 => ((vec_Neg.f bt363.1 bt363.2).bind fun bt378 => (if (!(bt376.1 == bt378.1) || (!(bt376.2 == bt378.2))) = true then (none) else ((vec_Dot.f k bt363.1 bt363.2 bt367.1 bt367.2).bind fun t380 => (if t380 = 0 then ((vec_Cross.f k bt363.1 bt363.2 bt363.1 bt363.2).bind fun t381 => (if t381 = 0 then ((vec_Add.f k bt363.1 bt363.2 bt365.1 bt365.2).bind fun bt382 => ((vec_Sub.f k bt382.1 bt382.2 bt365.1 bt365.2).bind fun bt384 => (if (!(bt384.1 == bt363.1) || (!(bt384.2 == bt363.2))) = true then (none) else ((vec_Add.f k bt363.1 bt363.2 bt365.1 bt365.2).bind fun bt386 => ((vec_Add.f k bt365.1 bt365.2 bt363.1 bt363.2).bind fun bt388 => (if (!(bt386.1 == bt388.1) || (!(bt386.2 == bt388.2))) = true then (none) else ((vec_Dot.f k bt363.1 bt363.2 bt365.1 bt365.2).bind fun t390 => ((vec_Dot.f k bt365.1 bt365.2 bt363.1 bt363.2).bind fun t391 => (if t390 = t391 then ((vec_Left.f bt365.1 bt365.2).bind fun bt392 => ((vec_Dot.f k bt367.1 bt367.2 bt392.1 bt392.2).bind fun t394 => ((vec_Dot.f k bt363.1 bt363.2 bt365.1 bt365.2).bind fun t395 => (if t394 = t395 then ((vec_Left.f bt365.1 bt365.2).bind fun bt396 => ((vec_Cross.f k bt367.1 bt367.2 bt396.1 bt396.2).bind fun t398 => ((vec_Cross.f k bt363.1 bt363.2 bt365.1 bt365.2).bind fun t399 => (if t398 = t399 then ((vec_Len.f k bt367.1 bt367.2).bind fun t400 => ((vec_Len.f k bt363.1 bt363.2).bind fun t401 => (if t400 = t401 then ((vec_Scale.f k bt363.1 bt363.2 4294967296).bind fun bt402 => (some (bt402.1 == bt363.1 && (bt402.2 == bt363.2)))) else (none)))) else (none))))) else (none))))) else (none)))))))))) else (none))) else (none))))))))))))) = some r := by rw [if_pos rfl] at H; exact H
    clear H
    have H := H1
    clear H1
    replace H := Option.bind_eq_some_iff.mp H
    obtain ⟨⟨t363, t364⟩, A50, H⟩ := H
    replace H : ((vec_Bring.f a1_0 a1_1 17592186044416).bind fun bt365 => ((vec_Left.f t363 t364).bind fun bt367 => ((vec_Left.f bt367.1 bt367.2).bind fun bt370 => ((vec_Left.f bt370.1 bt370.2).bind fun bt372 => ((vec_Left.f bt372.1 bt372.2).bind fun bt374 => (if (!(bt374.1 == t363) || (!(bt374.2 == t364))) = true then (none) else ((vec_Left.f bt367.1 bt367.2).bind fun bt376 => ((vec_Neg.f t363 t364).bind fun bt378 => (if (!(bt376.1 == bt378.1) || (!(bt376.2 == bt378.2))) = true then (none) else ((vec_Dot.f k t363 t364 bt367.1 bt367.2).bind fun t380 => (if t380 = 0 then ((vec_Cross.f k t363 t364 t363 t364).bind fun t381 => (if t381 = 0 then ((vec_Add.f k t363 t364 bt365.1 bt365.2).bind fun bt382 => ((vec_Sub.f k bt382.1 bt382.2 bt365.1 bt365.2).bind fun bt384 => (if (!(bt384.1 == t363) || (!(bt384.2 == t364))) = true then (none) else ((vec_Add.f k t363 t364 bt365.1 bt365.2).bind fun bt386 => ((vec_Add.f k bt365.1 bt365.2 t363 t364).bind fun bt388 => (if (!(bt386.1 == bt388.1) || (!(bt386.2 == bt388.2))) = true then (none) else ((vec_Dot.f k t363 t364 bt365.1 bt365.2).bind fun t390 => ((vec_Dot.f k bt365.1 bt365.2 t363 t364).bind fun t391 => (if t390 = t391 then ((vec_Left.f bt365.1 bt365.2).bind fun bt392 => ((vec_Dot.f k bt367.1 bt367.2 bt392.1 bt392.2).bind fun t394 => ((vec_Dot.f k t363 t364 bt365.1 bt365.2).bind fun t395 => (if t394 = t395 then ((vec_Left.f bt365.1 bt365.2).bind fun bt396 => ((vec_Cross.f k bt367.1 bt367.2 bt396.1 bt396.2).bind fun t398 => ((vec_Cross.f k t363 t364 bt365.1 bt365.2).bind fun t399 => (if t398 = t399 then ((vec_Len.f k bt367.1 bt367.2).bind fun t400 => ((vec_Len.f k t363 t364).bind fun t401 => (if t400 = t401 then ((vec_Scale.f k t363 t364 4294967296).bind fun bt402 => (some (bt402.1 == t363 && (bt402.2 == t364)))) else (none)))) else (none))))) else (none))))) else (none)))))))))) else (none))) else (none)))))))))))) = some r := H
    have A5 := Aside0.mk A50
    clear A50
    replace H := Option.bind_eq_some_iff.mp H
    obtain ⟨⟨t365, t366⟩, A60, H⟩ := H
    replace H : ((vec_Left.f t363 t364).bind fun bt367 => ((vec_Left.f bt367.1 bt367.2).bind fun bt370 => ((vec_Left.f bt370.1 bt370.2).bind fun bt372 => ((vec_Left.f bt372.1 bt372.2).bind fun bt374 => (if (!(bt374.1 == t363) || (!(bt374.2 == t364))) = true then (none) else ((vec_Left.f bt367.1 bt367.2).bind fun bt376 => ((vec_Neg.f t363 t364).bind fun bt378 => (if (!(bt376.1 == bt378.1) || (!(bt376.2 == bt378.2))) = true then (none) else ((vec_Dot.f k t363 t364 bt367.1 bt367.2).bind fun t380 => (if t380 = 0 then ((vec_Cross.f k t363 t364 t363 t364).bind fun t381 => (if t381 = 0 then ((vec_Add.f k t363 t364 t365 t366).bind fun bt382 => ((vec_Sub.f k bt382.1 bt382.2 t365 t366).bind fun bt384 => (if (!(bt384.1 == t363) || (!(bt384.2 == t364))) = true then (none) else ((vec_Add.f k t363 t364 t365 t366).bind fun bt386 => ((vec_Add.f k t365 t366 t363 t364).bind fun bt388 => (if (!(bt386.1 == bt388.1) || (!(bt386.2 == bt388.2))) = true then (none) else ((vec_Dot.f k t363 t364 t365 t366).bind fun t390 => ((vec_Dot.f k t365 t366 t363 t364).bind fun t391 => (if t390 = t391 then ((vec_Left.f t365 t366).bind fun bt392 => ((vec_Dot.f k bt367.1 bt367.2 bt392.1 bt392.2).bind fun t394 => ((vec_Dot.f k t363 t364 t365 t366).bind fun t395 => (if t394 = t395 then ((vec_Left.f t365 t366).bind fun bt396 => ((vec_Cross.f k bt367.1 bt367.2 bt396.1 bt396.2).bind fun t398 => ((vec_Cross.f k t363 t364 t365 t366).bind fun t399 => (if t398 = t399 then ((vec_Len.f k bt367.1 bt367.2).bind fun t400 => ((vec_Len.f k t363 t364).bind fun t401 => (if t400 = t401 then ((vec_Scale.f k t363 t364 4294967296).bind fun bt402 => (some (bt402.1 == t363 && (bt402.2 == t364)))) else (none)))) else (none))))) else (none))))) else (none)))))))))) else (none))) else (none))))))))))) = some r := H
    have A6 := Aside0.mk A60
    clear A60
    replace H := Option.bind_eq_some_iff.mp H
    obtain ⟨⟨t367, t368⟩, A70, H⟩ := H
    replace H : ((vec_Left.f t367 t368).bind fun bt370 => ((vec_Left.f bt370.1 bt370.2).bind fun bt372 => ((vec_Left.f bt372.1 bt372.2).bind fun bt374 => (if (!(bt374.1 == t363) || (!(bt374.2 == t364))) = true then (none) else ((vec_Left.f t367 t368).bind fun bt376 => ((vec_Neg.f t363 t364).bind fun bt378 => (if (!(bt376.1 == bt378.1) || (!(bt376.2 == bt378.2))) = true then (none) else ((vec_Dot.f k t363 t364 t367 t368).bind fun t380 => (if t380 = 0 then ((vec_Cross.f k t363 t364 t363 t364).bind fun t381 => (if t381 = 0 then ((vec_Add.f k t363 t364 t365 t366).bind fun bt382 => ((vec_Sub.f k bt382.1 bt382.2 t365 t366).bind fun bt384 => (if (!(bt384.1 == t363) || (!(bt384.2 == t364))) = true then (none) else ((vec_Add.f k t363 t364 t365 t366).bind fun bt386 => ((vec_Add.f k t365 t366 t363 t364).bind fun bt388 => (if (!(bt386.1 == bt388.1) || (!(bt386.2 == bt388.2))) = true then (none) else ((vec_Dot.f k t363 t364 t365 t366).bind fun t390 => ((vec_Dot.f k t365 t366 t363 t364).bind fun t391 => (if t390 = t391 then ((vec_Left.f t365 t366).bind fun bt392 => ((vec_Dot.f k t367 t368 bt392.1 bt392.2).bind fun t394 => ((vec_Dot.f k t363 t364 t365 t366).bind fun t395 => (if t394 = t395 then ((vec_Left.f t365 t366).bind fun bt396 => ((vec_Cross.f k t367 t368 bt396.1 bt396.2).bind fun t398 => ((vec_Cross.f k t363 t364 t365 t366).bind fun t399 => (if t398 = t399 then ((vec_Len.f k t367 t368).bind fun t400 => ((vec_Len.f k t363 t364).bind fun t401 => (if t400 = t401 then ((vec_Scale.f k t363 t364 4294967296).bind fun bt402 => (some (bt402.1 == t363 && (bt402.2 == t364)))) else (none)))) else (none))))) else (none))))) else (none)))))))))) else (none))) else (none)))))))))) = some r := H
    have A7 := Aside0.mk A70
    clear A70
    replace H := Option.bind_eq_some_iff.mp H
    obtain ⟨⟨t370, t371⟩, A80, H⟩ := H
    replace H : ((vec_Left.f t370 t371).bind fun bt372 => ((vec_Left.f bt372.1 bt372.2).bind fun bt374 => (if (!(bt374.1 == t363) || (!(bt374.2 == t364))) = true then (none) else ((vec_Left.f t367 t368).bind fun bt376 => ((vec_Neg.f t363 t364).bind fun bt378 => (if (!(bt376.1 == bt378.1) || (!(bt376.2 == bt378.2))) = true then (none) else ((vec_Dot.f k t363 t364 t367 t368).bind fun t380 => (if t380 = 0 then ((vec_Cross.f k t363 t364 t363 t364).bind fun t381 => (if t381 = 0 then ((vec_Add.f k t363 t364 t365 t366).bind fun bt382 => ((vec_Sub.f k bt382.1 bt382.2 t365 t366).bind fun bt384 => (if (!(bt384.1 == t363) || (!(bt384.2 == t364))) = true then (none) else ((vec_Add.f k t363 t364 t365 t366).bind fun bt386 => ((vec_Add.f k t365 t366 t363 t364).bind fun bt388 => (if (!(bt386.1 == bt388.1) || (!(bt386.2 == bt388.2))) = true then (none) else ((vec_Dot.f k t363 t364 t365 t366).bind fun t390 => ((vec_Dot.f k t365 t366 t363 t364).bind fun t391 => (if t390 = t391 then ((vec_Left.f t365 t366).bind fun bt392 => ((vec_Dot.f k t367 t368 bt392.1 bt392.2).bind fun t394 => ((vec_Dot.f k t363 t364 t365 t366).bind fun t395 => (if t394 = t395 then ((vec_Left.f t365 t366).bind fun bt396 => ((vec_Cross.f k t367 t368 bt396.1 bt396.2).bind fun t398 => ((vec_Cross.f k t363 t364 t365 t366).bind fun t399 => (if t398 = t399 then ((vec_Len.f k t367 t368).bind fun t400 => ((vec_Len.f k t363 t364).bind fun t401 => (if t400 = t401 then ((vec_Scale.f k t363 t364 4294967296).bind fun bt402 => (some (bt402.1 == t363 && (bt402.2 == t364)))) else (none)))) else (none))))) else (none))))) else (none)))))))))) else (none))) else (none))))))))) = some r := H
    have A8 := Aside0.mk A80
    clear A80
    replace H := Option.bind_eq_some_iff.mp H
    obtain ⟨⟨t372, t373⟩, A90, H⟩ := H
    replace H : ((vec_Left.f t372 t373).bind fun bt374 => (if (!(bt374.1 == t363) || (!(bt374.2 == t364))) = true then (none) else ((vec_Left.f t367 t368).bind fun bt376 => ((vec_Neg.f t363 t364).bind fun bt378 => (if (!(bt376.1 == bt378.1) || (!(bt376.2 == bt378.2))) = true then (none) else ((vec_Dot.f k t363 t364 t367 t368).bind fun t380 => (if t380 = 0 then ((vec_Cross.f k t363 t364 t363 t364).bind fun t381 => (if t381 = 0 then ((vec_Add.f k t363 t364 t365 t366).bind fun bt382 => ((vec_Sub.f k bt382.1 bt382.2 t365 t366).bind fun bt384 => (if (!(bt384.1 == t363) || (!(bt384.2 == t364))) = true then (none) else ((vec_Add.f k t363 t364 t365 t366).bind fun bt386 => ((vec_Add.f k t365 t366 t363 t364).bind fun bt388 => (if (!(bt386.1 == bt388.1) || (!(bt386.2 == bt388.2))) = true then (none) else ((vec_Dot.f k t363 t364 t365 t366).bind fun t390 => ((vec_Dot.f k t365 t366 t363 t364).bind fun t391 => (if t390 = t391 then ((vec_Left.f t365 t366).bind fun bt392 => ((vec_Dot.f k t367 t368 bt392.1 bt392.2).bind fun t394 => ((vec_Dot.f k t363 t364 t365 t366).bind fun t395 => (if t394 = t395 then ((vec_Left.f t365 t366).bind fun bt396 => ((vec_Cross.f k t367 t368 bt396.1 bt396.2).bind fun t398 => ((vec_Cross.f k t363 t364 t365 t366).bind fun t399 => (if t398 = t399 then ((vec_Len.f k t367 t368).bind fun t400 => ((vec_Len.f k t363 t364).bind fun t401 => (if t400 = t401 then ((vec_Scale.f k t363 t364 4294967296).bind fun bt402 => (some (bt402.1 == t363 && (bt402.2 == t364)))) else (none)))) else (none))))) else (none))))) else (none)))))))))) else (none))) else (none)))))))) = some r := H
    have A9 := Aside0.mk A90
    clear A90
    replace H := Option.bind_eq_some_iff.mp H
    obtain ⟨⟨t374, t375⟩, A100, H⟩ := H
    replace H : (if (!(t374 == t363) || (!(t375 == t364))) = true then (none) else ((vec_Left.f t367 t368).bind fun bt376 => ((vec_Neg.f t363 t364).bind fun bt378 => (if (!(bt376.1 == bt378.1) || (!(bt376.2 == bt378.2))) = true then (none) else ((vec_Dot.f k t363 t364 t367 t368).bind fun t380 => (if t380 = 0 then ((vec_Cross.f k t363 t364 t363 t364).bind fun t381 => (if t381 = 0 then ((vec_Add.f k t363 t364 t365 t366).bind fun bt382 => ((vec_Sub.f k bt382.1 bt382.2 t365 t366).bind fun bt384 => (if (!(bt384.1 == t363) || (!(bt384.2 == t364))) = true then (none) else ((vec_Add.f k t363 t364 t365 t366).bind fun bt386 => ((vec_Add.f k t365 t366 t363 t364).bind fun bt388 => (if (!(bt386.1 == bt388.1) || (!(bt386.2 == bt388.2))) = true then (none) else ((vec_Dot.f k t363 t364 t365 t366).bind fun t390 => ((vec_Dot.f k t365 t366 t363 t364).bind fun t391 => (if t390 = t391 then ((vec_Left.f t365 t366).bind fun bt392 => ((vec_Dot.f k t367 t368 bt392.1 bt392.2).bind fun t394 => ((vec_Dot.f k t363 t364 t365 t366).bind fun t395 => (if t394 = t395 then ((vec_Left.f t365 t366).bind fun bt396 => ((vec_Cross.f k t367 t368 bt396.1 bt396.2).bind fun t398 => ((vec_Cross.f k t363 t364 t365 t366).bind fun t399 => (if t398 = t399 then ((vec_Len.f k t367 t368).bind fun t400 => ((vec_Len.f k t363 t364).bind fun t401 => (if t400 = t401 then ((vec_Scale.f k t363 t364 4294967296).bind fun bt402 => (some (bt402.1 == t363 && (bt402.2 == t364)))) else (none)))) else (none))))) else (none))))) else (none)))))))))) else (none))) else (none))))))) = some r := H
    have A10 := Aside0.mk A100
    clear A100
    by_cases c11 : (!(t374 == t363) || (!(t375 == t364))) = true
    · rw [if_pos c11] at H
      exact absurd H (by simp)
    · rw [if_neg c11] at H
      have c11b0 : (!(t374 == t363) || (!(t375 == t364))) = false := by simpa using c11
      clear c11
      replace H := Option.bind_eq_some_iff.mp H
      obtain ⟨⟨t376, t377⟩, A120, H⟩ := H
      replace H : ((vec_Neg.f t363 t364).bind fun bt378 => (if (!(t376 == bt378.1) || (!(t377 == bt378.2))) = true then (none) else ((vec_Dot.f k t363 t364 t367 t368).bind fun t380 => (if t380 = 0 then ((vec_Cross.f k t363 t364 t363 t364).bind fun t381 => (if t381 = 0 then ((vec_Add.f k t363 t364 t365 t366).bind fun bt382 => ((vec_Sub.f k bt382.1 bt382.2 t365 t366).bind fun bt384 => (if (!(bt384.1 == t363) || (!(bt384.2 == t364))) = true then (none) else ((vec_Add.f k t363 t364 t365 t366).bind fun bt386 => ((vec_Add.f k t365 t366 t363 t364).bind fun bt388 => (if (!(bt386.1 == bt388.1) || (!(bt386.2 == bt388.2))) = true then (none) else ((vec_Dot.f k t363 t364 t365 t366).bind fun t390 => ((vec_Dot.f k t365 t366 t363 t364).bind fun t391 => (if t390 = t391 then ((vec_Left.f t365 t366).bind fun bt392 => ((vec_Dot.f k t367 t368 bt392.1 bt392.2).bind fun t394 => ((vec_Dot.f k t363 t364 t365 t366).bind fun t395 => (if t394 = t395 then ((vec_Left.f t365 t366).bind fun bt396 => ((vec_Cross.f k t367 t368 bt396.1 bt396.2).bind fun t398 => ((vec_Cross.f k t363 t364 t365 t366).bind fun t399 => (if t398 = t399 then ((vec_Len.f k t367 t368).bind fun t400 => ((vec_Len.f k t363 t364).bind fun t401 => (if t400 = t401 then ((vec_Scale.f k t363 t364 4294967296).bind fun bt402 => (some (bt402.1 == t363 && (bt402.2 == t364)))) else (none)))) else (none))))) else (none))))) else (none)))))))))) else (none))) else (none))))) = some r := H
      have A12 := Aside0.mk A120
      clear A120
      replace H := Option.bind_eq_some_iff.mp H
      obtain ⟨⟨t378, t379⟩, A130, H⟩ := H
      replace H : (if (!(t376 == t378) || (!(t377 == t379))) = true then (none) else ((vec_Dot.f k t363 t364 t367 t368).bind fun t380 => (if t380 = 0 then ((vec_Cross.f k t363 t364 t363 t364).bind fun t381 => (if t381 = 0 then ((vec_Add.f k t363 t364 t365 t366).bind fun bt382 => ((vec_Sub.f k bt382.1 bt382.2 t365 t366).bind fun bt384 => (if (!(bt384.1 == t363) || (!(bt384.2 == t364))) = true then (none) else ((vec_Add.f k t363 t364 t365 t366).bind fun bt386 => ((vec_Add.f k t365 t366 t363 t364).bind fun bt388 => (if (!(bt386.1 == bt388.1) || (!(bt386.2 == bt388.2))) = true then (none) else ((vec_Dot.f k t363 t364 t365 t366).bind fun t390 => ((vec_Dot.f k t365 t366 t363 t364).bind fun t391 => (if t390 = t391 then ((vec_Left.f t365 t366).bind fun bt392 => ((vec_Dot.f k t367 t368 bt392.1 bt392.2).bind fun t394 => ((vec_Dot.f k t363 t364 t365 t366).bind fun t395 => (if t394 = t395 then ((vec_Left.f t365 t366).bind fun bt396 => ((vec_Cross.f k t367 t368 bt396.1 bt396.2).bind fun t398 => ((vec_Cross.f k t363 t364 t365 t366).bind fun t399 => (if t398 = t399 then ((vec_Len.f k t367 t368).bind fun t400 => ((vec_Len.f k t363 t364).bind fun t401 => (if t400 = t401 then ((vec_Scale.f k t363 t364 4294967296).bind fun bt402 => (some (bt402.1 == t363 && (bt402.2 == t364)))) else (none)))) else (none))))) else (none))))) else (none)))))))))) else (none))) else (none)))) = some r := H
      have A13 := Aside0.mk A130
      clear A130
      by_cases c14 : (!(t376 == t378) || (!(t377 == t379))) = true
      · rw [if_pos c14] at H
        exact absurd H (by simp)
      · rw [if_neg c14] at H
        have c14b0 : (!(t376 == t378) || (!(t377 == t379))) = false := by simpa using c14
        clear c14
        replace H := Option.bind_eq_some_iff.mp H
        obtain ⟨t380, A150, H⟩ := H
        replace H : (if t380 = 0 then ((vec_Cross.f k t363 t364 t363 t364).bind fun t381 => (if t381 = 0 then ((vec_Add.f k t363 t364 t365 t366).bind fun bt382 => ((vec_Sub.f k bt382.1 bt382.2 t365 t366).bind fun bt384 => (if (!(bt384.1 == t363) || (!(bt384.2 == t364))) = true then (none) else ((vec_Add.f k t363 t364 t365 t366).bind fun bt386 => ((vec_Add.f k t365 t366 t363 t364).bind fun bt388 => (if (!(bt386.1 == bt388.1) || (!(bt386.2 == bt388.2))) = true then (none) else ((vec_Dot.f k t363 t364 t365 t366).bind fun t390 => ((vec_Dot.f k t365 t366 t363 t364).bind fun t391 => (if t390 = t391 then ((vec_Left.f t365 t366).bind fun bt392 => ((vec_Dot.f k t367 t368 bt392.1 bt392.2).bind fun t394 => ((vec_Dot.f k t363 t364 t365 t366).bind fun t395 => (if t394 = t395 then ((vec_Left.f t365 t366).bind fun bt396 => ((vec_Cross.f k t367 t368 bt396.1 bt396.2).bind fun t398 => ((vec_Cross.f k t363 t364 t365 t366).bind fun t399 => (if t398 = t399 then ((vec_Len.f k t367 t368).bind fun t400 => ((vec_Len.f k t363 t364).bind fun t401 => (if t400 = t401 then ((vec_Scale.f k t363 t364 4294967296).bind fun bt402 => (some (bt402.1 == t363 && (bt402.2 == t364)))) else (none)))) else (none))))) else (none))))) else (none)))))))))) else (none))) else (none)) = some r := H
        have A15 := Aside0.mk A150
        clear A150
        by_cases c16 : t380 = 0
        · rw [if_pos c16] at H
          have c16b0 : (t380 == 0) = true := beq_iff_eq.mpr c16
          have c16b1 : (t380 != 0) = false := bne_eq_false_iff_eq.mpr c16
          clear c16
          replace H := Option.bind_eq_some_iff.mp H
          obtain ⟨t381, A170, H⟩ := H
          replace H : (if t381 = 0 then ((vec_Add.f k t363 t364 t365 t366).bind fun bt382 => ((vec_Sub.f k bt382.1 bt382.2 t365 t366).bind fun bt384 => (if (!(bt384.1 == t363) || (!(bt384.2 == t364))) = true then (none) else ((vec_Add.f k t363 t364 t365 t366).bind fun bt386 => ((vec_Add.f k t365 t366 t363 t364).bind fun bt388 => (if (!(bt386.1 == bt388.1) || (!(bt386.2 == bt388.2))) = true then (none) else ((vec_Dot.f k t363 t364 t365 t366).bind fun t390 => ((vec_Dot.f k t365 t366 t363 t364).bind fun t391 => (if t390 = t391 then ((vec_Left.f t365 t366).bind fun bt392 => ((vec_Dot.f k t367 t368 bt392.1 bt392.2).bind fun t394 => ((vec_Dot.f k t363 t364 t365 t366).bind fun t395 => (if t394 = t395 then ((vec_Left.f t365 t366).bind fun bt396 => ((vec_Cross.f k t367 t368 bt396.1 bt396.2).bind fun t398 => ((vec_Cross.f k t363 t364 t365 t366).bind fun t399 => (if t398 = t399 then ((vec_Len.f k t367 t368).bind fun t400 => ((vec_Len.f k t363 t364).bind fun t401 => (if t400 = t401 then ((vec_Scale.f k t363 t364 4294967296).bind fun bt402 => (some (bt402.1 == t363 && (bt402.2 == t364)))) else (none)))) else (none))))) else (none))))) else (none)))))))))) else (none)) = some r := H
          have A17 := Aside0.mk A170
          clear A170
          by_cases c18 : t381 = 0
          · rw [if_pos c18] at H
            have c18b0 : (t381 == 0) = true := beq_iff_eq.mpr c18
            have c18b1 : (t381 != 0) = false := bne_eq_false_iff_eq.mpr c18
            clear c18
            replace H := Option.bind_eq_some_iff.mp H
            obtain ⟨⟨t382, t383⟩, A190, H⟩ := H
            replace H : ((vec_Sub.f k t382 t383 t365 t366).bind fun bt384 => (if (!(bt384.1 == t363) || (!(bt384.2 == t364))) = true then (none) else ((vec_Add.f k t363 t364 t365 t366).bind fun bt386 => ((vec_Add.f k t365 t366 t363 t364).bind fun bt388 => (if (!(bt386.1 == bt388.1) || (!(bt386.2 == bt388.2))) = true then (none) else ((vec_Dot.f k t363 t364 t365 t366).bind fun t390 => ((vec_Dot.f k t365 t366 t363 t364).bind fun t391 => (if t390 = t391 then ((vec_Left.f t365 t366).bind fun bt392 => ((vec_Dot.f k t367 t368 bt392.1 bt392.2).bind fun t394 => ((vec_Dot.f k t363 t364 t365 t366).bind fun t395 => (if t394 = t395 then ((vec_Left.f t365 t366).bind fun bt396 => ((vec_Cross.f k t367 t368 bt396.1 bt396.2).bind fun t398 => ((vec_Cross.f k t363 t364 t365 t366).bind fun t399 => (if t398 = t399 then ((vec_Len.f k t367 t368).bind fun t400 => ((vec_Len.f k t363 t364).bind fun t401 => (if t400 = t401 then ((vec_Scale.f k t363 t364 4294967296).bind fun bt402 => (some (bt402.1 == t363 && (bt402.2 == t364)))) else (none)))) else (none))))) else (none))))) else (none))))))))) = some r := H
            have A19 := Aside0.mk A190
            clear A190
            replace H := Option.bind_eq_some_iff.mp H
            obtain ⟨⟨t384, t385⟩, A200, H⟩ := H
            replace H : (if (!(t384 == t363) || (!(t385 == t364))) = true then (none) else ((vec_Add.f k t363 t364 t365 t366).bind fun bt386 => ((vec_Add.f k t365 t366 t363 t364).bind fun bt388 => (if (!(bt386.1 == bt388.1) || (!(bt386.2 == bt388.2))) = true then (none) else ((vec_Dot.f k t363 t364 t365 t366).bind fun t390 => ((vec_Dot.f k t365 t366 t363 t364).bind fun t391 => (if t390 = t391 then ((vec_Left.f t365 t366).bind fun bt392 => ((vec_Dot.f k t367 t368 bt392.1 bt392.2).bind fun t394 => ((vec_Dot.f k t363 t364 t365 t366).bind fun t395 => (if t394 = t395 then ((vec_Left.f t365 t366).bind fun bt396 => ((vec_Cross.f k t367 t368 bt396.1 bt396.2).bind fun t398 => ((vec_Cross.f k t363 t364 t365 t366).bind fun t399 => (if t398 = t399 then ((vec_Len.f k t367 t368).bind fun t400 => ((vec_Len.f k t363 t364).bind fun t401 => (if t400 = t401 then ((vec_Scale.f k t363 t364 4294967296).bind fun bt402 => (some (bt402.1 == t363 && (bt402.2 == t364)))) else (none)))) else (none))))) else (none))))) else (none)))))))) = some r := H
            have A20 := Aside0.mk A200
            clear A200
            by_cases c21 : (!(t384 == t363) || (!(t385 == t364))) = true
            · rw [if_pos c21] at H
              exact absurd H (by simp)
            · rw [if_neg c21] at H
              have c21b0 : (!(t384 == t363) || (!(t385 == t364))) = false := by simpa using c21
              clear c21
              replace H := Option.bind_eq_some_iff.mp H
              obtain ⟨⟨t386, t387⟩, A220, H⟩ := H
              replace H : ((vec_Add.f k t365 t366 t363 t364).bind fun bt388 => (if (!(t386 == bt388.1) || (!(t387 == bt388.2))) = true then (none) else ((vec_Dot.f k t363 t364 t365 t366).bind fun t390 => ((vec_Dot.f k t365 t366 t363 t364).bind fun t391 => (if t390 = t391 then ((vec_Left.f t365 t366).bind fun bt392 => ((vec_Dot.f k t367 t368 bt392.1 bt392.2).bind fun t394 => ((vec_Dot.f k t363 t364 t365 t366).bind fun t395 => (if t394 = t395 then ((vec_Left.f t365 t366).bind fun bt396 => ((vec_Cross.f k t367 t368 bt396.1 bt396.2).bind fun t398 => ((vec_Cross.f k t363 t364 t365 t366).bind fun t399 => (if t398 = t399 then ((vec_Len.f k t367 t368).bind fun t400 => ((vec_Len.f k t363 t364).bind fun t401 => (if t400 = t401 then ((vec_Scale.f k t363 t364 4294967296).bind fun bt402 => (some (bt402.1 == t363 && (bt402.2 == t364)))) else (none)))) else (none))))) else (none))))) else (none)))))) = some r := H
              have A22 := Aside0.mk A220
              clear A220
              replace H := Option.bind_eq_some_iff.mp H
              obtain ⟨⟨t388, t389⟩, A230, H⟩ := H
              replace H : (if (!(t386 == t388) || (!(t387 == t389))) = true then (none) else ((vec_Dot.f k t363 t364 t365 t366).bind fun t390 => ((vec_Dot.f k t365 t366 t363 t364).bind fun t391 => (if t390 = t391 then ((vec_Left.f t365 t366).bind fun bt392 => ((vec_Dot.f k t367 t368 bt392.1 bt392.2).bind fun t394 => ((vec_Dot.f k t363 t364 t365 t366).bind fun t395 => (if t394 = t395 then ((vec_Left.f t365 t366).bind fun bt396 => ((vec_Cross.f k t367 t368 bt396.1 bt396.2).bind fun t398 => ((vec_Cross.f k t363 t364 t365 t366).bind fun t399 => (if t398 = t399 then ((vec_Len.f k t367 t368).bind fun t400 => ((vec_Len.f k t363 t364).bind fun t401 => (if t400 = t401 then ((vec_Scale.f k t363 t364 4294967296).bind fun bt402 => (some (bt402.1 == t363 && (bt402.2 == t364)))) else (none)))) else (none))))) else (none))))) else (none))))) = some r := H
              have A23 := Aside0.mk A230
              clear A230
              by_cases c24 : (!(t386 == t388) || (!(t387 == t389))) = true
              · rw [if_pos c24] at H
                exact absurd H (by simp)
              · rw [if_neg c24] at H
                have c24b0 : (!(t386 == t388) || (!(t387 == t389))) = false := by simpa using c24
                clear c24
                replace H := Option.bind_eq_some_iff.mp H
                obtain ⟨t390, A250, H⟩ := H
                replace H : ((vec_Dot.f k t365 t366 t363 t364).bind fun t391 => (if t390 = t391 then ((vec_Left.f t365 t366).bind fun bt392 => ((vec_Dot.f k t367 t368 bt392.1 bt392.2).bind fun t394 => ((vec_Dot.f k t363 t364 t365 t366).bind fun t395 => (if t394 = t395 then ((vec_Left.f t365 t366).bind fun bt396 => ((vec_Cross.f k t367 t368 bt396.1 bt396.2).bind fun t398 => ((vec_Cross.f k t363 t364 t365 t366).bind fun t399 => (if t398 = t399 then ((vec_Len.f k t367 t368).bind fun t400 => ((vec_Len.f k t363 t364).bind fun t401 => (if t400 = t401 then ((vec_Scale.f k t363 t364 4294967296).bind fun bt402 => (some (bt402.1 == t363 && (bt402.2 == t364)))) else (none)))) else (none))))) else (none))))) else (none))) = some r := H
                have A25 := Aside0.mk A250
                clear A250
                replace H := Option.bind_eq_some_iff.mp H
                obtain ⟨t391, A260, H⟩ := H
                replace H : (if t390 = t391 then ((vec_Left.f t365 t366).bind fun bt392 => ((vec_Dot.f k t367 t368 bt392.1 bt392.2).bind fun t394 => ((vec_Dot.f k t363 t364 t365 t366).bind fun t395 => (if t394 = t395 then ((vec_Left.f t365 t366).bind fun bt396 => ((vec_Cross.f k t367 t368 bt396.1 bt396.2).bind fun t398 => ((vec_Cross.f k t363 t364 t365 t366).bind fun t399 => (if t398 = t399 then ((vec_Len.f k t367 t368).bind fun t400 => ((vec_Len.f k t363 t364).bind fun t401 => (if t400 = t401 then ((vec_Scale.f k t363 t364 4294967296).bind fun bt402 => (some (bt402.1 == t363 && (bt402.2 == t364)))) else (none)))) else (none))))) else (none))))) else (none)) = some r := H
                have A26 := Aside0.mk A260
                clear A260
                by_cases c27 : t390 = t391
                · rw [if_pos c27] at H
                  have c27b0 : (t390 == t391) = true := beq_iff_eq.mpr c27
                  have c27b1 : (t390 != t391) = false := bne_eq_false_iff_eq.mpr c27
                  clear c27
                  replace H := Option.bind_eq_some_iff.mp H
                  obtain ⟨⟨t392, t393⟩, A280, H⟩ := H
                  replace H : ((vec_Dot.f k t367 t368 t392 t393).bind fun t394 => ((vec_Dot.f k t363 t364 t365 t366).bind fun t395 => (if t394 = t395 then ((vec_Left.f t365 t366).bind fun bt396 => ((vec_Cross.f k t367 t368 bt396.1 bt396.2).bind fun t398 => ((vec_Cross.f k t363 t364 t365 t366).bind fun t399 => (if t398 = t399 then ((vec_Len.f k t367 t368).bind fun t400 => ((vec_Len.f k t363 t364).bind fun t401 => (if t400 = t401 then ((vec_Scale.f k t363 t364 4294967296).bind fun bt402 => (some (bt402.1 == t363 && (bt402.2 == t364)))) else (none)))) else (none))))) else (none)))) = some r := H
                  have A28 := Aside0.mk A280
                  clear A280
                  replace H := Option.bind_eq_some_iff.mp H
                  obtain ⟨t394, A290, H⟩ := H
                  replace H : ((vec_Dot.f k t363 t364 t365 t366).bind fun t395 => (if t394 = t395 then ((vec_Left.f t365 t366).bind fun bt396 => ((vec_Cross.f k t367 t368 bt396.1 bt396.2).bind fun t398 => ((vec_Cross.f k t363 t364 t365 t366).bind fun t399 => (if t398 = t399 then ((vec_Len.f k t367 t368).bind fun t400 => ((vec_Len.f k t363 t364).bind fun t401 => (if t400 = t401 then ((vec_Scale.f k t363 t364 4294967296).bind fun bt402 => (some (bt402.1 == t363 && (bt402.2 == t364)))) else (none)))) else (none))))) else (none))) = some r := H
                  have A29 := Aside0.mk A290
                  clear A290
                  replace H := Option.bind_eq_some_iff.mp H
                  obtain ⟨t395, A300, H⟩ := H
                  replace H : (if t394 = t395 then ((vec_Left.f t365 t366).bind fun bt396 => ((vec_Cross.f k t367 t368 bt396.1 bt396.2).bind fun t398 => ((vec_Cross.f k t363 t364 t365 t366).bind fun t399 => (if t398 = t399 then ((vec_Len.f k t367 t368).bind fun t400 => ((vec_Len.f k t363 t364).bind fun t401 => (if t400 = t401 then ((vec_Scale.f k t363 t364 4294967296).bind fun bt402 => (some (bt402.1 == t363 && (bt402.2 == t364)))) else (none)))) else (none))))) else (none)) = some r := H
                  have A30 := Aside0.mk A300
                  clear A300
                  by_cases c31 : t394 = t395
                  · rw [if_pos c31] at H
                    have c31b0 : (t394 == t395) = true := beq_iff_eq.mpr c31
                    have c31b1 : (t394 != t395) = false := bne_eq_false_iff_eq.mpr c31
                    clear c31
                    replace H := Option.bind_eq_some_iff.mp H
                    obtain ⟨⟨t396, t397⟩, A320, H⟩ := H
                    replace H : ((vec_Cross.f k t367 t368 t396 t397).bind fun t398 => ((vec_Cross.f k t363 t364 t365 t366).bind fun t399 => (if t398 = t399 then ((vec_Len.f k t367 t368).bind fun t400 => ((vec_Len.f k t363 t364).bind fun t401 => (if t400 = t401 then ((vec_Scale.f k t363 t364 4294967296).bind fun bt402 => (some (bt402.1 == t363 && (bt402.2 == t364)))) else (none)))) else (none)))) = some r := H
                    have A32 := Aside0.mk A320
                    clear A320
                    replace H := Option.bind_eq_some_iff.mp H
                    obtain ⟨t398, A330, H⟩ := H
                    replace H : ((vec_Cross.f k t363 t364 t365 t366).bind fun t399 => (if t398 = t399 then ((vec_Len.f k t367 t368).bind fun t400 => ((vec_Len.f k t363 t364).bind fun t401 => (if t400 = t401 then ((vec_Scale.f k t363 t364 4294967296).bind fun bt402 => (some (bt402.1 == t363 && (bt402.2 == t364)))) else (none)))) else (none))) = some r := H
                    have A33 := Aside0.mk A330
                    clear A330
                    replace H := Option.bind_eq_some_iff.mp H
                    obtain ⟨t399, A340, H⟩ := H
                    replace H : (if t398 = t399 then ((vec_Len.f k t367 t368).bind fun t400 => ((vec_Len.f k t363 t364).bind fun t401 => (if t400 = t401 then ((vec_Scale.f k t363 t364 4294967296).bind fun bt402 => (some (bt402.1 == t363 && (bt402.2 == t364)))) else (none)))) else (none)) = some r := H
                    have A34 := Aside0.mk A340
                    clear A340
                    by_cases c35 : t398 = t399
                    · rw [if_pos c35] at H
                      have c35b0 : (t398 == t399) = true := beq_iff_eq.mpr c35
                      have c35b1 : (t398 != t399) = false := bne_eq_false_iff_eq.mpr c35
                      clear c35
                      replace H := Option.bind_eq_some_iff.mp H
                      obtain ⟨t400, A360, H⟩ := H
                      replace H : ((vec_Len.f k t363 t364).bind fun t401 => (if t400 = t401 then ((vec_Scale.f k t363 t364 4294967296).bind fun bt402 => (some (bt402.1 == t363 && (bt402.2 == t364)))) else (none))) = some r := H
                      have A36 := Aside0.mk A360
                      clear A360
                      replace H := Option.bind_eq_some_iff.mp H
                      obtain ⟨t401, A370, H⟩ := H
                      replace H : (if t400 = t401 then ((vec_Scale.f k t363 t364 4294967296).bind fun bt402 => (some (bt402.1 == t363 && (bt402.2 == t364)))) else (none)) = some r := H
                      have A37 := Aside0.mk A370
                      clear A370
                      by_cases c38 : t400 = t401
                      · rw [if_pos c38] at H
                        have c38b0 : (t400 == t401) = true := beq_iff_eq.mpr c38
                        have c38b1 : (t400 != t401) = false := bne_eq_false_iff_eq.mpr c38
                        clear c38
                        replace H := Option.bind_eq_some_iff.mp H
                        obtain ⟨⟨t402, t403⟩, A390, H⟩ := H
                        replace H : (some (t402 == t363 && (t403 == t364))) = some r := H
                        have A39 := Aside0.mk A390
                        clear A390
                        obtain rfl := Option.some.inj H
                        go_enter Try.func8, Try.ntmps8
                        try go_wp2_with (first | ((with_reducible refine gate_dst (N := 2) rfl ?_); refine box_event ?hg (N := 2) ?hd (cs := #[.int .i64 a0_0, .int .i64 a0_1]) (t := 24) ?hr ?_; (case hd => rfl); (case hg => rfl); (case hr => first | (go_simp; done) | (go_simp; rfl)); intro gb360 hg w40 hbox hb; have n0_ := Aside0.mk (below_step (by repeat (first | (with_reducible first | exact HB.out | apply below_alloc | apply pw_below_drewN | apply below_drew1) | exact HB.out)) hb); have n1_ := Aside0.mk (hbox); have n2_ := Aside0.mk ((by rw [hg]; exact (below_size (by repeat (first | (with_reducible first | exact HB.out | apply below_alloc | apply pw_below_drewN | apply below_drew1) | exact HB.out))) : w.heap.size ≤ gb360)); have n3_ := Aside0.mk ((by rw [hg]; exact (below_size (by repeat (first | (with_reducible first | exact HB.out | apply below_alloc | apply pw_below_drewN | apply below_drew1) | exact HB.out))) : w.heap.size ≤ gb360)); clear HB; have HB := n0_; have BK360 := n1_; have GW360 := n2_; have GE360 := n3_; clear n0_ n1_ n2_ n3_; clear hb hbox hg) | ((with_reducible refine gate_dst (N := 3) rfl ?_); refine box_event ?hg (N := 3) ?hd (cs := #[.int .i64 a1_0, .int .i64 a1_1]) (t := 24) ?hr ?_; (case hd => rfl); (case hg => rfl); (case hr => first | (go_simp; done) | (go_simp; rfl)); intro gb361 hg w41 hbox hb; have n0_ := Aside0.mk (blk_below (g := gb360) (o := .cells #[.int .i64 a0_0, .int .i64 a0_1] 24 (0, 0)) (by (with_reducible repeat (first | refine blk_drewN ?_ _ | refine blk_drew ?_ | refine blk_alloc ?_ _)); exact BK360.out) hb); have n1_ := Aside0.mk (below_step (by repeat (first | (with_reducible first | exact HB.out | apply below_alloc | apply pw_below_drewN | apply below_drew1 | refine below_set ?_ GE360.out) | exact HB.out)) hb); have n2_ := Aside0.mk (hbox); have n3_ := Aside0.mk ((by rw [hg]; exact (below_size (by repeat (first | (with_reducible first | exact HB.out | apply below_alloc | apply pw_below_drewN | apply below_drew1 | refine below_set ?_ GE360.out) | exact HB.out))) : w.heap.size ≤ gb361)); have n4_ := Aside0.mk ((by rw [hg]; exact (below_size (by repeat (first | (with_reducible first | exact HB.out | apply below_alloc | apply pw_below_drewN | apply below_drew1 | refine below_set ?_ GE360.out) | exact HB.out))) : w.heap.size ≤ gb361)); have n5_ := Aside0.mk ((by rw [hg]; exact Nat.ne_of_lt (blk_lt (g := gb360) (o := .cells #[.int .i64 a0_0, .int .i64 a0_1] 24 (0, 0)) (by (with_reducible repeat (first | refine blk_drewN ?_ _ | refine blk_drew ?_ | refine blk_alloc ?_ _)); exact BK360.out)) : gb360 ≠ gb361)); have n6_ := Aside0.mk ((by rw [hg]; exact Nat.ne_of_gt (blk_lt (g := gb360) (o := .cells #[.int .i64 a0_0, .int .i64 a0_1] 24 (0, 0)) (by (with_reducible repeat (first | refine blk_drewN ?_ _ | refine blk_drew ?_ | refine blk_alloc ?_ _)); exact BK360.out)) : gb361 ≠ gb360)); clear BK360; clear HB; have BK360 := n0_; have HB := n1_; have BK361 := n2_; have GW361 := n3_; have GE361 := n4_; have NB360_361 := n5_; have NB361_360 := n6_; clear n0_ n1_ n2_ n3_ n4_ n5_ n6_; clear hb hbox hg) | ((with_reducible refine gate_callee (f := 9) rfl ?_); refine goesL_ (some 6) rfl rfl Try.func9 (by kernel_rfl) rfl #[] rfl (by (try simp only [List.map_toArray, List.map_cons, List.map_nil]); first | done | rfl | (simp only [List.length_drop, List.length_take]; rfl)) ?_; (with_reducible refine (bagatellelaw03_fit.calls k  true _ A3.out).mono ?_); rintro e w42 ⟨rfl, hb⟩; refine ⟨_, rfl, ?_⟩; have n0_ := Aside0.mk (blk_below (g := gb360) (o := .cells #[.int .i64 a0_0, .int .i64 a0_1] 24 (0, 0)) (by (with_reducible repeat (first | refine blk_drewN ?_ _ | refine blk_drew ?_ | refine blk_alloc ?_ _)); exact BK360.out) hb); have n1_ := Aside0.mk (blk_below (g := gb361) (o := .cells #[.int .i64 a1_0, .int .i64 a1_1] 24 (0, 0)) (by (with_reducible repeat (first | refine blk_drewN ?_ _ | refine blk_drew ?_ | refine blk_alloc ?_ _)); exact BK361.out) hb); have n2_ := Aside0.mk (below_step (by repeat (first | (with_reducible first | exact HB.out | apply below_alloc | apply pw_below_drewN | apply below_drew1 | refine below_set ?_ GE360.out | refine below_set ?_ GE361.out) | exact HB.out)) hb); clear BK360; clear BK361; clear HB; have BK360 := n0_; have BK361 := n1_; have HB := n2_; clear n0_ n1_ n2_; (try clear hb); (try clear hb2); (try clear hk); (try clear hi)))
                        have n0_ := Aside0.mk (blk_drew BK360.out)
                        have n1_ := Aside0.mk (blk_drew BK361.out)
                        have n2_ := Aside0.mk (below_drew1 HB.out)
                        clear BK360
                        clear BK361
                        clear HB
                        have BK360 := n0_
                        have BK361 := n1_
                        have HB := n2_
                        clear n0_ n1_ n2_
                        refine start_ (n := 6) (S := fun w' => w'.cell? ⟨gb360, 0, none⟩ = some (.int .i64 a0_0) ∧ w'.cell? ⟨gb360, 1, none⟩ = some (.int .i64 a0_1) ∧ w'.cell? ⟨gb361, 0, none⟩ = some (.int .i64 a1_0) ∧ w'.cell? ⟨gb361, 1, none⟩ = some (.int .i64 a1_1)) (ds := [4, 5]) #[false, false, false, false, false, false] (by kernel_rfl) rfl rfl ⟨(blk_cell BK360.out 0).trans rfl, (blk_cell BK360.out 1).trans rfl, (blk_cell BK361.out 0).trans rfl, (blk_cell BK361.out 1).trans rfl⟩ (fun hHeld => ?_)
                        generalize w42.drew = w43 at BK360 BK361 HB hHeld ⊢
                        refine take_ (i := 0) (N := some 8) (v := ?_) (a' := ?_) #[true, false, false, false, false, false] rfl rfl (by kernel_rfl) (fun _ _ _ h => h) (Or.inl ⟨by rfl, ?_⟩) hHeld ?_ ?_
                        rotate_left
                        · rintro w' ⟨s0, s1, s2, s3⟩
                          go_simp
                          with_reducible rfl
                        rotate_left
                        · simp only [Act.put, List.setIfInBounds_toArray, List.set_cons_zero, List.set_cons_succ, i64_w, i32_w]
                          rfl
                        refine take_ (i := 2) (N := some 10) (v := ?_) (a' := ?_) #[true, false, true, false, false, false] rfl rfl (by kernel_rfl) (fun _ _ _ h => h) (Or.inl ⟨by rfl, ?_⟩) hHeld ?_ ?_
                        rotate_left
                        · rintro w' ⟨s0, s1, s2, s3⟩
                          go_simp
                          with_reducible rfl
                        rotate_left
                        · simp only [Act.put, List.setIfInBounds_toArray, List.set_cons_zero, List.set_cons_succ, i64_w, i32_w]
                          rfl
                        refine one_ (i := 1) (N := some 9) #[true, true, true, false, false, false] rfl rfl (by kernel_rfl) (by decide) (fun K hK => ?_)
                        refine goes_ Try.func17 (by kernel_rfl) rfl #[.agg #[.int .i64 a0_0, .int .i64 a0_1], .int .i64 17592186044416] (by rfl) rfl rfl (by (try simp only [List.map_toArray, List.map_cons, List.map_nil]); first | done | rfl | (simp only [List.length_drop, List.length_take]; rfl)) ?_
                        with_reducible refine (vec_Bring.calls a0_0 a0_1 17592186044416 t363 t364 _ A5.out).mono ?_
                        rintro e w44 ⟨rfl, hb⟩
                        refine ⟨_, rfl, ?_⟩
                        have n0_ := Aside0.mk (blk_below (g := gb360) (o := .cells #[.int .i64 a0_0, .int .i64 a0_1] 24 (0, 0)) (by (with_reducible repeat (first | refine blk_drewN ?_ _ | refine blk_drew ?_ | refine blk_alloc ?_ _)); exact BK360.out) hb)
                        have n1_ := Aside0.mk (blk_below (g := gb361) (o := .cells #[.int .i64 a1_0, .int .i64 a1_1] 24 (0, 0)) (by (with_reducible repeat (first | refine blk_drewN ?_ _ | refine blk_drew ?_ | refine blk_alloc ?_ _)); exact BK361.out) hb)
                        have n2_ := Aside0.mk (below_step (by repeat (first | (with_reducible first | exact HB.out | apply below_alloc | apply pw_below_drewN | apply below_drew1 | refine below_set ?_ GE360.out | refine below_set ?_ GE361.out) | exact HB.out)) hb)
                        clear BK360
                        clear BK361
                        clear HB
                        have BK360 := n0_
                        have BK361 := n1_
                        have HB := n2_
                        clear n0_ n1_ n2_
                        (try clear hb)
                        (try clear hb2)
                        (try clear hk)
                        (try clear hi)
                        refine hK.out _ _ ⟨(blk_cell BK360.out 0).trans rfl, (blk_cell BK360.out 1).trans rfl, (blk_cell BK361.out 0).trans rfl, (blk_cell BK361.out 1).trans rfl⟩ (fun hHeld => ?_)
                        clear hK K
                        refine norm_ (a' := ?_) ?_ ?_
                        rotate_left
                        · show Act.put _ (some 9) _ = _
                          simp only [Act.put, List.setIfInBounds_toArray, List.set_cons_zero, List.set_cons_succ, i64_w, i32_w]
                          rfl
                        refine one_ (i := 3) (N := some 11) #[true, true, true, true, false, false] rfl rfl (by kernel_rfl) (by decide) (fun K hK => ?_)
                        refine goes_ Try.func17 (by kernel_rfl) rfl #[.agg #[.int .i64 a1_0, .int .i64 a1_1], .int .i64 17592186044416] (by rfl) rfl rfl (by (try simp only [List.map_toArray, List.map_cons, List.map_nil]); first | done | rfl | (simp only [List.length_drop, List.length_take]; rfl)) ?_
                        with_reducible refine (vec_Bring.calls a1_0 a1_1 17592186044416 t365 t366 _ A6.out).mono ?_
                        rintro e w45 ⟨rfl, hb⟩
                        refine ⟨_, rfl, ?_⟩
                        have n0_ := Aside0.mk (blk_below (g := gb360) (o := .cells #[.int .i64 a0_0, .int .i64 a0_1] 24 (0, 0)) (by (with_reducible repeat (first | refine blk_drewN ?_ _ | refine blk_drew ?_ | refine blk_alloc ?_ _)); exact BK360.out) hb)
                        have n1_ := Aside0.mk (blk_below (g := gb361) (o := .cells #[.int .i64 a1_0, .int .i64 a1_1] 24 (0, 0)) (by (with_reducible repeat (first | refine blk_drewN ?_ _ | refine blk_drew ?_ | refine blk_alloc ?_ _)); exact BK361.out) hb)
                        have n2_ := Aside0.mk (below_step (by repeat (first | (with_reducible first | exact HB.out | apply below_alloc | apply pw_below_drewN | apply below_drew1 | refine below_set ?_ GE360.out | refine below_set ?_ GE361.out) | exact HB.out)) hb)
                        clear BK360
                        clear BK361
                        clear HB
                        have BK360 := n0_
                        have BK361 := n1_
                        have HB := n2_
                        clear n0_ n1_ n2_
                        (try clear hb)
                        (try clear hb2)
                        (try clear hk)
                        (try clear hi)
                        refine hK.out _ _ ⟨(blk_cell BK360.out 0).trans rfl, (blk_cell BK360.out 1).trans rfl, (blk_cell BK361.out 0).trans rfl, (blk_cell BK361.out 1).trans rfl⟩ (fun hHeld => ?_)
                        clear hK K
                        refine norm_ (a' := ?_) ?_ ?_
                        rotate_left
                        · show Act.put _ (some 11) _ = _
                          simp only [Act.put, List.setIfInBounds_toArray, List.set_cons_zero, List.set_cons_succ, i64_w, i32_w]
                          rfl
                        refine last_ (i := 4) (N := none) #[true, true, true, true, true, false] rfl rfl (by kernel_rfl) (by decide) (fun K hK => ?_)
                        have hs46 : w45.cell? ⟨gb360, 0, none⟩ = some (.int .i64 a0_0) := (blk_cell BK360.out 0).trans rfl
                        have hfs46 := blk_frozen BK360.out 0
                        have hns46_1 := NB361_360.out
                        have hms46_1 := NB360_361.out
                        have hs47 : w45.cell? ⟨gb360, 1, none⟩ = some (.int .i64 a0_1) := (blk_cell BK360.out 1).trans rfl
                        have hfs47 := blk_frozen BK360.out 1
                        have hns47_1 := NB361_360.out
                        have hms47_1 := NB360_361.out
                        refine skip_ (w1 := ?_) (by rfl) rfl ?_ ?_
                        rotate_left
                        · go_simp
                          rfl
                        refine hK.out _ _ ?_
                        clear hK K
                        refine last_ (i := 5) (N := none) #[true, true, true, true, true, true] rfl rfl (by kernel_rfl) (by decide) (fun K hK => ?_)
                        have hs48 : w45.cell? ⟨gb361, 0, none⟩ = some (.int .i64 a1_0) := (blk_cell BK361.out 0).trans rfl
                        have hfs48 := blk_frozen BK361.out 0
                        have hns48_0 := NB360_361.out
                        have hms48_0 := NB361_360.out
                        have hs49 : w45.cell? ⟨gb361, 1, none⟩ = some (.int .i64 a1_1) := (blk_cell BK361.out 1).trans rfl
                        have hfs49 := blk_frozen BK361.out 1
                        have hns49_0 := NB360_361.out
                        have hms49_0 := NB361_360.out
                        refine skip_ (w1 := ?_) (by rfl) rfl ?_ ?_
                        rotate_left
                        · go_simp
                          rfl
                        refine hK.out _ _ ?_
                        clear hK K
                        refine done_ (by kernel_rfl) ?_
                        have hnb50 := NB360_361.out
                        have hnc50 := NB361_360.out
                        have hcz51_0 : w45.cell? ⟨gb360, 0, none⟩ = some (.int .i64 a0_0) := (blk_cell BK360.out 0).trans rfl
                        have hcz51_1 : w45.cell? ⟨gb360, 1, none⟩ = some (.int .i64 a0_1) := (blk_cell BK360.out 1).trans rfl
                        have hfz51_0 := blk_frozen BK360.out 0
                        have hfz51_1 := blk_frozen BK360.out 1
                        try go_wp2_with (first | ((with_reducible refine gate_callee (f := 27) rfl ?_); refine goesL_ (some 13) rfl rfl Try.func27 (by kernel_rfl) rfl #[.agg #[.int .i64 t363, .int .i64 t364]] rfl (by (try simp only [List.map_toArray, List.map_cons, List.map_nil]); first | done | rfl | (simp only [List.length_drop, List.length_take]; rfl)) ?_; (with_reducible refine (vec_Left.calls t363 t364 t367 t368 _ A7.out).mono ?_); rintro e w52 ⟨rfl, hb⟩; refine ⟨_, rfl, ?_⟩; have n0_ := Aside0.mk (blk_below (g := gb360) (o := .cells #[.int .i64 t363, .int .i64 t364] 24 (0, 0)) (by (with_reducible repeat (first | refine blk_drewN ?_ _ | refine blk_drew ?_ | refine blk_alloc ?_ _)); refine blk_far ?_ NB360_361.out _; (with_reducible repeat (first | refine blk_drewN ?_ _ | refine blk_drew ?_ | refine blk_alloc ?_ _)); refine blk_far ?_ NB360_361.out _; (with_reducible repeat (first | refine blk_drewN ?_ _ | refine blk_drew ?_ | refine blk_alloc ?_ _)); refine blk_put (cs := #[.int .i64 t363, .int .i64 a0_1]) ?_ 1 _ rfl; (with_reducible repeat (first | refine blk_drewN ?_ _ | refine blk_drew ?_ | refine blk_alloc ?_ _)); refine blk_put (cs := #[.int .i64 a0_0, .int .i64 a0_1]) ?_ 0 _ rfl; (with_reducible repeat (first | refine blk_drewN ?_ _ | refine blk_drew ?_ | refine blk_alloc ?_ _)); exact BK360.out) hb); have n1_ := Aside0.mk (blk_below (g := gb361) (o := .cells #[.int .i64 t365, .int .i64 t366] 24 (0, 0)) (by (with_reducible repeat (first | refine blk_drewN ?_ _ | refine blk_drew ?_ | refine blk_alloc ?_ _)); refine blk_put (cs := #[.int .i64 t365, .int .i64 a1_1]) ?_ 1 _ rfl; (with_reducible repeat (first | refine blk_drewN ?_ _ | refine blk_drew ?_ | refine blk_alloc ?_ _)); refine blk_put (cs := #[.int .i64 a1_0, .int .i64 a1_1]) ?_ 0 _ rfl; (with_reducible repeat (first | refine blk_drewN ?_ _ | refine blk_drew ?_ | refine blk_alloc ?_ _)); refine blk_far ?_ NB361_360.out _; (with_reducible repeat (first | refine blk_drewN ?_ _ | refine blk_drew ?_ | refine blk_alloc ?_ _)); refine blk_far ?_ NB361_360.out _; (with_reducible repeat (first | refine blk_drewN ?_ _ | refine blk_drew ?_ | refine blk_alloc ?_ _)); exact BK361.out) hb); have n2_ := Aside0.mk (below_step (by repeat (first | (with_reducible first | exact HB.out | apply below_alloc | apply pw_below_drewN | apply below_drew1 | refine below_set ?_ GE360.out | refine below_set ?_ GE361.out) | exact HB.out)) hb); clear BK360; clear BK361; clear HB; have BK360 := n0_; have BK361 := n1_; have HB := n2_; clear n0_ n1_ n2_; (try clear hb); (try clear hb2); (try clear hk); (try clear hi)) | ((with_reducible refine gate_dst (N := 5) rfl ?_); refine box_event ?hg (N := 5) ?hd (cs := #[.int .i64 0, .int .i64 0]) (t := 24) ?hr ?_; (case hd => rfl); (case hg => rfl); (case hr => first | (go_simp; done) | (go_simp; rfl)); intro gb369 hg w53 hbox hb; have n0_ := Aside0.mk (blk_below (g := gb360) (o := .cells #[.int .i64 t363, .int .i64 t364] 24 (0, 0)) (by (with_reducible repeat (first | refine blk_drewN ?_ _ | refine blk_drew ?_ | refine blk_alloc ?_ _)); exact BK360.out) hb); have n1_ := Aside0.mk (blk_below (g := gb361) (o := .cells #[.int .i64 t365, .int .i64 t366] 24 (0, 0)) (by (with_reducible repeat (first | refine blk_drewN ?_ _ | refine blk_drew ?_ | refine blk_alloc ?_ _)); exact BK361.out) hb); have n2_ := Aside0.mk (below_step (by repeat (first | (with_reducible first | exact HB.out | apply below_alloc | apply pw_below_drewN | apply below_drew1 | refine below_set ?_ GE360.out | refine below_set ?_ GE361.out) | exact HB.out)) hb); have n3_ := Aside0.mk (hbox); have n4_ := Aside0.mk ((by rw [hg]; exact (below_size (by repeat (first | (with_reducible first | exact HB.out | apply below_alloc | apply pw_below_drewN | apply below_drew1 | refine below_set ?_ GE360.out | refine below_set ?_ GE361.out) | exact HB.out))) : w.heap.size ≤ gb369)); have n5_ := Aside0.mk ((by rw [hg]; exact (below_size (by repeat (first | (with_reducible first | exact HB.out | apply below_alloc | apply pw_below_drewN | apply below_drew1 | refine below_set ?_ GE360.out | refine below_set ?_ GE361.out) | exact HB.out))) : w.heap.size ≤ gb369)); have n6_ := Aside0.mk ((by rw [hg]; exact Nat.ne_of_lt (blk_lt (g := gb360) (o := .cells #[.int .i64 t363, .int .i64 t364] 24 (0, 0)) (by (with_reducible repeat (first | refine blk_drewN ?_ _ | refine blk_drew ?_ | refine blk_alloc ?_ _)); exact BK360.out)) : gb360 ≠ gb369)); have n7_ := Aside0.mk ((by rw [hg]; exact Nat.ne_of_gt (blk_lt (g := gb360) (o := .cells #[.int .i64 t363, .int .i64 t364] 24 (0, 0)) (by (with_reducible repeat (first | refine blk_drewN ?_ _ | refine blk_drew ?_ | refine blk_alloc ?_ _)); exact BK360.out)) : gb369 ≠ gb360)); have n8_ := Aside0.mk ((by rw [hg]; exact Nat.ne_of_lt (blk_lt (g := gb361) (o := .cells #[.int .i64 t365, .int .i64 t366] 24 (0, 0)) (by (with_reducible repeat (first | refine blk_drewN ?_ _ | refine blk_drew ?_ | refine blk_alloc ?_ _)); exact BK361.out)) : gb361 ≠ gb369)); have n9_ := Aside0.mk ((by rw [hg]; exact Nat.ne_of_gt (blk_lt (g := gb361) (o := .cells #[.int .i64 t365, .int .i64 t366] 24 (0, 0)) (by (with_reducible repeat (first | refine blk_drewN ?_ _ | refine blk_drew ?_ | refine blk_alloc ?_ _)); exact BK361.out)) : gb369 ≠ gb361)); clear BK360; clear BK361; clear HB; have BK360 := n0_; have BK361 := n1_; have HB := n2_; have BK369 := n3_; have GW369 := n4_; have GE369 := n5_; have NB360_369 := n6_; have NB369_360 := n7_; have NB361_369 := n8_; have NB369_361 := n9_; clear n0_ n1_ n2_ n3_ n4_ n5_ n6_ n7_ n8_ n9_; clear hb hbox hg; have hnb54 := NB369_360.out; have hnc54 := NB360_369.out; have hnb55 := NB369_361.out; have hnc55 := NB361_369.out; have hcz56_0 : w53.cell? ⟨gb369, 0, none⟩ = some (.int .i64 0) := (blk_cell BK369.out 0).trans rfl; have hcz56_1 : w53.cell? ⟨gb369, 1, none⟩ = some (.int .i64 0) := (blk_cell BK369.out 1).trans rfl; have hfz56_0 := blk_frozen BK369.out 0; have hfz56_1 := blk_frozen BK369.out 1))
                        have n0_ : Aside0 (((w53.setCell ⟨gb369, 0, none⟩ (.int .i64 t367)).setCell ⟨gb369, 1, none⟩ (.int .i64 t368)).heap[gb360]? = some (.cells #[.int .i64 t363, .int .i64 t364] 24 (0, 0))) := ⟨by (with_reducible repeat (first | refine blk_drewN ?_ _ | refine blk_drew ?_ | refine blk_alloc ?_ _)); refine blk_far ?_ NB360_369.out _; (with_reducible repeat (first | refine blk_drewN ?_ _ | refine blk_drew ?_ | refine blk_alloc ?_ _)); refine blk_far ?_ NB360_369.out _; (with_reducible repeat (first | refine blk_drewN ?_ _ | refine blk_drew ?_ | refine blk_alloc ?_ _)); exact BK360.out⟩
                        have n1_ : Aside0 (((w53.setCell ⟨gb369, 0, none⟩ (.int .i64 t367)).setCell ⟨gb369, 1, none⟩ (.int .i64 t368)).heap[gb361]? = some (.cells #[.int .i64 t365, .int .i64 t366] 24 (0, 0))) := ⟨by (with_reducible repeat (first | refine blk_drewN ?_ _ | refine blk_drew ?_ | refine blk_alloc ?_ _)); refine blk_far ?_ NB361_369.out _; (with_reducible repeat (first | refine blk_drewN ?_ _ | refine blk_drew ?_ | refine blk_alloc ?_ _)); refine blk_far ?_ NB361_369.out _; (with_reducible repeat (first | refine blk_drewN ?_ _ | refine blk_drew ?_ | refine blk_alloc ?_ _)); exact BK361.out⟩
                        have n2_ : Aside0 (((w53.setCell ⟨gb369, 0, none⟩ (.int .i64 t367)).setCell ⟨gb369, 1, none⟩ (.int .i64 t368)).heap[gb369]? = some (.cells #[.int .i64 t367, .int .i64 t368] 24 (0, 0))) := ⟨by (with_reducible repeat (first | refine blk_drewN ?_ _ | refine blk_drew ?_ | refine blk_alloc ?_ _)); refine blk_put (cs := #[.int .i64 t367, .int .i64 0]) ?_ 1 _ rfl; (with_reducible repeat (first | refine blk_drewN ?_ _ | refine blk_drew ?_ | refine blk_alloc ?_ _)); refine blk_put (cs := #[.int .i64 0, .int .i64 0]) ?_ 0 _ rfl; (with_reducible repeat (first | refine blk_drewN ?_ _ | refine blk_drew ?_ | refine blk_alloc ?_ _)); exact BK369.out⟩
                        have n3_ : Aside0 (Below w.heap.size w ((w53.setCell ⟨gb369, 0, none⟩ (.int .i64 t367)).setCell ⟨gb369, 1, none⟩ (.int .i64 t368))) := ⟨by repeat (first | (with_reducible first | exact HB.out | apply below_alloc | apply pw_below_drewN | apply below_drew1 | refine below_set ?_ GE360.out | refine below_set ?_ GE361.out | refine below_set ?_ GE369.out) | exact HB.out)⟩
                        (try clear BK360)
                        (try clear BK361)
                        (try clear BK369)
                        (try clear HB)
                        generalize ((w53.setCell ⟨gb369, 0, none⟩ (.int .i64 t367)).setCell ⟨gb369, 1, none⟩ (.int .i64 t368)) = w57 at n0_ n1_ n2_ n3_ ⊢
                        have BK360 := n0_
                        have BK361 := n1_
                        have BK369 := n2_
                        have HB := n3_
                        clear n0_ n1_ n2_ n3_
                        have n0_ := Aside0.mk (blk_drew BK360.out)
                        have n1_ := Aside0.mk (blk_drew BK361.out)
                        have n2_ := Aside0.mk (blk_drew BK369.out)
                        have n3_ := Aside0.mk (below_drew1 HB.out)
                        clear BK360
                        clear BK361
                        clear BK369
                        clear HB
                        have BK360 := n0_
                        have BK361 := n1_
                        have BK369 := n2_
                        have HB := n3_
                        clear n0_ n1_ n2_ n3_
                        refine start_ (n := 25) (S := fun w' => w'.cell? ⟨gb369, 0, none⟩ = some (.int .i64 t367) ∧ w'.cell? ⟨gb369, 1, none⟩ = some (.int .i64 t368) ∧ w'.cell? ⟨gb360, 0, none⟩ = some (.int .i64 t363) ∧ w'.cell? ⟨gb360, 1, none⟩ = some (.int .i64 t364)) (ds := []) #[false, false, false, false, false, false, false, false, false, false, false, false, false, false, false, false, false, false, false, false, false, false, false, false, false] (by kernel_rfl) rfl rfl ⟨(blk_cell BK369.out 0).trans rfl, (blk_cell BK369.out 1).trans rfl, (blk_cell BK360.out 0).trans rfl, (blk_cell BK360.out 1).trans rfl⟩ (fun hHeld => ?_); refine with_tabW bagatellelaw03_VecLaws.tab5 bagatellelaw03_VecLaws.bits5 (fun HT_ HW_ => ?_)
                        generalize w57.drew = w58 at BK360 BK361 BK369 HB hHeld ⊢
                        refine take_ (i := 0) (N := some 14) (v := ?_) (a' := ?_) #[true, false, false, false, false, false, false, false, false, false, false, false, false, false, false, false, false, false, false, false, false, false, false, false, false] rfl rfl (take_ofW HT_.out HW_.out (by kernel_rfl)) (fun _ _ _ h => h) (Or.inl ⟨by rfl, ?_⟩) hHeld ?_ ?_
                        rotate_left
                        · rintro w' ⟨s0, s1, s2, s3⟩
                          go_simp
                          with_reducible rfl
                        rotate_left
                        · simp only [Act.put, List.setIfInBounds_toArray, List.set_cons_zero, List.set_cons_succ, i64_w, i32_w]
                          rfl
                        refine take_ (i := 4) (N := some 18) (v := ?_) (a' := ?_) #[true, false, false, false, true, false, false, false, false, false, false, false, false, false, false, false, false, false, false, false, false, false, false, false, false] rfl rfl (take_ofW HT_.out HW_.out (by kernel_rfl)) (fun _ _ _ h => h) (Or.inl ⟨by rfl, ?_⟩) hHeld ?_ ?_
                        rotate_left
                        · rintro w' ⟨s0, s1, s2, s3⟩
                          go_simp
                          with_reducible rfl
                        rotate_left
                        · simp only [Act.put, List.setIfInBounds_toArray, List.set_cons_zero, List.set_cons_succ, i64_w, i32_w]
                          rfl
                        refine one_ (i := 1) (N := some 15) #[true, true, false, false, true, false, false, false, false, false, false, false, false, false, false, false, false, false, false, false, false, false, false, false, false] rfl rfl (one_of HT_.out (by kernel_rfl)) (by decide) (fun K hK => ?_)
                        refine goes_ Try.func27 (by kernel_rfl) rfl #[.agg #[.int .i64 t367, .int .i64 t368]] (by rfl) rfl rfl (by (try simp only [List.map_toArray, List.map_cons, List.map_nil]); first | done | rfl | (simp only [List.length_drop, List.length_take]; rfl)) ?_
                        with_reducible refine (vec_Left.calls t367 t368 t370 t371 _ A8.out).mono ?_
                        rintro e w59 ⟨rfl, hb⟩
                        refine ⟨_, rfl, ?_⟩
                        have n0_ := Aside0.mk (blk_below (g := gb360) (o := .cells #[.int .i64 t363, .int .i64 t364] 24 (0, 0)) (by (with_reducible repeat (first | refine blk_drewN ?_ _ | refine blk_drew ?_ | refine blk_alloc ?_ _)); exact BK360.out) hb)
                        have n1_ := Aside0.mk (blk_below (g := gb361) (o := .cells #[.int .i64 t365, .int .i64 t366] 24 (0, 0)) (by (with_reducible repeat (first | refine blk_drewN ?_ _ | refine blk_drew ?_ | refine blk_alloc ?_ _)); exact BK361.out) hb)
                        have n2_ := Aside0.mk (blk_below (g := gb369) (o := .cells #[.int .i64 t367, .int .i64 t368] 24 (0, 0)) (by (with_reducible repeat (first | refine blk_drewN ?_ _ | refine blk_drew ?_ | refine blk_alloc ?_ _)); exact BK369.out) hb)
                        have n3_ := Aside0.mk (below_step (by repeat (first | (with_reducible first | exact HB.out | apply below_alloc | apply pw_below_drewN | apply below_drew1 | refine below_set ?_ GE360.out | refine below_set ?_ GE361.out | refine below_set ?_ GE369.out) | exact HB.out)) hb)
                        clear BK360
                        clear BK361
                        clear BK369
                        clear HB
                        have BK360 := n0_
                        have BK361 := n1_
                        have BK369 := n2_
                        have HB := n3_
                        clear n0_ n1_ n2_ n3_
                        (try clear hb)
                        (try clear hb2)
                        (try clear hk)
                        (try clear hi)
                        refine hK.out _ _ ⟨(blk_cell BK369.out 0).trans rfl, (blk_cell BK369.out 1).trans rfl, (blk_cell BK360.out 0).trans rfl, (blk_cell BK360.out 1).trans rfl⟩ (fun hHeld => ?_)
                        clear hK K
                        refine norm_ (a' := ?_) ?_ ?_
                        rotate_left
                        · show Act.put _ (some 15) _ = _
                          simp only [Act.put, List.setIfInBounds_toArray, List.set_cons_zero, List.set_cons_succ, i64_w, i32_w]
                          rfl
                        refine one_ (i := 2) (N := some 16) #[true, true, true, false, true, false, false, false, false, false, false, false, false, false, false, false, false, false, false, false, false, false, false, false, false] rfl rfl (one_of HT_.out (by kernel_rfl)) (by decide) (fun K hK => ?_)
                        refine goes_ Try.func27 (by kernel_rfl) rfl #[.agg #[.int .i64 t370, .int .i64 t371]] (by rfl) rfl rfl (by (try simp only [List.map_toArray, List.map_cons, List.map_nil]); first | done | rfl | (simp only [List.length_drop, List.length_take]; rfl)) ?_
                        with_reducible refine (vec_Left.calls t370 t371 t372 t373 _ A9.out).mono ?_
                        rintro e w60 ⟨rfl, hb⟩
                        refine ⟨_, rfl, ?_⟩
                        have n0_ := Aside0.mk (blk_below (g := gb360) (o := .cells #[.int .i64 t363, .int .i64 t364] 24 (0, 0)) (by (with_reducible repeat (first | refine blk_drewN ?_ _ | refine blk_drew ?_ | refine blk_alloc ?_ _)); exact BK360.out) hb)
                        have n1_ := Aside0.mk (blk_below (g := gb361) (o := .cells #[.int .i64 t365, .int .i64 t366] 24 (0, 0)) (by (with_reducible repeat (first | refine blk_drewN ?_ _ | refine blk_drew ?_ | refine blk_alloc ?_ _)); exact BK361.out) hb)
                        have n2_ := Aside0.mk (blk_below (g := gb369) (o := .cells #[.int .i64 t367, .int .i64 t368] 24 (0, 0)) (by (with_reducible repeat (first | refine blk_drewN ?_ _ | refine blk_drew ?_ | refine blk_alloc ?_ _)); exact BK369.out) hb)
                        have n3_ := Aside0.mk (below_step (by repeat (first | (with_reducible first | exact HB.out | apply below_alloc | apply pw_below_drewN | apply below_drew1 | refine below_set ?_ GE360.out | refine below_set ?_ GE361.out | refine below_set ?_ GE369.out) | exact HB.out)) hb)
                        clear BK360
                        clear BK361
                        clear BK369
                        clear HB
                        have BK360 := n0_
                        have BK361 := n1_
                        have BK369 := n2_
                        have HB := n3_
                        clear n0_ n1_ n2_ n3_
                        (try clear hb)
                        (try clear hb2)
                        (try clear hk)
                        (try clear hi)
                        refine hK.out _ _ ⟨(blk_cell BK369.out 0).trans rfl, (blk_cell BK369.out 1).trans rfl, (blk_cell BK360.out 0).trans rfl, (blk_cell BK360.out 1).trans rfl⟩ (fun hHeld => ?_)
                        clear hK K
                        refine norm_ (a' := ?_) ?_ ?_
                        rotate_left
                        · show Act.put _ (some 16) _ = _
                          simp only [Act.put, List.setIfInBounds_toArray, List.set_cons_zero, List.set_cons_succ, i64_w, i32_w]
                          rfl
                        refine one_ (i := 3) (N := some 17) #[true, true, true, true, true, false, false, false, false, false, false, false, false, false, false, false, false, false, false, false, false, false, false, false, false] rfl rfl (one_of HT_.out (by kernel_rfl)) (by decide) (fun K hK => ?_)
                        refine goes_ Try.func27 (by kernel_rfl) rfl #[.agg #[.int .i64 t372, .int .i64 t373]] (by rfl) rfl rfl (by (try simp only [List.map_toArray, List.map_cons, List.map_nil]); first | done | rfl | (simp only [List.length_drop, List.length_take]; rfl)) ?_
                        with_reducible refine (vec_Left.calls t372 t373 t374 t375 _ A10.out).mono ?_
                        rintro e w61 ⟨rfl, hb⟩
                        refine ⟨_, rfl, ?_⟩
                        have n0_ := Aside0.mk (blk_below (g := gb360) (o := .cells #[.int .i64 t363, .int .i64 t364] 24 (0, 0)) (by (with_reducible repeat (first | refine blk_drewN ?_ _ | refine blk_drew ?_ | refine blk_alloc ?_ _)); exact BK360.out) hb)
                        have n1_ := Aside0.mk (blk_below (g := gb361) (o := .cells #[.int .i64 t365, .int .i64 t366] 24 (0, 0)) (by (with_reducible repeat (first | refine blk_drewN ?_ _ | refine blk_drew ?_ | refine blk_alloc ?_ _)); exact BK361.out) hb)
                        have n2_ := Aside0.mk (blk_below (g := gb369) (o := .cells #[.int .i64 t367, .int .i64 t368] 24 (0, 0)) (by (with_reducible repeat (first | refine blk_drewN ?_ _ | refine blk_drew ?_ | refine blk_alloc ?_ _)); exact BK369.out) hb)
                        have n3_ := Aside0.mk (below_step (by repeat (first | (with_reducible first | exact HB.out | apply below_alloc | apply pw_below_drewN | apply below_drew1 | refine below_set ?_ GE360.out | refine below_set ?_ GE361.out | refine below_set ?_ GE369.out) | exact HB.out)) hb)
                        clear BK360
                        clear BK361
                        clear BK369
                        clear HB
                        have BK360 := n0_
                        have BK361 := n1_
                        have BK369 := n2_
                        have HB := n3_
                        clear n0_ n1_ n2_ n3_
                        (try clear hb)
                        (try clear hb2)
                        (try clear hk)
                        (try clear hi)
                        refine hK.out _ _ ⟨(blk_cell BK369.out 0).trans rfl, (blk_cell BK369.out 1).trans rfl, (blk_cell BK360.out 0).trans rfl, (blk_cell BK360.out 1).trans rfl⟩ (fun hHeld => ?_)
                        clear hK K
                        refine norm_ (a' := ?_) ?_ ?_
                        rotate_left
                        · show Act.put _ (some 17) _ = _
                          simp only [Act.put, List.setIfInBounds_toArray, List.set_cons_zero, List.set_cons_succ, i64_w, i32_w]
                          rfl
                        refine pure_ (i := 5) (N := some 19) (v := ?_) (a' := ?_) #[true, true, true, true, true, true, false, false, false, false, false, false, false, false, false, false, false, false, false, false, false, false, false, false, false] rfl rfl (any_of HT_.out (by kernel_rfl)) (fun _ _ _ h => h) (Or.inl ⟨by rfl, ?_⟩) ?_ ?_
                        rotate_left
                        · intro w'
                          go_simp
                          with_reducible rfl
                        rotate_left
                        · simp only [Act.put, List.setIfInBounds_toArray, List.set_cons_zero, List.set_cons_succ, i64_w, i32_w]
                          rfl
                        refine pure_ (i := 6) (N := some 20) (v := ?_) (a' := ?_) #[true, true, true, true, true, true, true, false, false, false, false, false, false, false, false, false, false, false, false, false, false, false, false, false, false] rfl rfl (any_of HT_.out (by kernel_rfl)) (fun _ _ _ h => h) (Or.inl ⟨by rfl, ?_⟩) ?_ ?_
                        rotate_left
                        · intro w'
                          go_simp
                          with_reducible rfl
                        rotate_left
                        · simp only [Act.put, List.setIfInBounds_toArray, List.set_cons_zero, List.set_cons_succ, i64_w, i32_w]
                          rfl
                        refine take_ (i := 7) (N := some 21) (v := ?_) (a' := ?_) #[true, true, true, true, true, true, true, true, false, false, false, false, false, false, false, false, false, false, false, false, false, false, false, false, false] rfl rfl (take_ofW HT_.out HW_.out (by kernel_rfl)) (fun _ _ _ h => h) (Or.inl ⟨by rfl, ?_⟩) hHeld ?_ ?_
                        rotate_left
                        · rintro w' ⟨s0, s1, s2, s3⟩
                          go_simp
                          with_reducible rfl
                        rotate_left
                        · simp only [Act.put, List.setIfInBounds_toArray, List.set_cons_zero, List.set_cons_succ, i64_w, i32_w]
                          rfl
                        refine take_ (i := 9) (N := some 23) (v := ?_) (a' := ?_) #[true, true, true, true, true, true, true, true, false, true, false, false, false, false, false, false, false, false, false, false, false, false, false, false, false] rfl rfl (take_ofW HT_.out HW_.out (by kernel_rfl)) (fun _ _ _ h => h) (Or.inl ⟨by rfl, ?_⟩) hHeld ?_ ?_
                        rotate_left
                        · rintro w' ⟨s0, s1, s2, s3⟩
                          go_simp
                          with_reducible rfl
                        rotate_left
                        · simp only [Act.put, List.setIfInBounds_toArray, List.set_cons_zero, List.set_cons_succ, i64_w, i32_w]
                          rfl
                        refine one_ (i := 8) (N := some 22) #[true, true, true, true, true, true, true, true, true, true, false, false, false, false, false, false, false, false, false, false, false, false, false, false, false] rfl rfl (one_of HT_.out (by kernel_rfl)) (by decide) (fun K hK => ?_)
                        refine goes_ Try.func27 (by kernel_rfl) rfl #[.agg #[.int .i64 t367, .int .i64 t368]] (by rfl) rfl rfl (by (try simp only [List.map_toArray, List.map_cons, List.map_nil]); first | done | rfl | (simp only [List.length_drop, List.length_take]; rfl)) ?_
                        with_reducible refine (vec_Left.calls t367 t368 t376 t377 _ A12.out).mono ?_
                        rintro e w62 ⟨rfl, hb⟩
                        refine ⟨_, rfl, ?_⟩
                        have n0_ := Aside0.mk (blk_below (g := gb360) (o := .cells #[.int .i64 t363, .int .i64 t364] 24 (0, 0)) (by (with_reducible repeat (first | refine blk_drewN ?_ _ | refine blk_drew ?_ | refine blk_alloc ?_ _)); exact BK360.out) hb)
                        have n1_ := Aside0.mk (blk_below (g := gb361) (o := .cells #[.int .i64 t365, .int .i64 t366] 24 (0, 0)) (by (with_reducible repeat (first | refine blk_drewN ?_ _ | refine blk_drew ?_ | refine blk_alloc ?_ _)); exact BK361.out) hb)
                        have n2_ := Aside0.mk (blk_below (g := gb369) (o := .cells #[.int .i64 t367, .int .i64 t368] 24 (0, 0)) (by (with_reducible repeat (first | refine blk_drewN ?_ _ | refine blk_drew ?_ | refine blk_alloc ?_ _)); exact BK369.out) hb)
                        have n3_ := Aside0.mk (below_step (by repeat (first | (with_reducible first | exact HB.out | apply below_alloc | apply pw_below_drewN | apply below_drew1 | refine below_set ?_ GE360.out | refine below_set ?_ GE361.out | refine below_set ?_ GE369.out) | exact HB.out)) hb)
                        clear BK360
                        clear BK361
                        clear BK369
                        clear HB
                        have BK360 := n0_
                        have BK361 := n1_
                        have BK369 := n2_
                        have HB := n3_
                        clear n0_ n1_ n2_ n3_
                        (try clear hb)
                        (try clear hb2)
                        (try clear hk)
                        (try clear hi)
                        refine hK.out _ _ ⟨(blk_cell BK369.out 0).trans rfl, (blk_cell BK369.out 1).trans rfl, (blk_cell BK360.out 0).trans rfl, (blk_cell BK360.out 1).trans rfl⟩ (fun hHeld => ?_)
                        clear hK K
                        refine norm_ (a' := ?_) ?_ ?_
                        rotate_left
                        · show Act.put _ (some 22) _ = _
                          simp only [Act.put, List.setIfInBounds_toArray, List.set_cons_zero, List.set_cons_succ, i64_w, i32_w]
                          rfl
                        refine one_ (i := 10) (N := some 24) #[true, true, true, true, true, true, true, true, true, true, true, false, false, false, false, false, false, false, false, false, false, false, false, false, false] rfl rfl (one_of HT_.out (by kernel_rfl)) (by decide) (fun K hK => ?_)
                        refine goes_ Try.func21 (by kernel_rfl) rfl #[.agg #[.int .i64 t363, .int .i64 t364]] (by rfl) rfl rfl (by (try simp only [List.map_toArray, List.map_cons, List.map_nil]); first | done | rfl | (simp only [List.length_drop, List.length_take]; rfl)) ?_
                        with_reducible refine (vec_Neg.calls t363 t364 t378 t379 _ A13.out).mono ?_
                        rintro e w63 ⟨rfl, hb⟩
                        refine ⟨_, rfl, ?_⟩
                        have n0_ := Aside0.mk (blk_below (g := gb360) (o := .cells #[.int .i64 t363, .int .i64 t364] 24 (0, 0)) (by (with_reducible repeat (first | refine blk_drewN ?_ _ | refine blk_drew ?_ | refine blk_alloc ?_ _)); exact BK360.out) hb)
                        have n1_ := Aside0.mk (blk_below (g := gb361) (o := .cells #[.int .i64 t365, .int .i64 t366] 24 (0, 0)) (by (with_reducible repeat (first | refine blk_drewN ?_ _ | refine blk_drew ?_ | refine blk_alloc ?_ _)); exact BK361.out) hb)
                        have n2_ := Aside0.mk (blk_below (g := gb369) (o := .cells #[.int .i64 t367, .int .i64 t368] 24 (0, 0)) (by (with_reducible repeat (first | refine blk_drewN ?_ _ | refine blk_drew ?_ | refine blk_alloc ?_ _)); exact BK369.out) hb)
                        have n3_ := Aside0.mk (below_step (by repeat (first | (with_reducible first | exact HB.out | apply below_alloc | apply pw_below_drewN | apply below_drew1 | refine below_set ?_ GE360.out | refine below_set ?_ GE361.out | refine below_set ?_ GE369.out) | exact HB.out)) hb)
                        clear BK360
                        clear BK361
                        clear BK369
                        clear HB
                        have BK360 := n0_
                        have BK361 := n1_
                        have BK369 := n2_
                        have HB := n3_
                        clear n0_ n1_ n2_ n3_
                        (try clear hb)
                        (try clear hb2)
                        (try clear hk)
                        (try clear hi)
                        refine hK.out _ _ ⟨(blk_cell BK369.out 0).trans rfl, (blk_cell BK369.out 1).trans rfl, (blk_cell BK360.out 0).trans rfl, (blk_cell BK360.out 1).trans rfl⟩ (fun hHeld => ?_)
                        clear hK K
                        refine norm_ (a' := ?_) ?_ ?_
                        rotate_left
                        · show Act.put _ (some 24) _ = _
                          simp only [Act.put, List.setIfInBounds_toArray, List.set_cons_zero, List.set_cons_succ, i64_w, i32_w]
                          rfl
                        refine pure_ (i := 11) (N := some 25) (v := ?_) (a' := ?_) #[true, true, true, true, true, true, true, true, true, true, true, true, false, false, false, false, false, false, false, false, false, false, false, false, false] rfl rfl (any_of HT_.out (by kernel_rfl)) (fun _ _ _ h => h) (Or.inl ⟨by rfl, ?_⟩) ?_ ?_
                        rotate_left
                        · intro w'
                          go_simp
                          with_reducible rfl
                        rotate_left
                        · simp only [Act.put, List.setIfInBounds_toArray, List.set_cons_zero, List.set_cons_succ, i64_w, i32_w]
                          rfl
                        refine pure_ (i := 12) (N := some 26) (v := ?_) (a' := ?_) #[true, true, true, true, true, true, true, true, true, true, true, true, true, false, false, false, false, false, false, false, false, false, false, false, false] rfl rfl (any_of HT_.out (by kernel_rfl)) (fun _ _ _ h => h) (Or.inl ⟨by rfl, ?_⟩) ?_ ?_
                        rotate_left
                        · intro w'
                          go_simp
                          with_reducible rfl
                        rotate_left
                        · simp only [Act.put, List.setIfInBounds_toArray, List.set_cons_zero, List.set_cons_succ, i64_w, i32_w]
                          rfl
                        refine pure_ (i := 13) (N := some 27) (v := ?_) (a' := ?_) #[true, true, true, true, true, true, true, true, true, true, true, true, true, true, false, false, false, false, false, false, false, false, false, false, false] rfl rfl (any_of HT_.out (by kernel_rfl)) (fun _ _ _ h => h) (Or.inl ⟨by rfl, ?_⟩) ?_ ?_
                        rotate_left
                        · intro w'
                          go_simp
                          with_reducible rfl
                        rotate_left
                        · simp only [Act.put, List.setIfInBounds_toArray, List.set_cons_zero, List.set_cons_succ, i64_w, i32_w]
                          rfl
                        refine take_ (i := 14) (N := some 28) (v := ?_) (a' := ?_) #[true, true, true, true, true, true, true, true, true, true, true, true, true, true, true, false, false, false, false, false, false, false, false, false, false] rfl rfl (take_ofW HT_.out HW_.out (by kernel_rfl)) (fun _ _ _ h => h) (Or.inl ⟨by rfl, ?_⟩) hHeld ?_ ?_
                        rotate_left
                        · rintro w' ⟨s0, s1, s2, s3⟩
                          go_simp
                          with_reducible rfl
                        rotate_left
                        · simp only [Act.put, List.setIfInBounds_toArray, List.set_cons_zero, List.set_cons_succ, i64_w, i32_w]
                          rfl
                        refine take_ (i := 15) (N := some 29) (v := ?_) (a' := ?_) #[true, true, true, true, true, true, true, true, true, true, true, true, true, true, true, true, false, false, false, false, false, false, false, false, false] rfl rfl (take_ofW HT_.out HW_.out (by kernel_rfl)) (fun _ _ _ h => h) (Or.inl ⟨by rfl, ?_⟩) hHeld ?_ ?_
                        rotate_left
                        · rintro w' ⟨s0, s1, s2, s3⟩
                          go_simp
                          with_reducible rfl
                        rotate_left
                        · simp only [Act.put, List.setIfInBounds_toArray, List.set_cons_zero, List.set_cons_succ, i64_w, i32_w]
                          rfl
                        refine one_ (i := 16) (N := some 30) #[true, true, true, true, true, true, true, true, true, true, true, true, true, true, true, true, true, false, false, false, false, false, false, false, false] rfl rfl (one_of HT_.out (by kernel_rfl)) (by decide) (fun K hK => ?_)
                        refine goes_ Try.func14 (by kernel_rfl) rfl #[.agg #[.int .i64 t363, .int .i64 t364], .agg #[.int .i64 t367, .int .i64 t368]] (by rfl) rfl rfl (by (try simp only [List.map_toArray, List.map_cons, List.map_nil]); first | done | rfl | (simp only [List.length_drop, List.length_take]; rfl)) ?_
                        with_reducible refine (vec_Dot.calls k t363 t364 t367 t368 t380 _ A15.out).mono ?_
                        rintro e w64 ⟨rfl, hb⟩
                        refine ⟨_, rfl, ?_⟩
                        have n0_ := Aside0.mk (blk_below (g := gb360) (o := .cells #[.int .i64 t363, .int .i64 t364] 24 (0, 0)) (by (with_reducible repeat (first | refine blk_drewN ?_ _ | refine blk_drew ?_ | refine blk_alloc ?_ _)); exact BK360.out) hb)
                        have n1_ := Aside0.mk (blk_below (g := gb361) (o := .cells #[.int .i64 t365, .int .i64 t366] 24 (0, 0)) (by (with_reducible repeat (first | refine blk_drewN ?_ _ | refine blk_drew ?_ | refine blk_alloc ?_ _)); exact BK361.out) hb)
                        have n2_ := Aside0.mk (blk_below (g := gb369) (o := .cells #[.int .i64 t367, .int .i64 t368] 24 (0, 0)) (by (with_reducible repeat (first | refine blk_drewN ?_ _ | refine blk_drew ?_ | refine blk_alloc ?_ _)); exact BK369.out) hb)
                        have n3_ := Aside0.mk (below_step (by repeat (first | (with_reducible first | exact HB.out | apply below_alloc | apply pw_below_drewN | apply below_drew1 | refine below_set ?_ GE360.out | refine below_set ?_ GE361.out | refine below_set ?_ GE369.out) | exact HB.out)) hb)
                        clear BK360
                        clear BK361
                        clear BK369
                        clear HB
                        have BK360 := n0_
                        have BK361 := n1_
                        have BK369 := n2_
                        have HB := n3_
                        clear n0_ n1_ n2_ n3_
                        (try clear hb)
                        (try clear hb2)
                        (try clear hk)
                        (try clear hi)
                        refine hK.out _ _ ⟨(blk_cell BK369.out 0).trans rfl, (blk_cell BK369.out 1).trans rfl, (blk_cell BK360.out 0).trans rfl, (blk_cell BK360.out 1).trans rfl⟩ (fun hHeld => ?_)
                        clear hK K
                        refine norm_ (a' := ?_) ?_ ?_
                        rotate_left
                        · show Act.put _ (some 30) _ = _
                          simp only [Act.put, List.setIfInBounds_toArray, List.set_cons_zero, List.set_cons_succ, i64_w, i32_w]
                          rfl
                        refine pure_ (i := 17) (N := some 31) (v := ?_) (a' := ?_) #[true, true, true, true, true, true, true, true, true, true, true, true, true, true, true, true, true, true, false, false, false, false, false, false, false] rfl rfl (any_of HT_.out (by kernel_rfl)) (fun _ _ _ h => h) (Or.inl ⟨by rfl, ?_⟩) ?_ ?_
                        rotate_left
                        · intro w'
                          go_simp
                          with_reducible rfl
                        rotate_left
                        · simp only [Act.put, List.setIfInBounds_toArray, List.set_cons_zero, List.set_cons_succ, i64_w, i32_w]
                          rfl
                        refine pure_ (i := 18) (N := some 32) (v := ?_) (a' := ?_) #[true, true, true, true, true, true, true, true, true, true, true, true, true, true, true, true, true, true, true, false, false, false, false, false, false] rfl rfl (any_of HT_.out (by kernel_rfl)) (fun _ _ _ h => h) (Or.inl ⟨by rfl, ?_⟩) ?_ ?_
                        rotate_left
                        · intro w'
                          go_simp
                          with_reducible rfl
                        rotate_left
                        · simp only [Act.put, List.setIfInBounds_toArray, List.set_cons_zero, List.set_cons_succ, i64_w, i32_w]
                          rfl
                        refine pure_ (i := 19) (N := some 33) (v := ?_) (a' := ?_) #[true, true, true, true, true, true, true, true, true, true, true, true, true, true, true, true, true, true, true, true, false, false, false, false, false] rfl rfl (any_of HT_.out (by kernel_rfl)) (fun _ _ _ h => h) (Or.inl ⟨by rfl, ?_⟩) ?_ ?_
                        rotate_left
                        · intro w'
                          go_simp
                          with_reducible rfl
                        rotate_left
                        · simp only [Act.put, List.setIfInBounds_toArray, List.set_cons_zero, List.set_cons_succ, i64_w, i32_w]
                          rfl
                        refine take_ (i := 20) (N := some 34) (v := ?_) (a' := ?_) #[true, true, true, true, true, true, true, true, true, true, true, true, true, true, true, true, true, true, true, true, true, false, false, false, false] rfl rfl (take_ofW HT_.out HW_.out (by kernel_rfl)) (fun _ _ _ h => h) (Or.inl ⟨by rfl, ?_⟩) hHeld ?_ ?_
                        rotate_left
                        · rintro w' ⟨s0, s1, s2, s3⟩
                          go_simp
                          with_reducible rfl
                        rotate_left
                        · simp only [Act.put, List.setIfInBounds_toArray, List.set_cons_zero, List.set_cons_succ, i64_w, i32_w]
                          rfl
                        refine take_ (i := 21) (N := some 35) (v := ?_) (a' := ?_) #[true, true, true, true, true, true, true, true, true, true, true, true, true, true, true, true, true, true, true, true, true, true, false, false, false] rfl rfl (take_ofW HT_.out HW_.out (by kernel_rfl)) (fun _ _ _ h => h) (Or.inl ⟨by rfl, ?_⟩) hHeld ?_ ?_
                        rotate_left
                        · rintro w' ⟨s0, s1, s2, s3⟩
                          go_simp
                          with_reducible rfl
                        rotate_left
                        · simp only [Act.put, List.setIfInBounds_toArray, List.set_cons_zero, List.set_cons_succ, i64_w, i32_w]
                          rfl
                        refine one_ (i := 22) (N := some 36) #[true, true, true, true, true, true, true, true, true, true, true, true, true, true, true, true, true, true, true, true, true, true, true, false, false] rfl rfl (one_of HT_.out (by kernel_rfl)) (by decide) (fun K hK => ?_)
                        refine goes_ Try.func26 (by kernel_rfl) rfl #[.agg #[.int .i64 t363, .int .i64 t364], .agg #[.int .i64 t363, .int .i64 t364]] (by rfl) rfl rfl (by (try simp only [List.map_toArray, List.map_cons, List.map_nil]); first | done | rfl | (simp only [List.length_drop, List.length_take]; rfl)) ?_
                        with_reducible refine (vec_Cross.calls k t363 t364 t363 t364 t381 _ A17.out).mono ?_
                        rintro e w65 ⟨rfl, hb⟩
                        refine ⟨_, rfl, ?_⟩
                        have n0_ := Aside0.mk (blk_below (g := gb360) (o := .cells #[.int .i64 t363, .int .i64 t364] 24 (0, 0)) (by (with_reducible repeat (first | refine blk_drewN ?_ _ | refine blk_drew ?_ | refine blk_alloc ?_ _)); exact BK360.out) hb)
                        have n1_ := Aside0.mk (blk_below (g := gb361) (o := .cells #[.int .i64 t365, .int .i64 t366] 24 (0, 0)) (by (with_reducible repeat (first | refine blk_drewN ?_ _ | refine blk_drew ?_ | refine blk_alloc ?_ _)); exact BK361.out) hb)
                        have n2_ := Aside0.mk (blk_below (g := gb369) (o := .cells #[.int .i64 t367, .int .i64 t368] 24 (0, 0)) (by (with_reducible repeat (first | refine blk_drewN ?_ _ | refine blk_drew ?_ | refine blk_alloc ?_ _)); exact BK369.out) hb)
                        have n3_ := Aside0.mk (below_step (by repeat (first | (with_reducible first | exact HB.out | apply below_alloc | apply pw_below_drewN | apply below_drew1 | refine below_set ?_ GE360.out | refine below_set ?_ GE361.out | refine below_set ?_ GE369.out) | exact HB.out)) hb)
                        clear BK360
                        clear BK361
                        clear BK369
                        clear HB
                        have BK360 := n0_
                        have BK361 := n1_
                        have BK369 := n2_
                        have HB := n3_
                        clear n0_ n1_ n2_ n3_
                        (try clear hb)
                        (try clear hb2)
                        (try clear hk)
                        (try clear hi)
                        refine hK.out _ _ ⟨(blk_cell BK369.out 0).trans rfl, (blk_cell BK369.out 1).trans rfl, (blk_cell BK360.out 0).trans rfl, (blk_cell BK360.out 1).trans rfl⟩ (fun hHeld => ?_)
                        clear hK K
                        refine norm_ (a' := ?_) ?_ ?_
                        rotate_left
                        · show Act.put _ (some 36) _ = _
                          simp only [Act.put, List.setIfInBounds_toArray, List.set_cons_zero, List.set_cons_succ, i64_w, i32_w]
                          rfl
                        refine pure_ (i := 23) (N := some 37) (v := ?_) (a' := ?_) #[true, true, true, true, true, true, true, true, true, true, true, true, true, true, true, true, true, true, true, true, true, true, true, true, false] rfl rfl (any_of HT_.out (by kernel_rfl)) (fun _ _ _ h => h) (Or.inl ⟨by rfl, ?_⟩) ?_ ?_
                        rotate_left
                        · intro w'
                          go_simp
                          with_reducible rfl
                        rotate_left
                        · simp only [Act.put, List.setIfInBounds_toArray, List.set_cons_zero, List.set_cons_succ, i64_w, i32_w]
                          rfl
                        refine pure_ (i := 24) (N := some 38) (v := ?_) (a' := ?_) #[true, true, true, true, true, true, true, true, true, true, true, true, true, true, true, true, true, true, true, true, true, true, true, true, true] rfl rfl (any_of HT_.out (by kernel_rfl)) (fun _ _ _ h => h) (Or.inl ⟨by rfl, ?_⟩) ?_ ?_
                        rotate_left
                        · intro w'
                          go_simp
                          with_reducible rfl
                        rotate_left
                        · simp only [Act.put, List.setIfInBounds_toArray, List.set_cons_zero, List.set_cons_succ, i64_w, i32_w]
                          rfl
                        refine done_ (done_of HT_.out (by kernel_rfl)) ?_
                        try go_wp2
                        have n0_ := Aside0.mk (blk_drew BK360.out)
                        have n1_ := Aside0.mk (blk_drew BK361.out)
                        have n2_ := Aside0.mk (blk_drew BK369.out)
                        have n3_ := Aside0.mk (below_drew1 HB.out)
                        clear BK360
                        clear BK361
                        clear BK369
                        clear HB
                        have BK360 := n0_
                        have BK361 := n1_
                        have BK369 := n2_
                        have HB := n3_
                        clear n0_ n1_ n2_ n3_
                        refine start_ (n := 25) (S := fun w' => w'.cell? ⟨gb360, 0, none⟩ = some (.int .i64 t363) ∧ w'.cell? ⟨gb360, 1, none⟩ = some (.int .i64 t364) ∧ w'.cell? ⟨gb361, 0, none⟩ = some (.int .i64 t365) ∧ w'.cell? ⟨gb361, 1, none⟩ = some (.int .i64 t366)) (ds := []) #[false, false, false, false, false, false, false, false, false, false, false, false, false, false, false, false, false, false, false, false, false, false, false, false, false] (by kernel_rfl) rfl rfl ⟨(blk_cell BK360.out 0).trans rfl, (blk_cell BK360.out 1).trans rfl, (blk_cell BK361.out 0).trans rfl, (blk_cell BK361.out 1).trans rfl⟩ (fun hHeld => ?_); refine with_tabW bagatellelaw03_VecLaws.tab7 bagatellelaw03_VecLaws.bits7 (fun HT_ HW_ => ?_)
                        generalize w65.drew = w66 at BK360 BK361 BK369 HB hHeld ⊢
                        refine take_ (i := 0) (N := some 39) (v := ?_) (a' := ?_) #[true, false, false, false, false, false, false, false, false, false, false, false, false, false, false, false, false, false, false, false, false, false, false, false, false] rfl rfl (take_ofW HT_.out HW_.out (by kernel_rfl)) (fun _ _ _ h => h) (Or.inl ⟨by rfl, ?_⟩) hHeld ?_ ?_
                        rotate_left
                        · rintro w' ⟨s0, s1, s2, s3⟩
                          go_simp
                          with_reducible rfl
                        rotate_left
                        · simp only [Act.put, List.setIfInBounds_toArray, List.set_cons_zero, List.set_cons_succ, i64_w, i32_w]
                          rfl
                        refine take_ (i := 1) (N := some 40) (v := ?_) (a' := ?_) #[true, true, false, false, false, false, false, false, false, false, false, false, false, false, false, false, false, false, false, false, false, false, false, false, false] rfl rfl (take_ofW HT_.out HW_.out (by kernel_rfl)) (fun _ _ _ h => h) (Or.inl ⟨by rfl, ?_⟩) hHeld ?_ ?_
                        rotate_left
                        · rintro w' ⟨s0, s1, s2, s3⟩
                          go_simp
                          with_reducible rfl
                        rotate_left
                        · simp only [Act.put, List.setIfInBounds_toArray, List.set_cons_zero, List.set_cons_succ, i64_w, i32_w]
                          rfl
                        refine take_ (i := 3) (N := some 42) (v := ?_) (a' := ?_) #[true, true, false, true, false, false, false, false, false, false, false, false, false, false, false, false, false, false, false, false, false, false, false, false, false] rfl rfl (take_ofW HT_.out HW_.out (by kernel_rfl)) (fun _ _ _ h => h) (Or.inl ⟨by rfl, ?_⟩) hHeld ?_ ?_
                        rotate_left
                        · rintro w' ⟨s0, s1, s2, s3⟩
                          go_simp
                          with_reducible rfl
                        rotate_left
                        · simp only [Act.put, List.setIfInBounds_toArray, List.set_cons_zero, List.set_cons_succ, i64_w, i32_w]
                          rfl
                        refine take_ (i := 5) (N := some 44) (v := ?_) (a' := ?_) #[true, true, false, true, false, true, false, false, false, false, false, false, false, false, false, false, false, false, false, false, false, false, false, false, false] rfl rfl (take_ofW HT_.out HW_.out (by kernel_rfl)) (fun _ _ _ h => h) (Or.inl ⟨by rfl, ?_⟩) hHeld ?_ ?_
                        rotate_left
                        · rintro w' ⟨s0, s1, s2, s3⟩
                          go_simp
                          with_reducible rfl
                        rotate_left
                        · simp only [Act.put, List.setIfInBounds_toArray, List.set_cons_zero, List.set_cons_succ, i64_w, i32_w]
                          rfl
                        refine one_ (i := 2) (N := some 41) #[true, true, true, true, false, true, false, false, false, false, false, false, false, false, false, false, false, false, false, false, false, false, false, false, false] rfl rfl (one_of HT_.out (by kernel_rfl)) (by decide) (fun K hK => ?_)
                        refine goes_ Try.func20 (by kernel_rfl) rfl #[.agg #[.int .i64 t363, .int .i64 t364], .agg #[.int .i64 t365, .int .i64 t366]] (by rfl) rfl rfl (by (try simp only [List.map_toArray, List.map_cons, List.map_nil]); first | done | rfl | (simp only [List.length_drop, List.length_take]; rfl)) ?_
                        with_reducible refine (vec_Add.calls k t363 t364 t365 t366 t382 t383 _ A19.out).mono ?_
                        rintro e w67 ⟨rfl, hb⟩
                        refine ⟨_, rfl, ?_⟩
                        have n0_ := Aside0.mk (blk_below (g := gb360) (o := .cells #[.int .i64 t363, .int .i64 t364] 24 (0, 0)) (by (with_reducible repeat (first | refine blk_drewN ?_ _ | refine blk_drew ?_ | refine blk_alloc ?_ _)); exact BK360.out) hb)
                        have n1_ := Aside0.mk (blk_below (g := gb361) (o := .cells #[.int .i64 t365, .int .i64 t366] 24 (0, 0)) (by (with_reducible repeat (first | refine blk_drewN ?_ _ | refine blk_drew ?_ | refine blk_alloc ?_ _)); exact BK361.out) hb)
                        have n2_ := Aside0.mk (blk_below (g := gb369) (o := .cells #[.int .i64 t367, .int .i64 t368] 24 (0, 0)) (by (with_reducible repeat (first | refine blk_drewN ?_ _ | refine blk_drew ?_ | refine blk_alloc ?_ _)); exact BK369.out) hb)
                        have n3_ := Aside0.mk (below_step (by repeat (first | (with_reducible first | exact HB.out | apply below_alloc | apply pw_below_drewN | apply below_drew1 | refine below_set ?_ GE360.out | refine below_set ?_ GE361.out | refine below_set ?_ GE369.out) | exact HB.out)) hb)
                        clear BK360
                        clear BK361
                        clear BK369
                        clear HB
                        have BK360 := n0_
                        have BK361 := n1_
                        have BK369 := n2_
                        have HB := n3_
                        clear n0_ n1_ n2_ n3_
                        (try clear hb)
                        (try clear hb2)
                        (try clear hk)
                        (try clear hi)
                        refine hK.out _ _ ⟨(blk_cell BK360.out 0).trans rfl, (blk_cell BK360.out 1).trans rfl, (blk_cell BK361.out 0).trans rfl, (blk_cell BK361.out 1).trans rfl⟩ (fun hHeld => ?_)
                        clear hK K
                        refine norm_ (a' := ?_) ?_ ?_
                        rotate_left
                        · show Act.put _ (some 41) _ = _
                          simp only [Act.put, List.setIfInBounds_toArray, List.set_cons_zero, List.set_cons_succ, i64_w, i32_w]
                          rfl
                        refine one_ (i := 4) (N := some 43) #[true, true, true, true, true, true, false, false, false, false, false, false, false, false, false, false, false, false, false, false, false, false, false, false, false] rfl rfl (one_of HT_.out (by kernel_rfl)) (by decide) (fun K hK => ?_)
                        refine goes_ Try.func22 (by kernel_rfl) rfl #[.agg #[.int .i64 t382, .int .i64 t383], .agg #[.int .i64 t365, .int .i64 t366]] (by rfl) rfl rfl (by (try simp only [List.map_toArray, List.map_cons, List.map_nil]); first | done | rfl | (simp only [List.length_drop, List.length_take]; rfl)) ?_
                        with_reducible refine (vec_Sub.calls k t382 t383 t365 t366 t384 t385 _ A20.out).mono ?_
                        rintro e w68 ⟨rfl, hb⟩
                        refine ⟨_, rfl, ?_⟩
                        have n0_ := Aside0.mk (blk_below (g := gb360) (o := .cells #[.int .i64 t363, .int .i64 t364] 24 (0, 0)) (by (with_reducible repeat (first | refine blk_drewN ?_ _ | refine blk_drew ?_ | refine blk_alloc ?_ _)); exact BK360.out) hb)
                        have n1_ := Aside0.mk (blk_below (g := gb361) (o := .cells #[.int .i64 t365, .int .i64 t366] 24 (0, 0)) (by (with_reducible repeat (first | refine blk_drewN ?_ _ | refine blk_drew ?_ | refine blk_alloc ?_ _)); exact BK361.out) hb)
                        have n2_ := Aside0.mk (blk_below (g := gb369) (o := .cells #[.int .i64 t367, .int .i64 t368] 24 (0, 0)) (by (with_reducible repeat (first | refine blk_drewN ?_ _ | refine blk_drew ?_ | refine blk_alloc ?_ _)); exact BK369.out) hb)
                        have n3_ := Aside0.mk (below_step (by repeat (first | (with_reducible first | exact HB.out | apply below_alloc | apply pw_below_drewN | apply below_drew1 | refine below_set ?_ GE360.out | refine below_set ?_ GE361.out | refine below_set ?_ GE369.out) | exact HB.out)) hb)
                        clear BK360
                        clear BK361
                        clear BK369
                        clear HB
                        have BK360 := n0_
                        have BK361 := n1_
                        have BK369 := n2_
                        have HB := n3_
                        clear n0_ n1_ n2_ n3_
                        (try clear hb)
                        (try clear hb2)
                        (try clear hk)
                        (try clear hi)
                        refine hK.out _ _ ⟨(blk_cell BK360.out 0).trans rfl, (blk_cell BK360.out 1).trans rfl, (blk_cell BK361.out 0).trans rfl, (blk_cell BK361.out 1).trans rfl⟩ (fun hHeld => ?_)
                        clear hK K
                        refine norm_ (a' := ?_) ?_ ?_
                        rotate_left
                        · show Act.put _ (some 43) _ = _
                          simp only [Act.put, List.setIfInBounds_toArray, List.set_cons_zero, List.set_cons_succ, i64_w, i32_w]
                          rfl
                        refine pure_ (i := 6) (N := some 45) (v := ?_) (a' := ?_) #[true, true, true, true, true, true, true, false, false, false, false, false, false, false, false, false, false, false, false, false, false, false, false, false, false] rfl rfl (any_of HT_.out (by kernel_rfl)) (fun _ _ _ h => h) (Or.inl ⟨by rfl, ?_⟩) ?_ ?_
                        rotate_left
                        · intro w'
                          go_simp
                          with_reducible rfl
                        rotate_left
                        · simp only [Act.put, List.setIfInBounds_toArray, List.set_cons_zero, List.set_cons_succ, i64_w, i32_w]
                          rfl
                        refine pure_ (i := 7) (N := some 46) (v := ?_) (a' := ?_) #[true, true, true, true, true, true, true, true, false, false, false, false, false, false, false, false, false, false, false, false, false, false, false, false, false] rfl rfl (any_of HT_.out (by kernel_rfl)) (fun _ _ _ h => h) (Or.inl ⟨by rfl, ?_⟩) ?_ ?_
                        rotate_left
                        · intro w'
                          go_simp
                          with_reducible rfl
                        rotate_left
                        · simp only [Act.put, List.setIfInBounds_toArray, List.set_cons_zero, List.set_cons_succ, i64_w, i32_w]
                          rfl
                        refine take_ (i := 8) (N := some 47) (v := ?_) (a' := ?_) #[true, true, true, true, true, true, true, true, true, false, false, false, false, false, false, false, false, false, false, false, false, false, false, false, false] rfl rfl (take_ofW HT_.out HW_.out (by kernel_rfl)) (fun _ _ _ h => h) (Or.inl ⟨by rfl, ?_⟩) hHeld ?_ ?_
                        rotate_left
                        · rintro w' ⟨s0, s1, s2, s3⟩
                          go_simp
                          with_reducible rfl
                        rotate_left
                        · simp only [Act.put, List.setIfInBounds_toArray, List.set_cons_zero, List.set_cons_succ, i64_w, i32_w]
                          rfl
                        refine take_ (i := 9) (N := some 48) (v := ?_) (a' := ?_) #[true, true, true, true, true, true, true, true, true, true, false, false, false, false, false, false, false, false, false, false, false, false, false, false, false] rfl rfl (take_ofW HT_.out HW_.out (by kernel_rfl)) (fun _ _ _ h => h) (Or.inl ⟨by rfl, ?_⟩) hHeld ?_ ?_
                        rotate_left
                        · rintro w' ⟨s0, s1, s2, s3⟩
                          go_simp
                          with_reducible rfl
                        rotate_left
                        · simp only [Act.put, List.setIfInBounds_toArray, List.set_cons_zero, List.set_cons_succ, i64_w, i32_w]
                          rfl
                        refine take_ (i := 11) (N := some 50) (v := ?_) (a' := ?_) #[true, true, true, true, true, true, true, true, true, true, false, true, false, false, false, false, false, false, false, false, false, false, false, false, false] rfl rfl (take_ofW HT_.out HW_.out (by kernel_rfl)) (fun _ _ _ h => h) (Or.inl ⟨by rfl, ?_⟩) hHeld ?_ ?_
                        rotate_left
                        · rintro w' ⟨s0, s1, s2, s3⟩
                          go_simp
                          with_reducible rfl
                        rotate_left
                        · simp only [Act.put, List.setIfInBounds_toArray, List.set_cons_zero, List.set_cons_succ, i64_w, i32_w]
                          rfl
                        refine take_ (i := 12) (N := some 51) (v := ?_) (a' := ?_) #[true, true, true, true, true, true, true, true, true, true, false, true, true, false, false, false, false, false, false, false, false, false, false, false, false] rfl rfl (take_ofW HT_.out HW_.out (by kernel_rfl)) (fun _ _ _ h => h) (Or.inl ⟨by rfl, ?_⟩) hHeld ?_ ?_
                        rotate_left
                        · rintro w' ⟨s0, s1, s2, s3⟩
                          go_simp
                          with_reducible rfl
                        rotate_left
                        · simp only [Act.put, List.setIfInBounds_toArray, List.set_cons_zero, List.set_cons_succ, i64_w, i32_w]
                          rfl
                        refine one_ (i := 10) (N := some 49) #[true, true, true, true, true, true, true, true, true, true, true, true, true, false, false, false, false, false, false, false, false, false, false, false, false] rfl rfl (one_of HT_.out (by kernel_rfl)) (by decide) (fun K hK => ?_)
                        refine goes_ Try.func20 (by kernel_rfl) rfl #[.agg #[.int .i64 t363, .int .i64 t364], .agg #[.int .i64 t365, .int .i64 t366]] (by rfl) rfl rfl (by (try simp only [List.map_toArray, List.map_cons, List.map_nil]); first | done | rfl | (simp only [List.length_drop, List.length_take]; rfl)) ?_
                        with_reducible refine (vec_Add.calls k t363 t364 t365 t366 t386 t387 _ A22.out).mono ?_
                        rintro e w69 ⟨rfl, hb⟩
                        refine ⟨_, rfl, ?_⟩
                        have n0_ := Aside0.mk (blk_below (g := gb360) (o := .cells #[.int .i64 t363, .int .i64 t364] 24 (0, 0)) (by (with_reducible repeat (first | refine blk_drewN ?_ _ | refine blk_drew ?_ | refine blk_alloc ?_ _)); exact BK360.out) hb)
                        have n1_ := Aside0.mk (blk_below (g := gb361) (o := .cells #[.int .i64 t365, .int .i64 t366] 24 (0, 0)) (by (with_reducible repeat (first | refine blk_drewN ?_ _ | refine blk_drew ?_ | refine blk_alloc ?_ _)); exact BK361.out) hb)
                        have n2_ := Aside0.mk (blk_below (g := gb369) (o := .cells #[.int .i64 t367, .int .i64 t368] 24 (0, 0)) (by (with_reducible repeat (first | refine blk_drewN ?_ _ | refine blk_drew ?_ | refine blk_alloc ?_ _)); exact BK369.out) hb)
                        have n3_ := Aside0.mk (below_step (by repeat (first | (with_reducible first | exact HB.out | apply below_alloc | apply pw_below_drewN | apply below_drew1 | refine below_set ?_ GE360.out | refine below_set ?_ GE361.out | refine below_set ?_ GE369.out) | exact HB.out)) hb)
                        clear BK360
                        clear BK361
                        clear BK369
                        clear HB
                        have BK360 := n0_
                        have BK361 := n1_
                        have BK369 := n2_
                        have HB := n3_
                        clear n0_ n1_ n2_ n3_
                        (try clear hb)
                        (try clear hb2)
                        (try clear hk)
                        (try clear hi)
                        refine hK.out _ _ ⟨(blk_cell BK360.out 0).trans rfl, (blk_cell BK360.out 1).trans rfl, (blk_cell BK361.out 0).trans rfl, (blk_cell BK361.out 1).trans rfl⟩ (fun hHeld => ?_)
                        clear hK K
                        refine norm_ (a' := ?_) ?_ ?_
                        rotate_left
                        · show Act.put _ (some 49) _ = _
                          simp only [Act.put, List.setIfInBounds_toArray, List.set_cons_zero, List.set_cons_succ, i64_w, i32_w]
                          rfl
                        refine one_ (i := 13) (N := some 52) #[true, true, true, true, true, true, true, true, true, true, true, true, true, true, false, false, false, false, false, false, false, false, false, false, false] rfl rfl (one_of HT_.out (by kernel_rfl)) (by decide) (fun K hK => ?_)
                        refine goes_ Try.func20 (by kernel_rfl) rfl #[.agg #[.int .i64 t365, .int .i64 t366], .agg #[.int .i64 t363, .int .i64 t364]] (by rfl) rfl rfl (by (try simp only [List.map_toArray, List.map_cons, List.map_nil]); first | done | rfl | (simp only [List.length_drop, List.length_take]; rfl)) ?_
                        with_reducible refine (vec_Add.calls k t365 t366 t363 t364 t388 t389 _ A23.out).mono ?_
                        rintro e w70 ⟨rfl, hb⟩
                        refine ⟨_, rfl, ?_⟩
                        have n0_ := Aside0.mk (blk_below (g := gb360) (o := .cells #[.int .i64 t363, .int .i64 t364] 24 (0, 0)) (by (with_reducible repeat (first | refine blk_drewN ?_ _ | refine blk_drew ?_ | refine blk_alloc ?_ _)); exact BK360.out) hb)
                        have n1_ := Aside0.mk (blk_below (g := gb361) (o := .cells #[.int .i64 t365, .int .i64 t366] 24 (0, 0)) (by (with_reducible repeat (first | refine blk_drewN ?_ _ | refine blk_drew ?_ | refine blk_alloc ?_ _)); exact BK361.out) hb)
                        have n2_ := Aside0.mk (blk_below (g := gb369) (o := .cells #[.int .i64 t367, .int .i64 t368] 24 (0, 0)) (by (with_reducible repeat (first | refine blk_drewN ?_ _ | refine blk_drew ?_ | refine blk_alloc ?_ _)); exact BK369.out) hb)
                        have n3_ := Aside0.mk (below_step (by repeat (first | (with_reducible first | exact HB.out | apply below_alloc | apply pw_below_drewN | apply below_drew1 | refine below_set ?_ GE360.out | refine below_set ?_ GE361.out | refine below_set ?_ GE369.out) | exact HB.out)) hb)
                        clear BK360
                        clear BK361
                        clear BK369
                        clear HB
                        have BK360 := n0_
                        have BK361 := n1_
                        have BK369 := n2_
                        have HB := n3_
                        clear n0_ n1_ n2_ n3_
                        (try clear hb)
                        (try clear hb2)
                        (try clear hk)
                        (try clear hi)
                        refine hK.out _ _ ⟨(blk_cell BK360.out 0).trans rfl, (blk_cell BK360.out 1).trans rfl, (blk_cell BK361.out 0).trans rfl, (blk_cell BK361.out 1).trans rfl⟩ (fun hHeld => ?_)
                        clear hK K
                        refine norm_ (a' := ?_) ?_ ?_
                        rotate_left
                        · show Act.put _ (some 52) _ = _
                          simp only [Act.put, List.setIfInBounds_toArray, List.set_cons_zero, List.set_cons_succ, i64_w, i32_w]
                          rfl
                        refine pure_ (i := 14) (N := some 53) (v := ?_) (a' := ?_) #[true, true, true, true, true, true, true, true, true, true, true, true, true, true, true, false, false, false, false, false, false, false, false, false, false] rfl rfl (any_of HT_.out (by kernel_rfl)) (fun _ _ _ h => h) (Or.inl ⟨by rfl, ?_⟩) ?_ ?_
                        rotate_left
                        · intro w'
                          go_simp
                          with_reducible rfl
                        rotate_left
                        · simp only [Act.put, List.setIfInBounds_toArray, List.set_cons_zero, List.set_cons_succ, i64_w, i32_w]
                          rfl
                        refine pure_ (i := 15) (N := some 54) (v := ?_) (a' := ?_) #[true, true, true, true, true, true, true, true, true, true, true, true, true, true, true, true, false, false, false, false, false, false, false, false, false] rfl rfl (any_of HT_.out (by kernel_rfl)) (fun _ _ _ h => h) (Or.inl ⟨by rfl, ?_⟩) ?_ ?_
                        rotate_left
                        · intro w'
                          go_simp
                          with_reducible rfl
                        rotate_left
                        · simp only [Act.put, List.setIfInBounds_toArray, List.set_cons_zero, List.set_cons_succ, i64_w, i32_w]
                          rfl
                        refine pure_ (i := 16) (N := some 55) (v := ?_) (a' := ?_) #[true, true, true, true, true, true, true, true, true, true, true, true, true, true, true, true, true, false, false, false, false, false, false, false, false] rfl rfl (any_of HT_.out (by kernel_rfl)) (fun _ _ _ h => h) (Or.inl ⟨by rfl, ?_⟩) ?_ ?_
                        rotate_left
                        · intro w'
                          go_simp
                          with_reducible rfl
                        rotate_left
                        · simp only [Act.put, List.setIfInBounds_toArray, List.set_cons_zero, List.set_cons_succ, i64_w, i32_w]
                          rfl
                        refine take_ (i := 17) (N := some 56) (v := ?_) (a' := ?_) #[true, true, true, true, true, true, true, true, true, true, true, true, true, true, true, true, true, true, false, false, false, false, false, false, false] rfl rfl (take_ofW HT_.out HW_.out (by kernel_rfl)) (fun _ _ _ h => h) (Or.inl ⟨by rfl, ?_⟩) hHeld ?_ ?_
                        rotate_left
                        · rintro w' ⟨s0, s1, s2, s3⟩
                          go_simp
                          with_reducible rfl
                        rotate_left
                        · simp only [Act.put, List.setIfInBounds_toArray, List.set_cons_zero, List.set_cons_succ, i64_w, i32_w]
                          rfl
                        refine take_ (i := 18) (N := some 57) (v := ?_) (a' := ?_) #[true, true, true, true, true, true, true, true, true, true, true, true, true, true, true, true, true, true, true, false, false, false, false, false, false] rfl rfl (take_ofW HT_.out HW_.out (by kernel_rfl)) (fun _ _ _ h => h) (Or.inl ⟨by rfl, ?_⟩) hHeld ?_ ?_
                        rotate_left
                        · rintro w' ⟨s0, s1, s2, s3⟩
                          go_simp
                          with_reducible rfl
                        rotate_left
                        · simp only [Act.put, List.setIfInBounds_toArray, List.set_cons_zero, List.set_cons_succ, i64_w, i32_w]
                          rfl
                        refine take_ (i := 20) (N := some 59) (v := ?_) (a' := ?_) #[true, true, true, true, true, true, true, true, true, true, true, true, true, true, true, true, true, true, true, false, true, false, false, false, false] rfl rfl (take_ofW HT_.out HW_.out (by kernel_rfl)) (fun _ _ _ h => h) (Or.inl ⟨by rfl, ?_⟩) hHeld ?_ ?_
                        rotate_left
                        · rintro w' ⟨s0, s1, s2, s3⟩
                          go_simp
                          with_reducible rfl
                        rotate_left
                        · simp only [Act.put, List.setIfInBounds_toArray, List.set_cons_zero, List.set_cons_succ, i64_w, i32_w]
                          rfl
                        refine take_ (i := 21) (N := some 60) (v := ?_) (a' := ?_) #[true, true, true, true, true, true, true, true, true, true, true, true, true, true, true, true, true, true, true, false, true, true, false, false, false] rfl rfl (take_ofW HT_.out HW_.out (by kernel_rfl)) (fun _ _ _ h => h) (Or.inl ⟨by rfl, ?_⟩) hHeld ?_ ?_
                        rotate_left
                        · rintro w' ⟨s0, s1, s2, s3⟩
                          go_simp
                          with_reducible rfl
                        rotate_left
                        · simp only [Act.put, List.setIfInBounds_toArray, List.set_cons_zero, List.set_cons_succ, i64_w, i32_w]
                          rfl
                        refine one_ (i := 19) (N := some 58) #[true, true, true, true, true, true, true, true, true, true, true, true, true, true, true, true, true, true, true, true, true, true, false, false, false] rfl rfl (one_of HT_.out (by kernel_rfl)) (by decide) (fun K hK => ?_)
                        refine goes_ Try.func14 (by kernel_rfl) rfl #[.agg #[.int .i64 t363, .int .i64 t364], .agg #[.int .i64 t365, .int .i64 t366]] (by rfl) rfl rfl (by (try simp only [List.map_toArray, List.map_cons, List.map_nil]); first | done | rfl | (simp only [List.length_drop, List.length_take]; rfl)) ?_
                        with_reducible refine (vec_Dot.calls k t363 t364 t365 t366 t390 _ A25.out).mono ?_
                        rintro e w71 ⟨rfl, hb⟩
                        refine ⟨_, rfl, ?_⟩
                        have n0_ := Aside0.mk (blk_below (g := gb360) (o := .cells #[.int .i64 t363, .int .i64 t364] 24 (0, 0)) (by (with_reducible repeat (first | refine blk_drewN ?_ _ | refine blk_drew ?_ | refine blk_alloc ?_ _)); exact BK360.out) hb)
                        have n1_ := Aside0.mk (blk_below (g := gb361) (o := .cells #[.int .i64 t365, .int .i64 t366] 24 (0, 0)) (by (with_reducible repeat (first | refine blk_drewN ?_ _ | refine blk_drew ?_ | refine blk_alloc ?_ _)); exact BK361.out) hb)
                        have n2_ := Aside0.mk (blk_below (g := gb369) (o := .cells #[.int .i64 t367, .int .i64 t368] 24 (0, 0)) (by (with_reducible repeat (first | refine blk_drewN ?_ _ | refine blk_drew ?_ | refine blk_alloc ?_ _)); exact BK369.out) hb)
                        have n3_ := Aside0.mk (below_step (by repeat (first | (with_reducible first | exact HB.out | apply below_alloc | apply pw_below_drewN | apply below_drew1 | refine below_set ?_ GE360.out | refine below_set ?_ GE361.out | refine below_set ?_ GE369.out) | exact HB.out)) hb)
                        clear BK360
                        clear BK361
                        clear BK369
                        clear HB
                        have BK360 := n0_
                        have BK361 := n1_
                        have BK369 := n2_
                        have HB := n3_
                        clear n0_ n1_ n2_ n3_
                        (try clear hb)
                        (try clear hb2)
                        (try clear hk)
                        (try clear hi)
                        refine hK.out _ _ ⟨(blk_cell BK360.out 0).trans rfl, (blk_cell BK360.out 1).trans rfl, (blk_cell BK361.out 0).trans rfl, (blk_cell BK361.out 1).trans rfl⟩ (fun hHeld => ?_)
                        clear hK K
                        refine norm_ (a' := ?_) ?_ ?_
                        rotate_left
                        · show Act.put _ (some 58) _ = _
                          simp only [Act.put, List.setIfInBounds_toArray, List.set_cons_zero, List.set_cons_succ, i64_w, i32_w]
                          rfl
                        refine one_ (i := 22) (N := some 61) #[true, true, true, true, true, true, true, true, true, true, true, true, true, true, true, true, true, true, true, true, true, true, true, false, false] rfl rfl (one_of HT_.out (by kernel_rfl)) (by decide) (fun K hK => ?_)
                        refine goes_ Try.func14 (by kernel_rfl) rfl #[.agg #[.int .i64 t365, .int .i64 t366], .agg #[.int .i64 t363, .int .i64 t364]] (by rfl) rfl rfl (by (try simp only [List.map_toArray, List.map_cons, List.map_nil]); first | done | rfl | (simp only [List.length_drop, List.length_take]; rfl)) ?_
                        with_reducible refine (vec_Dot.calls k t365 t366 t363 t364 t391 _ A26.out).mono ?_
                        rintro e w72 ⟨rfl, hb⟩
                        refine ⟨_, rfl, ?_⟩
                        have n0_ := Aside0.mk (blk_below (g := gb360) (o := .cells #[.int .i64 t363, .int .i64 t364] 24 (0, 0)) (by (with_reducible repeat (first | refine blk_drewN ?_ _ | refine blk_drew ?_ | refine blk_alloc ?_ _)); exact BK360.out) hb)
                        have n1_ := Aside0.mk (blk_below (g := gb361) (o := .cells #[.int .i64 t365, .int .i64 t366] 24 (0, 0)) (by (with_reducible repeat (first | refine blk_drewN ?_ _ | refine blk_drew ?_ | refine blk_alloc ?_ _)); exact BK361.out) hb)
                        have n2_ := Aside0.mk (blk_below (g := gb369) (o := .cells #[.int .i64 t367, .int .i64 t368] 24 (0, 0)) (by (with_reducible repeat (first | refine blk_drewN ?_ _ | refine blk_drew ?_ | refine blk_alloc ?_ _)); exact BK369.out) hb)
                        have n3_ := Aside0.mk (below_step (by repeat (first | (with_reducible first | exact HB.out | apply below_alloc | apply pw_below_drewN | apply below_drew1 | refine below_set ?_ GE360.out | refine below_set ?_ GE361.out | refine below_set ?_ GE369.out) | exact HB.out)) hb)
                        clear BK360
                        clear BK361
                        clear BK369
                        clear HB
                        have BK360 := n0_
                        have BK361 := n1_
                        have BK369 := n2_
                        have HB := n3_
                        clear n0_ n1_ n2_ n3_
                        (try clear hb)
                        (try clear hb2)
                        (try clear hk)
                        (try clear hi)
                        refine hK.out _ _ ⟨(blk_cell BK360.out 0).trans rfl, (blk_cell BK360.out 1).trans rfl, (blk_cell BK361.out 0).trans rfl, (blk_cell BK361.out 1).trans rfl⟩ (fun hHeld => ?_)
                        clear hK K
                        refine norm_ (a' := ?_) ?_ ?_
                        rotate_left
                        · show Act.put _ (some 61) _ = _
                          simp only [Act.put, List.setIfInBounds_toArray, List.set_cons_zero, List.set_cons_succ, i64_w, i32_w]
                          rfl
                        refine pure_ (i := 23) (N := some 62) (v := ?_) (a' := ?_) #[true, true, true, true, true, true, true, true, true, true, true, true, true, true, true, true, true, true, true, true, true, true, true, true, false] rfl rfl (any_of HT_.out (by kernel_rfl)) (fun _ _ _ h => h) (Or.inl ⟨by rfl, ?_⟩) ?_ ?_
                        rotate_left
                        · intro w'
                          go_simp
                          with_reducible rfl
                        rotate_left
                        · simp only [Act.put, List.setIfInBounds_toArray, List.set_cons_zero, List.set_cons_succ, i64_w, i32_w]
                          rfl
                        refine pure_ (i := 24) (N := some 63) (v := ?_) (a' := ?_) #[true, true, true, true, true, true, true, true, true, true, true, true, true, true, true, true, true, true, true, true, true, true, true, true, true] rfl rfl (any_of HT_.out (by kernel_rfl)) (fun _ _ _ h => h) (Or.inl ⟨by rfl, ?_⟩) ?_ ?_
                        rotate_left
                        · intro w'
                          go_simp
                          with_reducible rfl
                        rotate_left
                        · simp only [Act.put, List.setIfInBounds_toArray, List.set_cons_zero, List.set_cons_succ, i64_w, i32_w]
                          rfl
                        refine done_ (done_of HT_.out (by kernel_rfl)) ?_
                        try go_wp2
                        have n0_ := Aside0.mk (blk_drew BK360.out)
                        have n1_ := Aside0.mk (blk_drew BK361.out)
                        have n2_ := Aside0.mk (blk_drew BK369.out)
                        have n3_ := Aside0.mk (below_drew1 HB.out)
                        clear BK360
                        clear BK361
                        clear BK369
                        clear HB
                        have BK360 := n0_
                        have BK361 := n1_
                        have BK369 := n2_
                        have HB := n3_
                        clear n0_ n1_ n2_ n3_
                        refine start_ (n := 32) (S := fun w' => w'.cell? ⟨gb369, 0, none⟩ = some (.int .i64 t367) ∧ w'.cell? ⟨gb369, 1, none⟩ = some (.int .i64 t368) ∧ w'.cell? ⟨gb361, 0, none⟩ = some (.int .i64 t365) ∧ w'.cell? ⟨gb361, 1, none⟩ = some (.int .i64 t366) ∧ w'.cell? ⟨gb360, 0, none⟩ = some (.int .i64 t363) ∧ w'.cell? ⟨gb360, 1, none⟩ = some (.int .i64 t364)) (ds := []) #[false, false, false, false, false, false, false, false, false, false, false, false, false, false, false, false, false, false, false, false, false, false, false, false, false, false, false, false, false, false, false, false] (by kernel_rfl) rfl rfl ⟨(blk_cell BK369.out 0).trans rfl, (blk_cell BK369.out 1).trans rfl, (blk_cell BK361.out 0).trans rfl, (blk_cell BK361.out 1).trans rfl, (blk_cell BK360.out 0).trans rfl, (blk_cell BK360.out 1).trans rfl⟩ (fun hHeld => ?_); refine with_tabW bagatellelaw03_VecLaws.tab9 bagatellelaw03_VecLaws.bits9 (fun HT_ HW_ => ?_)
                        generalize w72.drew = w73 at BK360 BK361 BK369 HB hHeld ⊢
                        refine take_ (i := 0) (N := some 64) (v := ?_) (a' := ?_) #[true, false, false, false, false, false, false, false, false, false, false, false, false, false, false, false, false, false, false, false, false, false, false, false, false, false, false, false, false, false, false, false] rfl rfl (take_ofW HT_.out HW_.out (by kernel_rfl)) (fun _ _ _ h => h) (Or.inl ⟨by rfl, ?_⟩) hHeld ?_ ?_
                        rotate_left
                        · rintro w' ⟨s0, s1, s2, s3, s4, s5⟩
                          go_simp
                          with_reducible rfl
                        rotate_left
                        · simp only [Act.put, List.setIfInBounds_toArray, List.set_cons_zero, List.set_cons_succ, i64_w, i32_w]
                          rfl
                        refine take_ (i := 1) (N := some 65) (v := ?_) (a' := ?_) #[true, true, false, false, false, false, false, false, false, false, false, false, false, false, false, false, false, false, false, false, false, false, false, false, false, false, false, false, false, false, false, false] rfl rfl (take_ofW HT_.out HW_.out (by kernel_rfl)) (fun _ _ _ h => h) (Or.inl ⟨by rfl, ?_⟩) hHeld ?_ ?_
                        rotate_left
                        · rintro w' ⟨s0, s1, s2, s3, s4, s5⟩
                          go_simp
                          with_reducible rfl
                        rotate_left
                        · simp only [Act.put, List.setIfInBounds_toArray, List.set_cons_zero, List.set_cons_succ, i64_w, i32_w]
                          rfl
                        refine take_ (i := 4) (N := some 68) (v := ?_) (a' := ?_) #[true, true, false, false, true, false, false, false, false, false, false, false, false, false, false, false, false, false, false, false, false, false, false, false, false, false, false, false, false, false, false, false] rfl rfl (take_ofW HT_.out HW_.out (by kernel_rfl)) (fun _ _ _ h => h) (Or.inl ⟨by rfl, ?_⟩) hHeld ?_ ?_
                        rotate_left
                        · rintro w' ⟨s0, s1, s2, s3, s4, s5⟩
                          go_simp
                          with_reducible rfl
                        rotate_left
                        · simp only [Act.put, List.setIfInBounds_toArray, List.set_cons_zero, List.set_cons_succ, i64_w, i32_w]
                          rfl
                        refine take_ (i := 5) (N := some 69) (v := ?_) (a' := ?_) #[true, true, false, false, true, true, false, false, false, false, false, false, false, false, false, false, false, false, false, false, false, false, false, false, false, false, false, false, false, false, false, false] rfl rfl (take_ofW HT_.out HW_.out (by kernel_rfl)) (fun _ _ _ h => h) (Or.inl ⟨by rfl, ?_⟩) hHeld ?_ ?_
                        rotate_left
                        · rintro w' ⟨s0, s1, s2, s3, s4, s5⟩
                          go_simp
                          with_reducible rfl
                        rotate_left
                        · simp only [Act.put, List.setIfInBounds_toArray, List.set_cons_zero, List.set_cons_succ, i64_w, i32_w]
                          rfl
                        refine one_ (i := 2) (N := some 66) #[true, true, true, false, true, true, false, false, false, false, false, false, false, false, false, false, false, false, false, false, false, false, false, false, false, false, false, false, false, false, false, false] rfl rfl (one_of HT_.out (by kernel_rfl)) (by decide) (fun K hK => ?_)
                        refine goes_ Try.func27 (by kernel_rfl) rfl #[.agg #[.int .i64 t365, .int .i64 t366]] (by rfl) rfl rfl (by (try simp only [List.map_toArray, List.map_cons, List.map_nil]); first | done | rfl | (simp only [List.length_drop, List.length_take]; rfl)) ?_
                        with_reducible refine (vec_Left.calls t365 t366 t392 t393 _ A28.out).mono ?_
                        rintro e w74 ⟨rfl, hb⟩
                        refine ⟨_, rfl, ?_⟩
                        have n0_ := Aside0.mk (blk_below (g := gb360) (o := .cells #[.int .i64 t363, .int .i64 t364] 24 (0, 0)) (by (with_reducible repeat (first | refine blk_drewN ?_ _ | refine blk_drew ?_ | refine blk_alloc ?_ _)); exact BK360.out) hb)
                        have n1_ := Aside0.mk (blk_below (g := gb361) (o := .cells #[.int .i64 t365, .int .i64 t366] 24 (0, 0)) (by (with_reducible repeat (first | refine blk_drewN ?_ _ | refine blk_drew ?_ | refine blk_alloc ?_ _)); exact BK361.out) hb)
                        have n2_ := Aside0.mk (blk_below (g := gb369) (o := .cells #[.int .i64 t367, .int .i64 t368] 24 (0, 0)) (by (with_reducible repeat (first | refine blk_drewN ?_ _ | refine blk_drew ?_ | refine blk_alloc ?_ _)); exact BK369.out) hb)
                        have n3_ := Aside0.mk (below_step (by repeat (first | (with_reducible first | exact HB.out | apply below_alloc | apply pw_below_drewN | apply below_drew1 | refine below_set ?_ GE360.out | refine below_set ?_ GE361.out | refine below_set ?_ GE369.out) | exact HB.out)) hb)
                        clear BK360
                        clear BK361
                        clear BK369
                        clear HB
                        have BK360 := n0_
                        have BK361 := n1_
                        have BK369 := n2_
                        have HB := n3_
                        clear n0_ n1_ n2_ n3_
                        (try clear hb)
                        (try clear hb2)
                        (try clear hk)
                        (try clear hi)
                        refine hK.out _ _ ⟨(blk_cell BK369.out 0).trans rfl, (blk_cell BK369.out 1).trans rfl, (blk_cell BK361.out 0).trans rfl, (blk_cell BK361.out 1).trans rfl, (blk_cell BK360.out 0).trans rfl, (blk_cell BK360.out 1).trans rfl⟩ (fun hHeld => ?_)
                        clear hK K
                        refine norm_ (a' := ?_) ?_ ?_
                        rotate_left
                        · show Act.put _ (some 66) _ = _
                          simp only [Act.put, List.setIfInBounds_toArray, List.set_cons_zero, List.set_cons_succ, i64_w, i32_w]
                          rfl
                        refine one_ (i := 3) (N := some 67) #[true, true, true, true, true, true, false, false, false, false, false, false, false, false, false, false, false, false, false, false, false, false, false, false, false, false, false, false, false, false, false, false] rfl rfl (one_of HT_.out (by kernel_rfl)) (by decide) (fun K hK => ?_)
                        refine goes_ Try.func14 (by kernel_rfl) rfl #[.agg #[.int .i64 t367, .int .i64 t368], .agg #[.int .i64 t392, .int .i64 t393]] (by rfl) rfl rfl (by (try simp only [List.map_toArray, List.map_cons, List.map_nil]); first | done | rfl | (simp only [List.length_drop, List.length_take]; rfl)) ?_
                        with_reducible refine (vec_Dot.calls k t367 t368 t392 t393 t394 _ A29.out).mono ?_
                        rintro e w75 ⟨rfl, hb⟩
                        refine ⟨_, rfl, ?_⟩
                        have n0_ := Aside0.mk (blk_below (g := gb360) (o := .cells #[.int .i64 t363, .int .i64 t364] 24 (0, 0)) (by (with_reducible repeat (first | refine blk_drewN ?_ _ | refine blk_drew ?_ | refine blk_alloc ?_ _)); exact BK360.out) hb)
                        have n1_ := Aside0.mk (blk_below (g := gb361) (o := .cells #[.int .i64 t365, .int .i64 t366] 24 (0, 0)) (by (with_reducible repeat (first | refine blk_drewN ?_ _ | refine blk_drew ?_ | refine blk_alloc ?_ _)); exact BK361.out) hb)
                        have n2_ := Aside0.mk (blk_below (g := gb369) (o := .cells #[.int .i64 t367, .int .i64 t368] 24 (0, 0)) (by (with_reducible repeat (first | refine blk_drewN ?_ _ | refine blk_drew ?_ | refine blk_alloc ?_ _)); exact BK369.out) hb)
                        have n3_ := Aside0.mk (below_step (by repeat (first | (with_reducible first | exact HB.out | apply below_alloc | apply pw_below_drewN | apply below_drew1 | refine below_set ?_ GE360.out | refine below_set ?_ GE361.out | refine below_set ?_ GE369.out) | exact HB.out)) hb)
                        clear BK360
                        clear BK361
                        clear BK369
                        clear HB
                        have BK360 := n0_
                        have BK361 := n1_
                        have BK369 := n2_
                        have HB := n3_
                        clear n0_ n1_ n2_ n3_
                        (try clear hb)
                        (try clear hb2)
                        (try clear hk)
                        (try clear hi)
                        refine hK.out _ _ ⟨(blk_cell BK369.out 0).trans rfl, (blk_cell BK369.out 1).trans rfl, (blk_cell BK361.out 0).trans rfl, (blk_cell BK361.out 1).trans rfl, (blk_cell BK360.out 0).trans rfl, (blk_cell BK360.out 1).trans rfl⟩ (fun hHeld => ?_)
                        clear hK K
                        refine norm_ (a' := ?_) ?_ ?_
                        rotate_left
                        · show Act.put _ (some 67) _ = _
                          simp only [Act.put, List.setIfInBounds_toArray, List.set_cons_zero, List.set_cons_succ, i64_w, i32_w]
                          rfl
                        refine one_ (i := 6) (N := some 70) #[true, true, true, true, true, true, true, false, false, false, false, false, false, false, false, false, false, false, false, false, false, false, false, false, false, false, false, false, false, false, false, false] rfl rfl (one_of HT_.out (by kernel_rfl)) (by decide) (fun K hK => ?_)
                        refine goes_ Try.func14 (by kernel_rfl) rfl #[.agg #[.int .i64 t363, .int .i64 t364], .agg #[.int .i64 t365, .int .i64 t366]] (by rfl) rfl rfl (by (try simp only [List.map_toArray, List.map_cons, List.map_nil]); first | done | rfl | (simp only [List.length_drop, List.length_take]; rfl)) ?_
                        with_reducible refine (vec_Dot.calls k t363 t364 t365 t366 t395 _ A30.out).mono ?_
                        rintro e w76 ⟨rfl, hb⟩
                        refine ⟨_, rfl, ?_⟩
                        have n0_ := Aside0.mk (blk_below (g := gb360) (o := .cells #[.int .i64 t363, .int .i64 t364] 24 (0, 0)) (by (with_reducible repeat (first | refine blk_drewN ?_ _ | refine blk_drew ?_ | refine blk_alloc ?_ _)); exact BK360.out) hb)
                        have n1_ := Aside0.mk (blk_below (g := gb361) (o := .cells #[.int .i64 t365, .int .i64 t366] 24 (0, 0)) (by (with_reducible repeat (first | refine blk_drewN ?_ _ | refine blk_drew ?_ | refine blk_alloc ?_ _)); exact BK361.out) hb)
                        have n2_ := Aside0.mk (blk_below (g := gb369) (o := .cells #[.int .i64 t367, .int .i64 t368] 24 (0, 0)) (by (with_reducible repeat (first | refine blk_drewN ?_ _ | refine blk_drew ?_ | refine blk_alloc ?_ _)); exact BK369.out) hb)
                        have n3_ := Aside0.mk (below_step (by repeat (first | (with_reducible first | exact HB.out | apply below_alloc | apply pw_below_drewN | apply below_drew1 | refine below_set ?_ GE360.out | refine below_set ?_ GE361.out | refine below_set ?_ GE369.out) | exact HB.out)) hb)
                        clear BK360
                        clear BK361
                        clear BK369
                        clear HB
                        have BK360 := n0_
                        have BK361 := n1_
                        have BK369 := n2_
                        have HB := n3_
                        clear n0_ n1_ n2_ n3_
                        (try clear hb)
                        (try clear hb2)
                        (try clear hk)
                        (try clear hi)
                        refine hK.out _ _ ⟨(blk_cell BK369.out 0).trans rfl, (blk_cell BK369.out 1).trans rfl, (blk_cell BK361.out 0).trans rfl, (blk_cell BK361.out 1).trans rfl, (blk_cell BK360.out 0).trans rfl, (blk_cell BK360.out 1).trans rfl⟩ (fun hHeld => ?_)
                        clear hK K
                        refine norm_ (a' := ?_) ?_ ?_
                        rotate_left
                        · show Act.put _ (some 70) _ = _
                          simp only [Act.put, List.setIfInBounds_toArray, List.set_cons_zero, List.set_cons_succ, i64_w, i32_w]
                          rfl
                        refine pure_ (i := 7) (N := some 71) (v := ?_) (a' := ?_) #[true, true, true, true, true, true, true, true, false, false, false, false, false, false, false, false, false, false, false, false, false, false, false, false, false, false, false, false, false, false, false, false] rfl rfl (any_of HT_.out (by kernel_rfl)) (fun _ _ _ h => h) (Or.inl ⟨by rfl, ?_⟩) ?_ ?_
                        rotate_left
                        · intro w'
                          go_simp
                          with_reducible rfl
                        rotate_left
                        · simp only [Act.put, List.setIfInBounds_toArray, List.set_cons_zero, List.set_cons_succ, i64_w, i32_w]
                          rfl
                        refine pure_ (i := 8) (N := some 72) (v := ?_) (a' := ?_) #[true, true, true, true, true, true, true, true, true, false, false, false, false, false, false, false, false, false, false, false, false, false, false, false, false, false, false, false, false, false, false, false] rfl rfl (any_of HT_.out (by kernel_rfl)) (fun _ _ _ h => h) (Or.inl ⟨by rfl, ?_⟩) ?_ ?_
                        rotate_left
                        · intro w'
                          go_simp
                          with_reducible rfl
                        rotate_left
                        · simp only [Act.put, List.setIfInBounds_toArray, List.set_cons_zero, List.set_cons_succ, i64_w, i32_w]
                          rfl
                        refine take_ (i := 9) (N := some 73) (v := ?_) (a' := ?_) #[true, true, true, true, true, true, true, true, true, true, false, false, false, false, false, false, false, false, false, false, false, false, false, false, false, false, false, false, false, false, false, false] rfl rfl (take_ofW HT_.out HW_.out (by kernel_rfl)) (fun _ _ _ h => h) (Or.inl ⟨by rfl, ?_⟩) hHeld ?_ ?_
                        rotate_left
                        · rintro w' ⟨s0, s1, s2, s3, s4, s5⟩
                          go_simp
                          with_reducible rfl
                        rotate_left
                        · simp only [Act.put, List.setIfInBounds_toArray, List.set_cons_zero, List.set_cons_succ, i64_w, i32_w]
                          rfl
                        refine take_ (i := 10) (N := some 74) (v := ?_) (a' := ?_) #[true, true, true, true, true, true, true, true, true, true, true, false, false, false, false, false, false, false, false, false, false, false, false, false, false, false, false, false, false, false, false, false] rfl rfl (take_ofW HT_.out HW_.out (by kernel_rfl)) (fun _ _ _ h => h) (Or.inl ⟨by rfl, ?_⟩) hHeld ?_ ?_
                        rotate_left
                        · rintro w' ⟨s0, s1, s2, s3, s4, s5⟩
                          go_simp
                          with_reducible rfl
                        rotate_left
                        · simp only [Act.put, List.setIfInBounds_toArray, List.set_cons_zero, List.set_cons_succ, i64_w, i32_w]
                          rfl
                        refine take_ (i := 13) (N := some 77) (v := ?_) (a' := ?_) #[true, true, true, true, true, true, true, true, true, true, true, false, false, true, false, false, false, false, false, false, false, false, false, false, false, false, false, false, false, false, false, false] rfl rfl (take_ofW HT_.out HW_.out (by kernel_rfl)) (fun _ _ _ h => h) (Or.inl ⟨by rfl, ?_⟩) hHeld ?_ ?_
                        rotate_left
                        · rintro w' ⟨s0, s1, s2, s3, s4, s5⟩
                          go_simp
                          with_reducible rfl
                        rotate_left
                        · simp only [Act.put, List.setIfInBounds_toArray, List.set_cons_zero, List.set_cons_succ, i64_w, i32_w]
                          rfl
                        refine take_ (i := 14) (N := some 78) (v := ?_) (a' := ?_) #[true, true, true, true, true, true, true, true, true, true, true, false, false, true, true, false, false, false, false, false, false, false, false, false, false, false, false, false, false, false, false, false] rfl rfl (take_ofW HT_.out HW_.out (by kernel_rfl)) (fun _ _ _ h => h) (Or.inl ⟨by rfl, ?_⟩) hHeld ?_ ?_
                        rotate_left
                        · rintro w' ⟨s0, s1, s2, s3, s4, s5⟩
                          go_simp
                          with_reducible rfl
                        rotate_left
                        · simp only [Act.put, List.setIfInBounds_toArray, List.set_cons_zero, List.set_cons_succ, i64_w, i32_w]
                          rfl
                        refine one_ (i := 11) (N := some 75) #[true, true, true, true, true, true, true, true, true, true, true, true, false, true, true, false, false, false, false, false, false, false, false, false, false, false, false, false, false, false, false, false] rfl rfl (one_of HT_.out (by kernel_rfl)) (by decide) (fun K hK => ?_)
                        refine goes_ Try.func27 (by kernel_rfl) rfl #[.agg #[.int .i64 t365, .int .i64 t366]] (by rfl) rfl rfl (by (try simp only [List.map_toArray, List.map_cons, List.map_nil]); first | done | rfl | (simp only [List.length_drop, List.length_take]; rfl)) ?_
                        with_reducible refine (vec_Left.calls t365 t366 t396 t397 _ A32.out).mono ?_
                        rintro e w77 ⟨rfl, hb⟩
                        refine ⟨_, rfl, ?_⟩
                        have n0_ := Aside0.mk (blk_below (g := gb360) (o := .cells #[.int .i64 t363, .int .i64 t364] 24 (0, 0)) (by (with_reducible repeat (first | refine blk_drewN ?_ _ | refine blk_drew ?_ | refine blk_alloc ?_ _)); exact BK360.out) hb)
                        have n1_ := Aside0.mk (blk_below (g := gb361) (o := .cells #[.int .i64 t365, .int .i64 t366] 24 (0, 0)) (by (with_reducible repeat (first | refine blk_drewN ?_ _ | refine blk_drew ?_ | refine blk_alloc ?_ _)); exact BK361.out) hb)
                        have n2_ := Aside0.mk (blk_below (g := gb369) (o := .cells #[.int .i64 t367, .int .i64 t368] 24 (0, 0)) (by (with_reducible repeat (first | refine blk_drewN ?_ _ | refine blk_drew ?_ | refine blk_alloc ?_ _)); exact BK369.out) hb)
                        have n3_ := Aside0.mk (below_step (by repeat (first | (with_reducible first | exact HB.out | apply below_alloc | apply pw_below_drewN | apply below_drew1 | refine below_set ?_ GE360.out | refine below_set ?_ GE361.out | refine below_set ?_ GE369.out) | exact HB.out)) hb)
                        clear BK360
                        clear BK361
                        clear BK369
                        clear HB
                        have BK360 := n0_
                        have BK361 := n1_
                        have BK369 := n2_
                        have HB := n3_
                        clear n0_ n1_ n2_ n3_
                        (try clear hb)
                        (try clear hb2)
                        (try clear hk)
                        (try clear hi)
                        refine hK.out _ _ ⟨(blk_cell BK369.out 0).trans rfl, (blk_cell BK369.out 1).trans rfl, (blk_cell BK361.out 0).trans rfl, (blk_cell BK361.out 1).trans rfl, (blk_cell BK360.out 0).trans rfl, (blk_cell BK360.out 1).trans rfl⟩ (fun hHeld => ?_)
                        clear hK K
                        refine norm_ (a' := ?_) ?_ ?_
                        rotate_left
                        · show Act.put _ (some 75) _ = _
                          simp only [Act.put, List.setIfInBounds_toArray, List.set_cons_zero, List.set_cons_succ, i64_w, i32_w]
                          rfl
                        refine one_ (i := 12) (N := some 76) #[true, true, true, true, true, true, true, true, true, true, true, true, true, true, true, false, false, false, false, false, false, false, false, false, false, false, false, false, false, false, false, false] rfl rfl (one_of HT_.out (by kernel_rfl)) (by decide) (fun K hK => ?_)
                        refine goes_ Try.func26 (by kernel_rfl) rfl #[.agg #[.int .i64 t367, .int .i64 t368], .agg #[.int .i64 t396, .int .i64 t397]] (by rfl) rfl rfl (by (try simp only [List.map_toArray, List.map_cons, List.map_nil]); first | done | rfl | (simp only [List.length_drop, List.length_take]; rfl)) ?_
                        with_reducible refine (vec_Cross.calls k t367 t368 t396 t397 t398 _ A33.out).mono ?_
                        rintro e w78 ⟨rfl, hb⟩
                        refine ⟨_, rfl, ?_⟩
                        have n0_ := Aside0.mk (blk_below (g := gb360) (o := .cells #[.int .i64 t363, .int .i64 t364] 24 (0, 0)) (by (with_reducible repeat (first | refine blk_drewN ?_ _ | refine blk_drew ?_ | refine blk_alloc ?_ _)); exact BK360.out) hb)
                        have n1_ := Aside0.mk (blk_below (g := gb361) (o := .cells #[.int .i64 t365, .int .i64 t366] 24 (0, 0)) (by (with_reducible repeat (first | refine blk_drewN ?_ _ | refine blk_drew ?_ | refine blk_alloc ?_ _)); exact BK361.out) hb)
                        have n2_ := Aside0.mk (blk_below (g := gb369) (o := .cells #[.int .i64 t367, .int .i64 t368] 24 (0, 0)) (by (with_reducible repeat (first | refine blk_drewN ?_ _ | refine blk_drew ?_ | refine blk_alloc ?_ _)); exact BK369.out) hb)
                        have n3_ := Aside0.mk (below_step (by repeat (first | (with_reducible first | exact HB.out | apply below_alloc | apply pw_below_drewN | apply below_drew1 | refine below_set ?_ GE360.out | refine below_set ?_ GE361.out | refine below_set ?_ GE369.out) | exact HB.out)) hb)
                        clear BK360
                        clear BK361
                        clear BK369
                        clear HB
                        have BK360 := n0_
                        have BK361 := n1_
                        have BK369 := n2_
                        have HB := n3_
                        clear n0_ n1_ n2_ n3_
                        (try clear hb)
                        (try clear hb2)
                        (try clear hk)
                        (try clear hi)
                        refine hK.out _ _ ⟨(blk_cell BK369.out 0).trans rfl, (blk_cell BK369.out 1).trans rfl, (blk_cell BK361.out 0).trans rfl, (blk_cell BK361.out 1).trans rfl, (blk_cell BK360.out 0).trans rfl, (blk_cell BK360.out 1).trans rfl⟩ (fun hHeld => ?_)
                        clear hK K
                        refine norm_ (a' := ?_) ?_ ?_
                        rotate_left
                        · show Act.put _ (some 76) _ = _
                          simp only [Act.put, List.setIfInBounds_toArray, List.set_cons_zero, List.set_cons_succ, i64_w, i32_w]
                          rfl
                        refine one_ (i := 15) (N := some 79) #[true, true, true, true, true, true, true, true, true, true, true, true, true, true, true, true, false, false, false, false, false, false, false, false, false, false, false, false, false, false, false, false] rfl rfl (one_of HT_.out (by kernel_rfl)) (by decide) (fun K hK => ?_)
                        refine goes_ Try.func26 (by kernel_rfl) rfl #[.agg #[.int .i64 t363, .int .i64 t364], .agg #[.int .i64 t365, .int .i64 t366]] (by rfl) rfl rfl (by (try simp only [List.map_toArray, List.map_cons, List.map_nil]); first | done | rfl | (simp only [List.length_drop, List.length_take]; rfl)) ?_
                        with_reducible refine (vec_Cross.calls k t363 t364 t365 t366 t399 _ A34.out).mono ?_
                        rintro e w79 ⟨rfl, hb⟩
                        refine ⟨_, rfl, ?_⟩
                        have n0_ := Aside0.mk (blk_below (g := gb360) (o := .cells #[.int .i64 t363, .int .i64 t364] 24 (0, 0)) (by (with_reducible repeat (first | refine blk_drewN ?_ _ | refine blk_drew ?_ | refine blk_alloc ?_ _)); exact BK360.out) hb)
                        have n1_ := Aside0.mk (blk_below (g := gb361) (o := .cells #[.int .i64 t365, .int .i64 t366] 24 (0, 0)) (by (with_reducible repeat (first | refine blk_drewN ?_ _ | refine blk_drew ?_ | refine blk_alloc ?_ _)); exact BK361.out) hb)
                        have n2_ := Aside0.mk (blk_below (g := gb369) (o := .cells #[.int .i64 t367, .int .i64 t368] 24 (0, 0)) (by (with_reducible repeat (first | refine blk_drewN ?_ _ | refine blk_drew ?_ | refine blk_alloc ?_ _)); exact BK369.out) hb)
                        have n3_ := Aside0.mk (below_step (by repeat (first | (with_reducible first | exact HB.out | apply below_alloc | apply pw_below_drewN | apply below_drew1 | refine below_set ?_ GE360.out | refine below_set ?_ GE361.out | refine below_set ?_ GE369.out) | exact HB.out)) hb)
                        clear BK360
                        clear BK361
                        clear BK369
                        clear HB
                        have BK360 := n0_
                        have BK361 := n1_
                        have BK369 := n2_
                        have HB := n3_
                        clear n0_ n1_ n2_ n3_
                        (try clear hb)
                        (try clear hb2)
                        (try clear hk)
                        (try clear hi)
                        refine hK.out _ _ ⟨(blk_cell BK369.out 0).trans rfl, (blk_cell BK369.out 1).trans rfl, (blk_cell BK361.out 0).trans rfl, (blk_cell BK361.out 1).trans rfl, (blk_cell BK360.out 0).trans rfl, (blk_cell BK360.out 1).trans rfl⟩ (fun hHeld => ?_)
                        clear hK K
                        refine norm_ (a' := ?_) ?_ ?_
                        rotate_left
                        · show Act.put _ (some 79) _ = _
                          simp only [Act.put, List.setIfInBounds_toArray, List.set_cons_zero, List.set_cons_succ, i64_w, i32_w]
                          rfl
                        refine pure_ (i := 16) (N := some 80) (v := ?_) (a' := ?_) #[true, true, true, true, true, true, true, true, true, true, true, true, true, true, true, true, true, false, false, false, false, false, false, false, false, false, false, false, false, false, false, false] rfl rfl (any_of HT_.out (by kernel_rfl)) (fun _ _ _ h => h) (Or.inl ⟨by rfl, ?_⟩) ?_ ?_
                        rotate_left
                        · intro w'
                          go_simp
                          with_reducible rfl
                        rotate_left
                        · simp only [Act.put, List.setIfInBounds_toArray, List.set_cons_zero, List.set_cons_succ, i64_w, i32_w]
                          rfl
                        refine pure_ (i := 17) (N := some 81) (v := ?_) (a' := ?_) #[true, true, true, true, true, true, true, true, true, true, true, true, true, true, true, true, true, true, false, false, false, false, false, false, false, false, false, false, false, false, false, false] rfl rfl (any_of HT_.out (by kernel_rfl)) (fun _ _ _ h => h) (Or.inl ⟨by rfl, ?_⟩) ?_ ?_
                        rotate_left
                        · intro w'
                          go_simp
                          with_reducible rfl
                        rotate_left
                        · simp only [Act.put, List.setIfInBounds_toArray, List.set_cons_zero, List.set_cons_succ, i64_w, i32_w]
                          rfl
                        refine pure_ (i := 18) (N := some 82) (v := ?_) (a' := ?_) #[true, true, true, true, true, true, true, true, true, true, true, true, true, true, true, true, true, true, true, false, false, false, false, false, false, false, false, false, false, false, false, false] rfl rfl (any_of HT_.out (by kernel_rfl)) (fun _ _ _ h => h) (Or.inl ⟨by rfl, ?_⟩) ?_ ?_
                        rotate_left
                        · intro w'
                          go_simp
                          with_reducible rfl
                        rotate_left
                        · simp only [Act.put, List.setIfInBounds_toArray, List.set_cons_zero, List.set_cons_succ, i64_w, i32_w]
                          rfl
                        refine take_ (i := 19) (N := some 83) (v := ?_) (a' := ?_) #[true, true, true, true, true, true, true, true, true, true, true, true, true, true, true, true, true, true, true, true, false, false, false, false, false, false, false, false, false, false, false, false] rfl rfl (take_ofW HT_.out HW_.out (by kernel_rfl)) (fun _ _ _ h => h) (Or.inl ⟨by rfl, ?_⟩) hHeld ?_ ?_
                        rotate_left
                        · rintro w' ⟨s0, s1, s2, s3, s4, s5⟩
                          go_simp
                          with_reducible rfl
                        rotate_left
                        · simp only [Act.put, List.setIfInBounds_toArray, List.set_cons_zero, List.set_cons_succ, i64_w, i32_w]
                          rfl
                        refine take_ (i := 21) (N := some 85) (v := ?_) (a' := ?_) #[true, true, true, true, true, true, true, true, true, true, true, true, true, true, true, true, true, true, true, true, false, true, false, false, false, false, false, false, false, false, false, false] rfl rfl (take_ofW HT_.out HW_.out (by kernel_rfl)) (fun _ _ _ h => h) (Or.inl ⟨by rfl, ?_⟩) hHeld ?_ ?_
                        rotate_left
                        · rintro w' ⟨s0, s1, s2, s3, s4, s5⟩
                          go_simp
                          with_reducible rfl
                        rotate_left
                        · simp only [Act.put, List.setIfInBounds_toArray, List.set_cons_zero, List.set_cons_succ, i64_w, i32_w]
                          rfl
                        refine one_ (i := 20) (N := some 84) #[true, true, true, true, true, true, true, true, true, true, true, true, true, true, true, true, true, true, true, true, true, true, false, false, false, false, false, false, false, false, false, false] rfl rfl (one_of HT_.out (by kernel_rfl)) (by decide) (fun K hK => ?_)
                        refine goes_ Try.func11 (by kernel_rfl) rfl #[.agg #[.int .i64 t367, .int .i64 t368]] (by rfl) rfl rfl (by (try simp only [List.map_toArray, List.map_cons, List.map_nil]); first | done | rfl | (simp only [List.length_drop, List.length_take]; rfl)) ?_
                        with_reducible refine (vec_Len.calls k t367 t368 t400 _ A36.out).mono ?_
                        rintro e w80 ⟨rfl, hb⟩
                        refine ⟨_, rfl, ?_⟩
                        have n0_ := Aside0.mk (blk_below (g := gb360) (o := .cells #[.int .i64 t363, .int .i64 t364] 24 (0, 0)) (by (with_reducible repeat (first | refine blk_drewN ?_ _ | refine blk_drew ?_ | refine blk_alloc ?_ _)); exact BK360.out) hb)
                        have n1_ := Aside0.mk (blk_below (g := gb361) (o := .cells #[.int .i64 t365, .int .i64 t366] 24 (0, 0)) (by (with_reducible repeat (first | refine blk_drewN ?_ _ | refine blk_drew ?_ | refine blk_alloc ?_ _)); exact BK361.out) hb)
                        have n2_ := Aside0.mk (blk_below (g := gb369) (o := .cells #[.int .i64 t367, .int .i64 t368] 24 (0, 0)) (by (with_reducible repeat (first | refine blk_drewN ?_ _ | refine blk_drew ?_ | refine blk_alloc ?_ _)); exact BK369.out) hb)
                        have n3_ := Aside0.mk (below_step (by repeat (first | (with_reducible first | exact HB.out | apply below_alloc | apply pw_below_drewN | apply below_drew1 | refine below_set ?_ GE360.out | refine below_set ?_ GE361.out | refine below_set ?_ GE369.out) | exact HB.out)) hb)
                        clear BK360
                        clear BK361
                        clear BK369
                        clear HB
                        have BK360 := n0_
                        have BK361 := n1_
                        have BK369 := n2_
                        have HB := n3_
                        clear n0_ n1_ n2_ n3_
                        (try clear hb)
                        (try clear hb2)
                        (try clear hk)
                        (try clear hi)
                        refine hK.out _ _ ⟨(blk_cell BK369.out 0).trans rfl, (blk_cell BK369.out 1).trans rfl, (blk_cell BK361.out 0).trans rfl, (blk_cell BK361.out 1).trans rfl, (blk_cell BK360.out 0).trans rfl, (blk_cell BK360.out 1).trans rfl⟩ (fun hHeld => ?_)
                        clear hK K
                        refine norm_ (a' := ?_) ?_ ?_
                        rotate_left
                        · show Act.put _ (some 84) _ = _
                          simp only [Act.put, List.setIfInBounds_toArray, List.set_cons_zero, List.set_cons_succ, i64_w, i32_w]
                          rfl
                        refine one_ (i := 22) (N := some 86) #[true, true, true, true, true, true, true, true, true, true, true, true, true, true, true, true, true, true, true, true, true, true, true, false, false, false, false, false, false, false, false, false] rfl rfl (one_of HT_.out (by kernel_rfl)) (by decide) (fun K hK => ?_)
                        refine goes_ Try.func11 (by kernel_rfl) rfl #[.agg #[.int .i64 t363, .int .i64 t364]] (by rfl) rfl rfl (by (try simp only [List.map_toArray, List.map_cons, List.map_nil]); first | done | rfl | (simp only [List.length_drop, List.length_take]; rfl)) ?_
                        with_reducible refine (vec_Len.calls k t363 t364 t401 _ A37.out).mono ?_
                        rintro e w81 ⟨rfl, hb⟩
                        refine ⟨_, rfl, ?_⟩
                        have n0_ := Aside0.mk (blk_below (g := gb360) (o := .cells #[.int .i64 t363, .int .i64 t364] 24 (0, 0)) (by (with_reducible repeat (first | refine blk_drewN ?_ _ | refine blk_drew ?_ | refine blk_alloc ?_ _)); exact BK360.out) hb)
                        have n1_ := Aside0.mk (blk_below (g := gb361) (o := .cells #[.int .i64 t365, .int .i64 t366] 24 (0, 0)) (by (with_reducible repeat (first | refine blk_drewN ?_ _ | refine blk_drew ?_ | refine blk_alloc ?_ _)); exact BK361.out) hb)
                        have n2_ := Aside0.mk (blk_below (g := gb369) (o := .cells #[.int .i64 t367, .int .i64 t368] 24 (0, 0)) (by (with_reducible repeat (first | refine blk_drewN ?_ _ | refine blk_drew ?_ | refine blk_alloc ?_ _)); exact BK369.out) hb)
                        have n3_ := Aside0.mk (below_step (by repeat (first | (with_reducible first | exact HB.out | apply below_alloc | apply pw_below_drewN | apply below_drew1 | refine below_set ?_ GE360.out | refine below_set ?_ GE361.out | refine below_set ?_ GE369.out) | exact HB.out)) hb)
                        clear BK360
                        clear BK361
                        clear BK369
                        clear HB
                        have BK360 := n0_
                        have BK361 := n1_
                        have BK369 := n2_
                        have HB := n3_
                        clear n0_ n1_ n2_ n3_
                        (try clear hb)
                        (try clear hb2)
                        (try clear hk)
                        (try clear hi)
                        refine hK.out _ _ ⟨(blk_cell BK369.out 0).trans rfl, (blk_cell BK369.out 1).trans rfl, (blk_cell BK361.out 0).trans rfl, (blk_cell BK361.out 1).trans rfl, (blk_cell BK360.out 0).trans rfl, (blk_cell BK360.out 1).trans rfl⟩ (fun hHeld => ?_)
                        clear hK K
                        refine norm_ (a' := ?_) ?_ ?_
                        rotate_left
                        · show Act.put _ (some 86) _ = _
                          simp only [Act.put, List.setIfInBounds_toArray, List.set_cons_zero, List.set_cons_succ, i64_w, i32_w]
                          rfl
                        refine pure_ (i := 23) (N := some 87) (v := ?_) (a' := ?_) #[true, true, true, true, true, true, true, true, true, true, true, true, true, true, true, true, true, true, true, true, true, true, true, true, false, false, false, false, false, false, false, false] rfl rfl (any_of HT_.out (by kernel_rfl)) (fun _ _ _ h => h) (Or.inl ⟨by rfl, ?_⟩) ?_ ?_
                        rotate_left
                        · intro w'
                          go_simp
                          with_reducible rfl
                        rotate_left
                        · simp only [Act.put, List.setIfInBounds_toArray, List.set_cons_zero, List.set_cons_succ, i64_w, i32_w]
                          rfl
                        refine pure_ (i := 24) (N := some 88) (v := ?_) (a' := ?_) #[true, true, true, true, true, true, true, true, true, true, true, true, true, true, true, true, true, true, true, true, true, true, true, true, true, false, false, false, false, false, false, false] rfl rfl (any_of HT_.out (by kernel_rfl)) (fun _ _ _ h => h) (Or.inl ⟨by rfl, ?_⟩) ?_ ?_
                        rotate_left
                        · intro w'
                          go_simp
                          with_reducible rfl
                        rotate_left
                        · simp only [Act.put, List.setIfInBounds_toArray, List.set_cons_zero, List.set_cons_succ, i64_w, i32_w]
                          rfl
                        refine pure_ (i := 25) (N := some 89) (v := ?_) (a' := ?_) #[true, true, true, true, true, true, true, true, true, true, true, true, true, true, true, true, true, true, true, true, true, true, true, true, true, true, false, false, false, false, false, false] rfl rfl (any_of HT_.out (by kernel_rfl)) (fun _ _ _ h => h) (Or.inl ⟨by rfl, ?_⟩) ?_ ?_
                        rotate_left
                        · intro w'
                          go_simp
                          with_reducible rfl
                        rotate_left
                        · simp only [Act.put, List.setIfInBounds_toArray, List.set_cons_zero, List.set_cons_succ, i64_w, i32_w]
                          rfl
                        refine take_ (i := 26) (N := some 90) (v := ?_) (a' := ?_) #[true, true, true, true, true, true, true, true, true, true, true, true, true, true, true, true, true, true, true, true, true, true, true, true, true, true, true, false, false, false, false, false] rfl rfl (take_ofW HT_.out HW_.out (by kernel_rfl)) (fun _ _ _ h => h) (Or.inl ⟨by rfl, ?_⟩) hHeld ?_ ?_
                        rotate_left
                        · rintro w' ⟨s0, s1, s2, s3, s4, s5⟩
                          go_simp
                          with_reducible rfl
                        rotate_left
                        · simp only [Act.put, List.setIfInBounds_toArray, List.set_cons_zero, List.set_cons_succ, i64_w, i32_w]
                          rfl
                        refine take_ (i := 28) (N := some 92) (v := ?_) (a' := ?_) #[true, true, true, true, true, true, true, true, true, true, true, true, true, true, true, true, true, true, true, true, true, true, true, true, true, true, true, false, true, false, false, false] rfl rfl (take_ofW HT_.out HW_.out (by kernel_rfl)) (fun _ _ _ h => h) (Or.inl ⟨by rfl, ?_⟩) hHeld ?_ ?_
                        rotate_left
                        · rintro w' ⟨s0, s1, s2, s3, s4, s5⟩
                          go_simp
                          with_reducible rfl
                        rotate_left
                        · simp only [Act.put, List.setIfInBounds_toArray, List.set_cons_zero, List.set_cons_succ, i64_w, i32_w]
                          rfl
                        refine one_ (i := 27) (N := some 91) #[true, true, true, true, true, true, true, true, true, true, true, true, true, true, true, true, true, true, true, true, true, true, true, true, true, true, true, true, true, false, false, false] rfl rfl (one_of HT_.out (by kernel_rfl)) (by decide) (fun K hK => ?_)
                        refine goes_ Try.func24 (by kernel_rfl) rfl #[.agg #[.int .i64 t363, .int .i64 t364], .int .i64 4294967296] (by rfl) rfl rfl (by (try simp only [List.map_toArray, List.map_cons, List.map_nil]); first | done | rfl | (simp only [List.length_drop, List.length_take]; rfl)) ?_
                        with_reducible refine (vec_Scale.calls k t363 t364 4294967296 t402 t403 _ A39.out).mono ?_
                        rintro e w82 ⟨rfl, hb⟩
                        refine ⟨_, rfl, ?_⟩
                        have n0_ := Aside0.mk (blk_below (g := gb360) (o := .cells #[.int .i64 t363, .int .i64 t364] 24 (0, 0)) (by (with_reducible repeat (first | refine blk_drewN ?_ _ | refine blk_drew ?_ | refine blk_alloc ?_ _)); exact BK360.out) hb)
                        have n1_ := Aside0.mk (blk_below (g := gb361) (o := .cells #[.int .i64 t365, .int .i64 t366] 24 (0, 0)) (by (with_reducible repeat (first | refine blk_drewN ?_ _ | refine blk_drew ?_ | refine blk_alloc ?_ _)); exact BK361.out) hb)
                        have n2_ := Aside0.mk (blk_below (g := gb369) (o := .cells #[.int .i64 t367, .int .i64 t368] 24 (0, 0)) (by (with_reducible repeat (first | refine blk_drewN ?_ _ | refine blk_drew ?_ | refine blk_alloc ?_ _)); exact BK369.out) hb)
                        have n3_ := Aside0.mk (below_step (by repeat (first | (with_reducible first | exact HB.out | apply below_alloc | apply pw_below_drewN | apply below_drew1 | refine below_set ?_ GE360.out | refine below_set ?_ GE361.out | refine below_set ?_ GE369.out) | exact HB.out)) hb)
                        clear BK360
                        clear BK361
                        clear BK369
                        clear HB
                        have BK360 := n0_
                        have BK361 := n1_
                        have BK369 := n2_
                        have HB := n3_
                        clear n0_ n1_ n2_ n3_
                        (try clear hb)
                        (try clear hb2)
                        (try clear hk)
                        (try clear hi)
                        refine hK.out _ _ ⟨(blk_cell BK369.out 0).trans rfl, (blk_cell BK369.out 1).trans rfl, (blk_cell BK361.out 0).trans rfl, (blk_cell BK361.out 1).trans rfl, (blk_cell BK360.out 0).trans rfl, (blk_cell BK360.out 1).trans rfl⟩ (fun hHeld => ?_)
                        clear hK K
                        refine norm_ (a' := ?_) ?_ ?_
                        rotate_left
                        · show Act.put _ (some 91) _ = _
                          simp only [Act.put, List.setIfInBounds_toArray, List.set_cons_zero, List.set_cons_succ, i64_w, i32_w]
                          rfl
                        refine pure_ (i := 29) (N := some 93) (v := ?_) (a' := ?_) #[true, true, true, true, true, true, true, true, true, true, true, true, true, true, true, true, true, true, true, true, true, true, true, true, true, true, true, true, true, true, false, false] rfl rfl (any_of HT_.out (by kernel_rfl)) (fun _ _ _ h => h) (Or.inl ⟨by rfl, ?_⟩) ?_ ?_
                        rotate_left
                        · intro w'
                          go_simp
                          with_reducible rfl
                        rotate_left
                        · simp only [Act.put, List.setIfInBounds_toArray, List.set_cons_zero, List.set_cons_succ, i64_w, i32_w]
                          rfl
                        refine pure_ (i := 30) (N := some 94) (v := ?_) (a' := ?_) #[true, true, true, true, true, true, true, true, true, true, true, true, true, true, true, true, true, true, true, true, true, true, true, true, true, true, true, true, true, true, true, false] rfl rfl (any_of HT_.out (by kernel_rfl)) (fun _ _ _ h => h) (Or.inl ⟨by rfl, ?_⟩) ?_ ?_
                        rotate_left
                        · intro w'
                          go_simp
                          with_reducible rfl
                        rotate_left
                        · simp only [Act.put, List.setIfInBounds_toArray, List.set_cons_zero, List.set_cons_succ, i64_w, i32_w]
                          rfl
                        refine pure_ (i := 31) (N := some 4) (v := ?_) (a' := ?_) #[true, true, true, true, true, true, true, true, true, true, true, true, true, true, true, true, true, true, true, true, true, true, true, true, true, true, true, true, true, true, true, true] rfl rfl (any_of HT_.out (by kernel_rfl)) (fun _ _ _ h => h) (Or.inl ⟨by rfl, ?_⟩) ?_ ?_
                        rotate_left
                        · intro w'
                          go_simp
                          with_reducible rfl
                        rotate_left
                        · simp only [Act.put, List.setIfInBounds_toArray, List.set_cons_zero, List.set_cons_succ, i64_w, i32_w]
                          rfl
                        refine done_ (done_of HT_.out (by kernel_rfl)) ?_
                        try go_wp2
                        go_ret
                        exact ⟨by first | rfl | (simp [errW_none, errW_some] <;> rfl) | (simp [*, errW_none, errW_some] <;> rfl) | (simp [wrap64]; done) | (congr 2 <;> first | rfl | (unfold wrap64; omega)), by repeat (first | (with_reducible first | exact HB.out | apply below_alloc | apply pw_below_drewN | apply below_drew1 | refine below_set ?_ GE360.out | refine below_set ?_ GE361.out | refine below_set ?_ GE369.out) | exact HB.out)⟩
                      · rw [if_neg c38] at H
                        exact absurd H (by simp)
                    · rw [if_neg c35] at H
                      exact absurd H (by simp)
                  · rw [if_neg c31] at H
                    exact absurd H (by simp)
                · rw [if_neg c27] at H
                  exact absurd H (by simp)
          · rw [if_neg c18] at H
            exact absurd H (by simp)
        · rw [if_neg c16] at H
          exact absurd H (by simp)
  · replace c4 := Bool.eq_false_iff.mpr c4
    subst c4
    have H1 : (none) = some r := by rw [if_neg (show ¬ (false = true) by decide)] at H; exact H
    clear H
    have H := H1
    clear H1
    exact absurd H (by simp)

/-- The one pure statement of bagatellelaw03_VecLaws. -/
def bagatellelaw03_VecLaws.Pure : Prop := ∀ (a0_0 : Int) (a0_1 : Int) (a1_0 : Int) (a1_1 : Int), (Lit.int .i64 a0_0).wf = true → (Lit.int .i64 a0_1).wf = true → (Lit.int .i64 a1_0).wf = true → (Lit.int .i64 a1_1).wf = true → ∃ k, bagatellelaw03_VecLaws.f k a0_0 a0_1 a1_0 a1_1 = some true
theorem bagatellelaw03_VecLaws.walk (P : bagatellelaw03_VecLaws.Pure) (a0_0 : Int) (a0_1 : Int) (a1_0 : Int) (a1_1 : Int) (w : World) (w0_0 : (Lit.int .i64 a0_0).wf = true) (w0_1 : (Lit.int .i64 a0_1).wf = true) (w1_0 : (Lit.int .i64 a1_0).wf = true) (w1_1 : (Lit.int .i64 a1_1).wf = true) :
    Calls Try.prog 8 #[.agg #[.int .i64 a0_0, .int .i64 a0_1], .agg #[.int .i64 a1_0, .int .i64 a1_1]] w fun e w' => e = .returned (.bool true) ∧ Below w.heap.size w w' := by
  obtain ⟨k, h⟩ := P a0_0 a0_1 a1_0 a1_1 w0_0 w0_1 w1_0 w1_1
  refine (bagatellelaw03_VecLaws.calls k a0_0 a0_1 a1_0 a1_1 true w h).mono ?_
  rintro e w' ⟨rfl, hd⟩
  exact ⟨rfl, hd⟩

end Go.Proofs.Ytfdjpjainjjljaa.PVe
