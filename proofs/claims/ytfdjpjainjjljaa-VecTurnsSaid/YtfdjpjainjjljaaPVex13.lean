-- Printed by a program of this session (wip/tools/myprint.py) out of the translation; Lean checks it.
import Derived.Test.YtfdjpjainjjljaaPVex0
import Derived.Test.YtfdjpjainjjljaaPVex1
import Derived.Test.YtfdjpjainjjljaaPVex2
import Derived.Test.YtfdjpjainjjljaaPVex4
import Derived.Test.YtfdjpjainjjljaaPVex5
import Derived.Test.YtfdjpjainjjljaaPVex7
import Derived.Test.YtfdjpjainjjljaaPVex10
import Derived.Test.YtfdjpjainjjljaaPVex12
namespace Go.Proofs.Ytfdjpjainjjljaa.PVe
open Go.RowKit Go.Proofs.YtfdjpjainjjljaaW.PrintWords Go.Proofs.YtfdjpjainjjljaaW.PrintLast Go.Proofs.YtfdjpjainjjljaaW.PrintMore
attribute [local go_sem] max2_int min2_int max_two min_two max_three min_three max_four min_four   -- for this text's walks alone
set_option linter.unusedVariables false
set_option linter.unusedSimpArgs false

attribute [local go_sem high] eqA24
/-! ### bagatellelaw03_VecTurns: function 7 -/
def bagatellelaw03_VecTurns.f (k : Nat) (a0_0 : Int) (a0_1 : Int) (a1 : Int) : Option (Bool) := (bagatellelaw03_fit.f k).bind fun t317 => (if t317 = true then ((vec_Bring.f a0_0 a0_1 4294967296000).bind fun bt318 => ((turn_Of.f k a1).bind fun bt320 => ((vec_Apply.f k bt320.1 bt320.2 bt318.1 bt318.2).bind fun bt323 => ((fix_Mul.f k bt320.1 bt318.1).bind fun t326 => ((fix_Mul.f k bt320.2 bt318.2).bind fun t327 => ((fix_Sub.f k t326 t327).bind fun t328 => ((fix_Mul.f k bt320.2 bt318.1).bind fun t329 => ((fix_Mul.f k bt320.1 bt318.2).bind fun t330 => ((fix_Add.f k t329 t330).bind fun t331 => (if (!(bt323.1 == t328) || (!(bt323.2 == t331))) = true then (none) else ((vec_Back.f k bt320.1 bt320.2 bt323.1 bt323.2).bind fun bt332 => ((fix_Mul.f k bt320.1 bt323.1).bind fun t335 => ((fix_Mul.f k bt320.2 bt323.2).bind fun t336 => ((fix_Add.f k t335 t336).bind fun t337 => ((fix_Mul.f k bt320.1 bt323.2).bind fun t338 => ((fix_Mul.f k bt320.2 bt323.1).bind fun t339 => ((fix_Sub.f k t338 t339).bind fun t340 => (if (!(bt332.1 == t337) || (!(bt332.2 == t340))) = true then (none) else ((vec_Sub.f k bt332.1 bt332.2 bt318.1 bt318.2).bind fun bt341 => ((turn_Of.f k 1073741824).bind fun bt344 => ((fix_Abs.f bt341.1).bind fun t347 => (if t347 < 8000 then ((fix_Abs.f bt341.2).bind fun t348 => (if t348 < 8000 then ((vec_Apply.f k bt344.1 bt344.2 bt318.1 bt318.2).bind fun bt349 => ((vec_Left.f bt318.1 bt318.2).bind fun bt351 => (if (bt349.1 == bt351.1 && (bt349.2 == bt351.2)) = true then ((vec_Left.f bt318.1 bt318.2).bind fun bt353 => ((vec_Back.f k bt344.1 bt344.2 bt353.1 bt353.2).bind fun bt355 => (if (bt355.1 == bt318.1 && (bt355.2 == bt318.2)) = true then ((vec_Len.f k bt323.1 bt323.2).bind fun t357 => ((vec_Len.f k bt318.1 bt318.2).bind fun t358 => ((fix_Abs.f (wrap64 (t357 - t358))).bind fun t359 => (some (decide (t359 < 1048576)))))) else (none)))) else (none)))) else (none))) else (none))))))))))))))))))))))) else (none))
theorem bagatellelaw03_VecTurns.mono : ∀ a0 a1 a2 k, LeO (bagatellelaw03_VecTurns.f k a0 a1 a2) (bagatellelaw03_VecTurns.f (k + 1) a0 a1 a2) := by
  intro a0 a1 a2 k
  unfold bagatellelaw03_VecTurns.f
  repeat' first
      | (with_reducible exact bagatellelaw03_fit.mono _)
      | (with_reducible exact fix_Add.mono _ _ _)
      | (with_reducible exact fix_Mul.mono _ _ _)
      | (with_reducible exact fix_Sub.mono _ _ _)
      | (with_reducible exact turn_Of.mono _ _)
      | (with_reducible exact vec_Apply.mono _ _ _ _ _)
      | (with_reducible exact vec_Back.mono _ _ _ _ _)
      | (with_reducible exact vec_Len.mono _ _ _)
      | (with_reducible exact vec_Sub.mono _ _ _ _ _)
      | (with_reducible exact LeO.refl _)
      | (with_reducible exact LeO.none _)
      | (with_reducible refine LeO.ite ?_ ?_)
      | (with_reducible refine LeO.bind ?_ (fun _ => ?_))
      | exact bagatellelaw03_fit.mono _
      | exact fix_Add.mono _ _ _
      | exact fix_Mul.mono _ _ _
      | exact fix_Sub.mono _ _ _
      | exact turn_Of.mono _ _
      | exact vec_Apply.mono _ _ _ _ _
      | exact vec_Back.mono _ _ _ _ _
      | exact vec_Len.mono _ _ _
      | exact vec_Sub.mono _ _ _ _ _
      | exact LeO.none _
      | refine LeO.ite ?_ ?_
      | refine LeO.bind ?_ (fun _ => ?_)
def bagatellelaw03_VecTurns.T6 : Bool × List (List Nat × List Nat) := (true, [([], []), ([], []), ([1], [1]), ([], []), ([3], [3]), ([2, 4], [2, 4]), ([], []), ([6], [6]), ([], []), ([8], [8]), ([7, 9, 5], [7, 9]), ([5, 10, 10], [5, 10]), ([], []), ([12], [12]), ([], []), ([14], [14]), ([13, 15, 11], [13, 15]), ([], []), ([17], [17]), ([], []), ([19], [19]), ([18, 20, 16], [18, 20]), ([16, 21, 21], [16, 21]), ([11, 22], [11, 22]), ([0, 23], [0, 23])])
def bagatellelaw03_VecTurns.B6 : List Nat := [0, 0, 2, 0, 8, 30, 0, 64, 0, 256, 1022, 2046, 0, 4096, 0, 16384, 65534, 0, 131072, 0, 524288, 2097150, 4194302, 8388606, 16777215]
theorem bagatellelaw03_VecTurns.tab6 : rtab .any (opsOf Try.f7 6) = bagatellelaw03_VecTurns.T6 := by kernel_rfl
theorem bagatellelaw03_VecTurns.bits6 : waitsOk bagatellelaw03_VecTurns.T6.2 bagatellelaw03_VecTurns.B6 = true := by kernel_rfl
def bagatellelaw03_VecTurns.T9 : Bool × List (List Nat × List Nat) := (true, [([], []), ([], []), ([1], [1]), ([], []), ([3], [3]), ([2, 4], [2, 4]), ([], []), ([6], [6]), ([], []), ([8], [8]), ([7, 9, 5], [7, 9]), ([5, 10, 10], [5, 10]), ([], []), ([12], [12]), ([], []), ([14], [14]), ([13, 15, 11], [13, 15]), ([], []), ([17], [17]), ([], []), ([19], [19]), ([18, 20, 16], [18, 20]), ([16, 21, 21], [16, 21]), ([11, 22], [11, 22]), ([0, 23], [0, 23])])
def bagatellelaw03_VecTurns.B9 : List Nat := [0, 0, 2, 0, 8, 30, 0, 64, 0, 256, 1022, 2046, 0, 4096, 0, 16384, 65534, 0, 131072, 0, 524288, 2097150, 4194302, 8388606, 16777215]
theorem bagatellelaw03_VecTurns.tab9 : rtab .any (opsOf Try.f7 9) = bagatellelaw03_VecTurns.T9 := by kernel_rfl
theorem bagatellelaw03_VecTurns.bits9 : waitsOk bagatellelaw03_VecTurns.T9.2 bagatellelaw03_VecTurns.B9 = true := by kernel_rfl
def bagatellelaw03_VecTurns.T13 : Bool × List (List Nat × List Nat) := (true, [([], []), ([0], [0]), ([1], [1]), ([2], [2]), ([3, 2], [3]), ([4], [4]), ([5, 4], [4, 5]), ([6, 4, 4], [4, 6]), ([7, 4], [4, 7]), ([4, 8], [4, 8]), ([9, 7], [9]), ([10], [10]), ([10], [10]), ([11, 12, 10, 10], [10, 11, 12]), ([10], [10]), ([14, 13, 10], [10, 14]), ([13, 15, 10], [10, 13, 15]), ([10, 16], [10, 16]), ([17, 15], [17]), ([18], [18]), ([18], [18]), ([20, 18, 18], [18, 20]), ([19, 21, 21, 18], [18, 19, 21]), ([18], [18]), ([22, 23, 18], [18, 22, 23]), ([18, 24], [18, 24]), ([25, 22], [25]), ([26], [26]), ([27, 26, 26], [26, 27]), ([26], [26]), ([29, 28, 26], [26, 29]), ([28, 30, 26], [26, 28, 30]), ([31, 30, 26], [26, 31]), ([32, 26], [26, 32]), ([26, 33], [26, 33]), ([34, 32, 0, 1, 2, 3, 4, 5, 6, 7, 8, 9, 10, 11, 12, 13, 14, 15, 16, 17, 18, 19, 20, 21, 22, 23, 24, 25, 26, 27, 28, 29, 30, 31, 32, 33, 34], [34])])
def bagatellelaw03_VecTurns.B13 : List Nat := [0, 1, 3, 7, 15, 31, 63, 127, 255, 511, 1023, 2047, 2047, 8191, 2047, 32767, 65535, 131071, 262143, 524287, 524287, 1572863, 4194303, 524287, 16777215, 33554431, 67108863, 134217727, 268435455, 134217727, 1073741823, 2147483647, 4294967295, 8589934591, 17179869183, 34359738367]
theorem bagatellelaw03_VecTurns.tab13 : rtab .any (opsOf Try.f7 13) = bagatellelaw03_VecTurns.T13 := by kernel_rfl
theorem bagatellelaw03_VecTurns.bits13 : waitsOk bagatellelaw03_VecTurns.T13.2 bagatellelaw03_VecTurns.B13 = true := by kernel_rfl
set_option maxHeartbeats 8000000 in
set_option maxRecDepth 100000 in
theorem bagatellelaw03_VecTurns.calls (k : Nat) (a0_0 : Int) (a0_1 : Int) (a1 : Int) (r : Bool) (w : World) (h : bagatellelaw03_VecTurns.f k a0_0 a0_1 a1 = some r) :
    Calls Try.prog 7 #[.agg #[.int .i64 a0_0, .int .i64 a0_1], .int .i64 a1] w fun e w' => e = .returned (.bool r) ∧ Below w.heap.size w w' := by
  have hu24 := Try.underlying24
  have hu42 := Try.underlying42
  have HB := Aside0.mk (Below.refl w.heap.size w)
  have H : ((bagatellelaw03_fit.f k).bind fun t317 => (if t317 = true then ((vec_Bring.f a0_0 a0_1 4294967296000).bind fun bt318 => ((turn_Of.f k a1).bind fun bt320 => ((vec_Apply.f k bt320.1 bt320.2 bt318.1 bt318.2).bind fun bt323 => ((fix_Mul.f k bt320.1 bt318.1).bind fun t326 => ((fix_Mul.f k bt320.2 bt318.2).bind fun t327 => ((fix_Sub.f k t326 t327).bind fun t328 => ((fix_Mul.f k bt320.2 bt318.1).bind fun t329 => ((fix_Mul.f k bt320.1 bt318.2).bind fun t330 => ((fix_Add.f k t329 t330).bind fun t331 => (if (!(bt323.1 == t328) || (!(bt323.2 == t331))) = true then (none) else ((vec_Back.f k bt320.1 bt320.2 bt323.1 bt323.2).bind fun bt332 => ((fix_Mul.f k bt320.1 bt323.1).bind fun t335 => ((fix_Mul.f k bt320.2 bt323.2).bind fun t336 => ((fix_Add.f k t335 t336).bind fun t337 => ((fix_Mul.f k bt320.1 bt323.2).bind fun t338 => ((fix_Mul.f k bt320.2 bt323.1).bind fun t339 => ((fix_Sub.f k t338 t339).bind fun t340 => (if (!(bt332.1 == t337) || (!(bt332.2 == t340))) = true then (none) else ((vec_Sub.f k bt332.1 bt332.2 bt318.1 bt318.2).bind fun bt341 => ((turn_Of.f k 1073741824).bind fun bt344 => ((fix_Abs.f bt341.1).bind fun t347 => (if t347 < 8000 then ((fix_Abs.f bt341.2).bind fun t348 => (if t348 < 8000 then ((vec_Apply.f k bt344.1 bt344.2 bt318.1 bt318.2).bind fun bt349 => ((vec_Left.f bt318.1 bt318.2).bind fun bt351 => (if (bt349.1 == bt351.1 && (bt349.2 == bt351.2)) = true then ((vec_Left.f bt318.1 bt318.2).bind fun bt353 => ((vec_Back.f k bt344.1 bt344.2 bt353.1 bt353.2).bind fun bt355 => (if (bt355.1 == bt318.1 && (bt355.2 == bt318.2)) = true then ((vec_Len.f k bt323.1 bt323.2).bind fun t357 => ((vec_Len.f k bt318.1 bt318.2).bind fun t358 => ((fix_Abs.f (wrap64 (t357 - t358))).bind fun t359 => (some (decide (t359 < 1048576)))))) else (none)))) else (none)))) else (none))) else (none))))))))))))))))))))))) else (none))) = some r := h
  clear h
  replace H := Option.bind_eq_some_iff.mp H
  obtain ⟨t317, A30, H⟩ := H
  replace H : (if t317 = true then ((vec_Bring.f a0_0 a0_1 4294967296000).bind fun bt318 => ((turn_Of.f k a1).bind fun bt320 => ((vec_Apply.f k bt320.1 bt320.2 bt318.1 bt318.2).bind fun bt323 => ((fix_Mul.f k bt320.1 bt318.1).bind fun t326 => ((fix_Mul.f k bt320.2 bt318.2).bind fun t327 => ((fix_Sub.f k t326 t327).bind fun t328 => ((fix_Mul.f k bt320.2 bt318.1).bind fun t329 => ((fix_Mul.f k bt320.1 bt318.2).bind fun t330 => ((fix_Add.f k t329 t330).bind fun t331 => (if (!(bt323.1 == t328) || (!(bt323.2 == t331))) = true then (none) else ((vec_Back.f k bt320.1 bt320.2 bt323.1 bt323.2).bind fun bt332 => ((fix_Mul.f k bt320.1 bt323.1).bind fun t335 => ((fix_Mul.f k bt320.2 bt323.2).bind fun t336 => ((fix_Add.f k t335 t336).bind fun t337 => ((fix_Mul.f k bt320.1 bt323.2).bind fun t338 => ((fix_Mul.f k bt320.2 bt323.1).bind fun t339 => ((fix_Sub.f k t338 t339).bind fun t340 => (if (!(bt332.1 == t337) || (!(bt332.2 == t340))) = true then (none) else ((vec_Sub.f k bt332.1 bt332.2 bt318.1 bt318.2).bind fun bt341 => ((turn_Of.f k 1073741824).bind fun bt344 => ((fix_Abs.f bt341.1).bind fun t347 => (if t347 < 8000 then ((fix_Abs.f bt341.2).bind fun t348 => (if t348 < 8000 then ((vec_Apply.f k bt344.1 bt344.2 bt318.1 bt318.2).bind fun bt349 => ((vec_Left.f bt318.1 bt318.2).bind fun bt351 => (if (bt349.1 == bt351.1 && (bt349.2 == bt351.2)) = true then ((vec_Left.f bt318.1 bt318.2).bind fun bt353 => ((vec_Back.f k bt344.1 bt344.2 bt353.1 bt353.2).bind fun bt355 => (if (bt355.1 == bt318.1 && (bt355.2 == bt318.2)) = true then ((vec_Len.f k bt323.1 bt323.2).bind fun t357 => ((vec_Len.f k bt318.1 bt318.2).bind fun t358 => ((fix_Abs.f (wrap64 (t357 - t358))).bind fun t359 => (some (decide (t359 < 1048576)))))) else (none)))) else (none)))) else (none))) else (none))))))))))))))))))))))) else (none)) = some r := H
  have A3 := Aside0.mk A30
  clear A30
  by_cases c4 : t317 = true
  · subst c4
    have H1 : ((vec_Bring.f a0_0 a0_1 4294967296000).bind fun bt318 => ((turn_Of.f k a1).bind fun bt320 => ((vec_Apply.f k bt320.1 bt320.2 bt318.1 bt318.2).bind fun bt323 => ((fix_Mul.f k bt320.1 bt318.1).bind fun t326 => ((fix_Mul.f k bt320.2 bt318.2).bind fun t327 => ((fix_Sub.f k t326 t327).bind fun t328 => ((fix_Mul.f k bt320.2 bt318.1).bind fun t329 => ((fix_Mul.f k bt320.1 bt318.2).bind fun t330 => ((fix_Add.f k t329 t330).bind fun t331 => (if (!(bt323.1 == t328) || (!(bt323.2 == t331))) = true then (none) else ((vec_Back.f k bt320.1 bt320.2 bt323.1 bt323.2).bind fun bt332 => ((fix_Mul.f k bt320.1 bt323.1).bind fun t335 => ((fix_Mul.f k bt320.2 bt323.2).bind fun t336 => ((fix_Add.f k t335 t336).bind fun t337 => ((fix_Mul.f k bt320.1 bt323.2).bind fun t338 => ((fix_Mul.f k bt320.2 bt323.1).bind fun t339 => ((fix_Sub.f k t338 t339).bind fun t340 => (if (!(bt332.1 == t337) || (!(bt332.2 == t340))) = true then (none) else ((vec_Sub.f k bt332.1 bt332.2 bt318.1 bt318.2).bind fun bt341 => ((turn_Of.f k 1073741824).bind fun bt344 => ((fix_Abs.f bt341.1).bind fun t347 => (if t347 < 8000 then ((fix_Abs.f bt341.2).bind fun t348 => (if t348 < 8000 then ((vec_Apply.f k bt344.1 bt344.2 bt318.1 bt318.2).bind fun bt349 => ((vec_Left.f bt318.1 bt318.2).bind fun bt351 => (if (bt349.1 == bt351.1 && (bt349.2 == bt351.2)) = true then ((vec_Left.f bt318.1 bt318.2).bind fun bt353 => ((vec_Back.f k bt344.1 bt344.2 bt353.1 bt353.2).bind fun bt355 => (if (bt355.1 == bt318.1 && (bt355.2 == bt318.2)) = true then ((vec_Len.f k bt323.1 bt323.2).bind fun t357 => ((vec_Len.f k bt318.1 bt318.2).bind fun t358 => ((fix_Abs.f (wrap64 (t357 - t358))).bind fun t359 => (some (decide (t359 < 1048576)))))) else (none)))) else (none)))) else (none))) else (none))))))))))))))))))))))) = some r := by rw [if_pos rfl] at H; exact H
    clear H
    have H := H1
    clear H1
    replace H := Option.bind_eq_some_iff.mp H
    obtain ⟨⟨t318, t319⟩, A50, H⟩ := H
    replace H : ((turn_Of.f k a1).bind fun bt320 => ((vec_Apply.f k bt320.1 bt320.2 t318 t319).bind fun bt323 => ((fix_Mul.f k bt320.1 t318).bind fun t326 => ((fix_Mul.f k bt320.2 t319).bind fun t327 => ((fix_Sub.f k t326 t327).bind fun t328 => ((fix_Mul.f k bt320.2 t318).bind fun t329 => ((fix_Mul.f k bt320.1 t319).bind fun t330 => ((fix_Add.f k t329 t330).bind fun t331 => (if (!(bt323.1 == t328) || (!(bt323.2 == t331))) = true then (none) else ((vec_Back.f k bt320.1 bt320.2 bt323.1 bt323.2).bind fun bt332 => ((fix_Mul.f k bt320.1 bt323.1).bind fun t335 => ((fix_Mul.f k bt320.2 bt323.2).bind fun t336 => ((fix_Add.f k t335 t336).bind fun t337 => ((fix_Mul.f k bt320.1 bt323.2).bind fun t338 => ((fix_Mul.f k bt320.2 bt323.1).bind fun t339 => ((fix_Sub.f k t338 t339).bind fun t340 => (if (!(bt332.1 == t337) || (!(bt332.2 == t340))) = true then (none) else ((vec_Sub.f k bt332.1 bt332.2 t318 t319).bind fun bt341 => ((turn_Of.f k 1073741824).bind fun bt344 => ((fix_Abs.f bt341.1).bind fun t347 => (if t347 < 8000 then ((fix_Abs.f bt341.2).bind fun t348 => (if t348 < 8000 then ((vec_Apply.f k bt344.1 bt344.2 t318 t319).bind fun bt349 => ((vec_Left.f t318 t319).bind fun bt351 => (if (bt349.1 == bt351.1 && (bt349.2 == bt351.2)) = true then ((vec_Left.f t318 t319).bind fun bt353 => ((vec_Back.f k bt344.1 bt344.2 bt353.1 bt353.2).bind fun bt355 => (if (bt355.1 == t318 && (bt355.2 == t319)) = true then ((vec_Len.f k bt323.1 bt323.2).bind fun t357 => ((vec_Len.f k t318 t319).bind fun t358 => ((fix_Abs.f (wrap64 (t357 - t358))).bind fun t359 => (some (decide (t359 < 1048576)))))) else (none)))) else (none)))) else (none))) else (none)))))))))))))))))))))) = some r := H
    have A5 := Aside0.mk A50
    clear A50
    replace H := Option.bind_eq_some_iff.mp H
    obtain ⟨⟨t320, t321⟩, A60, H⟩ := H
    replace H : ((vec_Apply.f k t320 t321 t318 t319).bind fun bt323 => ((fix_Mul.f k t320 t318).bind fun t326 => ((fix_Mul.f k t321 t319).bind fun t327 => ((fix_Sub.f k t326 t327).bind fun t328 => ((fix_Mul.f k t321 t318).bind fun t329 => ((fix_Mul.f k t320 t319).bind fun t330 => ((fix_Add.f k t329 t330).bind fun t331 => (if (!(bt323.1 == t328) || (!(bt323.2 == t331))) = true then (none) else ((vec_Back.f k t320 t321 bt323.1 bt323.2).bind fun bt332 => ((fix_Mul.f k t320 bt323.1).bind fun t335 => ((fix_Mul.f k t321 bt323.2).bind fun t336 => ((fix_Add.f k t335 t336).bind fun t337 => ((fix_Mul.f k t320 bt323.2).bind fun t338 => ((fix_Mul.f k t321 bt323.1).bind fun t339 => ((fix_Sub.f k t338 t339).bind fun t340 => (if (!(bt332.1 == t337) || (!(bt332.2 == t340))) = true then (none) else ((vec_Sub.f k bt332.1 bt332.2 t318 t319).bind fun bt341 => ((turn_Of.f k 1073741824).bind fun bt344 => ((fix_Abs.f bt341.1).bind fun t347 => (if t347 < 8000 then ((fix_Abs.f bt341.2).bind fun t348 => (if t348 < 8000 then ((vec_Apply.f k bt344.1 bt344.2 t318 t319).bind fun bt349 => ((vec_Left.f t318 t319).bind fun bt351 => (if (bt349.1 == bt351.1 && (bt349.2 == bt351.2)) = true then ((vec_Left.f t318 t319).bind fun bt353 => ((vec_Back.f k bt344.1 bt344.2 bt353.1 bt353.2).bind fun bt355 => (if (bt355.1 == t318 && (bt355.2 == t319)) = true then ((vec_Len.f k bt323.1 bt323.2).bind fun t357 => ((vec_Len.f k t318 t319).bind fun t358 => ((fix_Abs.f (wrap64 (t357 - t358))).bind fun t359 => (some (decide (t359 < 1048576)))))) else (none)))) else (none)))) else (none))) else (none))))))))))))))))))))) = some r := H
    have A6 := Aside0.mk A60
    clear A60
    replace H := Option.bind_eq_some_iff.mp H
    obtain ⟨⟨t323, t324⟩, A70, H⟩ := H
    replace H : ((fix_Mul.f k t320 t318).bind fun t326 => ((fix_Mul.f k t321 t319).bind fun t327 => ((fix_Sub.f k t326 t327).bind fun t328 => ((fix_Mul.f k t321 t318).bind fun t329 => ((fix_Mul.f k t320 t319).bind fun t330 => ((fix_Add.f k t329 t330).bind fun t331 => (if (!(t323 == t328) || (!(t324 == t331))) = true then (none) else ((vec_Back.f k t320 t321 t323 t324).bind fun bt332 => ((fix_Mul.f k t320 t323).bind fun t335 => ((fix_Mul.f k t321 t324).bind fun t336 => ((fix_Add.f k t335 t336).bind fun t337 => ((fix_Mul.f k t320 t324).bind fun t338 => ((fix_Mul.f k t321 t323).bind fun t339 => ((fix_Sub.f k t338 t339).bind fun t340 => (if (!(bt332.1 == t337) || (!(bt332.2 == t340))) = true then (none) else ((vec_Sub.f k bt332.1 bt332.2 t318 t319).bind fun bt341 => ((turn_Of.f k 1073741824).bind fun bt344 => ((fix_Abs.f bt341.1).bind fun t347 => (if t347 < 8000 then ((fix_Abs.f bt341.2).bind fun t348 => (if t348 < 8000 then ((vec_Apply.f k bt344.1 bt344.2 t318 t319).bind fun bt349 => ((vec_Left.f t318 t319).bind fun bt351 => (if (bt349.1 == bt351.1 && (bt349.2 == bt351.2)) = true then ((vec_Left.f t318 t319).bind fun bt353 => ((vec_Back.f k bt344.1 bt344.2 bt353.1 bt353.2).bind fun bt355 => (if (bt355.1 == t318 && (bt355.2 == t319)) = true then ((vec_Len.f k t323 t324).bind fun t357 => ((vec_Len.f k t318 t319).bind fun t358 => ((fix_Abs.f (wrap64 (t357 - t358))).bind fun t359 => (some (decide (t359 < 1048576)))))) else (none)))) else (none)))) else (none))) else (none)))))))))))))))))))) = some r := H
    have A7 := Aside0.mk A70
    clear A70
    replace H := Option.bind_eq_some_iff.mp H
    obtain ⟨t326, A80, H⟩ := H
    replace H : ((fix_Mul.f k t321 t319).bind fun t327 => ((fix_Sub.f k t326 t327).bind fun t328 => ((fix_Mul.f k t321 t318).bind fun t329 => ((fix_Mul.f k t320 t319).bind fun t330 => ((fix_Add.f k t329 t330).bind fun t331 => (if (!(t323 == t328) || (!(t324 == t331))) = true then (none) else ((vec_Back.f k t320 t321 t323 t324).bind fun bt332 => ((fix_Mul.f k t320 t323).bind fun t335 => ((fix_Mul.f k t321 t324).bind fun t336 => ((fix_Add.f k t335 t336).bind fun t337 => ((fix_Mul.f k t320 t324).bind fun t338 => ((fix_Mul.f k t321 t323).bind fun t339 => ((fix_Sub.f k t338 t339).bind fun t340 => (if (!(bt332.1 == t337) || (!(bt332.2 == t340))) = true then (none) else ((vec_Sub.f k bt332.1 bt332.2 t318 t319).bind fun bt341 => ((turn_Of.f k 1073741824).bind fun bt344 => ((fix_Abs.f bt341.1).bind fun t347 => (if t347 < 8000 then ((fix_Abs.f bt341.2).bind fun t348 => (if t348 < 8000 then ((vec_Apply.f k bt344.1 bt344.2 t318 t319).bind fun bt349 => ((vec_Left.f t318 t319).bind fun bt351 => (if (bt349.1 == bt351.1 && (bt349.2 == bt351.2)) = true then ((vec_Left.f t318 t319).bind fun bt353 => ((vec_Back.f k bt344.1 bt344.2 bt353.1 bt353.2).bind fun bt355 => (if (bt355.1 == t318 && (bt355.2 == t319)) = true then ((vec_Len.f k t323 t324).bind fun t357 => ((vec_Len.f k t318 t319).bind fun t358 => ((fix_Abs.f (wrap64 (t357 - t358))).bind fun t359 => (some (decide (t359 < 1048576)))))) else (none)))) else (none)))) else (none))) else (none))))))))))))))))))) = some r := H
    have A8 := Aside0.mk A80
    clear A80
    replace H := Option.bind_eq_some_iff.mp H
    obtain ⟨t327, A90, H⟩ := H
    replace H : ((fix_Sub.f k t326 t327).bind fun t328 => ((fix_Mul.f k t321 t318).bind fun t329 => ((fix_Mul.f k t320 t319).bind fun t330 => ((fix_Add.f k t329 t330).bind fun t331 => (if (!(t323 == t328) || (!(t324 == t331))) = true then (none) else ((vec_Back.f k t320 t321 t323 t324).bind fun bt332 => ((fix_Mul.f k t320 t323).bind fun t335 => ((fix_Mul.f k t321 t324).bind fun t336 => ((fix_Add.f k t335 t336).bind fun t337 => ((fix_Mul.f k t320 t324).bind fun t338 => ((fix_Mul.f k t321 t323).bind fun t339 => ((fix_Sub.f k t338 t339).bind fun t340 => (if (!(bt332.1 == t337) || (!(bt332.2 == t340))) = true then (none) else ((vec_Sub.f k bt332.1 bt332.2 t318 t319).bind fun bt341 => ((turn_Of.f k 1073741824).bind fun bt344 => ((fix_Abs.f bt341.1).bind fun t347 => (if t347 < 8000 then ((fix_Abs.f bt341.2).bind fun t348 => (if t348 < 8000 then ((vec_Apply.f k bt344.1 bt344.2 t318 t319).bind fun bt349 => ((vec_Left.f t318 t319).bind fun bt351 => (if (bt349.1 == bt351.1 && (bt349.2 == bt351.2)) = true then ((vec_Left.f t318 t319).bind fun bt353 => ((vec_Back.f k bt344.1 bt344.2 bt353.1 bt353.2).bind fun bt355 => (if (bt355.1 == t318 && (bt355.2 == t319)) = true then ((vec_Len.f k t323 t324).bind fun t357 => ((vec_Len.f k t318 t319).bind fun t358 => ((fix_Abs.f (wrap64 (t357 - t358))).bind fun t359 => (some (decide (t359 < 1048576)))))) else (none)))) else (none)))) else (none))) else (none)))))))))))))))))) = some r := H
    have A9 := Aside0.mk A90
    clear A90
    replace H := Option.bind_eq_some_iff.mp H
    obtain ⟨t328, A100, H⟩ := H
    replace H : ((fix_Mul.f k t321 t318).bind fun t329 => ((fix_Mul.f k t320 t319).bind fun t330 => ((fix_Add.f k t329 t330).bind fun t331 => (if (!(t323 == t328) || (!(t324 == t331))) = true then (none) else ((vec_Back.f k t320 t321 t323 t324).bind fun bt332 => ((fix_Mul.f k t320 t323).bind fun t335 => ((fix_Mul.f k t321 t324).bind fun t336 => ((fix_Add.f k t335 t336).bind fun t337 => ((fix_Mul.f k t320 t324).bind fun t338 => ((fix_Mul.f k t321 t323).bind fun t339 => ((fix_Sub.f k t338 t339).bind fun t340 => (if (!(bt332.1 == t337) || (!(bt332.2 == t340))) = true then (none) else ((vec_Sub.f k bt332.1 bt332.2 t318 t319).bind fun bt341 => ((turn_Of.f k 1073741824).bind fun bt344 => ((fix_Abs.f bt341.1).bind fun t347 => (if t347 < 8000 then ((fix_Abs.f bt341.2).bind fun t348 => (if t348 < 8000 then ((vec_Apply.f k bt344.1 bt344.2 t318 t319).bind fun bt349 => ((vec_Left.f t318 t319).bind fun bt351 => (if (bt349.1 == bt351.1 && (bt349.2 == bt351.2)) = true then ((vec_Left.f t318 t319).bind fun bt353 => ((vec_Back.f k bt344.1 bt344.2 bt353.1 bt353.2).bind fun bt355 => (if (bt355.1 == t318 && (bt355.2 == t319)) = true then ((vec_Len.f k t323 t324).bind fun t357 => ((vec_Len.f k t318 t319).bind fun t358 => ((fix_Abs.f (wrap64 (t357 - t358))).bind fun t359 => (some (decide (t359 < 1048576)))))) else (none)))) else (none)))) else (none))) else (none))))))))))))))))) = some r := H
    have A10 := Aside0.mk A100
    clear A100
    replace H := Option.bind_eq_some_iff.mp H
    obtain ⟨t329, A110, H⟩ := H
    replace H : ((fix_Mul.f k t320 t319).bind fun t330 => ((fix_Add.f k t329 t330).bind fun t331 => (if (!(t323 == t328) || (!(t324 == t331))) = true then (none) else ((vec_Back.f k t320 t321 t323 t324).bind fun bt332 => ((fix_Mul.f k t320 t323).bind fun t335 => ((fix_Mul.f k t321 t324).bind fun t336 => ((fix_Add.f k t335 t336).bind fun t337 => ((fix_Mul.f k t320 t324).bind fun t338 => ((fix_Mul.f k t321 t323).bind fun t339 => ((fix_Sub.f k t338 t339).bind fun t340 => (if (!(bt332.1 == t337) || (!(bt332.2 == t340))) = true then (none) else ((vec_Sub.f k bt332.1 bt332.2 t318 t319).bind fun bt341 => ((turn_Of.f k 1073741824).bind fun bt344 => ((fix_Abs.f bt341.1).bind fun t347 => (if t347 < 8000 then ((fix_Abs.f bt341.2).bind fun t348 => (if t348 < 8000 then ((vec_Apply.f k bt344.1 bt344.2 t318 t319).bind fun bt349 => ((vec_Left.f t318 t319).bind fun bt351 => (if (bt349.1 == bt351.1 && (bt349.2 == bt351.2)) = true then ((vec_Left.f t318 t319).bind fun bt353 => ((vec_Back.f k bt344.1 bt344.2 bt353.1 bt353.2).bind fun bt355 => (if (bt355.1 == t318 && (bt355.2 == t319)) = true then ((vec_Len.f k t323 t324).bind fun t357 => ((vec_Len.f k t318 t319).bind fun t358 => ((fix_Abs.f (wrap64 (t357 - t358))).bind fun t359 => (some (decide (t359 < 1048576)))))) else (none)))) else (none)))) else (none))) else (none)))))))))))))))) = some r := H
    have A11 := Aside0.mk A110
    clear A110
    replace H := Option.bind_eq_some_iff.mp H
    obtain ⟨t330, A120, H⟩ := H
    replace H : ((fix_Add.f k t329 t330).bind fun t331 => (if (!(t323 == t328) || (!(t324 == t331))) = true then (none) else ((vec_Back.f k t320 t321 t323 t324).bind fun bt332 => ((fix_Mul.f k t320 t323).bind fun t335 => ((fix_Mul.f k t321 t324).bind fun t336 => ((fix_Add.f k t335 t336).bind fun t337 => ((fix_Mul.f k t320 t324).bind fun t338 => ((fix_Mul.f k t321 t323).bind fun t339 => ((fix_Sub.f k t338 t339).bind fun t340 => (if (!(bt332.1 == t337) || (!(bt332.2 == t340))) = true then (none) else ((vec_Sub.f k bt332.1 bt332.2 t318 t319).bind fun bt341 => ((turn_Of.f k 1073741824).bind fun bt344 => ((fix_Abs.f bt341.1).bind fun t347 => (if t347 < 8000 then ((fix_Abs.f bt341.2).bind fun t348 => (if t348 < 8000 then ((vec_Apply.f k bt344.1 bt344.2 t318 t319).bind fun bt349 => ((vec_Left.f t318 t319).bind fun bt351 => (if (bt349.1 == bt351.1 && (bt349.2 == bt351.2)) = true then ((vec_Left.f t318 t319).bind fun bt353 => ((vec_Back.f k bt344.1 bt344.2 bt353.1 bt353.2).bind fun bt355 => (if (bt355.1 == t318 && (bt355.2 == t319)) = true then ((vec_Len.f k t323 t324).bind fun t357 => ((vec_Len.f k t318 t319).bind fun t358 => ((fix_Abs.f (wrap64 (t357 - t358))).bind fun t359 => (some (decide (t359 < 1048576)))))) else (none)))) else (none)))) else (none))) else (none))))))))))))))) = some r := H
    have A12 := Aside0.mk A120
    clear A120
    replace H := Option.bind_eq_some_iff.mp H
    obtain ⟨t331, A130, H⟩ := H
    replace H : (if (!(t323 == t328) || (!(t324 == t331))) = true then (none) else ((vec_Back.f k t320 t321 t323 t324).bind fun bt332 => ((fix_Mul.f k t320 t323).bind fun t335 => ((fix_Mul.f k t321 t324).bind fun t336 => ((fix_Add.f k t335 t336).bind fun t337 => ((fix_Mul.f k t320 t324).bind fun t338 => ((fix_Mul.f k t321 t323).bind fun t339 => ((fix_Sub.f k t338 t339).bind fun t340 => (if (!(bt332.1 == t337) || (!(bt332.2 == t340))) = true then (none) else ((vec_Sub.f k bt332.1 bt332.2 t318 t319).bind fun bt341 => ((turn_Of.f k 1073741824).bind fun bt344 => ((fix_Abs.f bt341.1).bind fun t347 => (if t347 < 8000 then ((fix_Abs.f bt341.2).bind fun t348 => (if t348 < 8000 then ((vec_Apply.f k bt344.1 bt344.2 t318 t319).bind fun bt349 => ((vec_Left.f t318 t319).bind fun bt351 => (if (bt349.1 == bt351.1 && (bt349.2 == bt351.2)) = true then ((vec_Left.f t318 t319).bind fun bt353 => ((vec_Back.f k bt344.1 bt344.2 bt353.1 bt353.2).bind fun bt355 => (if (bt355.1 == t318 && (bt355.2 == t319)) = true then ((vec_Len.f k t323 t324).bind fun t357 => ((vec_Len.f k t318 t319).bind fun t358 => ((fix_Abs.f (wrap64 (t357 - t358))).bind fun t359 => (some (decide (t359 < 1048576)))))) else (none)))) else (none)))) else (none))) else (none)))))))))))))) = some r := H
    have A13 := Aside0.mk A130
    clear A130
    by_cases c14 : (!(t323 == t328) || (!(t324 == t331))) = true
    · rw [if_pos c14] at H
      exact absurd H (by simp)
    · rw [if_neg c14] at H
      have c14b0 : (!(t323 == t328) || (!(t324 == t331))) = false := by simpa using c14
      clear c14
      replace H := Option.bind_eq_some_iff.mp H
      obtain ⟨⟨t332, t333⟩, A150, H⟩ := H
      replace H : ((fix_Mul.f k t320 t323).bind fun t335 => ((fix_Mul.f k t321 t324).bind fun t336 => ((fix_Add.f k t335 t336).bind fun t337 => ((fix_Mul.f k t320 t324).bind fun t338 => ((fix_Mul.f k t321 t323).bind fun t339 => ((fix_Sub.f k t338 t339).bind fun t340 => (if (!(t332 == t337) || (!(t333 == t340))) = true then (none) else ((vec_Sub.f k t332 t333 t318 t319).bind fun bt341 => ((turn_Of.f k 1073741824).bind fun bt344 => ((fix_Abs.f bt341.1).bind fun t347 => (if t347 < 8000 then ((fix_Abs.f bt341.2).bind fun t348 => (if t348 < 8000 then ((vec_Apply.f k bt344.1 bt344.2 t318 t319).bind fun bt349 => ((vec_Left.f t318 t319).bind fun bt351 => (if (bt349.1 == bt351.1 && (bt349.2 == bt351.2)) = true then ((vec_Left.f t318 t319).bind fun bt353 => ((vec_Back.f k bt344.1 bt344.2 bt353.1 bt353.2).bind fun bt355 => (if (bt355.1 == t318 && (bt355.2 == t319)) = true then ((vec_Len.f k t323 t324).bind fun t357 => ((vec_Len.f k t318 t319).bind fun t358 => ((fix_Abs.f (wrap64 (t357 - t358))).bind fun t359 => (some (decide (t359 < 1048576)))))) else (none)))) else (none)))) else (none))) else (none)))))))))))) = some r := H
      have A15 := Aside0.mk A150
      clear A150
      replace H := Option.bind_eq_some_iff.mp H
      obtain ⟨t335, A160, H⟩ := H
      replace H : ((fix_Mul.f k t321 t324).bind fun t336 => ((fix_Add.f k t335 t336).bind fun t337 => ((fix_Mul.f k t320 t324).bind fun t338 => ((fix_Mul.f k t321 t323).bind fun t339 => ((fix_Sub.f k t338 t339).bind fun t340 => (if (!(t332 == t337) || (!(t333 == t340))) = true then (none) else ((vec_Sub.f k t332 t333 t318 t319).bind fun bt341 => ((turn_Of.f k 1073741824).bind fun bt344 => ((fix_Abs.f bt341.1).bind fun t347 => (if t347 < 8000 then ((fix_Abs.f bt341.2).bind fun t348 => (if t348 < 8000 then ((vec_Apply.f k bt344.1 bt344.2 t318 t319).bind fun bt349 => ((vec_Left.f t318 t319).bind fun bt351 => (if (bt349.1 == bt351.1 && (bt349.2 == bt351.2)) = true then ((vec_Left.f t318 t319).bind fun bt353 => ((vec_Back.f k bt344.1 bt344.2 bt353.1 bt353.2).bind fun bt355 => (if (bt355.1 == t318 && (bt355.2 == t319)) = true then ((vec_Len.f k t323 t324).bind fun t357 => ((vec_Len.f k t318 t319).bind fun t358 => ((fix_Abs.f (wrap64 (t357 - t358))).bind fun t359 => (some (decide (t359 < 1048576)))))) else (none)))) else (none)))) else (none))) else (none))))))))))) = some r := H
      have A16 := Aside0.mk A160
      clear A160
      replace H := Option.bind_eq_some_iff.mp H
      obtain ⟨t336, A170, H⟩ := H
      replace H : ((fix_Add.f k t335 t336).bind fun t337 => ((fix_Mul.f k t320 t324).bind fun t338 => ((fix_Mul.f k t321 t323).bind fun t339 => ((fix_Sub.f k t338 t339).bind fun t340 => (if (!(t332 == t337) || (!(t333 == t340))) = true then (none) else ((vec_Sub.f k t332 t333 t318 t319).bind fun bt341 => ((turn_Of.f k 1073741824).bind fun bt344 => ((fix_Abs.f bt341.1).bind fun t347 => (if t347 < 8000 then ((fix_Abs.f bt341.2).bind fun t348 => (if t348 < 8000 then ((vec_Apply.f k bt344.1 bt344.2 t318 t319).bind fun bt349 => ((vec_Left.f t318 t319).bind fun bt351 => (if (bt349.1 == bt351.1 && (bt349.2 == bt351.2)) = true then ((vec_Left.f t318 t319).bind fun bt353 => ((vec_Back.f k bt344.1 bt344.2 bt353.1 bt353.2).bind fun bt355 => (if (bt355.1 == t318 && (bt355.2 == t319)) = true then ((vec_Len.f k t323 t324).bind fun t357 => ((vec_Len.f k t318 t319).bind fun t358 => ((fix_Abs.f (wrap64 (t357 - t358))).bind fun t359 => (some (decide (t359 < 1048576)))))) else (none)))) else (none)))) else (none))) else (none)))))))))) = some r := H
      have A17 := Aside0.mk A170
      clear A170
      replace H := Option.bind_eq_some_iff.mp H
      obtain ⟨t337, A180, H⟩ := H
      replace H : ((fix_Mul.f k t320 t324).bind fun t338 => ((fix_Mul.f k t321 t323).bind fun t339 => ((fix_Sub.f k t338 t339).bind fun t340 => (if (!(t332 == t337) || (!(t333 == t340))) = true then (none) else ((vec_Sub.f k t332 t333 t318 t319).bind fun bt341 => ((turn_Of.f k 1073741824).bind fun bt344 => ((fix_Abs.f bt341.1).bind fun t347 => (if t347 < 8000 then ((fix_Abs.f bt341.2).bind fun t348 => (if t348 < 8000 then ((vec_Apply.f k bt344.1 bt344.2 t318 t319).bind fun bt349 => ((vec_Left.f t318 t319).bind fun bt351 => (if (bt349.1 == bt351.1 && (bt349.2 == bt351.2)) = true then ((vec_Left.f t318 t319).bind fun bt353 => ((vec_Back.f k bt344.1 bt344.2 bt353.1 bt353.2).bind fun bt355 => (if (bt355.1 == t318 && (bt355.2 == t319)) = true then ((vec_Len.f k t323 t324).bind fun t357 => ((vec_Len.f k t318 t319).bind fun t358 => ((fix_Abs.f (wrap64 (t357 - t358))).bind fun t359 => (some (decide (t359 < 1048576)))))) else (none)))) else (none)))) else (none))) else (none))))))))) = some r := H
      have A18 := Aside0.mk A180
      clear A180
      replace H := Option.bind_eq_some_iff.mp H
      obtain ⟨t338, A190, H⟩ := H
      replace H : ((fix_Mul.f k t321 t323).bind fun t339 => ((fix_Sub.f k t338 t339).bind fun t340 => (if (!(t332 == t337) || (!(t333 == t340))) = true then (none) else ((vec_Sub.f k t332 t333 t318 t319).bind fun bt341 => ((turn_Of.f k 1073741824).bind fun bt344 => ((fix_Abs.f bt341.1).bind fun t347 => (if t347 < 8000 then ((fix_Abs.f bt341.2).bind fun t348 => (if t348 < 8000 then ((vec_Apply.f k bt344.1 bt344.2 t318 t319).bind fun bt349 => ((vec_Left.f t318 t319).bind fun bt351 => (if (bt349.1 == bt351.1 && (bt349.2 == bt351.2)) = true then ((vec_Left.f t318 t319).bind fun bt353 => ((vec_Back.f k bt344.1 bt344.2 bt353.1 bt353.2).bind fun bt355 => (if (bt355.1 == t318 && (bt355.2 == t319)) = true then ((vec_Len.f k t323 t324).bind fun t357 => ((vec_Len.f k t318 t319).bind fun t358 => ((fix_Abs.f (wrap64 (t357 - t358))).bind fun t359 => (some (decide (t359 < 1048576)))))) else (none)))) else (none)))) else (none))) else (none)))))))) = some r := H
      have A19 := Aside0.mk A190
      clear A190
      replace H := Option.bind_eq_some_iff.mp H
      obtain ⟨t339, A200, H⟩ := H
      replace H : ((fix_Sub.f k t338 t339).bind fun t340 => (if (!(t332 == t337) || (!(t333 == t340))) = true then (none) else ((vec_Sub.f k t332 t333 t318 t319).bind fun bt341 => ((turn_Of.f k 1073741824).bind fun bt344 => ((fix_Abs.f bt341.1).bind fun t347 => (if t347 < 8000 then ((fix_Abs.f bt341.2).bind fun t348 => (if t348 < 8000 then ((vec_Apply.f k bt344.1 bt344.2 t318 t319).bind fun bt349 => ((vec_Left.f t318 t319).bind fun bt351 => (if (bt349.1 == bt351.1 && (bt349.2 == bt351.2)) = true then ((vec_Left.f t318 t319).bind fun bt353 => ((vec_Back.f k bt344.1 bt344.2 bt353.1 bt353.2).bind fun bt355 => (if (bt355.1 == t318 && (bt355.2 == t319)) = true then ((vec_Len.f k t323 t324).bind fun t357 => ((vec_Len.f k t318 t319).bind fun t358 => ((fix_Abs.f (wrap64 (t357 - t358))).bind fun t359 => (some (decide (t359 < 1048576)))))) else (none)))) else (none)))) else (none))) else (none))))))) = some r := H
      have A20 := Aside0.mk A200
      clear A200
      replace H := Option.bind_eq_some_iff.mp H
      obtain ⟨t340, A210, H⟩ := H
      replace H : (if (!(t332 == t337) || (!(t333 == t340))) = true then (none) else ((vec_Sub.f k t332 t333 t318 t319).bind fun bt341 => ((turn_Of.f k 1073741824).bind fun bt344 => ((fix_Abs.f bt341.1).bind fun t347 => (if t347 < 8000 then ((fix_Abs.f bt341.2).bind fun t348 => (if t348 < 8000 then ((vec_Apply.f k bt344.1 bt344.2 t318 t319).bind fun bt349 => ((vec_Left.f t318 t319).bind fun bt351 => (if (bt349.1 == bt351.1 && (bt349.2 == bt351.2)) = true then ((vec_Left.f t318 t319).bind fun bt353 => ((vec_Back.f k bt344.1 bt344.2 bt353.1 bt353.2).bind fun bt355 => (if (bt355.1 == t318 && (bt355.2 == t319)) = true then ((vec_Len.f k t323 t324).bind fun t357 => ((vec_Len.f k t318 t319).bind fun t358 => ((fix_Abs.f (wrap64 (t357 - t358))).bind fun t359 => (some (decide (t359 < 1048576)))))) else (none)))) else (none)))) else (none))) else (none)))))) = some r := H
      have A21 := Aside0.mk A210
      clear A210
      by_cases c22 : (!(t332 == t337) || (!(t333 == t340))) = true
      · rw [if_pos c22] at H
        exact absurd H (by simp)
      · rw [if_neg c22] at H
        have c22b0 : (!(t332 == t337) || (!(t333 == t340))) = false := by simpa using c22
        clear c22
        replace H := Option.bind_eq_some_iff.mp H
        obtain ⟨⟨t341, t342⟩, A230, H⟩ := H
        replace H : ((turn_Of.f k 1073741824).bind fun bt344 => ((fix_Abs.f t341).bind fun t347 => (if t347 < 8000 then ((fix_Abs.f t342).bind fun t348 => (if t348 < 8000 then ((vec_Apply.f k bt344.1 bt344.2 t318 t319).bind fun bt349 => ((vec_Left.f t318 t319).bind fun bt351 => (if (bt349.1 == bt351.1 && (bt349.2 == bt351.2)) = true then ((vec_Left.f t318 t319).bind fun bt353 => ((vec_Back.f k bt344.1 bt344.2 bt353.1 bt353.2).bind fun bt355 => (if (bt355.1 == t318 && (bt355.2 == t319)) = true then ((vec_Len.f k t323 t324).bind fun t357 => ((vec_Len.f k t318 t319).bind fun t358 => ((fix_Abs.f (wrap64 (t357 - t358))).bind fun t359 => (some (decide (t359 < 1048576)))))) else (none)))) else (none)))) else (none))) else (none)))) = some r := H
        have A23 := Aside0.mk A230
        clear A230
        replace H := Option.bind_eq_some_iff.mp H
        obtain ⟨⟨t344, t345⟩, A240, H⟩ := H
        replace H : ((fix_Abs.f t341).bind fun t347 => (if t347 < 8000 then ((fix_Abs.f t342).bind fun t348 => (if t348 < 8000 then ((vec_Apply.f k t344 t345 t318 t319).bind fun bt349 => ((vec_Left.f t318 t319).bind fun bt351 => (if (bt349.1 == bt351.1 && (bt349.2 == bt351.2)) = true then ((vec_Left.f t318 t319).bind fun bt353 => ((vec_Back.f k t344 t345 bt353.1 bt353.2).bind fun bt355 => (if (bt355.1 == t318 && (bt355.2 == t319)) = true then ((vec_Len.f k t323 t324).bind fun t357 => ((vec_Len.f k t318 t319).bind fun t358 => ((fix_Abs.f (wrap64 (t357 - t358))).bind fun t359 => (some (decide (t359 < 1048576)))))) else (none)))) else (none)))) else (none))) else (none))) = some r := H
        have A24 := Aside0.mk A240
        clear A240
        replace H := Option.bind_eq_some_iff.mp H
        obtain ⟨t347, A250, H⟩ := H
        replace H : (if t347 < 8000 then ((fix_Abs.f t342).bind fun t348 => (if t348 < 8000 then ((vec_Apply.f k t344 t345 t318 t319).bind fun bt349 => ((vec_Left.f t318 t319).bind fun bt351 => (if (bt349.1 == bt351.1 && (bt349.2 == bt351.2)) = true then ((vec_Left.f t318 t319).bind fun bt353 => ((vec_Back.f k t344 t345 bt353.1 bt353.2).bind fun bt355 => (if (bt355.1 == t318 && (bt355.2 == t319)) = true then ((vec_Len.f k t323 t324).bind fun t357 => ((vec_Len.f k t318 t319).bind fun t358 => ((fix_Abs.f (wrap64 (t357 - t358))).bind fun t359 => (some (decide (t359 < 1048576)))))) else (none)))) else (none)))) else (none))) else (none)) = some r := H
        have A25 := Aside0.mk A250
        clear A250
        by_cases c26 : t347 < 8000
        · rw [if_pos c26] at H
          have c26b0 : decide (t347 < 8000) = true := decide_eq_true c26
          clear c26
          replace H := Option.bind_eq_some_iff.mp H
          obtain ⟨t348, A270, H⟩ := H
          replace H : (if t348 < 8000 then ((vec_Apply.f k t344 t345 t318 t319).bind fun bt349 => ((vec_Left.f t318 t319).bind fun bt351 => (if (bt349.1 == bt351.1 && (bt349.2 == bt351.2)) = true then ((vec_Left.f t318 t319).bind fun bt353 => ((vec_Back.f k t344 t345 bt353.1 bt353.2).bind fun bt355 => (if (bt355.1 == t318 && (bt355.2 == t319)) = true then ((vec_Len.f k t323 t324).bind fun t357 => ((vec_Len.f k t318 t319).bind fun t358 => ((fix_Abs.f (wrap64 (t357 - t358))).bind fun t359 => (some (decide (t359 < 1048576)))))) else (none)))) else (none)))) else (none)) = some r := H
          have A27 := Aside0.mk A270
          clear A270
          by_cases c28 : t348 < 8000
          · rw [if_pos c28] at H
            have c28b0 : decide (t348 < 8000) = true := decide_eq_true c28
            clear c28
            replace H := Option.bind_eq_some_iff.mp H
            obtain ⟨⟨t349, t350⟩, A290, H⟩ := H
            replace H : ((vec_Left.f t318 t319).bind fun bt351 => (if (t349 == bt351.1 && (t350 == bt351.2)) = true then ((vec_Left.f t318 t319).bind fun bt353 => ((vec_Back.f k t344 t345 bt353.1 bt353.2).bind fun bt355 => (if (bt355.1 == t318 && (bt355.2 == t319)) = true then ((vec_Len.f k t323 t324).bind fun t357 => ((vec_Len.f k t318 t319).bind fun t358 => ((fix_Abs.f (wrap64 (t357 - t358))).bind fun t359 => (some (decide (t359 < 1048576)))))) else (none)))) else (none))) = some r := H
            have A29 := Aside0.mk A290
            clear A290
            replace H := Option.bind_eq_some_iff.mp H
            obtain ⟨⟨t351, t352⟩, A300, H⟩ := H
            replace H : (if (t349 == t351 && (t350 == t352)) = true then ((vec_Left.f t318 t319).bind fun bt353 => ((vec_Back.f k t344 t345 bt353.1 bt353.2).bind fun bt355 => (if (bt355.1 == t318 && (bt355.2 == t319)) = true then ((vec_Len.f k t323 t324).bind fun t357 => ((vec_Len.f k t318 t319).bind fun t358 => ((fix_Abs.f (wrap64 (t357 - t358))).bind fun t359 => (some (decide (t359 < 1048576)))))) else (none)))) else (none)) = some r := H
            have A30 := Aside0.mk A300
            clear A300
            by_cases c31 : (t349 == t351 && (t350 == t352)) = true
            · rw [if_pos c31] at H
              have c31b0 : (t349 == t351 && (t350 == t352)) = true := c31
              (try (have c31b1 : decide (t349 = t351 && (t350 == t352)) = true := by simpa using c31))
              (try (have c31b2 : (t349 == t351 && (t350 == t352)) = true := by simpa using c31))
              clear c31
              replace H := Option.bind_eq_some_iff.mp H
              obtain ⟨⟨t353, t354⟩, A320, H⟩ := H
              replace H : ((vec_Back.f k t344 t345 t353 t354).bind fun bt355 => (if (bt355.1 == t318 && (bt355.2 == t319)) = true then ((vec_Len.f k t323 t324).bind fun t357 => ((vec_Len.f k t318 t319).bind fun t358 => ((fix_Abs.f (wrap64 (t357 - t358))).bind fun t359 => (some (decide (t359 < 1048576)))))) else (none))) = some r := H
              have A32 := Aside0.mk A320
              clear A320
              replace H := Option.bind_eq_some_iff.mp H
              obtain ⟨⟨t355, t356⟩, A330, H⟩ := H
              replace H : (if (t355 == t318 && (t356 == t319)) = true then ((vec_Len.f k t323 t324).bind fun t357 => ((vec_Len.f k t318 t319).bind fun t358 => ((fix_Abs.f (wrap64 (t357 - t358))).bind fun t359 => (some (decide (t359 < 1048576)))))) else (none)) = some r := H
              have A33 := Aside0.mk A330
              clear A330
              by_cases c34 : (t355 == t318 && (t356 == t319)) = true
              · rw [if_pos c34] at H
                have c34b0 : (t355 == t318 && (t356 == t319)) = true := c34
                (try (have c34b1 : decide (t355 = t318 && (t356 == t319)) = true := by simpa using c34))
                (try (have c34b2 : (t355 == t318 && (t356 == t319)) = true := by simpa using c34))
                clear c34
                replace H := Option.bind_eq_some_iff.mp H
                obtain ⟨t357, A350, H⟩ := H
                replace H : ((vec_Len.f k t318 t319).bind fun t358 => ((fix_Abs.f (wrap64 (t357 - t358))).bind fun t359 => (some (decide (t359 < 1048576))))) = some r := H
                have A35 := Aside0.mk A350
                clear A350
                replace H := Option.bind_eq_some_iff.mp H
                obtain ⟨t358, A360, H⟩ := H
                replace H : ((fix_Abs.f (wrap64 (t357 - t358))).bind fun t359 => (some (decide (t359 < 1048576)))) = some r := H
                have A36 := Aside0.mk A360
                clear A360
                replace H := Option.bind_eq_some_iff.mp H
                obtain ⟨t359, A370, H⟩ := H
                replace H : (some (decide (t359 < 1048576))) = some r := H
                have A37 := Aside0.mk A370
                clear A370
                obtain rfl := Option.some.inj H
                go_enter Try.func7, Try.ntmps7
                try go_wp2_with (first | ((with_reducible refine gate_dst (N := 2) rfl ?_); refine box_event ?hg (N := 2) ?hd (cs := #[.int .i64 a0_0, .int .i64 a0_1]) (t := 24) ?hr ?_; (case hd => rfl); (case hg => rfl); (case hr => first | (go_simp; done) | (go_simp; rfl)); intro gb316 hg w38 hbox hb; have n0_ := Aside0.mk (below_step (by repeat (first | (with_reducible first | exact HB.out | apply below_alloc | apply pw_below_drewN | apply below_drew1) | exact HB.out)) hb); have n1_ := Aside0.mk (hbox); have n2_ := Aside0.mk ((by rw [hg]; exact (below_size (by repeat (first | (with_reducible first | exact HB.out | apply below_alloc | apply pw_below_drewN | apply below_drew1) | exact HB.out))) : w.heap.size ≤ gb316)); have n3_ := Aside0.mk ((by rw [hg]; exact (below_size (by repeat (first | (with_reducible first | exact HB.out | apply below_alloc | apply pw_below_drewN | apply below_drew1) | exact HB.out))) : w.heap.size ≤ gb316)); clear HB; have HB := n0_; have BK316 := n1_; have GW316 := n2_; have GE316 := n3_; clear n0_ n1_ n2_ n3_; clear hb hbox hg) | ((with_reducible refine gate_callee (f := 9) rfl ?_); refine goesL_ (some 10) rfl rfl Try.func9 (by kernel_rfl) rfl #[] rfl (by (try simp only [List.map_toArray, List.map_cons, List.map_nil]); first | done | rfl | (simp only [List.length_drop, List.length_take]; rfl)) ?_; (with_reducible refine (bagatellelaw03_fit.calls k  true _ A3.out).mono ?_); rintro e w39 ⟨rfl, hb⟩; refine ⟨_, rfl, ?_⟩; have n0_ := Aside0.mk (blk_below (g := gb316) (o := .cells #[.int .i64 a0_0, .int .i64 a0_1] 24 (0, 0)) (by (with_reducible repeat (first | refine blk_drewN ?_ _ | refine blk_drew ?_ | refine blk_alloc ?_ _)); exact BK316.out) hb); have n1_ := Aside0.mk (below_step (by repeat (first | (with_reducible first | exact HB.out | apply below_alloc | apply pw_below_drewN | apply below_drew1 | refine below_set ?_ GE316.out) | exact HB.out)) hb); clear BK316; clear HB; have BK316 := n0_; have HB := n1_; clear n0_ n1_; (try clear hb); (try clear hb2); (try clear hk); (try clear hi); have hcz40_0 : w39.cell? ⟨gb316, 0, none⟩ = some (.int .i64 a0_0) := (blk_cell BK316.out 0).trans rfl; have hcz40_1 : w39.cell? ⟨gb316, 1, none⟩ = some (.int .i64 a0_1) := (blk_cell BK316.out 1).trans rfl; have hfz40_0 := blk_frozen BK316.out 0; have hfz40_1 := blk_frozen BK316.out 1) | ((with_reducible refine gate_callee (f := 17) rfl ?_); refine goesL_ (some 13) rfl rfl Try.func17 (by kernel_rfl) rfl #[.agg #[.int .i64 a0_0, .int .i64 a0_1], .int .i64 4294967296000] rfl (by (try simp only [List.map_toArray, List.map_cons, List.map_nil]); first | done | rfl | (simp only [List.length_drop, List.length_take]; rfl)) ?_; (with_reducible refine (vec_Bring.calls a0_0 a0_1 4294967296000 t318 t319 _ A5.out).mono ?_); rintro e w41 ⟨rfl, hb⟩; refine ⟨_, rfl, ?_⟩; have n0_ := Aside0.mk (blk_below (g := gb316) (o := .cells #[.int .i64 a0_0, .int .i64 a0_1] 24 (0, 0)) (by (with_reducible repeat (first | refine blk_drewN ?_ _ | refine blk_drew ?_ | refine blk_alloc ?_ _)); exact BK316.out) hb); have n1_ := Aside0.mk (below_step (by repeat (first | (with_reducible first | exact HB.out | apply below_alloc | apply pw_below_drewN | apply below_drew1 | refine below_set ?_ GE316.out) | exact HB.out)) hb); clear BK316; clear HB; have BK316 := n0_; have HB := n1_; clear n0_ n1_; (try clear hb); (try clear hb2); (try clear hk); (try clear hi); have hcz42_0 : w41.cell? ⟨gb316, 0, none⟩ = some (.int .i64 a0_0) := (blk_cell BK316.out 0).trans rfl; have hcz42_1 : w41.cell? ⟨gb316, 1, none⟩ = some (.int .i64 a0_1) := (blk_cell BK316.out 1).trans rfl; have hfz42_0 := blk_frozen BK316.out 0; have hfz42_1 := blk_frozen BK316.out 1) | ((with_reducible refine gate_callee (f := 29) rfl ?_); refine goesL_ (some 15) rfl rfl Try.func29 (by kernel_rfl) rfl #[.int .i64 a1] rfl (by (try simp only [List.map_toArray, List.map_cons, List.map_nil]); first | done | rfl | (simp only [List.length_drop, List.length_take]; rfl)) ?_; (with_reducible refine (turn_Of.calls k a1 t320 t321 _ A6.out).mono ?_); rintro e w43 ⟨rfl, hb⟩; refine ⟨_, rfl, ?_⟩; have n0_ := Aside0.mk (blk_below (g := gb316) (o := .cells #[.int .i64 t318, .int .i64 t319] 24 (0, 0)) (by (with_reducible repeat (first | refine blk_drewN ?_ _ | refine blk_drew ?_ | refine blk_alloc ?_ _)); refine blk_put (cs := #[.int .i64 t318, .int .i64 a0_1]) ?_ 1 _ rfl; (with_reducible repeat (first | refine blk_drewN ?_ _ | refine blk_drew ?_ | refine blk_alloc ?_ _)); refine blk_put (cs := #[.int .i64 a0_0, .int .i64 a0_1]) ?_ 0 _ rfl; (with_reducible repeat (first | refine blk_drewN ?_ _ | refine blk_drew ?_ | refine blk_alloc ?_ _)); exact BK316.out) hb); have n1_ := Aside0.mk (below_step (by repeat (first | (with_reducible first | exact HB.out | apply below_alloc | apply pw_below_drewN | apply below_drew1 | refine below_set ?_ GE316.out) | exact HB.out)) hb); clear BK316; clear HB; have BK316 := n0_; have HB := n1_; clear n0_ n1_; (try clear hb); (try clear hb2); (try clear hk); (try clear hi)) | ((with_reducible refine gate_dst (N := 5) rfl ?_); refine box_event ?hg (N := 5) ?hd (cs := #[.int .i64 0, .int .i64 0]) (t := 42) ?hr ?_; (case hd => rfl); (case hg => rfl); (case hr => first | (go_simp; done) | (go_simp; rfl)); intro gb322 hg w44 hbox hb; have n0_ := Aside0.mk (blk_below (g := gb316) (o := .cells #[.int .i64 t318, .int .i64 t319] 24 (0, 0)) (by (with_reducible repeat (first | refine blk_drewN ?_ _ | refine blk_drew ?_ | refine blk_alloc ?_ _)); exact BK316.out) hb); have n1_ := Aside0.mk (below_step (by repeat (first | (with_reducible first | exact HB.out | apply below_alloc | apply pw_below_drewN | apply below_drew1 | refine below_set ?_ GE316.out) | exact HB.out)) hb); have n2_ := Aside0.mk (hbox); have n3_ := Aside0.mk ((by rw [hg]; exact (below_size (by repeat (first | (with_reducible first | exact HB.out | apply below_alloc | apply pw_below_drewN | apply below_drew1 | refine below_set ?_ GE316.out) | exact HB.out))) : w.heap.size ≤ gb322)); have n4_ := Aside0.mk ((by rw [hg]; exact (below_size (by repeat (first | (with_reducible first | exact HB.out | apply below_alloc | apply pw_below_drewN | apply below_drew1 | refine below_set ?_ GE316.out) | exact HB.out))) : w.heap.size ≤ gb322)); have n5_ := Aside0.mk ((by rw [hg]; exact Nat.ne_of_lt (blk_lt (g := gb316) (o := .cells #[.int .i64 t318, .int .i64 t319] 24 (0, 0)) (by (with_reducible repeat (first | refine blk_drewN ?_ _ | refine blk_drew ?_ | refine blk_alloc ?_ _)); exact BK316.out)) : gb316 ≠ gb322)); have n6_ := Aside0.mk ((by rw [hg]; exact Nat.ne_of_gt (blk_lt (g := gb316) (o := .cells #[.int .i64 t318, .int .i64 t319] 24 (0, 0)) (by (with_reducible repeat (first | refine blk_drewN ?_ _ | refine blk_drew ?_ | refine blk_alloc ?_ _)); exact BK316.out)) : gb322 ≠ gb316)); clear BK316; clear HB; have BK316 := n0_; have HB := n1_; have BK322 := n2_; have GW322 := n3_; have GE322 := n4_; have NB316_322 := n5_; have NB322_316 := n6_; clear n0_ n1_ n2_ n3_ n4_ n5_ n6_; clear hb hbox hg; have hnb45 := NB322_316.out; have hnc45 := NB316_322.out; have hcz46_0 : w44.cell? ⟨gb322, 0, none⟩ = some (.int .i64 0) := (blk_cell BK322.out 0).trans rfl; have hcz46_1 : w44.cell? ⟨gb322, 1, none⟩ = some (.int .i64 0) := (blk_cell BK322.out 1).trans rfl; have hfz46_0 := blk_frozen BK322.out 0; have hfz46_1 := blk_frozen BK322.out 1; have hcz47_0 : w44.cell? ⟨gb316, 0, none⟩ = some (.int .i64 t318) := (blk_cell BK316.out 0).trans rfl; have hcz47_1 : w44.cell? ⟨gb316, 1, none⟩ = some (.int .i64 t319) := (blk_cell BK316.out 1).trans rfl; have hfz47_0 := blk_frozen BK316.out 0; have hfz47_1 := blk_frozen BK316.out 1) | ((with_reducible refine gate_callee (f := 30) rfl ?_); refine goesL_ (some 18) rfl rfl Try.func30 (by kernel_rfl) rfl #[.agg #[.int .i64 t320, .int .i64 t321], .agg #[.int .i64 t318, .int .i64 t319]] rfl (by (try simp only [List.map_toArray, List.map_cons, List.map_nil]); first | done | rfl | (simp only [List.length_drop, List.length_take]; rfl)) ?_; (with_reducible refine (vec_Apply.calls k t320 t321 t318 t319 t323 t324 _ A7.out).mono ?_); rintro e w48 ⟨rfl, hb⟩; refine ⟨_, rfl, ?_⟩; have n0_ := Aside0.mk (blk_below (g := gb316) (o := .cells #[.int .i64 t318, .int .i64 t319] 24 (0, 0)) (by (with_reducible repeat (first | refine blk_drewN ?_ _ | refine blk_drew ?_ | refine blk_alloc ?_ _)); refine blk_far ?_ NB316_322.out _; (with_reducible repeat (first | refine blk_drewN ?_ _ | refine blk_drew ?_ | refine blk_alloc ?_ _)); refine blk_far ?_ NB316_322.out _; (with_reducible repeat (first | refine blk_drewN ?_ _ | refine blk_drew ?_ | refine blk_alloc ?_ _)); exact BK316.out) hb); have n1_ := Aside0.mk (blk_below (g := gb322) (o := .cells #[.int .i64 t320, .int .i64 t321] 42 (0, 0)) (by (with_reducible repeat (first | refine blk_drewN ?_ _ | refine blk_drew ?_ | refine blk_alloc ?_ _)); refine blk_put (cs := #[.int .i64 t320, .int .i64 0]) ?_ 1 _ rfl; (with_reducible repeat (first | refine blk_drewN ?_ _ | refine blk_drew ?_ | refine blk_alloc ?_ _)); refine blk_put (cs := #[.int .i64 0, .int .i64 0]) ?_ 0 _ rfl; (with_reducible repeat (first | refine blk_drewN ?_ _ | refine blk_drew ?_ | refine blk_alloc ?_ _)); exact BK322.out) hb); have n2_ := Aside0.mk (below_step (by repeat (first | (with_reducible first | exact HB.out | apply below_alloc | apply pw_below_drewN | apply below_drew1 | refine below_set ?_ GE316.out | refine below_set ?_ GE322.out) | exact HB.out)) hb); clear BK316; clear BK322; clear HB; have BK316 := n0_; have BK322 := n1_; have HB := n2_; clear n0_ n1_ n2_; (try clear hb); (try clear hb2); (try clear hk); (try clear hi)) | ((with_reducible refine gate_dst (N := 6) rfl ?_); refine box_event ?hg (N := 6) ?hd (cs := #[.int .i64 0, .int .i64 0]) (t := 24) ?hr ?_; (case hd => rfl); (case hg => rfl); (case hr => first | (go_simp; done) | (go_simp; rfl)); intro gb325 hg w49 hbox hb; have n0_ := Aside0.mk (blk_below (g := gb316) (o := .cells #[.int .i64 t318, .int .i64 t319] 24 (0, 0)) (by (with_reducible repeat (first | refine blk_drewN ?_ _ | refine blk_drew ?_ | refine blk_alloc ?_ _)); exact BK316.out) hb); have n1_ := Aside0.mk (blk_below (g := gb322) (o := .cells #[.int .i64 t320, .int .i64 t321] 42 (0, 0)) (by (with_reducible repeat (first | refine blk_drewN ?_ _ | refine blk_drew ?_ | refine blk_alloc ?_ _)); exact BK322.out) hb); have n2_ := Aside0.mk (below_step (by repeat (first | (with_reducible first | exact HB.out | apply below_alloc | apply pw_below_drewN | apply below_drew1 | refine below_set ?_ GE316.out | refine below_set ?_ GE322.out) | exact HB.out)) hb); have n3_ := Aside0.mk (hbox); have n4_ := Aside0.mk ((by rw [hg]; exact (below_size (by repeat (first | (with_reducible first | exact HB.out | apply below_alloc | apply pw_below_drewN | apply below_drew1 | refine below_set ?_ GE316.out | refine below_set ?_ GE322.out) | exact HB.out))) : w.heap.size ≤ gb325)); have n5_ := Aside0.mk ((by rw [hg]; exact (below_size (by repeat (first | (with_reducible first | exact HB.out | apply below_alloc | apply pw_below_drewN | apply below_drew1 | refine below_set ?_ GE316.out | refine below_set ?_ GE322.out) | exact HB.out))) : w.heap.size ≤ gb325)); have n6_ := Aside0.mk ((by rw [hg]; exact Nat.ne_of_lt (blk_lt (g := gb316) (o := .cells #[.int .i64 t318, .int .i64 t319] 24 (0, 0)) (by (with_reducible repeat (first | refine blk_drewN ?_ _ | refine blk_drew ?_ | refine blk_alloc ?_ _)); exact BK316.out)) : gb316 ≠ gb325)); have n7_ := Aside0.mk ((by rw [hg]; exact Nat.ne_of_gt (blk_lt (g := gb316) (o := .cells #[.int .i64 t318, .int .i64 t319] 24 (0, 0)) (by (with_reducible repeat (first | refine blk_drewN ?_ _ | refine blk_drew ?_ | refine blk_alloc ?_ _)); exact BK316.out)) : gb325 ≠ gb316)); have n8_ := Aside0.mk ((by rw [hg]; exact Nat.ne_of_lt (blk_lt (g := gb322) (o := .cells #[.int .i64 t320, .int .i64 t321] 42 (0, 0)) (by (with_reducible repeat (first | refine blk_drewN ?_ _ | refine blk_drew ?_ | refine blk_alloc ?_ _)); exact BK322.out)) : gb322 ≠ gb325)); have n9_ := Aside0.mk ((by rw [hg]; exact Nat.ne_of_gt (blk_lt (g := gb322) (o := .cells #[.int .i64 t320, .int .i64 t321] 42 (0, 0)) (by (with_reducible repeat (first | refine blk_drewN ?_ _ | refine blk_drew ?_ | refine blk_alloc ?_ _)); exact BK322.out)) : gb325 ≠ gb322)); clear BK316; clear BK322; clear HB; have BK316 := n0_; have BK322 := n1_; have HB := n2_; have BK325 := n3_; have GW325 := n4_; have GE325 := n5_; have NB316_325 := n6_; have NB325_316 := n7_; have NB322_325 := n8_; have NB325_322 := n9_; clear n0_ n1_ n2_ n3_ n4_ n5_ n6_ n7_ n8_ n9_; clear hb hbox hg; have hnb50 := NB325_316.out; have hnc50 := NB316_325.out; have hnb51 := NB325_322.out; have hnc51 := NB322_325.out; have hcz52_0 : w49.cell? ⟨gb325, 0, none⟩ = some (.int .i64 0) := (blk_cell BK325.out 0).trans rfl; have hcz52_1 : w49.cell? ⟨gb325, 1, none⟩ = some (.int .i64 0) := (blk_cell BK325.out 1).trans rfl; have hfz52_0 := blk_frozen BK325.out 0; have hfz52_1 := blk_frozen BK325.out 1))
                have n0_ : Aside0 (((w49.setCell ⟨gb325, 0, none⟩ (.int .i64 t323)).setCell ⟨gb325, 1, none⟩ (.int .i64 t324)).heap[gb316]? = some (.cells #[.int .i64 t318, .int .i64 t319] 24 (0, 0))) := ⟨by (with_reducible repeat (first | refine blk_drewN ?_ _ | refine blk_drew ?_ | refine blk_alloc ?_ _)); refine blk_far ?_ NB316_325.out _; (with_reducible repeat (first | refine blk_drewN ?_ _ | refine blk_drew ?_ | refine blk_alloc ?_ _)); refine blk_far ?_ NB316_325.out _; (with_reducible repeat (first | refine blk_drewN ?_ _ | refine blk_drew ?_ | refine blk_alloc ?_ _)); exact BK316.out⟩
                have n1_ : Aside0 (((w49.setCell ⟨gb325, 0, none⟩ (.int .i64 t323)).setCell ⟨gb325, 1, none⟩ (.int .i64 t324)).heap[gb322]? = some (.cells #[.int .i64 t320, .int .i64 t321] 42 (0, 0))) := ⟨by (with_reducible repeat (first | refine blk_drewN ?_ _ | refine blk_drew ?_ | refine blk_alloc ?_ _)); refine blk_far ?_ NB322_325.out _; (with_reducible repeat (first | refine blk_drewN ?_ _ | refine blk_drew ?_ | refine blk_alloc ?_ _)); refine blk_far ?_ NB322_325.out _; (with_reducible repeat (first | refine blk_drewN ?_ _ | refine blk_drew ?_ | refine blk_alloc ?_ _)); exact BK322.out⟩
                have n2_ : Aside0 (((w49.setCell ⟨gb325, 0, none⟩ (.int .i64 t323)).setCell ⟨gb325, 1, none⟩ (.int .i64 t324)).heap[gb325]? = some (.cells #[.int .i64 t323, .int .i64 t324] 24 (0, 0))) := ⟨by (with_reducible repeat (first | refine blk_drewN ?_ _ | refine blk_drew ?_ | refine blk_alloc ?_ _)); refine blk_put (cs := #[.int .i64 t323, .int .i64 0]) ?_ 1 _ rfl; (with_reducible repeat (first | refine blk_drewN ?_ _ | refine blk_drew ?_ | refine blk_alloc ?_ _)); refine blk_put (cs := #[.int .i64 0, .int .i64 0]) ?_ 0 _ rfl; (with_reducible repeat (first | refine blk_drewN ?_ _ | refine blk_drew ?_ | refine blk_alloc ?_ _)); exact BK325.out⟩
                have n3_ : Aside0 (Below w.heap.size w ((w49.setCell ⟨gb325, 0, none⟩ (.int .i64 t323)).setCell ⟨gb325, 1, none⟩ (.int .i64 t324))) := ⟨by repeat (first | (with_reducible first | exact HB.out | apply below_alloc | apply pw_below_drewN | apply below_drew1 | refine below_set ?_ GE316.out | refine below_set ?_ GE322.out | refine below_set ?_ GE325.out) | exact HB.out)⟩
                (try clear BK316)
                (try clear BK322)
                (try clear BK325)
                (try clear HB)
                generalize ((w49.setCell ⟨gb325, 0, none⟩ (.int .i64 t323)).setCell ⟨gb325, 1, none⟩ (.int .i64 t324)) = w53 at n0_ n1_ n2_ n3_ ⊢
                have BK316 := n0_
                have BK322 := n1_
                have BK325 := n2_
                have HB := n3_
                clear n0_ n1_ n2_ n3_
                have n0_ := Aside0.mk (blk_drew BK316.out)
                have n1_ := Aside0.mk (blk_drew BK322.out)
                have n2_ := Aside0.mk (blk_drew BK325.out)
                have n3_ := Aside0.mk (below_drew1 HB.out)
                clear BK316
                clear BK322
                clear BK325
                clear HB
                have BK316 := n0_
                have BK322 := n1_
                have BK325 := n2_
                have HB := n3_
                clear n0_ n1_ n2_ n3_
                refine start_ (n := 25) (S := fun w' => w'.cell? ⟨gb325, 0, none⟩ = some (.int .i64 t323) ∧ w'.cell? ⟨gb325, 1, none⟩ = some (.int .i64 t324) ∧ w'.cell? ⟨gb322, 0, none⟩ = some (.int .i64 t320) ∧ w'.cell? ⟨gb322, 1, none⟩ = some (.int .i64 t321) ∧ w'.cell? ⟨gb316, 0, none⟩ = some (.int .i64 t318) ∧ w'.cell? ⟨gb316, 1, none⟩ = some (.int .i64 t319)) (ds := []) #[false, false, false, false, false, false, false, false, false, false, false, false, false, false, false, false, false, false, false, false, false, false, false, false, false] (by kernel_rfl) rfl rfl ⟨(blk_cell BK325.out 0).trans rfl, (blk_cell BK325.out 1).trans rfl, (blk_cell BK322.out 0).trans rfl, (blk_cell BK322.out 1).trans rfl, (blk_cell BK316.out 0).trans rfl, (blk_cell BK316.out 1).trans rfl⟩ (fun hHeld => ?_); refine with_tabW bagatellelaw03_VecTurns.tab6 bagatellelaw03_VecTurns.bits6 (fun HT_ HW_ => ?_)
                generalize w53.drew = w54 at BK316 BK322 BK325 HB hHeld ⊢
                refine pure_ (i := 1) (N := some 20) (v := ?_) (a' := ?_) #[false, true, false, false, false, false, false, false, false, false, false, false, false, false, false, false, false, false, false, false, false, false, false, false, false] rfl rfl (any_of HT_.out (by kernel_rfl)) (fun _ _ _ h => h) (Or.inl ⟨by rfl, ?_⟩) ?_ ?_
                rotate_left
                · intro w'
                  go_simp
                  with_reducible rfl
                rotate_left
                · simp only [Act.put, List.setIfInBounds_toArray, List.set_cons_zero, List.set_cons_succ, i64_w, i32_w]
                  rfl
                refine pure_ (i := 3) (N := some 22) (v := ?_) (a' := ?_) #[false, true, false, true, false, false, false, false, false, false, false, false, false, false, false, false, false, false, false, false, false, false, false, false, false] rfl rfl (any_of HT_.out (by kernel_rfl)) (fun _ _ _ h => h) (Or.inl ⟨by rfl, ?_⟩) ?_ ?_
                rotate_left
                · intro w'
                  go_simp
                  with_reducible rfl
                rotate_left
                · simp only [Act.put, List.setIfInBounds_toArray, List.set_cons_zero, List.set_cons_succ, i64_w, i32_w]
                  rfl
                refine pure_ (i := 6) (N := some 25) (v := ?_) (a' := ?_) #[false, true, false, true, false, false, true, false, false, false, false, false, false, false, false, false, false, false, false, false, false, false, false, false, false] rfl rfl (any_of HT_.out (by kernel_rfl)) (fun _ _ _ h => h) (Or.inl ⟨by rfl, ?_⟩) ?_ ?_
                rotate_left
                · intro w'
                  go_simp
                  with_reducible rfl
                rotate_left
                · simp only [Act.put, List.setIfInBounds_toArray, List.set_cons_zero, List.set_cons_succ, i64_w, i32_w]
                  rfl
                refine pure_ (i := 8) (N := some 27) (v := ?_) (a' := ?_) #[false, true, false, true, false, false, true, false, true, false, false, false, false, false, false, false, false, false, false, false, false, false, false, false, false] rfl rfl (any_of HT_.out (by kernel_rfl)) (fun _ _ _ h => h) (Or.inl ⟨by rfl, ?_⟩) ?_ ?_
                rotate_left
                · intro w'
                  go_simp
                  with_reducible rfl
                rotate_left
                · simp only [Act.put, List.setIfInBounds_toArray, List.set_cons_zero, List.set_cons_succ, i64_w, i32_w]
                  rfl
                refine pure_ (i := 12) (N := some 31) (v := ?_) (a' := ?_) #[false, true, false, true, false, false, true, false, true, false, false, false, true, false, false, false, false, false, false, false, false, false, false, false, false] rfl rfl (any_of HT_.out (by kernel_rfl)) (fun _ _ _ h => h) (Or.inl ⟨by rfl, ?_⟩) ?_ ?_
                rotate_left
                · intro w'
                  go_simp
                  with_reducible rfl
                rotate_left
                · simp only [Act.put, List.setIfInBounds_toArray, List.set_cons_zero, List.set_cons_succ, i64_w, i32_w]
                  rfl
                refine pure_ (i := 14) (N := some 33) (v := ?_) (a' := ?_) #[false, true, false, true, false, false, true, false, true, false, false, false, true, false, true, false, false, false, false, false, false, false, false, false, false] rfl rfl (any_of HT_.out (by kernel_rfl)) (fun _ _ _ h => h) (Or.inl ⟨by rfl, ?_⟩) ?_ ?_
                rotate_left
                · intro w'
                  go_simp
                  with_reducible rfl
                rotate_left
                · simp only [Act.put, List.setIfInBounds_toArray, List.set_cons_zero, List.set_cons_succ, i64_w, i32_w]
                  rfl
                refine pure_ (i := 17) (N := some 36) (v := ?_) (a' := ?_) #[false, true, false, true, false, false, true, false, true, false, false, false, true, false, true, false, false, true, false, false, false, false, false, false, false] rfl rfl (any_of HT_.out (by kernel_rfl)) (fun _ _ _ h => h) (Or.inl ⟨by rfl, ?_⟩) ?_ ?_
                rotate_left
                · intro w'
                  go_simp
                  with_reducible rfl
                rotate_left
                · simp only [Act.put, List.setIfInBounds_toArray, List.set_cons_zero, List.set_cons_succ, i64_w, i32_w]
                  rfl
                refine pure_ (i := 19) (N := some 38) (v := ?_) (a' := ?_) #[false, true, false, true, false, false, true, false, true, false, false, false, true, false, true, false, false, true, false, true, false, false, false, false, false] rfl rfl (any_of HT_.out (by kernel_rfl)) (fun _ _ _ h => h) (Or.inl ⟨by rfl, ?_⟩) ?_ ?_
                rotate_left
                · intro w'
                  go_simp
                  with_reducible rfl
                rotate_left
                · simp only [Act.put, List.setIfInBounds_toArray, List.set_cons_zero, List.set_cons_succ, i64_w, i32_w]
                  rfl
                refine take_ (i := 0) (N := some 19) (v := ?_) (a' := ?_) #[true, true, false, true, false, false, true, false, true, false, false, false, true, false, true, false, false, true, false, true, false, false, false, false, false] rfl rfl (take_ofW HT_.out HW_.out (by kernel_rfl)) (fun _ _ _ h => h) (Or.inl ⟨by rfl, ?_⟩) hHeld ?_ ?_
                rotate_left
                · rintro w' ⟨s0, s1, s2, s3, s4, s5⟩
                  go_simp
                  with_reducible rfl
                rotate_left
                · simp only [Act.put, List.setIfInBounds_toArray, List.set_cons_zero, List.set_cons_succ, i64_w, i32_w]
                  rfl
                refine take_ (i := 2) (N := some 21) (v := ?_) (a' := ?_) #[true, true, true, true, false, false, true, false, true, false, false, false, true, false, true, false, false, true, false, true, false, false, false, false, false] rfl rfl (take_ofW HT_.out HW_.out (by kernel_rfl)) (fun _ _ _ h => h) (Or.inl ⟨by rfl, ?_⟩) hHeld ?_ ?_
                rotate_left
                · rintro w' ⟨s0, s1, s2, s3, s4, s5⟩
                  go_simp
                  with_reducible rfl
                rotate_left
                · simp only [Act.put, List.setIfInBounds_toArray, List.set_cons_zero, List.set_cons_succ, i64_w, i32_w]
                  rfl
                refine take_ (i := 4) (N := some 23) (v := ?_) (a' := ?_) #[true, true, true, true, true, false, true, false, true, false, false, false, true, false, true, false, false, true, false, true, false, false, false, false, false] rfl rfl (take_ofW HT_.out HW_.out (by kernel_rfl)) (fun _ _ _ h => h) (Or.inl ⟨by rfl, ?_⟩) hHeld ?_ ?_
                rotate_left
                · rintro w' ⟨s0, s1, s2, s3, s4, s5⟩
                  go_simp
                  with_reducible rfl
                rotate_left
                · simp only [Act.put, List.setIfInBounds_toArray, List.set_cons_zero, List.set_cons_succ, i64_w, i32_w]
                  rfl
                refine take_ (i := 7) (N := some 26) (v := ?_) (a' := ?_) #[true, true, true, true, true, false, true, true, true, false, false, false, true, false, true, false, false, true, false, true, false, false, false, false, false] rfl rfl (take_ofW HT_.out HW_.out (by kernel_rfl)) (fun _ _ _ h => h) (Or.inl ⟨by rfl, ?_⟩) hHeld ?_ ?_
                rotate_left
                · rintro w' ⟨s0, s1, s2, s3, s4, s5⟩
                  go_simp
                  with_reducible rfl
                rotate_left
                · simp only [Act.put, List.setIfInBounds_toArray, List.set_cons_zero, List.set_cons_succ, i64_w, i32_w]
                  rfl
                refine take_ (i := 9) (N := some 28) (v := ?_) (a' := ?_) #[true, true, true, true, true, false, true, true, true, true, false, false, true, false, true, false, false, true, false, true, false, false, false, false, false] rfl rfl (take_ofW HT_.out HW_.out (by kernel_rfl)) (fun _ _ _ h => h) (Or.inl ⟨by rfl, ?_⟩) hHeld ?_ ?_
                rotate_left
                · rintro w' ⟨s0, s1, s2, s3, s4, s5⟩
                  go_simp
                  with_reducible rfl
                rotate_left
                · simp only [Act.put, List.setIfInBounds_toArray, List.set_cons_zero, List.set_cons_succ, i64_w, i32_w]
                  rfl
                refine take_ (i := 13) (N := some 32) (v := ?_) (a' := ?_) #[true, true, true, true, true, false, true, true, true, true, false, false, true, true, true, false, false, true, false, true, false, false, false, false, false] rfl rfl (take_ofW HT_.out HW_.out (by kernel_rfl)) (fun _ _ _ h => h) (Or.inl ⟨by rfl, ?_⟩) hHeld ?_ ?_
                rotate_left
                · rintro w' ⟨s0, s1, s2, s3, s4, s5⟩
                  go_simp
                  with_reducible rfl
                rotate_left
                · simp only [Act.put, List.setIfInBounds_toArray, List.set_cons_zero, List.set_cons_succ, i64_w, i32_w]
                  rfl
                refine take_ (i := 15) (N := some 34) (v := ?_) (a' := ?_) #[true, true, true, true, true, false, true, true, true, true, false, false, true, true, true, true, false, true, false, true, false, false, false, false, false] rfl rfl (take_ofW HT_.out HW_.out (by kernel_rfl)) (fun _ _ _ h => h) (Or.inl ⟨by rfl, ?_⟩) hHeld ?_ ?_
                rotate_left
                · rintro w' ⟨s0, s1, s2, s3, s4, s5⟩
                  go_simp
                  with_reducible rfl
                rotate_left
                · simp only [Act.put, List.setIfInBounds_toArray, List.set_cons_zero, List.set_cons_succ, i64_w, i32_w]
                  rfl
                refine take_ (i := 18) (N := some 37) (v := ?_) (a' := ?_) #[true, true, true, true, true, false, true, true, true, true, false, false, true, true, true, true, false, true, true, true, false, false, false, false, false] rfl rfl (take_ofW HT_.out HW_.out (by kernel_rfl)) (fun _ _ _ h => h) (Or.inl ⟨by rfl, ?_⟩) hHeld ?_ ?_
                rotate_left
                · rintro w' ⟨s0, s1, s2, s3, s4, s5⟩
                  go_simp
                  with_reducible rfl
                rotate_left
                · simp only [Act.put, List.setIfInBounds_toArray, List.set_cons_zero, List.set_cons_succ, i64_w, i32_w]
                  rfl
                refine take_ (i := 20) (N := some 39) (v := ?_) (a' := ?_) #[true, true, true, true, true, false, true, true, true, true, false, false, true, true, true, true, false, true, true, true, true, false, false, false, false] rfl rfl (take_ofW HT_.out HW_.out (by kernel_rfl)) (fun _ _ _ h => h) (Or.inl ⟨by rfl, ?_⟩) hHeld ?_ ?_
                rotate_left
                · rintro w' ⟨s0, s1, s2, s3, s4, s5⟩
                  go_simp
                  with_reducible rfl
                rotate_left
                · simp only [Act.put, List.setIfInBounds_toArray, List.set_cons_zero, List.set_cons_succ, i64_w, i32_w]
                  rfl
                refine one_ (i := 5) (N := some 24) #[true, true, true, true, true, true, true, true, true, true, false, false, true, true, true, true, false, true, true, true, true, false, false, false, false] rfl rfl (one_of HT_.out (by kernel_rfl)) (by decide) (fun K hK => ?_)
                refine goes_ Try.func25 (by kernel_rfl) rfl #[.int .i64 t320, .int .i64 t318] (by rfl) rfl rfl (by (try simp only [List.map_toArray, List.map_cons, List.map_nil]); first | done | rfl | (simp only [List.length_drop, List.length_take]; rfl)) ?_
                with_reducible refine (fix_Mul.calls k t320 t318 t326 _ A8.out).mono ?_
                rintro e w55 ⟨rfl, hb⟩
                refine ⟨_, rfl, ?_⟩
                have n0_ := Aside0.mk (blk_below (g := gb316) (o := .cells #[.int .i64 t318, .int .i64 t319] 24 (0, 0)) (by (with_reducible repeat (first | refine blk_drewN ?_ _ | refine blk_drew ?_ | refine blk_alloc ?_ _)); exact BK316.out) hb)
                have n1_ := Aside0.mk (blk_below (g := gb322) (o := .cells #[.int .i64 t320, .int .i64 t321] 42 (0, 0)) (by (with_reducible repeat (first | refine blk_drewN ?_ _ | refine blk_drew ?_ | refine blk_alloc ?_ _)); exact BK322.out) hb)
                have n2_ := Aside0.mk (blk_below (g := gb325) (o := .cells #[.int .i64 t323, .int .i64 t324] 24 (0, 0)) (by (with_reducible repeat (first | refine blk_drewN ?_ _ | refine blk_drew ?_ | refine blk_alloc ?_ _)); exact BK325.out) hb)
                have n3_ := Aside0.mk (below_step (by repeat (first | (with_reducible first | exact HB.out | apply below_alloc | apply pw_below_drewN | apply below_drew1 | refine below_set ?_ GE316.out | refine below_set ?_ GE322.out | refine below_set ?_ GE325.out) | exact HB.out)) hb)
                clear BK316
                clear BK322
                clear BK325
                clear HB
                have BK316 := n0_
                have BK322 := n1_
                have BK325 := n2_
                have HB := n3_
                clear n0_ n1_ n2_ n3_
                (try clear hb)
                (try clear hb2)
                (try clear hk)
                (try clear hi)
                refine hK.out _ _ ⟨(blk_cell BK325.out 0).trans rfl, (blk_cell BK325.out 1).trans rfl, (blk_cell BK322.out 0).trans rfl, (blk_cell BK322.out 1).trans rfl, (blk_cell BK316.out 0).trans rfl, (blk_cell BK316.out 1).trans rfl⟩ (fun hHeld => ?_)
                clear hK K
                refine norm_ (a' := ?_) ?_ ?_
                rotate_left
                · show Act.put _ (some 24) _ = _
                  simp only [Act.put, List.setIfInBounds_toArray, List.set_cons_zero, List.set_cons_succ, i64_w, i32_w]
                  rfl
                refine one_ (i := 10) (N := some 29) #[true, true, true, true, true, true, true, true, true, true, true, false, true, true, true, true, false, true, true, true, true, false, false, false, false] rfl rfl (one_of HT_.out (by kernel_rfl)) (by decide) (fun K hK => ?_)
                refine goes_ Try.func25 (by kernel_rfl) rfl #[.int .i64 t321, .int .i64 t319] (by rfl) rfl rfl (by (try simp only [List.map_toArray, List.map_cons, List.map_nil]); first | done | rfl | (simp only [List.length_drop, List.length_take]; rfl)) ?_
                with_reducible refine (fix_Mul.calls k t321 t319 t327 _ A9.out).mono ?_
                rintro e w56 ⟨rfl, hb⟩
                refine ⟨_, rfl, ?_⟩
                have n0_ := Aside0.mk (blk_below (g := gb316) (o := .cells #[.int .i64 t318, .int .i64 t319] 24 (0, 0)) (by (with_reducible repeat (first | refine blk_drewN ?_ _ | refine blk_drew ?_ | refine blk_alloc ?_ _)); exact BK316.out) hb)
                have n1_ := Aside0.mk (blk_below (g := gb322) (o := .cells #[.int .i64 t320, .int .i64 t321] 42 (0, 0)) (by (with_reducible repeat (first | refine blk_drewN ?_ _ | refine blk_drew ?_ | refine blk_alloc ?_ _)); exact BK322.out) hb)
                have n2_ := Aside0.mk (blk_below (g := gb325) (o := .cells #[.int .i64 t323, .int .i64 t324] 24 (0, 0)) (by (with_reducible repeat (first | refine blk_drewN ?_ _ | refine blk_drew ?_ | refine blk_alloc ?_ _)); exact BK325.out) hb)
                have n3_ := Aside0.mk (below_step (by repeat (first | (with_reducible first | exact HB.out | apply below_alloc | apply pw_below_drewN | apply below_drew1 | refine below_set ?_ GE316.out | refine below_set ?_ GE322.out | refine below_set ?_ GE325.out) | exact HB.out)) hb)
                clear BK316
                clear BK322
                clear BK325
                clear HB
                have BK316 := n0_
                have BK322 := n1_
                have BK325 := n2_
                have HB := n3_
                clear n0_ n1_ n2_ n3_
                (try clear hb)
                (try clear hb2)
                (try clear hk)
                (try clear hi)
                refine hK.out _ _ ⟨(blk_cell BK325.out 0).trans rfl, (blk_cell BK325.out 1).trans rfl, (blk_cell BK322.out 0).trans rfl, (blk_cell BK322.out 1).trans rfl, (blk_cell BK316.out 0).trans rfl, (blk_cell BK316.out 1).trans rfl⟩ (fun hHeld => ?_)
                clear hK K
                refine norm_ (a' := ?_) ?_ ?_
                rotate_left
                · show Act.put _ (some 29) _ = _
                  simp only [Act.put, List.setIfInBounds_toArray, List.set_cons_zero, List.set_cons_succ, i64_w, i32_w]
                  rfl
                refine one_ (i := 11) (N := some 30) #[true, true, true, true, true, true, true, true, true, true, true, true, true, true, true, true, false, true, true, true, true, false, false, false, false] rfl rfl (one_of HT_.out (by kernel_rfl)) (by decide) (fun K hK => ?_)
                refine goes_ Try.func23 (by kernel_rfl) rfl #[.int .i64 t326, .int .i64 t327] (by rfl) rfl rfl (by (try simp only [List.map_toArray, List.map_cons, List.map_nil]); first | done | rfl | (simp only [List.length_drop, List.length_take]; rfl)) ?_
                with_reducible refine (fix_Sub.calls k t326 t327 t328 _ A10.out).mono ?_
                rintro e w57 ⟨rfl, hb⟩
                refine ⟨_, rfl, ?_⟩
                have n0_ := Aside0.mk (blk_below (g := gb316) (o := .cells #[.int .i64 t318, .int .i64 t319] 24 (0, 0)) (by (with_reducible repeat (first | refine blk_drewN ?_ _ | refine blk_drew ?_ | refine blk_alloc ?_ _)); exact BK316.out) hb)
                have n1_ := Aside0.mk (blk_below (g := gb322) (o := .cells #[.int .i64 t320, .int .i64 t321] 42 (0, 0)) (by (with_reducible repeat (first | refine blk_drewN ?_ _ | refine blk_drew ?_ | refine blk_alloc ?_ _)); exact BK322.out) hb)
                have n2_ := Aside0.mk (blk_below (g := gb325) (o := .cells #[.int .i64 t323, .int .i64 t324] 24 (0, 0)) (by (with_reducible repeat (first | refine blk_drewN ?_ _ | refine blk_drew ?_ | refine blk_alloc ?_ _)); exact BK325.out) hb)
                have n3_ := Aside0.mk (below_step (by repeat (first | (with_reducible first | exact HB.out | apply below_alloc | apply pw_below_drewN | apply below_drew1 | refine below_set ?_ GE316.out | refine below_set ?_ GE322.out | refine below_set ?_ GE325.out) | exact HB.out)) hb)
                clear BK316
                clear BK322
                clear BK325
                clear HB
                have BK316 := n0_
                have BK322 := n1_
                have BK325 := n2_
                have HB := n3_
                clear n0_ n1_ n2_ n3_
                (try clear hb)
                (try clear hb2)
                (try clear hk)
                (try clear hi)
                refine hK.out _ _ ⟨(blk_cell BK325.out 0).trans rfl, (blk_cell BK325.out 1).trans rfl, (blk_cell BK322.out 0).trans rfl, (blk_cell BK322.out 1).trans rfl, (blk_cell BK316.out 0).trans rfl, (blk_cell BK316.out 1).trans rfl⟩ (fun hHeld => ?_)
                clear hK K
                refine norm_ (a' := ?_) ?_ ?_
                rotate_left
                · show Act.put _ (some 30) _ = _
                  simp only [Act.put, List.setIfInBounds_toArray, List.set_cons_zero, List.set_cons_succ, i64_w, i32_w]
                  rfl
                refine one_ (i := 16) (N := some 35) #[true, true, true, true, true, true, true, true, true, true, true, true, true, true, true, true, true, true, true, true, true, false, false, false, false] rfl rfl (one_of HT_.out (by kernel_rfl)) (by decide) (fun K hK => ?_)
                refine goes_ Try.func25 (by kernel_rfl) rfl #[.int .i64 t321, .int .i64 t318] (by rfl) rfl rfl (by (try simp only [List.map_toArray, List.map_cons, List.map_nil]); first | done | rfl | (simp only [List.length_drop, List.length_take]; rfl)) ?_
                with_reducible refine (fix_Mul.calls k t321 t318 t329 _ A11.out).mono ?_
                rintro e w58 ⟨rfl, hb⟩
                refine ⟨_, rfl, ?_⟩
                have n0_ := Aside0.mk (blk_below (g := gb316) (o := .cells #[.int .i64 t318, .int .i64 t319] 24 (0, 0)) (by (with_reducible repeat (first | refine blk_drewN ?_ _ | refine blk_drew ?_ | refine blk_alloc ?_ _)); exact BK316.out) hb)
                have n1_ := Aside0.mk (blk_below (g := gb322) (o := .cells #[.int .i64 t320, .int .i64 t321] 42 (0, 0)) (by (with_reducible repeat (first | refine blk_drewN ?_ _ | refine blk_drew ?_ | refine blk_alloc ?_ _)); exact BK322.out) hb)
                have n2_ := Aside0.mk (blk_below (g := gb325) (o := .cells #[.int .i64 t323, .int .i64 t324] 24 (0, 0)) (by (with_reducible repeat (first | refine blk_drewN ?_ _ | refine blk_drew ?_ | refine blk_alloc ?_ _)); exact BK325.out) hb)
                have n3_ := Aside0.mk (below_step (by repeat (first | (with_reducible first | exact HB.out | apply below_alloc | apply pw_below_drewN | apply below_drew1 | refine below_set ?_ GE316.out | refine below_set ?_ GE322.out | refine below_set ?_ GE325.out) | exact HB.out)) hb)
                clear BK316
                clear BK322
                clear BK325
                clear HB
                have BK316 := n0_
                have BK322 := n1_
                have BK325 := n2_
                have HB := n3_
                clear n0_ n1_ n2_ n3_
                (try clear hb)
                (try clear hb2)
                (try clear hk)
                (try clear hi)
                refine hK.out _ _ ⟨(blk_cell BK325.out 0).trans rfl, (blk_cell BK325.out 1).trans rfl, (blk_cell BK322.out 0).trans rfl, (blk_cell BK322.out 1).trans rfl, (blk_cell BK316.out 0).trans rfl, (blk_cell BK316.out 1).trans rfl⟩ (fun hHeld => ?_)
                clear hK K
                refine norm_ (a' := ?_) ?_ ?_
                rotate_left
                · show Act.put _ (some 35) _ = _
                  simp only [Act.put, List.setIfInBounds_toArray, List.set_cons_zero, List.set_cons_succ, i64_w, i32_w]
                  rfl
                refine one_ (i := 21) (N := some 40) #[true, true, true, true, true, true, true, true, true, true, true, true, true, true, true, true, true, true, true, true, true, true, false, false, false] rfl rfl (one_of HT_.out (by kernel_rfl)) (by decide) (fun K hK => ?_)
                refine goes_ Try.func25 (by kernel_rfl) rfl #[.int .i64 t320, .int .i64 t319] (by rfl) rfl rfl (by (try simp only [List.map_toArray, List.map_cons, List.map_nil]); first | done | rfl | (simp only [List.length_drop, List.length_take]; rfl)) ?_
                with_reducible refine (fix_Mul.calls k t320 t319 t330 _ A12.out).mono ?_
                rintro e w59 ⟨rfl, hb⟩
                refine ⟨_, rfl, ?_⟩
                have n0_ := Aside0.mk (blk_below (g := gb316) (o := .cells #[.int .i64 t318, .int .i64 t319] 24 (0, 0)) (by (with_reducible repeat (first | refine blk_drewN ?_ _ | refine blk_drew ?_ | refine blk_alloc ?_ _)); exact BK316.out) hb)
                have n1_ := Aside0.mk (blk_below (g := gb322) (o := .cells #[.int .i64 t320, .int .i64 t321] 42 (0, 0)) (by (with_reducible repeat (first | refine blk_drewN ?_ _ | refine blk_drew ?_ | refine blk_alloc ?_ _)); exact BK322.out) hb)
                have n2_ := Aside0.mk (blk_below (g := gb325) (o := .cells #[.int .i64 t323, .int .i64 t324] 24 (0, 0)) (by (with_reducible repeat (first | refine blk_drewN ?_ _ | refine blk_drew ?_ | refine blk_alloc ?_ _)); exact BK325.out) hb)
                have n3_ := Aside0.mk (below_step (by repeat (first | (with_reducible first | exact HB.out | apply below_alloc | apply pw_below_drewN | apply below_drew1 | refine below_set ?_ GE316.out | refine below_set ?_ GE322.out | refine below_set ?_ GE325.out) | exact HB.out)) hb)
                clear BK316
                clear BK322
                clear BK325
                clear HB
                have BK316 := n0_
                have BK322 := n1_
                have BK325 := n2_
                have HB := n3_
                clear n0_ n1_ n2_ n3_
                (try clear hb)
                (try clear hb2)
                (try clear hk)
                (try clear hi)
                refine hK.out _ _ ⟨(blk_cell BK325.out 0).trans rfl, (blk_cell BK325.out 1).trans rfl, (blk_cell BK322.out 0).trans rfl, (blk_cell BK322.out 1).trans rfl, (blk_cell BK316.out 0).trans rfl, (blk_cell BK316.out 1).trans rfl⟩ (fun hHeld => ?_)
                clear hK K
                refine norm_ (a' := ?_) ?_ ?_
                rotate_left
                · show Act.put _ (some 40) _ = _
                  simp only [Act.put, List.setIfInBounds_toArray, List.set_cons_zero, List.set_cons_succ, i64_w, i32_w]
                  rfl
                refine one_ (i := 22) (N := some 41) #[true, true, true, true, true, true, true, true, true, true, true, true, true, true, true, true, true, true, true, true, true, true, true, false, false] rfl rfl (one_of HT_.out (by kernel_rfl)) (by decide) (fun K hK => ?_)
                refine goes_ Try.func19 (by kernel_rfl) rfl #[.int .i64 t329, .int .i64 t330] (by rfl) rfl rfl (by (try simp only [List.map_toArray, List.map_cons, List.map_nil]); first | done | rfl | (simp only [List.length_drop, List.length_take]; rfl)) ?_
                with_reducible refine (fix_Add.calls k t329 t330 t331 _ A13.out).mono ?_
                rintro e w60 ⟨rfl, hb⟩
                refine ⟨_, rfl, ?_⟩
                have n0_ := Aside0.mk (blk_below (g := gb316) (o := .cells #[.int .i64 t318, .int .i64 t319] 24 (0, 0)) (by (with_reducible repeat (first | refine blk_drewN ?_ _ | refine blk_drew ?_ | refine blk_alloc ?_ _)); exact BK316.out) hb)
                have n1_ := Aside0.mk (blk_below (g := gb322) (o := .cells #[.int .i64 t320, .int .i64 t321] 42 (0, 0)) (by (with_reducible repeat (first | refine blk_drewN ?_ _ | refine blk_drew ?_ | refine blk_alloc ?_ _)); exact BK322.out) hb)
                have n2_ := Aside0.mk (blk_below (g := gb325) (o := .cells #[.int .i64 t323, .int .i64 t324] 24 (0, 0)) (by (with_reducible repeat (first | refine blk_drewN ?_ _ | refine blk_drew ?_ | refine blk_alloc ?_ _)); exact BK325.out) hb)
                have n3_ := Aside0.mk (below_step (by repeat (first | (with_reducible first | exact HB.out | apply below_alloc | apply pw_below_drewN | apply below_drew1 | refine below_set ?_ GE316.out | refine below_set ?_ GE322.out | refine below_set ?_ GE325.out) | exact HB.out)) hb)
                clear BK316
                clear BK322
                clear BK325
                clear HB
                have BK316 := n0_
                have BK322 := n1_
                have BK325 := n2_
                have HB := n3_
                clear n0_ n1_ n2_ n3_
                (try clear hb)
                (try clear hb2)
                (try clear hk)
                (try clear hi)
                refine hK.out _ _ ⟨(blk_cell BK325.out 0).trans rfl, (blk_cell BK325.out 1).trans rfl, (blk_cell BK322.out 0).trans rfl, (blk_cell BK322.out 1).trans rfl, (blk_cell BK316.out 0).trans rfl, (blk_cell BK316.out 1).trans rfl⟩ (fun hHeld => ?_)
                clear hK K
                refine norm_ (a' := ?_) ?_ ?_
                rotate_left
                · show Act.put _ (some 41) _ = _
                  simp only [Act.put, List.setIfInBounds_toArray, List.set_cons_zero, List.set_cons_succ, i64_w, i32_w]
                  rfl
                refine pure_ (i := 23) (N := some 42) (v := ?_) (a' := ?_) #[true, true, true, true, true, true, true, true, true, true, true, true, true, true, true, true, true, true, true, true, true, true, true, true, false] rfl rfl (any_of HT_.out (by kernel_rfl)) (fun _ _ _ h => h) (Or.inl ⟨by rfl, ?_⟩) ?_ ?_
                rotate_left
                · intro w'
                  go_simp
                  with_reducible rfl
                rotate_left
                · simp only [Act.put, List.setIfInBounds_toArray, List.set_cons_zero, List.set_cons_succ, i64_w, i32_w]
                  rfl
                refine pure_ (i := 24) (N := some 43) (v := ?_) (a' := ?_) #[true, true, true, true, true, true, true, true, true, true, true, true, true, true, true, true, true, true, true, true, true, true, true, true, true] rfl rfl (any_of HT_.out (by kernel_rfl)) (fun _ _ _ h => h) (Or.inl ⟨by rfl, ?_⟩) ?_ ?_
                rotate_left
                · intro w'
                  go_simp
                  with_reducible rfl
                rotate_left
                · simp only [Act.put, List.setIfInBounds_toArray, List.set_cons_zero, List.set_cons_succ, i64_w, i32_w]
                  rfl
                refine done_ (done_of HT_.out (by kernel_rfl)) ?_
                have hcz61_0 : w60.cell? ⟨gb322, 0, none⟩ = some (.int .i64 t320) := (blk_cell BK322.out 0).trans rfl
                have hcz61_1 : w60.cell? ⟨gb322, 1, none⟩ = some (.int .i64 t321) := (blk_cell BK322.out 1).trans rfl
                have hfz61_0 := blk_frozen BK322.out 0
                have hfz61_1 := blk_frozen BK322.out 1
                have hcz62_0 : w60.cell? ⟨gb325, 0, none⟩ = some (.int .i64 t323) := (blk_cell BK325.out 0).trans rfl
                have hcz62_1 : w60.cell? ⟨gb325, 1, none⟩ = some (.int .i64 t324) := (blk_cell BK325.out 1).trans rfl
                have hfz62_0 := blk_frozen BK325.out 0
                have hfz62_1 := blk_frozen BK325.out 1
                try go_wp2_with (first | ((with_reducible refine gate_callee (f := 31) rfl ?_); refine goesL_ (some 46) rfl rfl Try.func31 (by kernel_rfl) rfl #[.agg #[.int .i64 t320, .int .i64 t321], .agg #[.int .i64 t323, .int .i64 t324]] rfl (by (try simp only [List.map_toArray, List.map_cons, List.map_nil]); first | done | rfl | (simp only [List.length_drop, List.length_take]; rfl)) ?_; (with_reducible refine (vec_Back.calls k t320 t321 t323 t324 t332 t333 _ A15.out).mono ?_); rintro e w63 ⟨rfl, hb⟩; refine ⟨_, rfl, ?_⟩; have n0_ := Aside0.mk (blk_below (g := gb316) (o := .cells #[.int .i64 t318, .int .i64 t319] 24 (0, 0)) (by (with_reducible repeat (first | refine blk_drewN ?_ _ | refine blk_drew ?_ | refine blk_alloc ?_ _)); exact BK316.out) hb); have n1_ := Aside0.mk (blk_below (g := gb322) (o := .cells #[.int .i64 t320, .int .i64 t321] 42 (0, 0)) (by (with_reducible repeat (first | refine blk_drewN ?_ _ | refine blk_drew ?_ | refine blk_alloc ?_ _)); exact BK322.out) hb); have n2_ := Aside0.mk (blk_below (g := gb325) (o := .cells #[.int .i64 t323, .int .i64 t324] 24 (0, 0)) (by (with_reducible repeat (first | refine blk_drewN ?_ _ | refine blk_drew ?_ | refine blk_alloc ?_ _)); exact BK325.out) hb); have n3_ := Aside0.mk (below_step (by repeat (first | (with_reducible first | exact HB.out | apply below_alloc | apply pw_below_drewN | apply below_drew1 | refine below_set ?_ GE316.out | refine below_set ?_ GE322.out | refine below_set ?_ GE325.out) | exact HB.out)) hb); clear BK316; clear BK322; clear BK325; clear HB; have BK316 := n0_; have BK322 := n1_; have BK325 := n2_; have HB := n3_; clear n0_ n1_ n2_ n3_; (try clear hb); (try clear hb2); (try clear hk); (try clear hi)) | ((with_reducible refine gate_dst (N := 7) rfl ?_); refine box_event ?hg (N := 7) ?hd (cs := #[.int .i64 0, .int .i64 0]) (t := 24) ?hr ?_; (case hd => rfl); (case hg => rfl); (case hr => first | (go_simp; done) | (go_simp; rfl)); intro gb334 hg w64 hbox hb; have n0_ := Aside0.mk (blk_below (g := gb316) (o := .cells #[.int .i64 t318, .int .i64 t319] 24 (0, 0)) (by (with_reducible repeat (first | refine blk_drewN ?_ _ | refine blk_drew ?_ | refine blk_alloc ?_ _)); exact BK316.out) hb); have n1_ := Aside0.mk (blk_below (g := gb322) (o := .cells #[.int .i64 t320, .int .i64 t321] 42 (0, 0)) (by (with_reducible repeat (first | refine blk_drewN ?_ _ | refine blk_drew ?_ | refine blk_alloc ?_ _)); exact BK322.out) hb); have n2_ := Aside0.mk (blk_below (g := gb325) (o := .cells #[.int .i64 t323, .int .i64 t324] 24 (0, 0)) (by (with_reducible repeat (first | refine blk_drewN ?_ _ | refine blk_drew ?_ | refine blk_alloc ?_ _)); exact BK325.out) hb); have n3_ := Aside0.mk (below_step (by repeat (first | (with_reducible first | exact HB.out | apply below_alloc | apply pw_below_drewN | apply below_drew1 | refine below_set ?_ GE316.out | refine below_set ?_ GE322.out | refine below_set ?_ GE325.out) | exact HB.out)) hb); have n4_ := Aside0.mk (hbox); have n5_ := Aside0.mk ((by rw [hg]; exact (below_size (by repeat (first | (with_reducible first | exact HB.out | apply below_alloc | apply pw_below_drewN | apply below_drew1 | refine below_set ?_ GE316.out | refine below_set ?_ GE322.out | refine below_set ?_ GE325.out) | exact HB.out))) : w.heap.size ≤ gb334)); have n6_ := Aside0.mk ((by rw [hg]; exact (below_size (by repeat (first | (with_reducible first | exact HB.out | apply below_alloc | apply pw_below_drewN | apply below_drew1 | refine below_set ?_ GE316.out | refine below_set ?_ GE322.out | refine below_set ?_ GE325.out) | exact HB.out))) : w.heap.size ≤ gb334)); have n7_ := Aside0.mk ((by rw [hg]; exact Nat.ne_of_lt (blk_lt (g := gb316) (o := .cells #[.int .i64 t318, .int .i64 t319] 24 (0, 0)) (by (with_reducible repeat (first | refine blk_drewN ?_ _ | refine blk_drew ?_ | refine blk_alloc ?_ _)); exact BK316.out)) : gb316 ≠ gb334)); have n8_ := Aside0.mk ((by rw [hg]; exact Nat.ne_of_gt (blk_lt (g := gb316) (o := .cells #[.int .i64 t318, .int .i64 t319] 24 (0, 0)) (by (with_reducible repeat (first | refine blk_drewN ?_ _ | refine blk_drew ?_ | refine blk_alloc ?_ _)); exact BK316.out)) : gb334 ≠ gb316)); have n9_ := Aside0.mk ((by rw [hg]; exact Nat.ne_of_lt (blk_lt (g := gb322) (o := .cells #[.int .i64 t320, .int .i64 t321] 42 (0, 0)) (by (with_reducible repeat (first | refine blk_drewN ?_ _ | refine blk_drew ?_ | refine blk_alloc ?_ _)); exact BK322.out)) : gb322 ≠ gb334)); have n10_ := Aside0.mk ((by rw [hg]; exact Nat.ne_of_gt (blk_lt (g := gb322) (o := .cells #[.int .i64 t320, .int .i64 t321] 42 (0, 0)) (by (with_reducible repeat (first | refine blk_drewN ?_ _ | refine blk_drew ?_ | refine blk_alloc ?_ _)); exact BK322.out)) : gb334 ≠ gb322)); have n11_ := Aside0.mk ((by rw [hg]; exact Nat.ne_of_lt (blk_lt (g := gb325) (o := .cells #[.int .i64 t323, .int .i64 t324] 24 (0, 0)) (by (with_reducible repeat (first | refine blk_drewN ?_ _ | refine blk_drew ?_ | refine blk_alloc ?_ _)); exact BK325.out)) : gb325 ≠ gb334)); have n12_ := Aside0.mk ((by rw [hg]; exact Nat.ne_of_gt (blk_lt (g := gb325) (o := .cells #[.int .i64 t323, .int .i64 t324] 24 (0, 0)) (by (with_reducible repeat (first | refine blk_drewN ?_ _ | refine blk_drew ?_ | refine blk_alloc ?_ _)); exact BK325.out)) : gb334 ≠ gb325)); clear BK316; clear BK322; clear BK325; clear HB; have BK316 := n0_; have BK322 := n1_; have BK325 := n2_; have HB := n3_; have BK334 := n4_; have GW334 := n5_; have GE334 := n6_; have NB316_334 := n7_; have NB334_316 := n8_; have NB322_334 := n9_; have NB334_322 := n10_; have NB325_334 := n11_; have NB334_325 := n12_; clear n0_ n1_ n2_ n3_ n4_ n5_ n6_ n7_ n8_ n9_ n10_ n11_ n12_; clear hb hbox hg; have hnb65 := NB334_316.out; have hnc65 := NB316_334.out; have hnb66 := NB334_322.out; have hnc66 := NB322_334.out; have hnb67 := NB334_325.out; have hnc67 := NB325_334.out; have hcz68_0 : w64.cell? ⟨gb334, 0, none⟩ = some (.int .i64 0) := (blk_cell BK334.out 0).trans rfl; have hcz68_1 : w64.cell? ⟨gb334, 1, none⟩ = some (.int .i64 0) := (blk_cell BK334.out 1).trans rfl; have hfz68_0 := blk_frozen BK334.out 0; have hfz68_1 := blk_frozen BK334.out 1))
                have n0_ : Aside0 (((w64.setCell ⟨gb334, 0, none⟩ (.int .i64 t332)).setCell ⟨gb334, 1, none⟩ (.int .i64 t333)).heap[gb316]? = some (.cells #[.int .i64 t318, .int .i64 t319] 24 (0, 0))) := ⟨by (with_reducible repeat (first | refine blk_drewN ?_ _ | refine blk_drew ?_ | refine blk_alloc ?_ _)); refine blk_far ?_ NB316_334.out _; (with_reducible repeat (first | refine blk_drewN ?_ _ | refine blk_drew ?_ | refine blk_alloc ?_ _)); refine blk_far ?_ NB316_334.out _; (with_reducible repeat (first | refine blk_drewN ?_ _ | refine blk_drew ?_ | refine blk_alloc ?_ _)); exact BK316.out⟩
                have n1_ : Aside0 (((w64.setCell ⟨gb334, 0, none⟩ (.int .i64 t332)).setCell ⟨gb334, 1, none⟩ (.int .i64 t333)).heap[gb322]? = some (.cells #[.int .i64 t320, .int .i64 t321] 42 (0, 0))) := ⟨by (with_reducible repeat (first | refine blk_drewN ?_ _ | refine blk_drew ?_ | refine blk_alloc ?_ _)); refine blk_far ?_ NB322_334.out _; (with_reducible repeat (first | refine blk_drewN ?_ _ | refine blk_drew ?_ | refine blk_alloc ?_ _)); refine blk_far ?_ NB322_334.out _; (with_reducible repeat (first | refine blk_drewN ?_ _ | refine blk_drew ?_ | refine blk_alloc ?_ _)); exact BK322.out⟩
                have n2_ : Aside0 (((w64.setCell ⟨gb334, 0, none⟩ (.int .i64 t332)).setCell ⟨gb334, 1, none⟩ (.int .i64 t333)).heap[gb325]? = some (.cells #[.int .i64 t323, .int .i64 t324] 24 (0, 0))) := ⟨by (with_reducible repeat (first | refine blk_drewN ?_ _ | refine blk_drew ?_ | refine blk_alloc ?_ _)); refine blk_far ?_ NB325_334.out _; (with_reducible repeat (first | refine blk_drewN ?_ _ | refine blk_drew ?_ | refine blk_alloc ?_ _)); refine blk_far ?_ NB325_334.out _; (with_reducible repeat (first | refine blk_drewN ?_ _ | refine blk_drew ?_ | refine blk_alloc ?_ _)); exact BK325.out⟩
                have n3_ : Aside0 (((w64.setCell ⟨gb334, 0, none⟩ (.int .i64 t332)).setCell ⟨gb334, 1, none⟩ (.int .i64 t333)).heap[gb334]? = some (.cells #[.int .i64 t332, .int .i64 t333] 24 (0, 0))) := ⟨by (with_reducible repeat (first | refine blk_drewN ?_ _ | refine blk_drew ?_ | refine blk_alloc ?_ _)); refine blk_put (cs := #[.int .i64 t332, .int .i64 0]) ?_ 1 _ rfl; (with_reducible repeat (first | refine blk_drewN ?_ _ | refine blk_drew ?_ | refine blk_alloc ?_ _)); refine blk_put (cs := #[.int .i64 0, .int .i64 0]) ?_ 0 _ rfl; (with_reducible repeat (first | refine blk_drewN ?_ _ | refine blk_drew ?_ | refine blk_alloc ?_ _)); exact BK334.out⟩
                have n4_ : Aside0 (Below w.heap.size w ((w64.setCell ⟨gb334, 0, none⟩ (.int .i64 t332)).setCell ⟨gb334, 1, none⟩ (.int .i64 t333))) := ⟨by repeat (first | (with_reducible first | exact HB.out | apply below_alloc | apply pw_below_drewN | apply below_drew1 | refine below_set ?_ GE316.out | refine below_set ?_ GE322.out | refine below_set ?_ GE325.out | refine below_set ?_ GE334.out) | exact HB.out)⟩
                (try clear BK316)
                (try clear BK322)
                (try clear BK325)
                (try clear BK334)
                (try clear HB)
                generalize ((w64.setCell ⟨gb334, 0, none⟩ (.int .i64 t332)).setCell ⟨gb334, 1, none⟩ (.int .i64 t333)) = w69 at n0_ n1_ n2_ n3_ n4_ ⊢
                have BK316 := n0_
                have BK322 := n1_
                have BK325 := n2_
                have BK334 := n3_
                have HB := n4_
                clear n0_ n1_ n2_ n3_ n4_
                have n0_ := Aside0.mk (blk_drew BK316.out)
                have n1_ := Aside0.mk (blk_drew BK322.out)
                have n2_ := Aside0.mk (blk_drew BK325.out)
                have n3_ := Aside0.mk (blk_drew BK334.out)
                have n4_ := Aside0.mk (below_drew1 HB.out)
                clear BK316
                clear BK322
                clear BK325
                clear BK334
                clear HB
                have BK316 := n0_
                have BK322 := n1_
                have BK325 := n2_
                have BK334 := n3_
                have HB := n4_
                clear n0_ n1_ n2_ n3_ n4_
                refine start_ (n := 25) (S := fun w' => w'.cell? ⟨gb334, 0, none⟩ = some (.int .i64 t332) ∧ w'.cell? ⟨gb334, 1, none⟩ = some (.int .i64 t333) ∧ w'.cell? ⟨gb322, 0, none⟩ = some (.int .i64 t320) ∧ w'.cell? ⟨gb322, 1, none⟩ = some (.int .i64 t321) ∧ w'.cell? ⟨gb325, 0, none⟩ = some (.int .i64 t323) ∧ w'.cell? ⟨gb325, 1, none⟩ = some (.int .i64 t324)) (ds := []) #[false, false, false, false, false, false, false, false, false, false, false, false, false, false, false, false, false, false, false, false, false, false, false, false, false] (by kernel_rfl) rfl rfl ⟨(blk_cell BK334.out 0).trans rfl, (blk_cell BK334.out 1).trans rfl, (blk_cell BK322.out 0).trans rfl, (blk_cell BK322.out 1).trans rfl, (blk_cell BK325.out 0).trans rfl, (blk_cell BK325.out 1).trans rfl⟩ (fun hHeld => ?_); refine with_tabW bagatellelaw03_VecTurns.tab9 bagatellelaw03_VecTurns.bits9 (fun HT_ HW_ => ?_)
                generalize w69.drew = w70 at BK316 BK322 BK325 BK334 HB hHeld ⊢
                refine pure_ (i := 1) (N := some 48) (v := ?_) (a' := ?_) #[false, true, false, false, false, false, false, false, false, false, false, false, false, false, false, false, false, false, false, false, false, false, false, false, false] rfl rfl (any_of HT_.out (by kernel_rfl)) (fun _ _ _ h => h) (Or.inl ⟨by rfl, ?_⟩) ?_ ?_
                rotate_left
                · intro w'
                  go_simp
                  with_reducible rfl
                rotate_left
                · simp only [Act.put, List.setIfInBounds_toArray, List.set_cons_zero, List.set_cons_succ, i64_w, i32_w]
                  rfl
                refine pure_ (i := 3) (N := some 50) (v := ?_) (a' := ?_) #[false, true, false, true, false, false, false, false, false, false, false, false, false, false, false, false, false, false, false, false, false, false, false, false, false] rfl rfl (any_of HT_.out (by kernel_rfl)) (fun _ _ _ h => h) (Or.inl ⟨by rfl, ?_⟩) ?_ ?_
                rotate_left
                · intro w'
                  go_simp
                  with_reducible rfl
                rotate_left
                · simp only [Act.put, List.setIfInBounds_toArray, List.set_cons_zero, List.set_cons_succ, i64_w, i32_w]
                  rfl
                refine pure_ (i := 6) (N := some 53) (v := ?_) (a' := ?_) #[false, true, false, true, false, false, true, false, false, false, false, false, false, false, false, false, false, false, false, false, false, false, false, false, false] rfl rfl (any_of HT_.out (by kernel_rfl)) (fun _ _ _ h => h) (Or.inl ⟨by rfl, ?_⟩) ?_ ?_
                rotate_left
                · intro w'
                  go_simp
                  with_reducible rfl
                rotate_left
                · simp only [Act.put, List.setIfInBounds_toArray, List.set_cons_zero, List.set_cons_succ, i64_w, i32_w]
                  rfl
                refine pure_ (i := 8) (N := some 55) (v := ?_) (a' := ?_) #[false, true, false, true, false, false, true, false, true, false, false, false, false, false, false, false, false, false, false, false, false, false, false, false, false] rfl rfl (any_of HT_.out (by kernel_rfl)) (fun _ _ _ h => h) (Or.inl ⟨by rfl, ?_⟩) ?_ ?_
                rotate_left
                · intro w'
                  go_simp
                  with_reducible rfl
                rotate_left
                · simp only [Act.put, List.setIfInBounds_toArray, List.set_cons_zero, List.set_cons_succ, i64_w, i32_w]
                  rfl
                refine pure_ (i := 12) (N := some 59) (v := ?_) (a' := ?_) #[false, true, false, true, false, false, true, false, true, false, false, false, true, false, false, false, false, false, false, false, false, false, false, false, false] rfl rfl (any_of HT_.out (by kernel_rfl)) (fun _ _ _ h => h) (Or.inl ⟨by rfl, ?_⟩) ?_ ?_
                rotate_left
                · intro w'
                  go_simp
                  with_reducible rfl
                rotate_left
                · simp only [Act.put, List.setIfInBounds_toArray, List.set_cons_zero, List.set_cons_succ, i64_w, i32_w]
                  rfl
                refine pure_ (i := 14) (N := some 61) (v := ?_) (a' := ?_) #[false, true, false, true, false, false, true, false, true, false, false, false, true, false, true, false, false, false, false, false, false, false, false, false, false] rfl rfl (any_of HT_.out (by kernel_rfl)) (fun _ _ _ h => h) (Or.inl ⟨by rfl, ?_⟩) ?_ ?_
                rotate_left
                · intro w'
                  go_simp
                  with_reducible rfl
                rotate_left
                · simp only [Act.put, List.setIfInBounds_toArray, List.set_cons_zero, List.set_cons_succ, i64_w, i32_w]
                  rfl
                refine pure_ (i := 17) (N := some 64) (v := ?_) (a' := ?_) #[false, true, false, true, false, false, true, false, true, false, false, false, true, false, true, false, false, true, false, false, false, false, false, false, false] rfl rfl (any_of HT_.out (by kernel_rfl)) (fun _ _ _ h => h) (Or.inl ⟨by rfl, ?_⟩) ?_ ?_
                rotate_left
                · intro w'
                  go_simp
                  with_reducible rfl
                rotate_left
                · simp only [Act.put, List.setIfInBounds_toArray, List.set_cons_zero, List.set_cons_succ, i64_w, i32_w]
                  rfl
                refine pure_ (i := 19) (N := some 66) (v := ?_) (a' := ?_) #[false, true, false, true, false, false, true, false, true, false, false, false, true, false, true, false, false, true, false, true, false, false, false, false, false] rfl rfl (any_of HT_.out (by kernel_rfl)) (fun _ _ _ h => h) (Or.inl ⟨by rfl, ?_⟩) ?_ ?_
                rotate_left
                · intro w'
                  go_simp
                  with_reducible rfl
                rotate_left
                · simp only [Act.put, List.setIfInBounds_toArray, List.set_cons_zero, List.set_cons_succ, i64_w, i32_w]
                  rfl
                refine take_ (i := 0) (N := some 47) (v := ?_) (a' := ?_) #[true, true, false, true, false, false, true, false, true, false, false, false, true, false, true, false, false, true, false, true, false, false, false, false, false] rfl rfl (take_ofW HT_.out HW_.out (by kernel_rfl)) (fun _ _ _ h => h) (Or.inl ⟨by rfl, ?_⟩) hHeld ?_ ?_
                rotate_left
                · rintro w' ⟨s0, s1, s2, s3, s4, s5⟩
                  go_simp
                  with_reducible rfl
                rotate_left
                · simp only [Act.put, List.setIfInBounds_toArray, List.set_cons_zero, List.set_cons_succ, i64_w, i32_w]
                  rfl
                refine take_ (i := 2) (N := some 49) (v := ?_) (a' := ?_) #[true, true, true, true, false, false, true, false, true, false, false, false, true, false, true, false, false, true, false, true, false, false, false, false, false] rfl rfl (take_ofW HT_.out HW_.out (by kernel_rfl)) (fun _ _ _ h => h) (Or.inl ⟨by rfl, ?_⟩) hHeld ?_ ?_
                rotate_left
                · rintro w' ⟨s0, s1, s2, s3, s4, s5⟩
                  go_simp
                  with_reducible rfl
                rotate_left
                · simp only [Act.put, List.setIfInBounds_toArray, List.set_cons_zero, List.set_cons_succ, i64_w, i32_w]
                  rfl
                refine take_ (i := 4) (N := some 51) (v := ?_) (a' := ?_) #[true, true, true, true, true, false, true, false, true, false, false, false, true, false, true, false, false, true, false, true, false, false, false, false, false] rfl rfl (take_ofW HT_.out HW_.out (by kernel_rfl)) (fun _ _ _ h => h) (Or.inl ⟨by rfl, ?_⟩) hHeld ?_ ?_
                rotate_left
                · rintro w' ⟨s0, s1, s2, s3, s4, s5⟩
                  go_simp
                  with_reducible rfl
                rotate_left
                · simp only [Act.put, List.setIfInBounds_toArray, List.set_cons_zero, List.set_cons_succ, i64_w, i32_w]
                  rfl
                refine take_ (i := 7) (N := some 54) (v := ?_) (a' := ?_) #[true, true, true, true, true, false, true, true, true, false, false, false, true, false, true, false, false, true, false, true, false, false, false, false, false] rfl rfl (take_ofW HT_.out HW_.out (by kernel_rfl)) (fun _ _ _ h => h) (Or.inl ⟨by rfl, ?_⟩) hHeld ?_ ?_
                rotate_left
                · rintro w' ⟨s0, s1, s2, s3, s4, s5⟩
                  go_simp
                  with_reducible rfl
                rotate_left
                · simp only [Act.put, List.setIfInBounds_toArray, List.set_cons_zero, List.set_cons_succ, i64_w, i32_w]
                  rfl
                refine take_ (i := 9) (N := some 56) (v := ?_) (a' := ?_) #[true, true, true, true, true, false, true, true, true, true, false, false, true, false, true, false, false, true, false, true, false, false, false, false, false] rfl rfl (take_ofW HT_.out HW_.out (by kernel_rfl)) (fun _ _ _ h => h) (Or.inl ⟨by rfl, ?_⟩) hHeld ?_ ?_
                rotate_left
                · rintro w' ⟨s0, s1, s2, s3, s4, s5⟩
                  go_simp
                  with_reducible rfl
                rotate_left
                · simp only [Act.put, List.setIfInBounds_toArray, List.set_cons_zero, List.set_cons_succ, i64_w, i32_w]
                  rfl
                refine take_ (i := 13) (N := some 60) (v := ?_) (a' := ?_) #[true, true, true, true, true, false, true, true, true, true, false, false, true, true, true, false, false, true, false, true, false, false, false, false, false] rfl rfl (take_ofW HT_.out HW_.out (by kernel_rfl)) (fun _ _ _ h => h) (Or.inl ⟨by rfl, ?_⟩) hHeld ?_ ?_
                rotate_left
                · rintro w' ⟨s0, s1, s2, s3, s4, s5⟩
                  go_simp
                  with_reducible rfl
                rotate_left
                · simp only [Act.put, List.setIfInBounds_toArray, List.set_cons_zero, List.set_cons_succ, i64_w, i32_w]
                  rfl
                refine take_ (i := 15) (N := some 62) (v := ?_) (a' := ?_) #[true, true, true, true, true, false, true, true, true, true, false, false, true, true, true, true, false, true, false, true, false, false, false, false, false] rfl rfl (take_ofW HT_.out HW_.out (by kernel_rfl)) (fun _ _ _ h => h) (Or.inl ⟨by rfl, ?_⟩) hHeld ?_ ?_
                rotate_left
                · rintro w' ⟨s0, s1, s2, s3, s4, s5⟩
                  go_simp
                  with_reducible rfl
                rotate_left
                · simp only [Act.put, List.setIfInBounds_toArray, List.set_cons_zero, List.set_cons_succ, i64_w, i32_w]
                  rfl
                refine take_ (i := 18) (N := some 65) (v := ?_) (a' := ?_) #[true, true, true, true, true, false, true, true, true, true, false, false, true, true, true, true, false, true, true, true, false, false, false, false, false] rfl rfl (take_ofW HT_.out HW_.out (by kernel_rfl)) (fun _ _ _ h => h) (Or.inl ⟨by rfl, ?_⟩) hHeld ?_ ?_
                rotate_left
                · rintro w' ⟨s0, s1, s2, s3, s4, s5⟩
                  go_simp
                  with_reducible rfl
                rotate_left
                · simp only [Act.put, List.setIfInBounds_toArray, List.set_cons_zero, List.set_cons_succ, i64_w, i32_w]
                  rfl
                refine take_ (i := 20) (N := some 67) (v := ?_) (a' := ?_) #[true, true, true, true, true, false, true, true, true, true, false, false, true, true, true, true, false, true, true, true, true, false, false, false, false] rfl rfl (take_ofW HT_.out HW_.out (by kernel_rfl)) (fun _ _ _ h => h) (Or.inl ⟨by rfl, ?_⟩) hHeld ?_ ?_
                rotate_left
                · rintro w' ⟨s0, s1, s2, s3, s4, s5⟩
                  go_simp
                  with_reducible rfl
                rotate_left
                · simp only [Act.put, List.setIfInBounds_toArray, List.set_cons_zero, List.set_cons_succ, i64_w, i32_w]
                  rfl
                refine one_ (i := 5) (N := some 52) #[true, true, true, true, true, true, true, true, true, true, false, false, true, true, true, true, false, true, true, true, true, false, false, false, false] rfl rfl (one_of HT_.out (by kernel_rfl)) (by decide) (fun K hK => ?_)
                refine goes_ Try.func25 (by kernel_rfl) rfl #[.int .i64 t320, .int .i64 t323] (by rfl) rfl rfl (by (try simp only [List.map_toArray, List.map_cons, List.map_nil]); first | done | rfl | (simp only [List.length_drop, List.length_take]; rfl)) ?_
                with_reducible refine (fix_Mul.calls k t320 t323 t335 _ A16.out).mono ?_
                rintro e w71 ⟨rfl, hb⟩
                refine ⟨_, rfl, ?_⟩
                have n0_ := Aside0.mk (blk_below (g := gb316) (o := .cells #[.int .i64 t318, .int .i64 t319] 24 (0, 0)) (by (with_reducible repeat (first | refine blk_drewN ?_ _ | refine blk_drew ?_ | refine blk_alloc ?_ _)); exact BK316.out) hb)
                have n1_ := Aside0.mk (blk_below (g := gb322) (o := .cells #[.int .i64 t320, .int .i64 t321] 42 (0, 0)) (by (with_reducible repeat (first | refine blk_drewN ?_ _ | refine blk_drew ?_ | refine blk_alloc ?_ _)); exact BK322.out) hb)
                have n2_ := Aside0.mk (blk_below (g := gb325) (o := .cells #[.int .i64 t323, .int .i64 t324] 24 (0, 0)) (by (with_reducible repeat (first | refine blk_drewN ?_ _ | refine blk_drew ?_ | refine blk_alloc ?_ _)); exact BK325.out) hb)
                have n3_ := Aside0.mk (blk_below (g := gb334) (o := .cells #[.int .i64 t332, .int .i64 t333] 24 (0, 0)) (by (with_reducible repeat (first | refine blk_drewN ?_ _ | refine blk_drew ?_ | refine blk_alloc ?_ _)); exact BK334.out) hb)
                have n4_ := Aside0.mk (below_step (by repeat (first | (with_reducible first | exact HB.out | apply below_alloc | apply pw_below_drewN | apply below_drew1 | refine below_set ?_ GE316.out | refine below_set ?_ GE322.out | refine below_set ?_ GE325.out | refine below_set ?_ GE334.out) | exact HB.out)) hb)
                clear BK316
                clear BK322
                clear BK325
                clear BK334
                clear HB
                have BK316 := n0_
                have BK322 := n1_
                have BK325 := n2_
                have BK334 := n3_
                have HB := n4_
                clear n0_ n1_ n2_ n3_ n4_
                (try clear hb)
                (try clear hb2)
                (try clear hk)
                (try clear hi)
                refine hK.out _ _ ⟨(blk_cell BK334.out 0).trans rfl, (blk_cell BK334.out 1).trans rfl, (blk_cell BK322.out 0).trans rfl, (blk_cell BK322.out 1).trans rfl, (blk_cell BK325.out 0).trans rfl, (blk_cell BK325.out 1).trans rfl⟩ (fun hHeld => ?_)
                clear hK K
                refine norm_ (a' := ?_) ?_ ?_
                rotate_left
                · show Act.put _ (some 52) _ = _
                  simp only [Act.put, List.setIfInBounds_toArray, List.set_cons_zero, List.set_cons_succ, i64_w, i32_w]
                  rfl
                refine one_ (i := 10) (N := some 57) #[true, true, true, true, true, true, true, true, true, true, true, false, true, true, true, true, false, true, true, true, true, false, false, false, false] rfl rfl (one_of HT_.out (by kernel_rfl)) (by decide) (fun K hK => ?_)
                refine goes_ Try.func25 (by kernel_rfl) rfl #[.int .i64 t321, .int .i64 t324] (by rfl) rfl rfl (by (try simp only [List.map_toArray, List.map_cons, List.map_nil]); first | done | rfl | (simp only [List.length_drop, List.length_take]; rfl)) ?_
                with_reducible refine (fix_Mul.calls k t321 t324 t336 _ A17.out).mono ?_
                rintro e w72 ⟨rfl, hb⟩
                refine ⟨_, rfl, ?_⟩
                have n0_ := Aside0.mk (blk_below (g := gb316) (o := .cells #[.int .i64 t318, .int .i64 t319] 24 (0, 0)) (by (with_reducible repeat (first | refine blk_drewN ?_ _ | refine blk_drew ?_ | refine blk_alloc ?_ _)); exact BK316.out) hb)
                have n1_ := Aside0.mk (blk_below (g := gb322) (o := .cells #[.int .i64 t320, .int .i64 t321] 42 (0, 0)) (by (with_reducible repeat (first | refine blk_drewN ?_ _ | refine blk_drew ?_ | refine blk_alloc ?_ _)); exact BK322.out) hb)
                have n2_ := Aside0.mk (blk_below (g := gb325) (o := .cells #[.int .i64 t323, .int .i64 t324] 24 (0, 0)) (by (with_reducible repeat (first | refine blk_drewN ?_ _ | refine blk_drew ?_ | refine blk_alloc ?_ _)); exact BK325.out) hb)
                have n3_ := Aside0.mk (blk_below (g := gb334) (o := .cells #[.int .i64 t332, .int .i64 t333] 24 (0, 0)) (by (with_reducible repeat (first | refine blk_drewN ?_ _ | refine blk_drew ?_ | refine blk_alloc ?_ _)); exact BK334.out) hb)
                have n4_ := Aside0.mk (below_step (by repeat (first | (with_reducible first | exact HB.out | apply below_alloc | apply pw_below_drewN | apply below_drew1 | refine below_set ?_ GE316.out | refine below_set ?_ GE322.out | refine below_set ?_ GE325.out | refine below_set ?_ GE334.out) | exact HB.out)) hb)
                clear BK316
                clear BK322
                clear BK325
                clear BK334
                clear HB
                have BK316 := n0_
                have BK322 := n1_
                have BK325 := n2_
                have BK334 := n3_
                have HB := n4_
                clear n0_ n1_ n2_ n3_ n4_
                (try clear hb)
                (try clear hb2)
                (try clear hk)
                (try clear hi)
                refine hK.out _ _ ⟨(blk_cell BK334.out 0).trans rfl, (blk_cell BK334.out 1).trans rfl, (blk_cell BK322.out 0).trans rfl, (blk_cell BK322.out 1).trans rfl, (blk_cell BK325.out 0).trans rfl, (blk_cell BK325.out 1).trans rfl⟩ (fun hHeld => ?_)
                clear hK K
                refine norm_ (a' := ?_) ?_ ?_
                rotate_left
                · show Act.put _ (some 57) _ = _
                  simp only [Act.put, List.setIfInBounds_toArray, List.set_cons_zero, List.set_cons_succ, i64_w, i32_w]
                  rfl
                refine one_ (i := 11) (N := some 58) #[true, true, true, true, true, true, true, true, true, true, true, true, true, true, true, true, false, true, true, true, true, false, false, false, false] rfl rfl (one_of HT_.out (by kernel_rfl)) (by decide) (fun K hK => ?_)
                refine goes_ Try.func19 (by kernel_rfl) rfl #[.int .i64 t335, .int .i64 t336] (by rfl) rfl rfl (by (try simp only [List.map_toArray, List.map_cons, List.map_nil]); first | done | rfl | (simp only [List.length_drop, List.length_take]; rfl)) ?_
                with_reducible refine (fix_Add.calls k t335 t336 t337 _ A18.out).mono ?_
                rintro e w73 ⟨rfl, hb⟩
                refine ⟨_, rfl, ?_⟩
                have n0_ := Aside0.mk (blk_below (g := gb316) (o := .cells #[.int .i64 t318, .int .i64 t319] 24 (0, 0)) (by (with_reducible repeat (first | refine blk_drewN ?_ _ | refine blk_drew ?_ | refine blk_alloc ?_ _)); exact BK316.out) hb)
                have n1_ := Aside0.mk (blk_below (g := gb322) (o := .cells #[.int .i64 t320, .int .i64 t321] 42 (0, 0)) (by (with_reducible repeat (first | refine blk_drewN ?_ _ | refine blk_drew ?_ | refine blk_alloc ?_ _)); exact BK322.out) hb)
                have n2_ := Aside0.mk (blk_below (g := gb325) (o := .cells #[.int .i64 t323, .int .i64 t324] 24 (0, 0)) (by (with_reducible repeat (first | refine blk_drewN ?_ _ | refine blk_drew ?_ | refine blk_alloc ?_ _)); exact BK325.out) hb)
                have n3_ := Aside0.mk (blk_below (g := gb334) (o := .cells #[.int .i64 t332, .int .i64 t333] 24 (0, 0)) (by (with_reducible repeat (first | refine blk_drewN ?_ _ | refine blk_drew ?_ | refine blk_alloc ?_ _)); exact BK334.out) hb)
                have n4_ := Aside0.mk (below_step (by repeat (first | (with_reducible first | exact HB.out | apply below_alloc | apply pw_below_drewN | apply below_drew1 | refine below_set ?_ GE316.out | refine below_set ?_ GE322.out | refine below_set ?_ GE325.out | refine below_set ?_ GE334.out) | exact HB.out)) hb)
                clear BK316
                clear BK322
                clear BK325
                clear BK334
                clear HB
                have BK316 := n0_
                have BK322 := n1_
                have BK325 := n2_
                have BK334 := n3_
                have HB := n4_
                clear n0_ n1_ n2_ n3_ n4_
                (try clear hb)
                (try clear hb2)
                (try clear hk)
                (try clear hi)
                refine hK.out _ _ ⟨(blk_cell BK334.out 0).trans rfl, (blk_cell BK334.out 1).trans rfl, (blk_cell BK322.out 0).trans rfl, (blk_cell BK322.out 1).trans rfl, (blk_cell BK325.out 0).trans rfl, (blk_cell BK325.out 1).trans rfl⟩ (fun hHeld => ?_)
                clear hK K
                refine norm_ (a' := ?_) ?_ ?_
                rotate_left
                · show Act.put _ (some 58) _ = _
                  simp only [Act.put, List.setIfInBounds_toArray, List.set_cons_zero, List.set_cons_succ, i64_w, i32_w]
                  rfl
                refine one_ (i := 16) (N := some 63) #[true, true, true, true, true, true, true, true, true, true, true, true, true, true, true, true, true, true, true, true, true, false, false, false, false] rfl rfl (one_of HT_.out (by kernel_rfl)) (by decide) (fun K hK => ?_)
                refine goes_ Try.func25 (by kernel_rfl) rfl #[.int .i64 t320, .int .i64 t324] (by rfl) rfl rfl (by (try simp only [List.map_toArray, List.map_cons, List.map_nil]); first | done | rfl | (simp only [List.length_drop, List.length_take]; rfl)) ?_
                with_reducible refine (fix_Mul.calls k t320 t324 t338 _ A19.out).mono ?_
                rintro e w74 ⟨rfl, hb⟩
                refine ⟨_, rfl, ?_⟩
                have n0_ := Aside0.mk (blk_below (g := gb316) (o := .cells #[.int .i64 t318, .int .i64 t319] 24 (0, 0)) (by (with_reducible repeat (first | refine blk_drewN ?_ _ | refine blk_drew ?_ | refine blk_alloc ?_ _)); exact BK316.out) hb)
                have n1_ := Aside0.mk (blk_below (g := gb322) (o := .cells #[.int .i64 t320, .int .i64 t321] 42 (0, 0)) (by (with_reducible repeat (first | refine blk_drewN ?_ _ | refine blk_drew ?_ | refine blk_alloc ?_ _)); exact BK322.out) hb)
                have n2_ := Aside0.mk (blk_below (g := gb325) (o := .cells #[.int .i64 t323, .int .i64 t324] 24 (0, 0)) (by (with_reducible repeat (first | refine blk_drewN ?_ _ | refine blk_drew ?_ | refine blk_alloc ?_ _)); exact BK325.out) hb)
                have n3_ := Aside0.mk (blk_below (g := gb334) (o := .cells #[.int .i64 t332, .int .i64 t333] 24 (0, 0)) (by (with_reducible repeat (first | refine blk_drewN ?_ _ | refine blk_drew ?_ | refine blk_alloc ?_ _)); exact BK334.out) hb)
                have n4_ := Aside0.mk (below_step (by repeat (first | (with_reducible first | exact HB.out | apply below_alloc | apply pw_below_drewN | apply below_drew1 | refine below_set ?_ GE316.out | refine below_set ?_ GE322.out | refine below_set ?_ GE325.out | refine below_set ?_ GE334.out) | exact HB.out)) hb)
                clear BK316
                clear BK322
                clear BK325
                clear BK334
                clear HB
                have BK316 := n0_
                have BK322 := n1_
                have BK325 := n2_
                have BK334 := n3_
                have HB := n4_
                clear n0_ n1_ n2_ n3_ n4_
                (try clear hb)
                (try clear hb2)
                (try clear hk)
                (try clear hi)
                refine hK.out _ _ ⟨(blk_cell BK334.out 0).trans rfl, (blk_cell BK334.out 1).trans rfl, (blk_cell BK322.out 0).trans rfl, (blk_cell BK322.out 1).trans rfl, (blk_cell BK325.out 0).trans rfl, (blk_cell BK325.out 1).trans rfl⟩ (fun hHeld => ?_)
                clear hK K
                refine norm_ (a' := ?_) ?_ ?_
                rotate_left
                · show Act.put _ (some 63) _ = _
                  simp only [Act.put, List.setIfInBounds_toArray, List.set_cons_zero, List.set_cons_succ, i64_w, i32_w]
                  rfl
                refine one_ (i := 21) (N := some 68) #[true, true, true, true, true, true, true, true, true, true, true, true, true, true, true, true, true, true, true, true, true, true, false, false, false] rfl rfl (one_of HT_.out (by kernel_rfl)) (by decide) (fun K hK => ?_)
                refine goes_ Try.func25 (by kernel_rfl) rfl #[.int .i64 t321, .int .i64 t323] (by rfl) rfl rfl (by (try simp only [List.map_toArray, List.map_cons, List.map_nil]); first | done | rfl | (simp only [List.length_drop, List.length_take]; rfl)) ?_
                with_reducible refine (fix_Mul.calls k t321 t323 t339 _ A20.out).mono ?_
                rintro e w75 ⟨rfl, hb⟩
                refine ⟨_, rfl, ?_⟩
                have n0_ := Aside0.mk (blk_below (g := gb316) (o := .cells #[.int .i64 t318, .int .i64 t319] 24 (0, 0)) (by (with_reducible repeat (first | refine blk_drewN ?_ _ | refine blk_drew ?_ | refine blk_alloc ?_ _)); exact BK316.out) hb)
                have n1_ := Aside0.mk (blk_below (g := gb322) (o := .cells #[.int .i64 t320, .int .i64 t321] 42 (0, 0)) (by (with_reducible repeat (first | refine blk_drewN ?_ _ | refine blk_drew ?_ | refine blk_alloc ?_ _)); exact BK322.out) hb)
                have n2_ := Aside0.mk (blk_below (g := gb325) (o := .cells #[.int .i64 t323, .int .i64 t324] 24 (0, 0)) (by (with_reducible repeat (first | refine blk_drewN ?_ _ | refine blk_drew ?_ | refine blk_alloc ?_ _)); exact BK325.out) hb)
                have n3_ := Aside0.mk (blk_below (g := gb334) (o := .cells #[.int .i64 t332, .int .i64 t333] 24 (0, 0)) (by (with_reducible repeat (first | refine blk_drewN ?_ _ | refine blk_drew ?_ | refine blk_alloc ?_ _)); exact BK334.out) hb)
                have n4_ := Aside0.mk (below_step (by repeat (first | (with_reducible first | exact HB.out | apply below_alloc | apply pw_below_drewN | apply below_drew1 | refine below_set ?_ GE316.out | refine below_set ?_ GE322.out | refine below_set ?_ GE325.out | refine below_set ?_ GE334.out) | exact HB.out)) hb)
                clear BK316
                clear BK322
                clear BK325
                clear BK334
                clear HB
                have BK316 := n0_
                have BK322 := n1_
                have BK325 := n2_
                have BK334 := n3_
                have HB := n4_
                clear n0_ n1_ n2_ n3_ n4_
                (try clear hb)
                (try clear hb2)
                (try clear hk)
                (try clear hi)
                refine hK.out _ _ ⟨(blk_cell BK334.out 0).trans rfl, (blk_cell BK334.out 1).trans rfl, (blk_cell BK322.out 0).trans rfl, (blk_cell BK322.out 1).trans rfl, (blk_cell BK325.out 0).trans rfl, (blk_cell BK325.out 1).trans rfl⟩ (fun hHeld => ?_)
                clear hK K
                refine norm_ (a' := ?_) ?_ ?_
                rotate_left
                · show Act.put _ (some 68) _ = _
                  simp only [Act.put, List.setIfInBounds_toArray, List.set_cons_zero, List.set_cons_succ, i64_w, i32_w]
                  rfl
                refine one_ (i := 22) (N := some 69) #[true, true, true, true, true, true, true, true, true, true, true, true, true, true, true, true, true, true, true, true, true, true, true, false, false] rfl rfl (one_of HT_.out (by kernel_rfl)) (by decide) (fun K hK => ?_)
                refine goes_ Try.func23 (by kernel_rfl) rfl #[.int .i64 t338, .int .i64 t339] (by rfl) rfl rfl (by (try simp only [List.map_toArray, List.map_cons, List.map_nil]); first | done | rfl | (simp only [List.length_drop, List.length_take]; rfl)) ?_
                with_reducible refine (fix_Sub.calls k t338 t339 t340 _ A21.out).mono ?_
                rintro e w76 ⟨rfl, hb⟩
                refine ⟨_, rfl, ?_⟩
                have n0_ := Aside0.mk (blk_below (g := gb316) (o := .cells #[.int .i64 t318, .int .i64 t319] 24 (0, 0)) (by (with_reducible repeat (first | refine blk_drewN ?_ _ | refine blk_drew ?_ | refine blk_alloc ?_ _)); exact BK316.out) hb)
                have n1_ := Aside0.mk (blk_below (g := gb322) (o := .cells #[.int .i64 t320, .int .i64 t321] 42 (0, 0)) (by (with_reducible repeat (first | refine blk_drewN ?_ _ | refine blk_drew ?_ | refine blk_alloc ?_ _)); exact BK322.out) hb)
                have n2_ := Aside0.mk (blk_below (g := gb325) (o := .cells #[.int .i64 t323, .int .i64 t324] 24 (0, 0)) (by (with_reducible repeat (first | refine blk_drewN ?_ _ | refine blk_drew ?_ | refine blk_alloc ?_ _)); exact BK325.out) hb)
                have n3_ := Aside0.mk (blk_below (g := gb334) (o := .cells #[.int .i64 t332, .int .i64 t333] 24 (0, 0)) (by (with_reducible repeat (first | refine blk_drewN ?_ _ | refine blk_drew ?_ | refine blk_alloc ?_ _)); exact BK334.out) hb)
                have n4_ := Aside0.mk (below_step (by repeat (first | (with_reducible first | exact HB.out | apply below_alloc | apply pw_below_drewN | apply below_drew1 | refine below_set ?_ GE316.out | refine below_set ?_ GE322.out | refine below_set ?_ GE325.out | refine below_set ?_ GE334.out) | exact HB.out)) hb)
                clear BK316
                clear BK322
                clear BK325
                clear BK334
                clear HB
                have BK316 := n0_
                have BK322 := n1_
                have BK325 := n2_
                have BK334 := n3_
                have HB := n4_
                clear n0_ n1_ n2_ n3_ n4_
                (try clear hb)
                (try clear hb2)
                (try clear hk)
                (try clear hi)
                refine hK.out _ _ ⟨(blk_cell BK334.out 0).trans rfl, (blk_cell BK334.out 1).trans rfl, (blk_cell BK322.out 0).trans rfl, (blk_cell BK322.out 1).trans rfl, (blk_cell BK325.out 0).trans rfl, (blk_cell BK325.out 1).trans rfl⟩ (fun hHeld => ?_)
                clear hK K
                refine norm_ (a' := ?_) ?_ ?_
                rotate_left
                · show Act.put _ (some 69) _ = _
                  simp only [Act.put, List.setIfInBounds_toArray, List.set_cons_zero, List.set_cons_succ, i64_w, i32_w]
                  rfl
                refine pure_ (i := 23) (N := some 70) (v := ?_) (a' := ?_) #[true, true, true, true, true, true, true, true, true, true, true, true, true, true, true, true, true, true, true, true, true, true, true, true, false] rfl rfl (any_of HT_.out (by kernel_rfl)) (fun _ _ _ h => h) (Or.inl ⟨by rfl, ?_⟩) ?_ ?_
                rotate_left
                · intro w'
                  go_simp
                  with_reducible rfl
                rotate_left
                · simp only [Act.put, List.setIfInBounds_toArray, List.set_cons_zero, List.set_cons_succ, i64_w, i32_w]
                  rfl
                refine pure_ (i := 24) (N := some 71) (v := ?_) (a' := ?_) #[true, true, true, true, true, true, true, true, true, true, true, true, true, true, true, true, true, true, true, true, true, true, true, true, true] rfl rfl (any_of HT_.out (by kernel_rfl)) (fun _ _ _ h => h) (Or.inl ⟨by rfl, ?_⟩) ?_ ?_
                rotate_left
                · intro w'
                  go_simp
                  with_reducible rfl
                rotate_left
                · simp only [Act.put, List.setIfInBounds_toArray, List.set_cons_zero, List.set_cons_succ, i64_w, i32_w]
                  rfl
                refine done_ (done_of HT_.out (by kernel_rfl)) ?_
                have hcz77_0 : w76.cell? ⟨gb334, 0, none⟩ = some (.int .i64 t332) := (blk_cell BK334.out 0).trans rfl
                have hcz77_1 : w76.cell? ⟨gb334, 1, none⟩ = some (.int .i64 t333) := (blk_cell BK334.out 1).trans rfl
                have hfz77_0 := blk_frozen BK334.out 0
                have hfz77_1 := blk_frozen BK334.out 1
                have hcz78_0 : w76.cell? ⟨gb316, 0, none⟩ = some (.int .i64 t318) := (blk_cell BK316.out 0).trans rfl
                have hcz78_1 : w76.cell? ⟨gb316, 1, none⟩ = some (.int .i64 t319) := (blk_cell BK316.out 1).trans rfl
                have hfz78_0 := blk_frozen BK316.out 0
                have hfz78_1 := blk_frozen BK316.out 1
                try go_wp2_with (first | ((with_reducible refine gate_callee (f := 22) rfl ?_); refine goesL_ (some 74) rfl rfl Try.func22 (by kernel_rfl) rfl #[.agg #[.int .i64 t332, .int .i64 t333], .agg #[.int .i64 t318, .int .i64 t319]] rfl (by (try simp only [List.map_toArray, List.map_cons, List.map_nil]); first | done | rfl | (simp only [List.length_drop, List.length_take]; rfl)) ?_; (with_reducible refine (vec_Sub.calls k t332 t333 t318 t319 t341 t342 _ A23.out).mono ?_); rintro e w79 ⟨rfl, hb⟩; refine ⟨_, rfl, ?_⟩; have n0_ := Aside0.mk (blk_below (g := gb316) (o := .cells #[.int .i64 t318, .int .i64 t319] 24 (0, 0)) (by (with_reducible repeat (first | refine blk_drewN ?_ _ | refine blk_drew ?_ | refine blk_alloc ?_ _)); exact BK316.out) hb); have n1_ := Aside0.mk (blk_below (g := gb322) (o := .cells #[.int .i64 t320, .int .i64 t321] 42 (0, 0)) (by (with_reducible repeat (first | refine blk_drewN ?_ _ | refine blk_drew ?_ | refine blk_alloc ?_ _)); exact BK322.out) hb); have n2_ := Aside0.mk (blk_below (g := gb325) (o := .cells #[.int .i64 t323, .int .i64 t324] 24 (0, 0)) (by (with_reducible repeat (first | refine blk_drewN ?_ _ | refine blk_drew ?_ | refine blk_alloc ?_ _)); exact BK325.out) hb); have n3_ := Aside0.mk (blk_below (g := gb334) (o := .cells #[.int .i64 t332, .int .i64 t333] 24 (0, 0)) (by (with_reducible repeat (first | refine blk_drewN ?_ _ | refine blk_drew ?_ | refine blk_alloc ?_ _)); exact BK334.out) hb); have n4_ := Aside0.mk (below_step (by repeat (first | (with_reducible first | exact HB.out | apply below_alloc | apply pw_below_drewN | apply below_drew1 | refine below_set ?_ GE316.out | refine below_set ?_ GE322.out | refine below_set ?_ GE325.out | refine below_set ?_ GE334.out) | exact HB.out)) hb); clear BK316; clear BK322; clear BK325; clear BK334; clear HB; have BK316 := n0_; have BK322 := n1_; have BK325 := n2_; have BK334 := n3_; have HB := n4_; clear n0_ n1_ n2_ n3_ n4_; (try clear hb); (try clear hb2); (try clear hk); (try clear hi)) | ((with_reducible refine gate_dst (N := 8) rfl ?_); refine box_event ?hg (N := 8) ?hd (cs := #[.int .i64 0, .int .i64 0]) (t := 24) ?hr ?_; (case hd => rfl); (case hg => rfl); (case hr => first | (go_simp; done) | (go_simp; rfl)); intro gb343 hg w80 hbox hb; have n0_ := Aside0.mk (blk_below (g := gb316) (o := .cells #[.int .i64 t318, .int .i64 t319] 24 (0, 0)) (by (with_reducible repeat (first | refine blk_drewN ?_ _ | refine blk_drew ?_ | refine blk_alloc ?_ _)); exact BK316.out) hb); have n1_ := Aside0.mk (blk_below (g := gb322) (o := .cells #[.int .i64 t320, .int .i64 t321] 42 (0, 0)) (by (with_reducible repeat (first | refine blk_drewN ?_ _ | refine blk_drew ?_ | refine blk_alloc ?_ _)); exact BK322.out) hb); have n2_ := Aside0.mk (blk_below (g := gb325) (o := .cells #[.int .i64 t323, .int .i64 t324] 24 (0, 0)) (by (with_reducible repeat (first | refine blk_drewN ?_ _ | refine blk_drew ?_ | refine blk_alloc ?_ _)); exact BK325.out) hb); have n3_ := Aside0.mk (blk_below (g := gb334) (o := .cells #[.int .i64 t332, .int .i64 t333] 24 (0, 0)) (by (with_reducible repeat (first | refine blk_drewN ?_ _ | refine blk_drew ?_ | refine blk_alloc ?_ _)); exact BK334.out) hb); have n4_ := Aside0.mk (below_step (by repeat (first | (with_reducible first | exact HB.out | apply below_alloc | apply pw_below_drewN | apply below_drew1 | refine below_set ?_ GE316.out | refine below_set ?_ GE322.out | refine below_set ?_ GE325.out | refine below_set ?_ GE334.out) | exact HB.out)) hb); have n5_ := Aside0.mk (hbox); have n6_ := Aside0.mk ((by rw [hg]; exact (below_size (by repeat (first | (with_reducible first | exact HB.out | apply below_alloc | apply pw_below_drewN | apply below_drew1 | refine below_set ?_ GE316.out | refine below_set ?_ GE322.out | refine below_set ?_ GE325.out | refine below_set ?_ GE334.out) | exact HB.out))) : w.heap.size ≤ gb343)); have n7_ := Aside0.mk ((by rw [hg]; exact (below_size (by repeat (first | (with_reducible first | exact HB.out | apply below_alloc | apply pw_below_drewN | apply below_drew1 | refine below_set ?_ GE316.out | refine below_set ?_ GE322.out | refine below_set ?_ GE325.out | refine below_set ?_ GE334.out) | exact HB.out))) : w.heap.size ≤ gb343)); have n8_ := Aside0.mk ((by rw [hg]; exact Nat.ne_of_lt (blk_lt (g := gb316) (o := .cells #[.int .i64 t318, .int .i64 t319] 24 (0, 0)) (by (with_reducible repeat (first | refine blk_drewN ?_ _ | refine blk_drew ?_ | refine blk_alloc ?_ _)); exact BK316.out)) : gb316 ≠ gb343)); have n9_ := Aside0.mk ((by rw [hg]; exact Nat.ne_of_gt (blk_lt (g := gb316) (o := .cells #[.int .i64 t318, .int .i64 t319] 24 (0, 0)) (by (with_reducible repeat (first | refine blk_drewN ?_ _ | refine blk_drew ?_ | refine blk_alloc ?_ _)); exact BK316.out)) : gb343 ≠ gb316)); have n10_ := Aside0.mk ((by rw [hg]; exact Nat.ne_of_lt (blk_lt (g := gb322) (o := .cells #[.int .i64 t320, .int .i64 t321] 42 (0, 0)) (by (with_reducible repeat (first | refine blk_drewN ?_ _ | refine blk_drew ?_ | refine blk_alloc ?_ _)); exact BK322.out)) : gb322 ≠ gb343)); have n11_ := Aside0.mk ((by rw [hg]; exact Nat.ne_of_gt (blk_lt (g := gb322) (o := .cells #[.int .i64 t320, .int .i64 t321] 42 (0, 0)) (by (with_reducible repeat (first | refine blk_drewN ?_ _ | refine blk_drew ?_ | refine blk_alloc ?_ _)); exact BK322.out)) : gb343 ≠ gb322)); have n12_ := Aside0.mk ((by rw [hg]; exact Nat.ne_of_lt (blk_lt (g := gb325) (o := .cells #[.int .i64 t323, .int .i64 t324] 24 (0, 0)) (by (with_reducible repeat (first | refine blk_drewN ?_ _ | refine blk_drew ?_ | refine blk_alloc ?_ _)); exact BK325.out)) : gb325 ≠ gb343)); have n13_ := Aside0.mk ((by rw [hg]; exact Nat.ne_of_gt (blk_lt (g := gb325) (o := .cells #[.int .i64 t323, .int .i64 t324] 24 (0, 0)) (by (with_reducible repeat (first | refine blk_drewN ?_ _ | refine blk_drew ?_ | refine blk_alloc ?_ _)); exact BK325.out)) : gb343 ≠ gb325)); have n14_ := Aside0.mk ((by rw [hg]; exact Nat.ne_of_lt (blk_lt (g := gb334) (o := .cells #[.int .i64 t332, .int .i64 t333] 24 (0, 0)) (by (with_reducible repeat (first | refine blk_drewN ?_ _ | refine blk_drew ?_ | refine blk_alloc ?_ _)); exact BK334.out)) : gb334 ≠ gb343)); have n15_ := Aside0.mk ((by rw [hg]; exact Nat.ne_of_gt (blk_lt (g := gb334) (o := .cells #[.int .i64 t332, .int .i64 t333] 24 (0, 0)) (by (with_reducible repeat (first | refine blk_drewN ?_ _ | refine blk_drew ?_ | refine blk_alloc ?_ _)); exact BK334.out)) : gb343 ≠ gb334)); clear BK316; clear BK322; clear BK325; clear BK334; clear HB; have BK316 := n0_; have BK322 := n1_; have BK325 := n2_; have BK334 := n3_; have HB := n4_; have BK343 := n5_; have GW343 := n6_; have GE343 := n7_; have NB316_343 := n8_; have NB343_316 := n9_; have NB322_343 := n10_; have NB343_322 := n11_; have NB325_343 := n12_; have NB343_325 := n13_; have NB334_343 := n14_; have NB343_334 := n15_; clear n0_ n1_ n2_ n3_ n4_ n5_ n6_ n7_ n8_ n9_ n10_ n11_ n12_ n13_ n14_ n15_; clear hb hbox hg; have hnb81 := NB343_316.out; have hnc81 := NB316_343.out; have hnb82 := NB343_322.out; have hnc82 := NB322_343.out; have hnb83 := NB343_325.out; have hnc83 := NB325_343.out; have hnb84 := NB343_334.out; have hnc84 := NB334_343.out; have hcz85_0 : w80.cell? ⟨gb343, 0, none⟩ = some (.int .i64 0) := (blk_cell BK343.out 0).trans rfl; have hcz85_1 : w80.cell? ⟨gb343, 1, none⟩ = some (.int .i64 0) := (blk_cell BK343.out 1).trans rfl; have hfz85_0 := blk_frozen BK343.out 0; have hfz85_1 := blk_frozen BK343.out 1) | ((with_reducible refine gate_callee (f := 29) rfl ?_); refine goesL_ (some 75) rfl rfl Try.func29 (by kernel_rfl) rfl #[.int .i64 1073741824] rfl (by (try simp only [List.map_toArray, List.map_cons, List.map_nil]); first | done | rfl | (simp only [List.length_drop, List.length_take]; rfl)) ?_; (with_reducible refine (turn_Of.calls k 1073741824 t344 t345 _ A24.out).mono ?_); rintro e w86 ⟨rfl, hb⟩; refine ⟨_, rfl, ?_⟩; have n0_ := Aside0.mk (blk_below (g := gb316) (o := .cells #[.int .i64 t318, .int .i64 t319] 24 (0, 0)) (by (with_reducible repeat (first | refine blk_drewN ?_ _ | refine blk_drew ?_ | refine blk_alloc ?_ _)); refine blk_far ?_ NB316_343.out _; (with_reducible repeat (first | refine blk_drewN ?_ _ | refine blk_drew ?_ | refine blk_alloc ?_ _)); refine blk_far ?_ NB316_343.out _; (with_reducible repeat (first | refine blk_drewN ?_ _ | refine blk_drew ?_ | refine blk_alloc ?_ _)); exact BK316.out) hb); have n1_ := Aside0.mk (blk_below (g := gb322) (o := .cells #[.int .i64 t320, .int .i64 t321] 42 (0, 0)) (by (with_reducible repeat (first | refine blk_drewN ?_ _ | refine blk_drew ?_ | refine blk_alloc ?_ _)); refine blk_far ?_ NB322_343.out _; (with_reducible repeat (first | refine blk_drewN ?_ _ | refine blk_drew ?_ | refine blk_alloc ?_ _)); refine blk_far ?_ NB322_343.out _; (with_reducible repeat (first | refine blk_drewN ?_ _ | refine blk_drew ?_ | refine blk_alloc ?_ _)); exact BK322.out) hb); have n2_ := Aside0.mk (blk_below (g := gb325) (o := .cells #[.int .i64 t323, .int .i64 t324] 24 (0, 0)) (by (with_reducible repeat (first | refine blk_drewN ?_ _ | refine blk_drew ?_ | refine blk_alloc ?_ _)); refine blk_far ?_ NB325_343.out _; (with_reducible repeat (first | refine blk_drewN ?_ _ | refine blk_drew ?_ | refine blk_alloc ?_ _)); refine blk_far ?_ NB325_343.out _; (with_reducible repeat (first | refine blk_drewN ?_ _ | refine blk_drew ?_ | refine blk_alloc ?_ _)); exact BK325.out) hb); have n3_ := Aside0.mk (blk_below (g := gb334) (o := .cells #[.int .i64 t332, .int .i64 t333] 24 (0, 0)) (by (with_reducible repeat (first | refine blk_drewN ?_ _ | refine blk_drew ?_ | refine blk_alloc ?_ _)); refine blk_far ?_ NB334_343.out _; (with_reducible repeat (first | refine blk_drewN ?_ _ | refine blk_drew ?_ | refine blk_alloc ?_ _)); refine blk_far ?_ NB334_343.out _; (with_reducible repeat (first | refine blk_drewN ?_ _ | refine blk_drew ?_ | refine blk_alloc ?_ _)); exact BK334.out) hb); have n4_ := Aside0.mk (blk_below (g := gb343) (o := .cells #[.int .i64 t341, .int .i64 t342] 24 (0, 0)) (by (with_reducible repeat (first | refine blk_drewN ?_ _ | refine blk_drew ?_ | refine blk_alloc ?_ _)); refine blk_put (cs := #[.int .i64 t341, .int .i64 0]) ?_ 1 _ rfl; (with_reducible repeat (first | refine blk_drewN ?_ _ | refine blk_drew ?_ | refine blk_alloc ?_ _)); refine blk_put (cs := #[.int .i64 0, .int .i64 0]) ?_ 0 _ rfl; (with_reducible repeat (first | refine blk_drewN ?_ _ | refine blk_drew ?_ | refine blk_alloc ?_ _)); exact BK343.out) hb); have n5_ := Aside0.mk (below_step (by repeat (first | (with_reducible first | exact HB.out | apply below_alloc | apply pw_below_drewN | apply below_drew1 | refine below_set ?_ GE316.out | refine below_set ?_ GE322.out | refine below_set ?_ GE325.out | refine below_set ?_ GE334.out | refine below_set ?_ GE343.out) | exact HB.out)) hb); clear BK316; clear BK322; clear BK325; clear BK334; clear BK343; clear HB; have BK316 := n0_; have BK322 := n1_; have BK325 := n2_; have BK334 := n3_; have BK343 := n4_; have HB := n5_; clear n0_ n1_ n2_ n3_ n4_ n5_; (try clear hb); (try clear hb2); (try clear hk); (try clear hi)) | ((with_reducible refine gate_dst (N := 9) rfl ?_); refine box_event ?hg (N := 9) ?hd (cs := #[.int .i64 0, .int .i64 0]) (t := 42) ?hr ?_; (case hd => rfl); (case hg => rfl); (case hr => first | (go_simp; done) | (go_simp; rfl)); intro gb346 hg w87 hbox hb; have n0_ := Aside0.mk (blk_below (g := gb316) (o := .cells #[.int .i64 t318, .int .i64 t319] 24 (0, 0)) (by (with_reducible repeat (first | refine blk_drewN ?_ _ | refine blk_drew ?_ | refine blk_alloc ?_ _)); exact BK316.out) hb); have n1_ := Aside0.mk (blk_below (g := gb322) (o := .cells #[.int .i64 t320, .int .i64 t321] 42 (0, 0)) (by (with_reducible repeat (first | refine blk_drewN ?_ _ | refine blk_drew ?_ | refine blk_alloc ?_ _)); exact BK322.out) hb); have n2_ := Aside0.mk (blk_below (g := gb325) (o := .cells #[.int .i64 t323, .int .i64 t324] 24 (0, 0)) (by (with_reducible repeat (first | refine blk_drewN ?_ _ | refine blk_drew ?_ | refine blk_alloc ?_ _)); exact BK325.out) hb); have n3_ := Aside0.mk (blk_below (g := gb334) (o := .cells #[.int .i64 t332, .int .i64 t333] 24 (0, 0)) (by (with_reducible repeat (first | refine blk_drewN ?_ _ | refine blk_drew ?_ | refine blk_alloc ?_ _)); exact BK334.out) hb); have n4_ := Aside0.mk (blk_below (g := gb343) (o := .cells #[.int .i64 t341, .int .i64 t342] 24 (0, 0)) (by (with_reducible repeat (first | refine blk_drewN ?_ _ | refine blk_drew ?_ | refine blk_alloc ?_ _)); exact BK343.out) hb); have n5_ := Aside0.mk (below_step (by repeat (first | (with_reducible first | exact HB.out | apply below_alloc | apply pw_below_drewN | apply below_drew1 | refine below_set ?_ GE316.out | refine below_set ?_ GE322.out | refine below_set ?_ GE325.out | refine below_set ?_ GE334.out | refine below_set ?_ GE343.out) | exact HB.out)) hb); have n6_ := Aside0.mk (hbox); have n7_ := Aside0.mk ((by rw [hg]; exact (below_size (by repeat (first | (with_reducible first | exact HB.out | apply below_alloc | apply pw_below_drewN | apply below_drew1 | refine below_set ?_ GE316.out | refine below_set ?_ GE322.out | refine below_set ?_ GE325.out | refine below_set ?_ GE334.out | refine below_set ?_ GE343.out) | exact HB.out))) : w.heap.size ≤ gb346)); have n8_ := Aside0.mk ((by rw [hg]; exact (below_size (by repeat (first | (with_reducible first | exact HB.out | apply below_alloc | apply pw_below_drewN | apply below_drew1 | refine below_set ?_ GE316.out | refine below_set ?_ GE322.out | refine below_set ?_ GE325.out | refine below_set ?_ GE334.out | refine below_set ?_ GE343.out) | exact HB.out))) : w.heap.size ≤ gb346)); have n9_ := Aside0.mk ((by rw [hg]; exact Nat.ne_of_lt (blk_lt (g := gb316) (o := .cells #[.int .i64 t318, .int .i64 t319] 24 (0, 0)) (by (with_reducible repeat (first | refine blk_drewN ?_ _ | refine blk_drew ?_ | refine blk_alloc ?_ _)); exact BK316.out)) : gb316 ≠ gb346)); have n10_ := Aside0.mk ((by rw [hg]; exact Nat.ne_of_gt (blk_lt (g := gb316) (o := .cells #[.int .i64 t318, .int .i64 t319] 24 (0, 0)) (by (with_reducible repeat (first | refine blk_drewN ?_ _ | refine blk_drew ?_ | refine blk_alloc ?_ _)); exact BK316.out)) : gb346 ≠ gb316)); have n11_ := Aside0.mk ((by rw [hg]; exact Nat.ne_of_lt (blk_lt (g := gb322) (o := .cells #[.int .i64 t320, .int .i64 t321] 42 (0, 0)) (by (with_reducible repeat (first | refine blk_drewN ?_ _ | refine blk_drew ?_ | refine blk_alloc ?_ _)); exact BK322.out)) : gb322 ≠ gb346)); have n12_ := Aside0.mk ((by rw [hg]; exact Nat.ne_of_gt (blk_lt (g := gb322) (o := .cells #[.int .i64 t320, .int .i64 t321] 42 (0, 0)) (by (with_reducible repeat (first | refine blk_drewN ?_ _ | refine blk_drew ?_ | refine blk_alloc ?_ _)); exact BK322.out)) : gb346 ≠ gb322)); have n13_ := Aside0.mk ((by rw [hg]; exact Nat.ne_of_lt (blk_lt (g := gb325) (o := .cells #[.int .i64 t323, .int .i64 t324] 24 (0, 0)) (by (with_reducible repeat (first | refine blk_drewN ?_ _ | refine blk_drew ?_ | refine blk_alloc ?_ _)); exact BK325.out)) : gb325 ≠ gb346)); have n14_ := Aside0.mk ((by rw [hg]; exact Nat.ne_of_gt (blk_lt (g := gb325) (o := .cells #[.int .i64 t323, .int .i64 t324] 24 (0, 0)) (by (with_reducible repeat (first | refine blk_drewN ?_ _ | refine blk_drew ?_ | refine blk_alloc ?_ _)); exact BK325.out)) : gb346 ≠ gb325)); have n15_ := Aside0.mk ((by rw [hg]; exact Nat.ne_of_lt (blk_lt (g := gb334) (o := .cells #[.int .i64 t332, .int .i64 t333] 24 (0, 0)) (by (with_reducible repeat (first | refine blk_drewN ?_ _ | refine blk_drew ?_ | refine blk_alloc ?_ _)); exact BK334.out)) : gb334 ≠ gb346)); have n16_ := Aside0.mk ((by rw [hg]; exact Nat.ne_of_gt (blk_lt (g := gb334) (o := .cells #[.int .i64 t332, .int .i64 t333] 24 (0, 0)) (by (with_reducible repeat (first | refine blk_drewN ?_ _ | refine blk_drew ?_ | refine blk_alloc ?_ _)); exact BK334.out)) : gb346 ≠ gb334)); have n17_ := Aside0.mk ((by rw [hg]; exact Nat.ne_of_lt (blk_lt (g := gb343) (o := .cells #[.int .i64 t341, .int .i64 t342] 24 (0, 0)) (by (with_reducible repeat (first | refine blk_drewN ?_ _ | refine blk_drew ?_ | refine blk_alloc ?_ _)); exact BK343.out)) : gb343 ≠ gb346)); have n18_ := Aside0.mk ((by rw [hg]; exact Nat.ne_of_gt (blk_lt (g := gb343) (o := .cells #[.int .i64 t341, .int .i64 t342] 24 (0, 0)) (by (with_reducible repeat (first | refine blk_drewN ?_ _ | refine blk_drew ?_ | refine blk_alloc ?_ _)); exact BK343.out)) : gb346 ≠ gb343)); clear BK316; clear BK322; clear BK325; clear BK334; clear BK343; clear HB; have BK316 := n0_; have BK322 := n1_; have BK325 := n2_; have BK334 := n3_; have BK343 := n4_; have HB := n5_; have BK346 := n6_; have GW346 := n7_; have GE346 := n8_; have NB316_346 := n9_; have NB346_316 := n10_; have NB322_346 := n11_; have NB346_322 := n12_; have NB325_346 := n13_; have NB346_325 := n14_; have NB334_346 := n15_; have NB346_334 := n16_; have NB343_346 := n17_; have NB346_343 := n18_; clear n0_ n1_ n2_ n3_ n4_ n5_ n6_ n7_ n8_ n9_ n10_ n11_ n12_ n13_ n14_ n15_ n16_ n17_ n18_; clear hb hbox hg; have hnb88 := NB346_316.out; have hnc88 := NB316_346.out; have hnb89 := NB346_322.out; have hnc89 := NB322_346.out; have hnb90 := NB346_325.out; have hnc90 := NB325_346.out; have hnb91 := NB346_334.out; have hnc91 := NB334_346.out; have hnb92 := NB346_343.out; have hnc92 := NB343_346.out; have hcz93_0 : w87.cell? ⟨gb346, 0, none⟩ = some (.int .i64 0) := (blk_cell BK346.out 0).trans rfl; have hcz93_1 : w87.cell? ⟨gb346, 1, none⟩ = some (.int .i64 0) := (blk_cell BK346.out 1).trans rfl; have hfz93_0 := blk_frozen BK346.out 0; have hfz93_1 := blk_frozen BK346.out 1))
                have n0_ : Aside0 (((w87.setCell ⟨gb346, 0, none⟩ (.int .i64 t344)).setCell ⟨gb346, 1, none⟩ (.int .i64 t345)).heap[gb316]? = some (.cells #[.int .i64 t318, .int .i64 t319] 24 (0, 0))) := ⟨by (with_reducible repeat (first | refine blk_drewN ?_ _ | refine blk_drew ?_ | refine blk_alloc ?_ _)); refine blk_far ?_ NB316_346.out _; (with_reducible repeat (first | refine blk_drewN ?_ _ | refine blk_drew ?_ | refine blk_alloc ?_ _)); refine blk_far ?_ NB316_346.out _; (with_reducible repeat (first | refine blk_drewN ?_ _ | refine blk_drew ?_ | refine blk_alloc ?_ _)); exact BK316.out⟩
                have n1_ : Aside0 (((w87.setCell ⟨gb346, 0, none⟩ (.int .i64 t344)).setCell ⟨gb346, 1, none⟩ (.int .i64 t345)).heap[gb322]? = some (.cells #[.int .i64 t320, .int .i64 t321] 42 (0, 0))) := ⟨by (with_reducible repeat (first | refine blk_drewN ?_ _ | refine blk_drew ?_ | refine blk_alloc ?_ _)); refine blk_far ?_ NB322_346.out _; (with_reducible repeat (first | refine blk_drewN ?_ _ | refine blk_drew ?_ | refine blk_alloc ?_ _)); refine blk_far ?_ NB322_346.out _; (with_reducible repeat (first | refine blk_drewN ?_ _ | refine blk_drew ?_ | refine blk_alloc ?_ _)); exact BK322.out⟩
                have n2_ : Aside0 (((w87.setCell ⟨gb346, 0, none⟩ (.int .i64 t344)).setCell ⟨gb346, 1, none⟩ (.int .i64 t345)).heap[gb325]? = some (.cells #[.int .i64 t323, .int .i64 t324] 24 (0, 0))) := ⟨by (with_reducible repeat (first | refine blk_drewN ?_ _ | refine blk_drew ?_ | refine blk_alloc ?_ _)); refine blk_far ?_ NB325_346.out _; (with_reducible repeat (first | refine blk_drewN ?_ _ | refine blk_drew ?_ | refine blk_alloc ?_ _)); refine blk_far ?_ NB325_346.out _; (with_reducible repeat (first | refine blk_drewN ?_ _ | refine blk_drew ?_ | refine blk_alloc ?_ _)); exact BK325.out⟩
                have n3_ : Aside0 (((w87.setCell ⟨gb346, 0, none⟩ (.int .i64 t344)).setCell ⟨gb346, 1, none⟩ (.int .i64 t345)).heap[gb334]? = some (.cells #[.int .i64 t332, .int .i64 t333] 24 (0, 0))) := ⟨by (with_reducible repeat (first | refine blk_drewN ?_ _ | refine blk_drew ?_ | refine blk_alloc ?_ _)); refine blk_far ?_ NB334_346.out _; (with_reducible repeat (first | refine blk_drewN ?_ _ | refine blk_drew ?_ | refine blk_alloc ?_ _)); refine blk_far ?_ NB334_346.out _; (with_reducible repeat (first | refine blk_drewN ?_ _ | refine blk_drew ?_ | refine blk_alloc ?_ _)); exact BK334.out⟩
                have n4_ : Aside0 (((w87.setCell ⟨gb346, 0, none⟩ (.int .i64 t344)).setCell ⟨gb346, 1, none⟩ (.int .i64 t345)).heap[gb343]? = some (.cells #[.int .i64 t341, .int .i64 t342] 24 (0, 0))) := ⟨by (with_reducible repeat (first | refine blk_drewN ?_ _ | refine blk_drew ?_ | refine blk_alloc ?_ _)); refine blk_far ?_ NB343_346.out _; (with_reducible repeat (first | refine blk_drewN ?_ _ | refine blk_drew ?_ | refine blk_alloc ?_ _)); refine blk_far ?_ NB343_346.out _; (with_reducible repeat (first | refine blk_drewN ?_ _ | refine blk_drew ?_ | refine blk_alloc ?_ _)); exact BK343.out⟩
                have n5_ : Aside0 (((w87.setCell ⟨gb346, 0, none⟩ (.int .i64 t344)).setCell ⟨gb346, 1, none⟩ (.int .i64 t345)).heap[gb346]? = some (.cells #[.int .i64 t344, .int .i64 t345] 42 (0, 0))) := ⟨by (with_reducible repeat (first | refine blk_drewN ?_ _ | refine blk_drew ?_ | refine blk_alloc ?_ _)); refine blk_put (cs := #[.int .i64 t344, .int .i64 0]) ?_ 1 _ rfl; (with_reducible repeat (first | refine blk_drewN ?_ _ | refine blk_drew ?_ | refine blk_alloc ?_ _)); refine blk_put (cs := #[.int .i64 0, .int .i64 0]) ?_ 0 _ rfl; (with_reducible repeat (first | refine blk_drewN ?_ _ | refine blk_drew ?_ | refine blk_alloc ?_ _)); exact BK346.out⟩
                have n6_ : Aside0 (Below w.heap.size w ((w87.setCell ⟨gb346, 0, none⟩ (.int .i64 t344)).setCell ⟨gb346, 1, none⟩ (.int .i64 t345))) := ⟨by repeat (first | (with_reducible first | exact HB.out | apply below_alloc | apply pw_below_drewN | apply below_drew1 | refine below_set ?_ GE316.out | refine below_set ?_ GE322.out | refine below_set ?_ GE325.out | refine below_set ?_ GE334.out | refine below_set ?_ GE343.out | refine below_set ?_ GE346.out) | exact HB.out)⟩
                (try clear BK316)
                (try clear BK322)
                (try clear BK325)
                (try clear BK334)
                (try clear BK343)
                (try clear BK346)
                (try clear HB)
                generalize ((w87.setCell ⟨gb346, 0, none⟩ (.int .i64 t344)).setCell ⟨gb346, 1, none⟩ (.int .i64 t345)) = w94 at n0_ n1_ n2_ n3_ n4_ n5_ n6_ ⊢
                have BK316 := n0_
                have BK322 := n1_
                have BK325 := n2_
                have BK334 := n3_
                have BK343 := n4_
                have BK346 := n5_
                have HB := n6_
                clear n0_ n1_ n2_ n3_ n4_ n5_ n6_
                have n0_ := Aside0.mk (blk_drew BK316.out)
                have n1_ := Aside0.mk (blk_drew BK322.out)
                have n2_ := Aside0.mk (blk_drew BK325.out)
                have n3_ := Aside0.mk (blk_drew BK334.out)
                have n4_ := Aside0.mk (blk_drew BK343.out)
                have n5_ := Aside0.mk (blk_drew BK346.out)
                have n6_ := Aside0.mk (below_drew1 HB.out)
                clear BK316
                clear BK322
                clear BK325
                clear BK334
                clear BK343
                clear BK346
                clear HB
                have BK316 := n0_
                have BK322 := n1_
                have BK325 := n2_
                have BK334 := n3_
                have BK343 := n4_
                have BK346 := n5_
                have HB := n6_
                clear n0_ n1_ n2_ n3_ n4_ n5_ n6_
                refine start_ (n := 36) (S := fun w' => w'.cell? ⟨gb343, 0, none⟩ = some (.int .i64 t341) ∧ w'.cell? ⟨gb343, 1, none⟩ = some (.int .i64 t342) ∧ w'.cell? ⟨gb346, 0, none⟩ = some (.int .i64 t344) ∧ w'.cell? ⟨gb346, 1, none⟩ = some (.int .i64 t345) ∧ w'.cell? ⟨gb316, 0, none⟩ = some (.int .i64 t318) ∧ w'.cell? ⟨gb316, 1, none⟩ = some (.int .i64 t319) ∧ w'.cell? ⟨gb325, 0, none⟩ = some (.int .i64 t323) ∧ w'.cell? ⟨gb325, 1, none⟩ = some (.int .i64 t324)) (ds := []) #[false, false, false, false, false, false, false, false, false, false, false, false, false, false, false, false, false, false, false, false, false, false, false, false, false, false, false, false, false, false, false, false, false, false, false, false] (by kernel_rfl) rfl rfl ⟨(blk_cell BK343.out 0).trans rfl, (blk_cell BK343.out 1).trans rfl, (blk_cell BK346.out 0).trans rfl, (blk_cell BK346.out 1).trans rfl, (blk_cell BK316.out 0).trans rfl, (blk_cell BK316.out 1).trans rfl, (blk_cell BK325.out 0).trans rfl, (blk_cell BK325.out 1).trans rfl⟩ (fun hHeld => ?_); refine with_tabW bagatellelaw03_VecTurns.tab13 bagatellelaw03_VecTurns.bits13 (fun HT_ HW_ => ?_)
                generalize w94.drew = w95 at BK316 BK322 BK325 BK334 BK343 BK346 HB hHeld ⊢
                refine pure_ (i := 0) (N := some 76) (v := ?_) (a' := ?_) #[true, false, false, false, false, false, false, false, false, false, false, false, false, false, false, false, false, false, false, false, false, false, false, false, false, false, false, false, false, false, false, false, false, false, false, false] rfl rfl (any_of HT_.out (by kernel_rfl)) (fun _ _ _ h => h) (Or.inl ⟨by rfl, ?_⟩) ?_ ?_
                rotate_left
                · intro w'
                  go_simp
                  with_reducible rfl
                rotate_left
                · simp only [Act.put, List.setIfInBounds_toArray, List.set_cons_zero, List.set_cons_succ, i64_w, i32_w]
                  rfl
                refine take_ (i := 1) (N := some 77) (v := ?_) (a' := ?_) #[true, true, false, false, false, false, false, false, false, false, false, false, false, false, false, false, false, false, false, false, false, false, false, false, false, false, false, false, false, false, false, false, false, false, false, false] rfl rfl (take_ofW HT_.out HW_.out (by kernel_rfl)) (fun _ _ _ h => h) (Or.inl ⟨by rfl, ?_⟩) hHeld ?_ ?_
                rotate_left
                · rintro w' ⟨s0, s1, s2, s3, s4, s5, s6, s7⟩
                  go_simp
                  with_reducible rfl
                rotate_left
                · simp only [Act.put, List.setIfInBounds_toArray, List.set_cons_zero, List.set_cons_succ, i64_w, i32_w]
                  rfl
                refine one_ (i := 2) (N := some 78) #[true, true, true, false, false, false, false, false, false, false, false, false, false, false, false, false, false, false, false, false, false, false, false, false, false, false, false, false, false, false, false, false, false, false, false, false] rfl rfl (one_of HT_.out (by kernel_rfl)) (by decide) (fun K hK => ?_)
                refine goes_ Try.func16 (by kernel_rfl) rfl #[.int .i64 t341] (by rfl) rfl rfl (by (try simp only [List.map_toArray, List.map_cons, List.map_nil]); first | done | rfl | (simp only [List.length_drop, List.length_take]; rfl)) ?_
                with_reducible refine (fix_Abs.calls t341 t347 _ A25.out).mono ?_
                rintro e w96 ⟨rfl, hb⟩
                refine ⟨_, rfl, ?_⟩
                have n0_ := Aside0.mk (blk_below (g := gb316) (o := .cells #[.int .i64 t318, .int .i64 t319] 24 (0, 0)) (by (with_reducible repeat (first | refine blk_drewN ?_ _ | refine blk_drew ?_ | refine blk_alloc ?_ _)); exact BK316.out) hb)
                have n1_ := Aside0.mk (blk_below (g := gb322) (o := .cells #[.int .i64 t320, .int .i64 t321] 42 (0, 0)) (by (with_reducible repeat (first | refine blk_drewN ?_ _ | refine blk_drew ?_ | refine blk_alloc ?_ _)); exact BK322.out) hb)
                have n2_ := Aside0.mk (blk_below (g := gb325) (o := .cells #[.int .i64 t323, .int .i64 t324] 24 (0, 0)) (by (with_reducible repeat (first | refine blk_drewN ?_ _ | refine blk_drew ?_ | refine blk_alloc ?_ _)); exact BK325.out) hb)
                have n3_ := Aside0.mk (blk_below (g := gb334) (o := .cells #[.int .i64 t332, .int .i64 t333] 24 (0, 0)) (by (with_reducible repeat (first | refine blk_drewN ?_ _ | refine blk_drew ?_ | refine blk_alloc ?_ _)); exact BK334.out) hb)
                have n4_ := Aside0.mk (blk_below (g := gb343) (o := .cells #[.int .i64 t341, .int .i64 t342] 24 (0, 0)) (by (with_reducible repeat (first | refine blk_drewN ?_ _ | refine blk_drew ?_ | refine blk_alloc ?_ _)); exact BK343.out) hb)
                have n5_ := Aside0.mk (blk_below (g := gb346) (o := .cells #[.int .i64 t344, .int .i64 t345] 42 (0, 0)) (by (with_reducible repeat (first | refine blk_drewN ?_ _ | refine blk_drew ?_ | refine blk_alloc ?_ _)); exact BK346.out) hb)
                have n6_ := Aside0.mk (below_step (by repeat (first | (with_reducible first | exact HB.out | apply below_alloc | apply pw_below_drewN | apply below_drew1 | refine below_set ?_ GE316.out | refine below_set ?_ GE322.out | refine below_set ?_ GE325.out | refine below_set ?_ GE334.out | refine below_set ?_ GE343.out | refine below_set ?_ GE346.out) | exact HB.out)) hb)
                clear BK316
                clear BK322
                clear BK325
                clear BK334
                clear BK343
                clear BK346
                clear HB
                have BK316 := n0_
                have BK322 := n1_
                have BK325 := n2_
                have BK334 := n3_
                have BK343 := n4_
                have BK346 := n5_
                have HB := n6_
                clear n0_ n1_ n2_ n3_ n4_ n5_ n6_
                (try clear hb)
                (try clear hb2)
                (try clear hk)
                (try clear hi)
                refine hK.out _ _ ⟨(blk_cell BK343.out 0).trans rfl, (blk_cell BK343.out 1).trans rfl, (blk_cell BK346.out 0).trans rfl, (blk_cell BK346.out 1).trans rfl, (blk_cell BK316.out 0).trans rfl, (blk_cell BK316.out 1).trans rfl, (blk_cell BK325.out 0).trans rfl, (blk_cell BK325.out 1).trans rfl⟩ (fun hHeld => ?_)
                clear hK K
                refine norm_ (a' := ?_) ?_ ?_
                rotate_left
                · show Act.put _ (some 78) _ = _
                  simp only [Act.put, List.setIfInBounds_toArray, List.set_cons_zero, List.set_cons_succ, i64_w, i32_w]
                  rfl
                refine pure_ (i := 3) (N := some 79) (v := ?_) (a' := ?_) #[true, true, true, true, false, false, false, false, false, false, false, false, false, false, false, false, false, false, false, false, false, false, false, false, false, false, false, false, false, false, false, false, false, false, false, false] rfl rfl (any_of HT_.out (by kernel_rfl)) (fun _ _ _ h => h) (Or.inl ⟨by rfl, ?_⟩) ?_ ?_
                rotate_left
                · intro w'
                  go_simp
                  with_reducible rfl
                rotate_left
                · simp only [Act.put, List.setIfInBounds_toArray, List.set_cons_zero, List.set_cons_succ, i64_w, i32_w]
                  rfl
                refine pure_ (i := 4) (N := some 80) (v := ?_) (a' := ?_) #[true, true, true, true, true, false, false, false, false, false, false, false, false, false, false, false, false, false, false, false, false, false, false, false, false, false, false, false, false, false, false, false, false, false, false, false] rfl rfl (any_of HT_.out (by kernel_rfl)) (fun _ _ _ h => h) (Or.inl ⟨by rfl, ?_⟩) ?_ ?_
                rotate_left
                · intro w'
                  go_simp
                  with_reducible rfl
                rotate_left
                · simp only [Act.put, List.setIfInBounds_toArray, List.set_cons_zero, List.set_cons_succ, i64_w, i32_w]
                  rfl
                refine pure_ (i := 5) (N := some 81) (v := ?_) (a' := ?_) #[true, true, true, true, true, true, false, false, false, false, false, false, false, false, false, false, false, false, false, false, false, false, false, false, false, false, false, false, false, false, false, false, false, false, false, false] rfl rfl (any_of HT_.out (by kernel_rfl)) (fun _ _ _ h => h) (Or.inl ⟨by rfl, ?_⟩) ?_ ?_
                rotate_left
                · intro w'
                  go_simp
                  with_reducible rfl
                rotate_left
                · simp only [Act.put, List.setIfInBounds_toArray, List.set_cons_zero, List.set_cons_succ, i64_w, i32_w]
                  rfl
                refine take_ (i := 6) (N := some 82) (v := ?_) (a' := ?_) #[true, true, true, true, true, true, true, false, false, false, false, false, false, false, false, false, false, false, false, false, false, false, false, false, false, false, false, false, false, false, false, false, false, false, false, false] rfl rfl (take_ofW HT_.out HW_.out (by kernel_rfl)) (fun _ _ _ h => h) (Or.inl ⟨by rfl, ?_⟩) hHeld ?_ ?_
                rotate_left
                · rintro w' ⟨s0, s1, s2, s3, s4, s5, s6, s7⟩
                  go_simp
                  with_reducible rfl
                rotate_left
                · simp only [Act.put, List.setIfInBounds_toArray, List.set_cons_zero, List.set_cons_succ, i64_w, i32_w]
                  rfl
                refine one_ (i := 7) (N := some 83) #[true, true, true, true, true, true, true, true, false, false, false, false, false, false, false, false, false, false, false, false, false, false, false, false, false, false, false, false, false, false, false, false, false, false, false, false] rfl rfl (one_of HT_.out (by kernel_rfl)) (by decide) (fun K hK => ?_)
                refine goes_ Try.func16 (by kernel_rfl) rfl #[.int .i64 t342] (by rfl) rfl rfl (by (try simp only [List.map_toArray, List.map_cons, List.map_nil]); first | done | rfl | (simp only [List.length_drop, List.length_take]; rfl)) ?_
                with_reducible refine (fix_Abs.calls t342 t348 _ A27.out).mono ?_
                rintro e w97 ⟨rfl, hb⟩
                refine ⟨_, rfl, ?_⟩
                have n0_ := Aside0.mk (blk_below (g := gb316) (o := .cells #[.int .i64 t318, .int .i64 t319] 24 (0, 0)) (by (with_reducible repeat (first | refine blk_drewN ?_ _ | refine blk_drew ?_ | refine blk_alloc ?_ _)); exact BK316.out) hb)
                have n1_ := Aside0.mk (blk_below (g := gb322) (o := .cells #[.int .i64 t320, .int .i64 t321] 42 (0, 0)) (by (with_reducible repeat (first | refine blk_drewN ?_ _ | refine blk_drew ?_ | refine blk_alloc ?_ _)); exact BK322.out) hb)
                have n2_ := Aside0.mk (blk_below (g := gb325) (o := .cells #[.int .i64 t323, .int .i64 t324] 24 (0, 0)) (by (with_reducible repeat (first | refine blk_drewN ?_ _ | refine blk_drew ?_ | refine blk_alloc ?_ _)); exact BK325.out) hb)
                have n3_ := Aside0.mk (blk_below (g := gb334) (o := .cells #[.int .i64 t332, .int .i64 t333] 24 (0, 0)) (by (with_reducible repeat (first | refine blk_drewN ?_ _ | refine blk_drew ?_ | refine blk_alloc ?_ _)); exact BK334.out) hb)
                have n4_ := Aside0.mk (blk_below (g := gb343) (o := .cells #[.int .i64 t341, .int .i64 t342] 24 (0, 0)) (by (with_reducible repeat (first | refine blk_drewN ?_ _ | refine blk_drew ?_ | refine blk_alloc ?_ _)); exact BK343.out) hb)
                have n5_ := Aside0.mk (blk_below (g := gb346) (o := .cells #[.int .i64 t344, .int .i64 t345] 42 (0, 0)) (by (with_reducible repeat (first | refine blk_drewN ?_ _ | refine blk_drew ?_ | refine blk_alloc ?_ _)); exact BK346.out) hb)
                have n6_ := Aside0.mk (below_step (by repeat (first | (with_reducible first | exact HB.out | apply below_alloc | apply pw_below_drewN | apply below_drew1 | refine below_set ?_ GE316.out | refine below_set ?_ GE322.out | refine below_set ?_ GE325.out | refine below_set ?_ GE334.out | refine below_set ?_ GE343.out | refine below_set ?_ GE346.out) | exact HB.out)) hb)
                clear BK316
                clear BK322
                clear BK325
                clear BK334
                clear BK343
                clear BK346
                clear HB
                have BK316 := n0_
                have BK322 := n1_
                have BK325 := n2_
                have BK334 := n3_
                have BK343 := n4_
                have BK346 := n5_
                have HB := n6_
                clear n0_ n1_ n2_ n3_ n4_ n5_ n6_
                (try clear hb)
                (try clear hb2)
                (try clear hk)
                (try clear hi)
                refine hK.out _ _ ⟨(blk_cell BK343.out 0).trans rfl, (blk_cell BK343.out 1).trans rfl, (blk_cell BK346.out 0).trans rfl, (blk_cell BK346.out 1).trans rfl, (blk_cell BK316.out 0).trans rfl, (blk_cell BK316.out 1).trans rfl, (blk_cell BK325.out 0).trans rfl, (blk_cell BK325.out 1).trans rfl⟩ (fun hHeld => ?_)
                clear hK K
                refine norm_ (a' := ?_) ?_ ?_
                rotate_left
                · show Act.put _ (some 83) _ = _
                  simp only [Act.put, List.setIfInBounds_toArray, List.set_cons_zero, List.set_cons_succ, i64_w, i32_w]
                  rfl
                refine pure_ (i := 8) (N := some 84) (v := ?_) (a' := ?_) #[true, true, true, true, true, true, true, true, true, false, false, false, false, false, false, false, false, false, false, false, false, false, false, false, false, false, false, false, false, false, false, false, false, false, false, false] rfl rfl (any_of HT_.out (by kernel_rfl)) (fun _ _ _ h => h) (Or.inl ⟨by rfl, ?_⟩) ?_ ?_
                rotate_left
                · intro w'
                  go_simp
                  with_reducible rfl
                rotate_left
                · simp only [Act.put, List.setIfInBounds_toArray, List.set_cons_zero, List.set_cons_succ, i64_w, i32_w]
                  rfl
                refine pure_ (i := 9) (N := some 85) (v := ?_) (a' := ?_) #[true, true, true, true, true, true, true, true, true, true, false, false, false, false, false, false, false, false, false, false, false, false, false, false, false, false, false, false, false, false, false, false, false, false, false, false] rfl rfl (any_of HT_.out (by kernel_rfl)) (fun _ _ _ h => h) (Or.inl ⟨by rfl, ?_⟩) ?_ ?_
                rotate_left
                · intro w'
                  go_simp
                  with_reducible rfl
                rotate_left
                · simp only [Act.put, List.setIfInBounds_toArray, List.set_cons_zero, List.set_cons_succ, i64_w, i32_w]
                  rfl
                refine pure_ (i := 10) (N := some 86) (v := ?_) (a' := ?_) #[true, true, true, true, true, true, true, true, true, true, true, false, false, false, false, false, false, false, false, false, false, false, false, false, false, false, false, false, false, false, false, false, false, false, false, false] rfl rfl (any_of HT_.out (by kernel_rfl)) (fun _ _ _ h => h) (Or.inl ⟨by rfl, ?_⟩) ?_ ?_
                rotate_left
                · intro w'
                  go_simp
                  with_reducible rfl
                rotate_left
                · simp only [Act.put, List.setIfInBounds_toArray, List.set_cons_zero, List.set_cons_succ, i64_w, i32_w]
                  rfl
                refine take_ (i := 11) (N := some 87) (v := ?_) (a' := ?_) #[true, true, true, true, true, true, true, true, true, true, true, true, false, false, false, false, false, false, false, false, false, false, false, false, false, false, false, false, false, false, false, false, false, false, false, false] rfl rfl (take_ofW HT_.out HW_.out (by kernel_rfl)) (fun _ _ _ h => h) (Or.inl ⟨by rfl, ?_⟩) hHeld ?_ ?_
                rotate_left
                · rintro w' ⟨s0, s1, s2, s3, s4, s5, s6, s7⟩
                  go_simp
                  with_reducible rfl
                rotate_left
                · simp only [Act.put, List.setIfInBounds_toArray, List.set_cons_zero, List.set_cons_succ, i64_w, i32_w]
                  rfl
                refine take_ (i := 12) (N := some 88) (v := ?_) (a' := ?_) #[true, true, true, true, true, true, true, true, true, true, true, true, true, false, false, false, false, false, false, false, false, false, false, false, false, false, false, false, false, false, false, false, false, false, false, false] rfl rfl (take_ofW HT_.out HW_.out (by kernel_rfl)) (fun _ _ _ h => h) (Or.inl ⟨by rfl, ?_⟩) hHeld ?_ ?_
                rotate_left
                · rintro w' ⟨s0, s1, s2, s3, s4, s5, s6, s7⟩
                  go_simp
                  with_reducible rfl
                rotate_left
                · simp only [Act.put, List.setIfInBounds_toArray, List.set_cons_zero, List.set_cons_succ, i64_w, i32_w]
                  rfl
                refine take_ (i := 14) (N := some 90) (v := ?_) (a' := ?_) #[true, true, true, true, true, true, true, true, true, true, true, true, true, false, true, false, false, false, false, false, false, false, false, false, false, false, false, false, false, false, false, false, false, false, false, false] rfl rfl (take_ofW HT_.out HW_.out (by kernel_rfl)) (fun _ _ _ h => h) (Or.inl ⟨by rfl, ?_⟩) hHeld ?_ ?_
                rotate_left
                · rintro w' ⟨s0, s1, s2, s3, s4, s5, s6, s7⟩
                  go_simp
                  with_reducible rfl
                rotate_left
                · simp only [Act.put, List.setIfInBounds_toArray, List.set_cons_zero, List.set_cons_succ, i64_w, i32_w]
                  rfl
                refine one_ (i := 13) (N := some 89) #[true, true, true, true, true, true, true, true, true, true, true, true, true, true, true, false, false, false, false, false, false, false, false, false, false, false, false, false, false, false, false, false, false, false, false, false] rfl rfl (one_of HT_.out (by kernel_rfl)) (by decide) (fun K hK => ?_)
                refine goes_ Try.func30 (by kernel_rfl) rfl #[.agg #[.int .i64 t344, .int .i64 t345], .agg #[.int .i64 t318, .int .i64 t319]] (by rfl) rfl rfl (by (try simp only [List.map_toArray, List.map_cons, List.map_nil]); first | done | rfl | (simp only [List.length_drop, List.length_take]; rfl)) ?_
                with_reducible refine (vec_Apply.calls k t344 t345 t318 t319 t349 t350 _ A29.out).mono ?_
                rintro e w98 ⟨rfl, hb⟩
                refine ⟨_, rfl, ?_⟩
                have n0_ := Aside0.mk (blk_below (g := gb316) (o := .cells #[.int .i64 t318, .int .i64 t319] 24 (0, 0)) (by (with_reducible repeat (first | refine blk_drewN ?_ _ | refine blk_drew ?_ | refine blk_alloc ?_ _)); exact BK316.out) hb)
                have n1_ := Aside0.mk (blk_below (g := gb322) (o := .cells #[.int .i64 t320, .int .i64 t321] 42 (0, 0)) (by (with_reducible repeat (first | refine blk_drewN ?_ _ | refine blk_drew ?_ | refine blk_alloc ?_ _)); exact BK322.out) hb)
                have n2_ := Aside0.mk (blk_below (g := gb325) (o := .cells #[.int .i64 t323, .int .i64 t324] 24 (0, 0)) (by (with_reducible repeat (first | refine blk_drewN ?_ _ | refine blk_drew ?_ | refine blk_alloc ?_ _)); exact BK325.out) hb)
                have n3_ := Aside0.mk (blk_below (g := gb334) (o := .cells #[.int .i64 t332, .int .i64 t333] 24 (0, 0)) (by (with_reducible repeat (first | refine blk_drewN ?_ _ | refine blk_drew ?_ | refine blk_alloc ?_ _)); exact BK334.out) hb)
                have n4_ := Aside0.mk (blk_below (g := gb343) (o := .cells #[.int .i64 t341, .int .i64 t342] 24 (0, 0)) (by (with_reducible repeat (first | refine blk_drewN ?_ _ | refine blk_drew ?_ | refine blk_alloc ?_ _)); exact BK343.out) hb)
                have n5_ := Aside0.mk (blk_below (g := gb346) (o := .cells #[.int .i64 t344, .int .i64 t345] 42 (0, 0)) (by (with_reducible repeat (first | refine blk_drewN ?_ _ | refine blk_drew ?_ | refine blk_alloc ?_ _)); exact BK346.out) hb)
                have n6_ := Aside0.mk (below_step (by repeat (first | (with_reducible first | exact HB.out | apply below_alloc | apply pw_below_drewN | apply below_drew1 | refine below_set ?_ GE316.out | refine below_set ?_ GE322.out | refine below_set ?_ GE325.out | refine below_set ?_ GE334.out | refine below_set ?_ GE343.out | refine below_set ?_ GE346.out) | exact HB.out)) hb)
                clear BK316
                clear BK322
                clear BK325
                clear BK334
                clear BK343
                clear BK346
                clear HB
                have BK316 := n0_
                have BK322 := n1_
                have BK325 := n2_
                have BK334 := n3_
                have BK343 := n4_
                have BK346 := n5_
                have HB := n6_
                clear n0_ n1_ n2_ n3_ n4_ n5_ n6_
                (try clear hb)
                (try clear hb2)
                (try clear hk)
                (try clear hi)
                refine hK.out _ _ ⟨(blk_cell BK343.out 0).trans rfl, (blk_cell BK343.out 1).trans rfl, (blk_cell BK346.out 0).trans rfl, (blk_cell BK346.out 1).trans rfl, (blk_cell BK316.out 0).trans rfl, (blk_cell BK316.out 1).trans rfl, (blk_cell BK325.out 0).trans rfl, (blk_cell BK325.out 1).trans rfl⟩ (fun hHeld => ?_)
                clear hK K
                refine norm_ (a' := ?_) ?_ ?_
                rotate_left
                · show Act.put _ (some 89) _ = _
                  simp only [Act.put, List.setIfInBounds_toArray, List.set_cons_zero, List.set_cons_succ, i64_w, i32_w]
                  rfl
                refine one_ (i := 15) (N := some 91) #[true, true, true, true, true, true, true, true, true, true, true, true, true, true, true, true, false, false, false, false, false, false, false, false, false, false, false, false, false, false, false, false, false, false, false, false] rfl rfl (one_of HT_.out (by kernel_rfl)) (by decide) (fun K hK => ?_)
                refine goes_ Try.func27 (by kernel_rfl) rfl #[.agg #[.int .i64 t318, .int .i64 t319]] (by rfl) rfl rfl (by (try simp only [List.map_toArray, List.map_cons, List.map_nil]); first | done | rfl | (simp only [List.length_drop, List.length_take]; rfl)) ?_
                with_reducible refine (vec_Left.calls t318 t319 t351 t352 _ A30.out).mono ?_
                rintro e w99 ⟨rfl, hb⟩
                refine ⟨_, rfl, ?_⟩
                have n0_ := Aside0.mk (blk_below (g := gb316) (o := .cells #[.int .i64 t318, .int .i64 t319] 24 (0, 0)) (by (with_reducible repeat (first | refine blk_drewN ?_ _ | refine blk_drew ?_ | refine blk_alloc ?_ _)); exact BK316.out) hb)
                have n1_ := Aside0.mk (blk_below (g := gb322) (o := .cells #[.int .i64 t320, .int .i64 t321] 42 (0, 0)) (by (with_reducible repeat (first | refine blk_drewN ?_ _ | refine blk_drew ?_ | refine blk_alloc ?_ _)); exact BK322.out) hb)
                have n2_ := Aside0.mk (blk_below (g := gb325) (o := .cells #[.int .i64 t323, .int .i64 t324] 24 (0, 0)) (by (with_reducible repeat (first | refine blk_drewN ?_ _ | refine blk_drew ?_ | refine blk_alloc ?_ _)); exact BK325.out) hb)
                have n3_ := Aside0.mk (blk_below (g := gb334) (o := .cells #[.int .i64 t332, .int .i64 t333] 24 (0, 0)) (by (with_reducible repeat (first | refine blk_drewN ?_ _ | refine blk_drew ?_ | refine blk_alloc ?_ _)); exact BK334.out) hb)
                have n4_ := Aside0.mk (blk_below (g := gb343) (o := .cells #[.int .i64 t341, .int .i64 t342] 24 (0, 0)) (by (with_reducible repeat (first | refine blk_drewN ?_ _ | refine blk_drew ?_ | refine blk_alloc ?_ _)); exact BK343.out) hb)
                have n5_ := Aside0.mk (blk_below (g := gb346) (o := .cells #[.int .i64 t344, .int .i64 t345] 42 (0, 0)) (by (with_reducible repeat (first | refine blk_drewN ?_ _ | refine blk_drew ?_ | refine blk_alloc ?_ _)); exact BK346.out) hb)
                have n6_ := Aside0.mk (below_step (by repeat (first | (with_reducible first | exact HB.out | apply below_alloc | apply pw_below_drewN | apply below_drew1 | refine below_set ?_ GE316.out | refine below_set ?_ GE322.out | refine below_set ?_ GE325.out | refine below_set ?_ GE334.out | refine below_set ?_ GE343.out | refine below_set ?_ GE346.out) | exact HB.out)) hb)
                clear BK316
                clear BK322
                clear BK325
                clear BK334
                clear BK343
                clear BK346
                clear HB
                have BK316 := n0_
                have BK322 := n1_
                have BK325 := n2_
                have BK334 := n3_
                have BK343 := n4_
                have BK346 := n5_
                have HB := n6_
                clear n0_ n1_ n2_ n3_ n4_ n5_ n6_
                (try clear hb)
                (try clear hb2)
                (try clear hk)
                (try clear hi)
                refine hK.out _ _ ⟨(blk_cell BK343.out 0).trans rfl, (blk_cell BK343.out 1).trans rfl, (blk_cell BK346.out 0).trans rfl, (blk_cell BK346.out 1).trans rfl, (blk_cell BK316.out 0).trans rfl, (blk_cell BK316.out 1).trans rfl, (blk_cell BK325.out 0).trans rfl, (blk_cell BK325.out 1).trans rfl⟩ (fun hHeld => ?_)
                clear hK K
                refine norm_ (a' := ?_) ?_ ?_
                rotate_left
                · show Act.put _ (some 91) _ = _
                  simp only [Act.put, List.setIfInBounds_toArray, List.set_cons_zero, List.set_cons_succ, i64_w, i32_w]
                  rfl
                refine pure_ (i := 16) (N := some 92) (v := ?_) (a' := ?_) #[true, true, true, true, true, true, true, true, true, true, true, true, true, true, true, true, true, false, false, false, false, false, false, false, false, false, false, false, false, false, false, false, false, false, false, false] rfl rfl (any_of HT_.out (by kernel_rfl)) (fun _ _ _ h => h) (Or.inl ⟨by rfl, ?_⟩) ?_ ?_
                rotate_left
                · intro w'
                  go_simp
                  with_reducible rfl
                rotate_left
                · simp only [Act.put, List.setIfInBounds_toArray, List.set_cons_zero, List.set_cons_succ, i64_w, i32_w]
                  rfl
                refine pure_ (i := 17) (N := some 93) (v := ?_) (a' := ?_) #[true, true, true, true, true, true, true, true, true, true, true, true, true, true, true, true, true, true, false, false, false, false, false, false, false, false, false, false, false, false, false, false, false, false, false, false] rfl rfl (any_of HT_.out (by kernel_rfl)) (fun _ _ _ h => h) (Or.inl ⟨by rfl, ?_⟩) ?_ ?_
                rotate_left
                · intro w'
                  go_simp
                  with_reducible rfl
                rotate_left
                · simp only [Act.put, List.setIfInBounds_toArray, List.set_cons_zero, List.set_cons_succ, i64_w, i32_w]
                  rfl
                refine pure_ (i := 18) (N := some 94) (v := ?_) (a' := ?_) #[true, true, true, true, true, true, true, true, true, true, true, true, true, true, true, true, true, true, true, false, false, false, false, false, false, false, false, false, false, false, false, false, false, false, false, false] rfl rfl (any_of HT_.out (by kernel_rfl)) (fun _ _ _ h => h) (Or.inl ⟨by rfl, ?_⟩) ?_ ?_
                rotate_left
                · intro w'
                  go_simp
                  with_reducible rfl
                rotate_left
                · simp only [Act.put, List.setIfInBounds_toArray, List.set_cons_zero, List.set_cons_succ, i64_w, i32_w]
                  rfl
                refine take_ (i := 19) (N := some 95) (v := ?_) (a' := ?_) #[true, true, true, true, true, true, true, true, true, true, true, true, true, true, true, true, true, true, true, true, false, false, false, false, false, false, false, false, false, false, false, false, false, false, false, false] rfl rfl (take_ofW HT_.out HW_.out (by kernel_rfl)) (fun _ _ _ h => h) (Or.inl ⟨by rfl, ?_⟩) hHeld ?_ ?_
                rotate_left
                · rintro w' ⟨s0, s1, s2, s3, s4, s5, s6, s7⟩
                  go_simp
                  with_reducible rfl
                rotate_left
                · simp only [Act.put, List.setIfInBounds_toArray, List.set_cons_zero, List.set_cons_succ, i64_w, i32_w]
                  rfl
                refine take_ (i := 20) (N := some 96) (v := ?_) (a' := ?_) #[true, true, true, true, true, true, true, true, true, true, true, true, true, true, true, true, true, true, true, true, true, false, false, false, false, false, false, false, false, false, false, false, false, false, false, false] rfl rfl (take_ofW HT_.out HW_.out (by kernel_rfl)) (fun _ _ _ h => h) (Or.inl ⟨by rfl, ?_⟩) hHeld ?_ ?_
                rotate_left
                · rintro w' ⟨s0, s1, s2, s3, s4, s5, s6, s7⟩
                  go_simp
                  with_reducible rfl
                rotate_left
                · simp only [Act.put, List.setIfInBounds_toArray, List.set_cons_zero, List.set_cons_succ, i64_w, i32_w]
                  rfl
                refine take_ (i := 23) (N := some 99) (v := ?_) (a' := ?_) #[true, true, true, true, true, true, true, true, true, true, true, true, true, true, true, true, true, true, true, true, true, false, false, true, false, false, false, false, false, false, false, false, false, false, false, false] rfl rfl (take_ofW HT_.out HW_.out (by kernel_rfl)) (fun _ _ _ h => h) (Or.inl ⟨by rfl, ?_⟩) hHeld ?_ ?_
                rotate_left
                · rintro w' ⟨s0, s1, s2, s3, s4, s5, s6, s7⟩
                  go_simp
                  with_reducible rfl
                rotate_left
                · simp only [Act.put, List.setIfInBounds_toArray, List.set_cons_zero, List.set_cons_succ, i64_w, i32_w]
                  rfl
                refine one_ (i := 21) (N := some 97) #[true, true, true, true, true, true, true, true, true, true, true, true, true, true, true, true, true, true, true, true, true, true, false, true, false, false, false, false, false, false, false, false, false, false, false, false] rfl rfl (one_of HT_.out (by kernel_rfl)) (by decide) (fun K hK => ?_)
                refine goes_ Try.func27 (by kernel_rfl) rfl #[.agg #[.int .i64 t318, .int .i64 t319]] (by rfl) rfl rfl (by (try simp only [List.map_toArray, List.map_cons, List.map_nil]); first | done | rfl | (simp only [List.length_drop, List.length_take]; rfl)) ?_
                with_reducible refine (vec_Left.calls t318 t319 t353 t354 _ A32.out).mono ?_
                rintro e w100 ⟨rfl, hb⟩
                refine ⟨_, rfl, ?_⟩
                have n0_ := Aside0.mk (blk_below (g := gb316) (o := .cells #[.int .i64 t318, .int .i64 t319] 24 (0, 0)) (by (with_reducible repeat (first | refine blk_drewN ?_ _ | refine blk_drew ?_ | refine blk_alloc ?_ _)); exact BK316.out) hb)
                have n1_ := Aside0.mk (blk_below (g := gb322) (o := .cells #[.int .i64 t320, .int .i64 t321] 42 (0, 0)) (by (with_reducible repeat (first | refine blk_drewN ?_ _ | refine blk_drew ?_ | refine blk_alloc ?_ _)); exact BK322.out) hb)
                have n2_ := Aside0.mk (blk_below (g := gb325) (o := .cells #[.int .i64 t323, .int .i64 t324] 24 (0, 0)) (by (with_reducible repeat (first | refine blk_drewN ?_ _ | refine blk_drew ?_ | refine blk_alloc ?_ _)); exact BK325.out) hb)
                have n3_ := Aside0.mk (blk_below (g := gb334) (o := .cells #[.int .i64 t332, .int .i64 t333] 24 (0, 0)) (by (with_reducible repeat (first | refine blk_drewN ?_ _ | refine blk_drew ?_ | refine blk_alloc ?_ _)); exact BK334.out) hb)
                have n4_ := Aside0.mk (blk_below (g := gb343) (o := .cells #[.int .i64 t341, .int .i64 t342] 24 (0, 0)) (by (with_reducible repeat (first | refine blk_drewN ?_ _ | refine blk_drew ?_ | refine blk_alloc ?_ _)); exact BK343.out) hb)
                have n5_ := Aside0.mk (blk_below (g := gb346) (o := .cells #[.int .i64 t344, .int .i64 t345] 42 (0, 0)) (by (with_reducible repeat (first | refine blk_drewN ?_ _ | refine blk_drew ?_ | refine blk_alloc ?_ _)); exact BK346.out) hb)
                have n6_ := Aside0.mk (below_step (by repeat (first | (with_reducible first | exact HB.out | apply below_alloc | apply pw_below_drewN | apply below_drew1 | refine below_set ?_ GE316.out | refine below_set ?_ GE322.out | refine below_set ?_ GE325.out | refine below_set ?_ GE334.out | refine below_set ?_ GE343.out | refine below_set ?_ GE346.out) | exact HB.out)) hb)
                clear BK316
                clear BK322
                clear BK325
                clear BK334
                clear BK343
                clear BK346
                clear HB
                have BK316 := n0_
                have BK322 := n1_
                have BK325 := n2_
                have BK334 := n3_
                have BK343 := n4_
                have BK346 := n5_
                have HB := n6_
                clear n0_ n1_ n2_ n3_ n4_ n5_ n6_
                (try clear hb)
                (try clear hb2)
                (try clear hk)
                (try clear hi)
                refine hK.out _ _ ⟨(blk_cell BK343.out 0).trans rfl, (blk_cell BK343.out 1).trans rfl, (blk_cell BK346.out 0).trans rfl, (blk_cell BK346.out 1).trans rfl, (blk_cell BK316.out 0).trans rfl, (blk_cell BK316.out 1).trans rfl, (blk_cell BK325.out 0).trans rfl, (blk_cell BK325.out 1).trans rfl⟩ (fun hHeld => ?_)
                clear hK K
                refine norm_ (a' := ?_) ?_ ?_
                rotate_left
                · show Act.put _ (some 97) _ = _
                  simp only [Act.put, List.setIfInBounds_toArray, List.set_cons_zero, List.set_cons_succ, i64_w, i32_w]
                  rfl
                refine one_ (i := 22) (N := some 98) #[true, true, true, true, true, true, true, true, true, true, true, true, true, true, true, true, true, true, true, true, true, true, true, true, false, false, false, false, false, false, false, false, false, false, false, false] rfl rfl (one_of HT_.out (by kernel_rfl)) (by decide) (fun K hK => ?_)
                refine goes_ Try.func31 (by kernel_rfl) rfl #[.agg #[.int .i64 t344, .int .i64 t345], .agg #[.int .i64 t353, .int .i64 t354]] (by rfl) rfl rfl (by (try simp only [List.map_toArray, List.map_cons, List.map_nil]); first | done | rfl | (simp only [List.length_drop, List.length_take]; rfl)) ?_
                with_reducible refine (vec_Back.calls k t344 t345 t353 t354 t355 t356 _ A33.out).mono ?_
                rintro e w101 ⟨rfl, hb⟩
                refine ⟨_, rfl, ?_⟩
                have n0_ := Aside0.mk (blk_below (g := gb316) (o := .cells #[.int .i64 t318, .int .i64 t319] 24 (0, 0)) (by (with_reducible repeat (first | refine blk_drewN ?_ _ | refine blk_drew ?_ | refine blk_alloc ?_ _)); exact BK316.out) hb)
                have n1_ := Aside0.mk (blk_below (g := gb322) (o := .cells #[.int .i64 t320, .int .i64 t321] 42 (0, 0)) (by (with_reducible repeat (first | refine blk_drewN ?_ _ | refine blk_drew ?_ | refine blk_alloc ?_ _)); exact BK322.out) hb)
                have n2_ := Aside0.mk (blk_below (g := gb325) (o := .cells #[.int .i64 t323, .int .i64 t324] 24 (0, 0)) (by (with_reducible repeat (first | refine blk_drewN ?_ _ | refine blk_drew ?_ | refine blk_alloc ?_ _)); exact BK325.out) hb)
                have n3_ := Aside0.mk (blk_below (g := gb334) (o := .cells #[.int .i64 t332, .int .i64 t333] 24 (0, 0)) (by (with_reducible repeat (first | refine blk_drewN ?_ _ | refine blk_drew ?_ | refine blk_alloc ?_ _)); exact BK334.out) hb)
                have n4_ := Aside0.mk (blk_below (g := gb343) (o := .cells #[.int .i64 t341, .int .i64 t342] 24 (0, 0)) (by (with_reducible repeat (first | refine blk_drewN ?_ _ | refine blk_drew ?_ | refine blk_alloc ?_ _)); exact BK343.out) hb)
                have n5_ := Aside0.mk (blk_below (g := gb346) (o := .cells #[.int .i64 t344, .int .i64 t345] 42 (0, 0)) (by (with_reducible repeat (first | refine blk_drewN ?_ _ | refine blk_drew ?_ | refine blk_alloc ?_ _)); exact BK346.out) hb)
                have n6_ := Aside0.mk (below_step (by repeat (first | (with_reducible first | exact HB.out | apply below_alloc | apply pw_below_drewN | apply below_drew1 | refine below_set ?_ GE316.out | refine below_set ?_ GE322.out | refine below_set ?_ GE325.out | refine below_set ?_ GE334.out | refine below_set ?_ GE343.out | refine below_set ?_ GE346.out) | exact HB.out)) hb)
                clear BK316
                clear BK322
                clear BK325
                clear BK334
                clear BK343
                clear BK346
                clear HB
                have BK316 := n0_
                have BK322 := n1_
                have BK325 := n2_
                have BK334 := n3_
                have BK343 := n4_
                have BK346 := n5_
                have HB := n6_
                clear n0_ n1_ n2_ n3_ n4_ n5_ n6_
                (try clear hb)
                (try clear hb2)
                (try clear hk)
                (try clear hi)
                refine hK.out _ _ ⟨(blk_cell BK343.out 0).trans rfl, (blk_cell BK343.out 1).trans rfl, (blk_cell BK346.out 0).trans rfl, (blk_cell BK346.out 1).trans rfl, (blk_cell BK316.out 0).trans rfl, (blk_cell BK316.out 1).trans rfl, (blk_cell BK325.out 0).trans rfl, (blk_cell BK325.out 1).trans rfl⟩ (fun hHeld => ?_)
                clear hK K
                refine norm_ (a' := ?_) ?_ ?_
                rotate_left
                · show Act.put _ (some 98) _ = _
                  simp only [Act.put, List.setIfInBounds_toArray, List.set_cons_zero, List.set_cons_succ, i64_w, i32_w]
                  rfl
                refine pure_ (i := 24) (N := some 100) (v := ?_) (a' := ?_) #[true, true, true, true, true, true, true, true, true, true, true, true, true, true, true, true, true, true, true, true, true, true, true, true, true, false, false, false, false, false, false, false, false, false, false, false] rfl rfl (any_of HT_.out (by kernel_rfl)) (fun _ _ _ h => h) (Or.inl ⟨by rfl, ?_⟩) ?_ ?_
                rotate_left
                · intro w'
                  go_simp
                  with_reducible rfl
                rotate_left
                · simp only [Act.put, List.setIfInBounds_toArray, List.set_cons_zero, List.set_cons_succ, i64_w, i32_w]
                  rfl
                refine pure_ (i := 25) (N := some 101) (v := ?_) (a' := ?_) #[true, true, true, true, true, true, true, true, true, true, true, true, true, true, true, true, true, true, true, true, true, true, true, true, true, true, false, false, false, false, false, false, false, false, false, false] rfl rfl (any_of HT_.out (by kernel_rfl)) (fun _ _ _ h => h) (Or.inl ⟨by rfl, ?_⟩) ?_ ?_
                rotate_left
                · intro w'
                  go_simp
                  with_reducible rfl
                rotate_left
                · simp only [Act.put, List.setIfInBounds_toArray, List.set_cons_zero, List.set_cons_succ, i64_w, i32_w]
                  rfl
                refine pure_ (i := 26) (N := some 102) (v := ?_) (a' := ?_) #[true, true, true, true, true, true, true, true, true, true, true, true, true, true, true, true, true, true, true, true, true, true, true, true, true, true, true, false, false, false, false, false, false, false, false, false] rfl rfl (any_of HT_.out (by kernel_rfl)) (fun _ _ _ h => h) (Or.inl ⟨by rfl, ?_⟩) ?_ ?_
                rotate_left
                · intro w'
                  go_simp
                  with_reducible rfl
                rotate_left
                · simp only [Act.put, List.setIfInBounds_toArray, List.set_cons_zero, List.set_cons_succ, i64_w, i32_w]
                  rfl
                refine take_ (i := 27) (N := some 103) (v := ?_) (a' := ?_) #[true, true, true, true, true, true, true, true, true, true, true, true, true, true, true, true, true, true, true, true, true, true, true, true, true, true, true, true, false, false, false, false, false, false, false, false] rfl rfl (take_ofW HT_.out HW_.out (by kernel_rfl)) (fun _ _ _ h => h) (Or.inl ⟨by rfl, ?_⟩) hHeld ?_ ?_
                rotate_left
                · rintro w' ⟨s0, s1, s2, s3, s4, s5, s6, s7⟩
                  go_simp
                  with_reducible rfl
                rotate_left
                · simp only [Act.put, List.setIfInBounds_toArray, List.set_cons_zero, List.set_cons_succ, i64_w, i32_w]
                  rfl
                refine take_ (i := 29) (N := some 105) (v := ?_) (a' := ?_) #[true, true, true, true, true, true, true, true, true, true, true, true, true, true, true, true, true, true, true, true, true, true, true, true, true, true, true, true, false, true, false, false, false, false, false, false] rfl rfl (take_ofW HT_.out HW_.out (by kernel_rfl)) (fun _ _ _ h => h) (Or.inl ⟨by rfl, ?_⟩) hHeld ?_ ?_
                rotate_left
                · rintro w' ⟨s0, s1, s2, s3, s4, s5, s6, s7⟩
                  go_simp
                  with_reducible rfl
                rotate_left
                · simp only [Act.put, List.setIfInBounds_toArray, List.set_cons_zero, List.set_cons_succ, i64_w, i32_w]
                  rfl
                refine one_ (i := 28) (N := some 104) #[true, true, true, true, true, true, true, true, true, true, true, true, true, true, true, true, true, true, true, true, true, true, true, true, true, true, true, true, true, true, false, false, false, false, false, false] rfl rfl (one_of HT_.out (by kernel_rfl)) (by decide) (fun K hK => ?_)
                refine goes_ Try.func11 (by kernel_rfl) rfl #[.agg #[.int .i64 t323, .int .i64 t324]] (by rfl) rfl rfl (by (try simp only [List.map_toArray, List.map_cons, List.map_nil]); first | done | rfl | (simp only [List.length_drop, List.length_take]; rfl)) ?_
                with_reducible refine (vec_Len.calls k t323 t324 t357 _ A35.out).mono ?_
                rintro e w102 ⟨rfl, hb⟩
                refine ⟨_, rfl, ?_⟩
                have n0_ := Aside0.mk (blk_below (g := gb316) (o := .cells #[.int .i64 t318, .int .i64 t319] 24 (0, 0)) (by (with_reducible repeat (first | refine blk_drewN ?_ _ | refine blk_drew ?_ | refine blk_alloc ?_ _)); exact BK316.out) hb)
                have n1_ := Aside0.mk (blk_below (g := gb322) (o := .cells #[.int .i64 t320, .int .i64 t321] 42 (0, 0)) (by (with_reducible repeat (first | refine blk_drewN ?_ _ | refine blk_drew ?_ | refine blk_alloc ?_ _)); exact BK322.out) hb)
                have n2_ := Aside0.mk (blk_below (g := gb325) (o := .cells #[.int .i64 t323, .int .i64 t324] 24 (0, 0)) (by (with_reducible repeat (first | refine blk_drewN ?_ _ | refine blk_drew ?_ | refine blk_alloc ?_ _)); exact BK325.out) hb)
                have n3_ := Aside0.mk (blk_below (g := gb334) (o := .cells #[.int .i64 t332, .int .i64 t333] 24 (0, 0)) (by (with_reducible repeat (first | refine blk_drewN ?_ _ | refine blk_drew ?_ | refine blk_alloc ?_ _)); exact BK334.out) hb)
                have n4_ := Aside0.mk (blk_below (g := gb343) (o := .cells #[.int .i64 t341, .int .i64 t342] 24 (0, 0)) (by (with_reducible repeat (first | refine blk_drewN ?_ _ | refine blk_drew ?_ | refine blk_alloc ?_ _)); exact BK343.out) hb)
                have n5_ := Aside0.mk (blk_below (g := gb346) (o := .cells #[.int .i64 t344, .int .i64 t345] 42 (0, 0)) (by (with_reducible repeat (first | refine blk_drewN ?_ _ | refine blk_drew ?_ | refine blk_alloc ?_ _)); exact BK346.out) hb)
                have n6_ := Aside0.mk (below_step (by repeat (first | (with_reducible first | exact HB.out | apply below_alloc | apply pw_below_drewN | apply below_drew1 | refine below_set ?_ GE316.out | refine below_set ?_ GE322.out | refine below_set ?_ GE325.out | refine below_set ?_ GE334.out | refine below_set ?_ GE343.out | refine below_set ?_ GE346.out) | exact HB.out)) hb)
                clear BK316
                clear BK322
                clear BK325
                clear BK334
                clear BK343
                clear BK346
                clear HB
                have BK316 := n0_
                have BK322 := n1_
                have BK325 := n2_
                have BK334 := n3_
                have BK343 := n4_
                have BK346 := n5_
                have HB := n6_
                clear n0_ n1_ n2_ n3_ n4_ n5_ n6_
                (try clear hb)
                (try clear hb2)
                (try clear hk)
                (try clear hi)
                refine hK.out _ _ ⟨(blk_cell BK343.out 0).trans rfl, (blk_cell BK343.out 1).trans rfl, (blk_cell BK346.out 0).trans rfl, (blk_cell BK346.out 1).trans rfl, (blk_cell BK316.out 0).trans rfl, (blk_cell BK316.out 1).trans rfl, (blk_cell BK325.out 0).trans rfl, (blk_cell BK325.out 1).trans rfl⟩ (fun hHeld => ?_)
                clear hK K
                refine norm_ (a' := ?_) ?_ ?_
                rotate_left
                · show Act.put _ (some 104) _ = _
                  simp only [Act.put, List.setIfInBounds_toArray, List.set_cons_zero, List.set_cons_succ, i64_w, i32_w]
                  rfl
                refine one_ (i := 30) (N := some 106) #[true, true, true, true, true, true, true, true, true, true, true, true, true, true, true, true, true, true, true, true, true, true, true, true, true, true, true, true, true, true, true, false, false, false, false, false] rfl rfl (one_of HT_.out (by kernel_rfl)) (by decide) (fun K hK => ?_)
                refine goes_ Try.func11 (by kernel_rfl) rfl #[.agg #[.int .i64 t318, .int .i64 t319]] (by rfl) rfl rfl (by (try simp only [List.map_toArray, List.map_cons, List.map_nil]); first | done | rfl | (simp only [List.length_drop, List.length_take]; rfl)) ?_
                with_reducible refine (vec_Len.calls k t318 t319 t358 _ A36.out).mono ?_
                rintro e w103 ⟨rfl, hb⟩
                refine ⟨_, rfl, ?_⟩
                have n0_ := Aside0.mk (blk_below (g := gb316) (o := .cells #[.int .i64 t318, .int .i64 t319] 24 (0, 0)) (by (with_reducible repeat (first | refine blk_drewN ?_ _ | refine blk_drew ?_ | refine blk_alloc ?_ _)); exact BK316.out) hb)
                have n1_ := Aside0.mk (blk_below (g := gb322) (o := .cells #[.int .i64 t320, .int .i64 t321] 42 (0, 0)) (by (with_reducible repeat (first | refine blk_drewN ?_ _ | refine blk_drew ?_ | refine blk_alloc ?_ _)); exact BK322.out) hb)
                have n2_ := Aside0.mk (blk_below (g := gb325) (o := .cells #[.int .i64 t323, .int .i64 t324] 24 (0, 0)) (by (with_reducible repeat (first | refine blk_drewN ?_ _ | refine blk_drew ?_ | refine blk_alloc ?_ _)); exact BK325.out) hb)
                have n3_ := Aside0.mk (blk_below (g := gb334) (o := .cells #[.int .i64 t332, .int .i64 t333] 24 (0, 0)) (by (with_reducible repeat (first | refine blk_drewN ?_ _ | refine blk_drew ?_ | refine blk_alloc ?_ _)); exact BK334.out) hb)
                have n4_ := Aside0.mk (blk_below (g := gb343) (o := .cells #[.int .i64 t341, .int .i64 t342] 24 (0, 0)) (by (with_reducible repeat (first | refine blk_drewN ?_ _ | refine blk_drew ?_ | refine blk_alloc ?_ _)); exact BK343.out) hb)
                have n5_ := Aside0.mk (blk_below (g := gb346) (o := .cells #[.int .i64 t344, .int .i64 t345] 42 (0, 0)) (by (with_reducible repeat (first | refine blk_drewN ?_ _ | refine blk_drew ?_ | refine blk_alloc ?_ _)); exact BK346.out) hb)
                have n6_ := Aside0.mk (below_step (by repeat (first | (with_reducible first | exact HB.out | apply below_alloc | apply pw_below_drewN | apply below_drew1 | refine below_set ?_ GE316.out | refine below_set ?_ GE322.out | refine below_set ?_ GE325.out | refine below_set ?_ GE334.out | refine below_set ?_ GE343.out | refine below_set ?_ GE346.out) | exact HB.out)) hb)
                clear BK316
                clear BK322
                clear BK325
                clear BK334
                clear BK343
                clear BK346
                clear HB
                have BK316 := n0_
                have BK322 := n1_
                have BK325 := n2_
                have BK334 := n3_
                have BK343 := n4_
                have BK346 := n5_
                have HB := n6_
                clear n0_ n1_ n2_ n3_ n4_ n5_ n6_
                (try clear hb)
                (try clear hb2)
                (try clear hk)
                (try clear hi)
                refine hK.out _ _ ⟨(blk_cell BK343.out 0).trans rfl, (blk_cell BK343.out 1).trans rfl, (blk_cell BK346.out 0).trans rfl, (blk_cell BK346.out 1).trans rfl, (blk_cell BK316.out 0).trans rfl, (blk_cell BK316.out 1).trans rfl, (blk_cell BK325.out 0).trans rfl, (blk_cell BK325.out 1).trans rfl⟩ (fun hHeld => ?_)
                clear hK K
                refine norm_ (a' := ?_) ?_ ?_
                rotate_left
                · show Act.put _ (some 106) _ = _
                  simp only [Act.put, List.setIfInBounds_toArray, List.set_cons_zero, List.set_cons_succ, i64_w, i32_w]
                  rfl
                refine pure_ (i := 31) (N := some 107) (v := ?_) (a' := ?_) #[true, true, true, true, true, true, true, true, true, true, true, true, true, true, true, true, true, true, true, true, true, true, true, true, true, true, true, true, true, true, true, true, false, false, false, false] rfl rfl (any_of HT_.out (by kernel_rfl)) (fun _ _ _ h => h) (Or.inl ⟨by rfl, ?_⟩) ?_ ?_
                rotate_left
                · intro w'
                  go_simp
                  with_reducible rfl
                rotate_left
                · simp only [Act.put, List.setIfInBounds_toArray, List.set_cons_zero, List.set_cons_succ, i64_w, i32_w]
                  rfl
                refine one_ (i := 32) (N := some 108) #[true, true, true, true, true, true, true, true, true, true, true, true, true, true, true, true, true, true, true, true, true, true, true, true, true, true, true, true, true, true, true, true, true, false, false, false] rfl rfl (one_of HT_.out (by kernel_rfl)) (by decide) (fun K hK => ?_)
                refine goes_ Try.func16 (by kernel_rfl) rfl #[.int .i64 (wrap64 (t357 - t358))] (by rfl) rfl rfl (by (try simp only [List.map_toArray, List.map_cons, List.map_nil]); first | done | rfl | (simp only [List.length_drop, List.length_take]; rfl)) ?_
                with_reducible refine (fix_Abs.calls (wrap64 (t357 - t358)) t359 _ A37.out).mono ?_
                rintro e w104 ⟨rfl, hb⟩
                refine ⟨_, rfl, ?_⟩
                have n0_ := Aside0.mk (blk_below (g := gb316) (o := .cells #[.int .i64 t318, .int .i64 t319] 24 (0, 0)) (by (with_reducible repeat (first | refine blk_drewN ?_ _ | refine blk_drew ?_ | refine blk_alloc ?_ _)); exact BK316.out) hb)
                have n1_ := Aside0.mk (blk_below (g := gb322) (o := .cells #[.int .i64 t320, .int .i64 t321] 42 (0, 0)) (by (with_reducible repeat (first | refine blk_drewN ?_ _ | refine blk_drew ?_ | refine blk_alloc ?_ _)); exact BK322.out) hb)
                have n2_ := Aside0.mk (blk_below (g := gb325) (o := .cells #[.int .i64 t323, .int .i64 t324] 24 (0, 0)) (by (with_reducible repeat (first | refine blk_drewN ?_ _ | refine blk_drew ?_ | refine blk_alloc ?_ _)); exact BK325.out) hb)
                have n3_ := Aside0.mk (blk_below (g := gb334) (o := .cells #[.int .i64 t332, .int .i64 t333] 24 (0, 0)) (by (with_reducible repeat (first | refine blk_drewN ?_ _ | refine blk_drew ?_ | refine blk_alloc ?_ _)); exact BK334.out) hb)
                have n4_ := Aside0.mk (blk_below (g := gb343) (o := .cells #[.int .i64 t341, .int .i64 t342] 24 (0, 0)) (by (with_reducible repeat (first | refine blk_drewN ?_ _ | refine blk_drew ?_ | refine blk_alloc ?_ _)); exact BK343.out) hb)
                have n5_ := Aside0.mk (blk_below (g := gb346) (o := .cells #[.int .i64 t344, .int .i64 t345] 42 (0, 0)) (by (with_reducible repeat (first | refine blk_drewN ?_ _ | refine blk_drew ?_ | refine blk_alloc ?_ _)); exact BK346.out) hb)
                have n6_ := Aside0.mk (below_step (by repeat (first | (with_reducible first | exact HB.out | apply below_alloc | apply pw_below_drewN | apply below_drew1 | refine below_set ?_ GE316.out | refine below_set ?_ GE322.out | refine below_set ?_ GE325.out | refine below_set ?_ GE334.out | refine below_set ?_ GE343.out | refine below_set ?_ GE346.out) | exact HB.out)) hb)
                clear BK316
                clear BK322
                clear BK325
                clear BK334
                clear BK343
                clear BK346
                clear HB
                have BK316 := n0_
                have BK322 := n1_
                have BK325 := n2_
                have BK334 := n3_
                have BK343 := n4_
                have BK346 := n5_
                have HB := n6_
                clear n0_ n1_ n2_ n3_ n4_ n5_ n6_
                (try clear hb)
                (try clear hb2)
                (try clear hk)
                (try clear hi)
                refine hK.out _ _ ⟨(blk_cell BK343.out 0).trans rfl, (blk_cell BK343.out 1).trans rfl, (blk_cell BK346.out 0).trans rfl, (blk_cell BK346.out 1).trans rfl, (blk_cell BK316.out 0).trans rfl, (blk_cell BK316.out 1).trans rfl, (blk_cell BK325.out 0).trans rfl, (blk_cell BK325.out 1).trans rfl⟩ (fun hHeld => ?_)
                clear hK K
                refine norm_ (a' := ?_) ?_ ?_
                rotate_left
                · show Act.put _ (some 108) _ = _
                  simp only [Act.put, List.setIfInBounds_toArray, List.set_cons_zero, List.set_cons_succ, i64_w, i32_w]
                  rfl
                refine pure_ (i := 33) (N := some 109) (v := ?_) (a' := ?_) #[true, true, true, true, true, true, true, true, true, true, true, true, true, true, true, true, true, true, true, true, true, true, true, true, true, true, true, true, true, true, true, true, true, true, false, false] rfl rfl (any_of HT_.out (by kernel_rfl)) (fun _ _ _ h => h) (Or.inl ⟨by rfl, ?_⟩) ?_ ?_
                rotate_left
                · intro w'
                  go_simp
                  with_reducible rfl
                rotate_left
                · simp only [Act.put, List.setIfInBounds_toArray, List.set_cons_zero, List.set_cons_succ, i64_w, i32_w]
                  rfl
                refine pure_ (i := 34) (N := some 110) (v := ?_) (a' := ?_) #[true, true, true, true, true, true, true, true, true, true, true, true, true, true, true, true, true, true, true, true, true, true, true, true, true, true, true, true, true, true, true, true, true, true, true, false] rfl rfl (any_of HT_.out (by kernel_rfl)) (fun _ _ _ h => h) (Or.inl ⟨by rfl, ?_⟩) ?_ ?_
                rotate_left
                · intro w'
                  go_simp
                  with_reducible rfl
                rotate_left
                · simp only [Act.put, List.setIfInBounds_toArray, List.set_cons_zero, List.set_cons_succ, i64_w, i32_w]
                  rfl
                refine pure_ (i := 35) (N := some 4) (v := ?_) (a' := ?_) #[true, true, true, true, true, true, true, true, true, true, true, true, true, true, true, true, true, true, true, true, true, true, true, true, true, true, true, true, true, true, true, true, true, true, true, true] rfl rfl (any_of HT_.out (by kernel_rfl)) (fun _ _ _ h => h) (Or.inl ⟨by rfl, ?_⟩) ?_ ?_
                rotate_left
                · intro w'
                  go_simp
                  with_reducible rfl
                rotate_left
                · simp only [Act.put, List.setIfInBounds_toArray, List.set_cons_zero, List.set_cons_succ, i64_w, i32_w]
                  rfl
                refine done_ (done_of HT_.out (by kernel_rfl)) ?_
                try go_wp2
                go_ret
                exact ⟨by first | rfl | (simp [errW_none, errW_some] <;> rfl) | (simp [*, errW_none, errW_some] <;> rfl) | (simp [wrap64]; done) | (congr 2 <;> first | rfl | (unfold wrap64; omega)), by repeat (first | (with_reducible first | exact HB.out | apply below_alloc | apply pw_below_drewN | apply below_drew1 | refine below_set ?_ GE316.out | refine below_set ?_ GE322.out | refine below_set ?_ GE325.out | refine below_set ?_ GE334.out | refine below_set ?_ GE343.out | refine below_set ?_ GE346.out) | exact HB.out)⟩
              · rw [if_neg c34] at H
                exact absurd H (by simp)
            · rw [if_neg c31] at H
              exact absurd H (by simp)
          · rw [if_neg c28] at H
            exact absurd H (by simp)
        · rw [if_neg c26] at H
          exact absurd H (by simp)
  · replace c4 := Bool.eq_false_iff.mpr c4
    subst c4
    have H1 : (none) = some r := by rw [if_neg (show ¬ (false = true) by decide)] at H; exact H
    clear H
    have H := H1
    clear H1
    exact absurd H (by simp)

/-- The one pure statement of bagatellelaw03_VecTurns. -/
def bagatellelaw03_VecTurns.Pure : Prop := ∀ (a0_0 : Int) (a0_1 : Int) (a1 : Int), (Lit.int .i64 a0_0).wf = true → (Lit.int .i64 a0_1).wf = true → (Lit.int .i64 a1).wf = true → ∃ k, bagatellelaw03_VecTurns.f k a0_0 a0_1 a1 = some true
theorem bagatellelaw03_VecTurns.walk (P : bagatellelaw03_VecTurns.Pure) (a0_0 : Int) (a0_1 : Int) (a1 : Int) (w : World) (w0_0 : (Lit.int .i64 a0_0).wf = true) (w0_1 : (Lit.int .i64 a0_1).wf = true) (w1 : (Lit.int .i64 a1).wf = true) :
    Calls Try.prog 7 #[.agg #[.int .i64 a0_0, .int .i64 a0_1], .int .i64 a1] w fun e w' => e = .returned (.bool true) ∧ Below w.heap.size w w' := by
  obtain ⟨k, h⟩ := P a0_0 a0_1 a1 w0_0 w0_1 w1
  refine (bagatellelaw03_VecTurns.calls k a0_0 a0_1 a1 true w h).mono ?_
  rintro e w' ⟨rfl, hd⟩
  exact ⟨rfl, hd⟩

end Go.Proofs.Ytfdjpjainjjljaa.PVe
