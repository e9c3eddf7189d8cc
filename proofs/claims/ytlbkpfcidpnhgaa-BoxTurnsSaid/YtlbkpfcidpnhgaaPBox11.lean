-- Printed by a program of this session (wip/tools/myprint.py) out of the translation; Lean checks it.
import Derived.Test.YtlbkpfcidpnhgaaPBox0
import Derived.Test.YtlbkpfcidpnhgaaPBox2
import Derived.Test.YtlbkpfcidpnhgaaPBox3
import Derived.Test.YtlbkpfcidpnhgaaPBox4
import Derived.Test.YtlbkpfcidpnhgaaPBox6
import Derived.Test.YtlbkpfcidpnhgaaPBox8
import Derived.Test.YtlbkpfcidpnhgaaPBox10
namespace Go.Proofs.Ytlbkpfcidpnhgaa.PBo
open Go.RowKit Go.Proofs.YtlbkpfcidpnhgaaW.PrintWords Go.Proofs.YtlbkpfcidpnhgaaW.PrintLast Go.Proofs.YtlbkpfcidpnhgaaW.PrintMore
attribute [local go_sem] max2_int min2_int max_two min_two max_three min_three max_four min_four   -- for this text's walks alone
set_option linter.unusedVariables false
set_option linter.unusedSimpArgs false

attribute [local go_sem high] eqA26
/-! ### bagatellelaw06_BoxTurns: function 5 -/
theorem bl5 {W0 W : World} {g : Nat} {o : Obj} (b : Aside0 (W0.heap[g]? = some o)) (h : W.heap[g]? = some o := by (with_reducible repeat (first | refine blk_drewN ?_ _ | refine blk_drew ?_ | refine blk_alloc ?_ _)); with_reducible exact Aside0.out (by assumption)) : W.heap[g]? = some o := h
theorem bc5 {W : World} {g : Nat} {t : TypeId} {cs : Array Value} {v : Value} (h : Aside0 (W.heap[g]? = some (.cells cs t (0, 0)))) (i : Nat) (hv : cs[i]? = some v := by rfl) : W.cell? ⟨g, i, none⟩ = some v := (blk_cell h.out i).trans hv
theorem bw5 {w W : World} (h : Below w.heap.size w W := by repeat (first | (with_reducible exact Aside0.out (by assumption)) | with_reducible apply below_alloc | with_reducible apply pw_below_drewN | with_reducible apply below_drew1 | with_reducible refine below_set ?_ (Aside0.out (by assumption)))) : Below w.heap.size w W := h
abbrev O5 : Bool := false
abbrev I5 : Bool := true
def bagatellelaw06_BoxTurns.j0 : Nat → Int → Bool → Int → Int → Int → Int → Int → Int → Int → Int → Int → Int → List (S24) → Int → Int → Int → Int → Int → Int → Int → Int → Option (Bool)
 | 0, _, _, _, _, _, _, _, _, _, _, _, _, _, _, _, _, _, _, _, _, _ => none
 | k + 1, x1, x35, x302000, x302001, x302002, x302003, x302004, x302005, x302006, x302007, x302008, x302009, x302010, x312000, x312001, x312002, x312003, x313000, x313001, x313002, x313003 => if x35 = true then (some ((x312000 == x313000 && (x312001 == x313001)) && ((x312002 == x313002 && (x312003 == x313003))))) else (if (Int.tmod x1 4) = 2 then ((vec_Sub.f k x312002 x312003 x302001 x302002).bind fun bt314 => ((vec_Sub.f k x302001 x302002 x313000 x313001).bind fun bt316 => ((fix_Abs.f (wrap64 (bt314.1 - bt316.1))).bind fun t318 => (if t318 < 8 then ((vec_Sub.f k x312002 x312003 x302001 x302002).bind fun bt319 => ((vec_Sub.f k x302001 x302002 x313000 x313001).bind fun bt321 => ((fix_Abs.f (wrap64 (bt319.2 - bt321.2))).bind fun t323 => (some (decide (t323 < 8)))))) else (none))))) else ((box_Meet.f x312000 x312001 x312002 x312003 x313000 x313001 x313002 x313003).bind fun t313 => (some t313)))
def bagatellelaw06_BoxTurns.f (k : Nat) (a0_0 : Int) (a0_1 : Int) (a0_2 : Int) (a0_3 : Int) (a0_4 : Int) (a0_5 : Int) (a0_6 : Int) (a1 : Int) : Option (Bool) := (bagatellelaw06_fit.f k).bind fun t287 => (if t287 = true then ((bagatellelaw06_Place_Body.f k a0_0 a0_1 a0_2 a0_3 a0_4 a0_5 a0_6).bind fun bt288 => ((box_Of.f k bt288.1 bt288.2.1 bt288.2.2.1 bt288.2.2.2.1 bt288.2.2.2.2.1 bt288.2.2.2.2.2.1 bt288.2.2.2.2.2.2.1 bt288.2.2.2.2.2.2.2.1 bt288.2.2.2.2.2.2.2.2.1 bt288.2.2.2.2.2.2.2.2.2.1 bt288.2.2.2.2.2.2.2.2.2.2).bind fun bt303 => ((box_Of.f k bt288.1 bt288.2.1 bt288.2.2.1 bt288.2.2.2.1 bt288.2.2.2.2.1 (Go.bits .and .i64 (wrap64 (bt288.2.2.2.2.2.1 + (wrap64 (Int.tdiv (wrap64 ((wrap64 (a1)) * 4294967296)) 4)))) 4294967295) bt288.2.2.2.2.2.2.1 bt288.2.2.2.2.2.2.2.1 bt288.2.2.2.2.2.2.2.2.1 bt288.2.2.2.2.2.2.2.2.2.1 bt288.2.2.2.2.2.2.2.2.2.2).bind fun bt307 => (if bt288.2.2.2.2.2.2.2.2.1 = 1 then (bagatellelaw06_BoxTurns.j0 k a1 true bt288.1 bt288.2.1 bt288.2.2.1 bt288.2.2.2.1 bt288.2.2.2.2.1 bt288.2.2.2.2.2.1 bt288.2.2.2.2.2.2.1 bt288.2.2.2.2.2.2.2.1 bt288.2.2.2.2.2.2.2.2.1 bt288.2.2.2.2.2.2.2.2.2.1 bt288.2.2.2.2.2.2.2.2.2.2 bt303.1 bt303.2.1 bt303.2.2.1 bt303.2.2.2 bt307.1 bt307.2.1 bt307.2.2.1 bt307.2.2.2) else (bagatellelaw06_BoxTurns.j0 k a1 ((Int.tmod a1 4) == 0) bt288.1 bt288.2.1 bt288.2.2.1 bt288.2.2.2.1 bt288.2.2.2.2.1 bt288.2.2.2.2.2.1 bt288.2.2.2.2.2.2.1 bt288.2.2.2.2.2.2.2.1 bt288.2.2.2.2.2.2.2.2.1 bt288.2.2.2.2.2.2.2.2.2.1 bt288.2.2.2.2.2.2.2.2.2.2 bt303.1 bt303.2.1 bt303.2.2.1 bt303.2.2.2 bt307.1 bt307.2.1 bt307.2.2.1 bt307.2.2.2))))) else (none))
theorem bagatellelaw06_BoxTurns.mono_l : ∀ k, (∀ y0 y1 y2 y3 y4 y5 y6 y7 y8 y9 y10 y11 y12 y13 y14 y15 y16 y17 y18 y19 y20, LeO (bagatellelaw06_BoxTurns.j0 k y0 y1 y2 y3 y4 y5 y6 y7 y8 y9 y10 y11 y12 y13 y14 y15 y16 y17 y18 y19 y20) (bagatellelaw06_BoxTurns.j0 (k + 1) y0 y1 y2 y3 y4 y5 y6 y7 y8 y9 y10 y11 y12 y13 y14 y15 y16 y17 y18 y19 y20))
 | 0 => fun _ _ _ _ _ _ _ _ _ _ _ _ _ _ _ _ _ _ _ _ _ r h => by simp [bagatellelaw06_BoxTurns.j0] at h
 | k + 1 => by
  have ih0 := bagatellelaw06_BoxTurns.mono_l k
  ·intro y0 y1 y2 y3 y4 y5 y6 y7 y8 y9 y10 y11 y12 y13 y14 y15 y16 y17 y18 y19 y20
   unfold bagatellelaw06_BoxTurns.j0
   repeat' first
   | (with_reducible exact ih0 _ _ _ _ _ _ _ _ _ _ _ _ _ _ _ _ _ _ _ _ _)
   | (with_reducible exact bagatellelaw06_Place_Body.mono _ _ _ _ _ _ _ _)
   | (with_reducible exact bagatellelaw06_fit.mono _)
   | (with_reducible exact box_Of.mono _ _ _ _ _ _ _ _ _ _ _ _)
   | (with_reducible exact vec_Sub.mono _ _ _ _ _)
   | (with_reducible exact LeO.refl _)
   | (with_reducible exact LeO.none _)
   | (with_reducible refine LeO.ite ?_ ?_)
   | (with_reducible refine LeO.bind ?_ (fun _ => ?_))
   | exact ih0 _ _ _ _ _ _ _ _ _ _ _ _ _ _ _ _ _ _ _ _ _
   | exact bagatellelaw06_Place_Body.mono _ _ _ _ _ _ _ _
   | exact bagatellelaw06_fit.mono _
   | exact box_Of.mono _ _ _ _ _ _ _ _ _ _ _ _
   | exact vec_Sub.mono _ _ _ _ _
   | exact LeO.none _
   | refine LeO.ite ?_ ?_
   | refine LeO.bind ?_ (fun _ => ?_)
theorem bagatellelaw06_BoxTurns.mono : ∀ a0 a1 a2 a3 a4 a5 a6 a7 k, LeO (bagatellelaw06_BoxTurns.f k a0 a1 a2 a3 a4 a5 a6 a7) (bagatellelaw06_BoxTurns.f (k + 1) a0 a1 a2 a3 a4 a5 a6 a7) := by
 intro a0 a1 a2 a3 a4 a5 a6 a7 k
 have ih0 := bagatellelaw06_BoxTurns.mono_l k
 unfold bagatellelaw06_BoxTurns.f
 repeat' first
   | (with_reducible exact ih0 _ _ _ _ _ _ _ _ _ _ _ _ _ _ _ _ _ _ _ _ _)
   | (with_reducible exact bagatellelaw06_Place_Body.mono _ _ _ _ _ _ _ _)
   | (with_reducible exact bagatellelaw06_fit.mono _)
   | (with_reducible exact box_Of.mono _ _ _ _ _ _ _ _ _ _ _ _)
   | (with_reducible exact vec_Sub.mono _ _ _ _ _)
   | (with_reducible exact LeO.refl _)
   | (with_reducible exact LeO.none _)
   | (with_reducible refine LeO.ite ?_ ?_)
   | (with_reducible refine LeO.bind ?_ (fun _ => ?_))
   | exact ih0 _ _ _ _ _ _ _ _ _ _ _ _ _ _ _ _ _ _ _ _ _
   | exact bagatellelaw06_Place_Body.mono _ _ _ _ _ _ _ _
   | exact bagatellelaw06_fit.mono _
   | exact box_Of.mono _ _ _ _ _ _ _ _ _ _ _ _
   | exact vec_Sub.mono _ _ _ _ _
   | exact LeO.none _
   | refine LeO.ite ?_ ?_
   | refine LeO.bind ?_ (fun _ => ?_)
def bagatellelaw06_BoxTurns.T6 : Bool × List (List Nat × List Nat) := (true, [([], []), ([0], [0]), ([], []), ([2, 1], [2]), ([], []), ([], []), ([4, 1, 3, 0, 1, 4, 5], [1, 4]), ([5, 3, 6, 0, 1, 2, 3, 4, 5, 6], [3, 5])])
def bagatellelaw06_BoxTurns.B6 : List Nat := [0, 1, 0, 7, 0, 0, 63, 127]
theorem bagatellelaw06_BoxTurns.tab6 : rtab .any (opsOf Try.f5 6) = bagatellelaw06_BoxTurns.T6 := by kernel_rfl
theorem bagatellelaw06_BoxTurns.bits6 : waitsOk bagatellelaw06_BoxTurns.T6.2 bagatellelaw06_BoxTurns.B6 = true := by kernel_rfl
def bagatellelaw06_BoxTurns.T11 : Bool × List (List Nat × List Nat) := (true, [([], []), ([0], [0]), ([], []), ([2], [2]), ([1, 3], [1, 3]), ([4], [4]), ([], []), ([6], [6]), ([], []), ([8], [8]), ([7, 9, 4], [7, 9]), ([10], [10]), ([5, 11], [5, 11]), ([12, 10], [12]), ([13], [13]), ([14, 13], [14]), ([15], [15]), ([16, 15], [15, 16]), ([15], [15]), ([18, 15], [15, 18]), ([17, 19, 15, 15], [15, 17, 19]), ([20, 15], [15, 20]), ([15], [15]), ([22, 15], [15, 22]), ([15], [15]), ([24, 15], [15, 24]), ([23, 25, 20, 15], [15, 23, 25]), ([26, 15], [15, 26]), ([21, 27, 15], [15, 21, 27]), ([28, 26, 15], [15, 28]), ([29, 15], [15, 29]), ([15, 30], [15, 30]), ([31, 29, 0, 1, 2, 3, 4, 5, 6, 7, 8, 9, 10, 11, 12, 13, 14, 15, 16, 17, 18, 19, 20, 21, 22, 23, 24, 25, 26, 27, 28, 29, 30, 31], [31])])
def bagatellelaw06_BoxTurns.B11 : List Nat := [0, 1, 0, 4, 15, 31, 0, 64, 0, 256, 991, 2015, 4095, 8191, 16383, 32767, 65535, 131071, 65535, 327679, 1048575, 2097151, 65535, 4259839, 65535, 16842751, 65011711, 132120575, 268435455, 536870911, 1073741823, 2147483647, 4294967295]
theorem bagatellelaw06_BoxTurns.tab11 : rtab .any (opsOf Try.f5 11) = bagatellelaw06_BoxTurns.T11 := by kernel_rfl
theorem bagatellelaw06_BoxTurns.bits11 : waitsOk bagatellelaw06_BoxTurns.T11.2 bagatellelaw06_BoxTurns.B11 = true := by kernel_rfl
theorem fld24 (x y : Int) (w : World) : Sem.run Try.prog (Instr.field 24 (.agg #[.int .i64 x, .int .i64 y]) 0) w = .ok (.int .i64 x) w := by kernel_rfl
theorem fle24 (x y : Int) (w : World) : Sem.run Try.prog (Instr.field 24 (.agg #[.int .i64 x, .int .i64 y]) 1) w = .ok (.int .i64 y) w := by kernel_rfl
set_option maxHeartbeats 8000000 in
set_option maxRecDepth 100000 in
theorem bagatellelaw06_BoxTurns.calls (k : Nat) (a0_0 : Int) (a0_1 : Int) (a0_2 : Int) (a0_3 : Int) (a0_4 : Int) (a0_5 : Int) (a0_6 : Int) (a1 : Int) (r : Bool) (w : World) (h : bagatellelaw06_BoxTurns.f k a0_0 a0_1 a0_2 a0_3 a0_4 a0_5 a0_6 a1 = some r) :
  Calls Try.prog 5 #[.agg #[.int .i64 a0_0, .int .i64 a0_1, .int .i64 a0_2, .int .i64 a0_3, .int .i64 a0_4, .int .i64 a0_5, .int .i64 a0_6], .int .u8 a1] w fun e w' => e = .returned (.bool r) ∧ Below w.heap.size w w' := by
 have hu34 := Try.underlying34
 have hu39 := Try.underlying39
 have hu26 := Try.underlying26
 have hu24 := Try.underlying24
 have HB := Aside0.mk (Below.refl w.heap.size w)
 have H : ((bagatellelaw06_fit.f k).bind fun t287 => (if t287 = true then ((bagatellelaw06_Place_Body.f k a0_0 a0_1 a0_2 a0_3 a0_4 a0_5 a0_6).bind fun bt288 => ((box_Of.f k bt288.1 bt288.2.1 bt288.2.2.1 bt288.2.2.2.1 bt288.2.2.2.2.1 bt288.2.2.2.2.2.1 bt288.2.2.2.2.2.2.1 bt288.2.2.2.2.2.2.2.1 bt288.2.2.2.2.2.2.2.2.1 bt288.2.2.2.2.2.2.2.2.2.1 bt288.2.2.2.2.2.2.2.2.2.2).bind fun bt303 => ((box_Of.f k bt288.1 bt288.2.1 bt288.2.2.1 bt288.2.2.2.1 bt288.2.2.2.2.1 (Go.bits .and .i64 (wrap64 (bt288.2.2.2.2.2.1 + (wrap64 (Int.tdiv (wrap64 ((wrap64 (a1)) * 4294967296)) 4)))) 4294967295) bt288.2.2.2.2.2.2.1 bt288.2.2.2.2.2.2.2.1 bt288.2.2.2.2.2.2.2.2.1 bt288.2.2.2.2.2.2.2.2.2.1 bt288.2.2.2.2.2.2.2.2.2.2).bind fun bt307 => (if bt288.2.2.2.2.2.2.2.2.1 = 1 then (bagatellelaw06_BoxTurns.j0 k a1 true bt288.1 bt288.2.1 bt288.2.2.1 bt288.2.2.2.1 bt288.2.2.2.2.1 bt288.2.2.2.2.2.1 bt288.2.2.2.2.2.2.1 bt288.2.2.2.2.2.2.2.1 bt288.2.2.2.2.2.2.2.2.1 bt288.2.2.2.2.2.2.2.2.2.1 bt288.2.2.2.2.2.2.2.2.2.2 bt303.1 bt303.2.1 bt303.2.2.1 bt303.2.2.2 bt307.1 bt307.2.1 bt307.2.2.1 bt307.2.2.2) else (bagatellelaw06_BoxTurns.j0 k a1 ((Int.tmod a1 4) == 0) bt288.1 bt288.2.1 bt288.2.2.1 bt288.2.2.2.1 bt288.2.2.2.2.1 bt288.2.2.2.2.2.1 bt288.2.2.2.2.2.2.1 bt288.2.2.2.2.2.2.2.1 bt288.2.2.2.2.2.2.2.2.1 bt288.2.2.2.2.2.2.2.2.2.1 bt288.2.2.2.2.2.2.2.2.2.2 bt303.1 bt303.2.1 bt303.2.2.1 bt303.2.2.2 bt307.1 bt307.2.1 bt307.2.2.1 bt307.2.2.2))))) else (none))) = some r := h
 clear h
 replace H := Option.bind_eq_some_iff.mp H
 obtain ⟨t287, A30, H⟩ := H
 replace H : (if t287 = true then ((bagatellelaw06_Place_Body.f k a0_0 a0_1 a0_2 a0_3 a0_4 a0_5 a0_6).bind fun bt288 => ((box_Of.f k bt288.1 bt288.2.1 bt288.2.2.1 bt288.2.2.2.1 bt288.2.2.2.2.1 bt288.2.2.2.2.2.1 bt288.2.2.2.2.2.2.1 bt288.2.2.2.2.2.2.2.1 bt288.2.2.2.2.2.2.2.2.1 bt288.2.2.2.2.2.2.2.2.2.1 bt288.2.2.2.2.2.2.2.2.2.2).bind fun bt303 => ((box_Of.f k bt288.1 bt288.2.1 bt288.2.2.1 bt288.2.2.2.1 bt288.2.2.2.2.1 (Go.bits .and .i64 (wrap64 (bt288.2.2.2.2.2.1 + (wrap64 (Int.tdiv (wrap64 ((wrap64 (a1)) * 4294967296)) 4)))) 4294967295) bt288.2.2.2.2.2.2.1 bt288.2.2.2.2.2.2.2.1 bt288.2.2.2.2.2.2.2.2.1 bt288.2.2.2.2.2.2.2.2.2.1 bt288.2.2.2.2.2.2.2.2.2.2).bind fun bt307 => (if bt288.2.2.2.2.2.2.2.2.1 = 1 then (bagatellelaw06_BoxTurns.j0 k a1 true bt288.1 bt288.2.1 bt288.2.2.1 bt288.2.2.2.1 bt288.2.2.2.2.1 bt288.2.2.2.2.2.1 bt288.2.2.2.2.2.2.1 bt288.2.2.2.2.2.2.2.1 bt288.2.2.2.2.2.2.2.2.1 bt288.2.2.2.2.2.2.2.2.2.1 bt288.2.2.2.2.2.2.2.2.2.2 bt303.1 bt303.2.1 bt303.2.2.1 bt303.2.2.2 bt307.1 bt307.2.1 bt307.2.2.1 bt307.2.2.2) else (bagatellelaw06_BoxTurns.j0 k a1 ((Int.tmod a1 4) == 0) bt288.1 bt288.2.1 bt288.2.2.1 bt288.2.2.2.1 bt288.2.2.2.2.1 bt288.2.2.2.2.2.1 bt288.2.2.2.2.2.2.1 bt288.2.2.2.2.2.2.2.1 bt288.2.2.2.2.2.2.2.2.1 bt288.2.2.2.2.2.2.2.2.2.1 bt288.2.2.2.2.2.2.2.2.2.2 bt303.1 bt303.2.1 bt303.2.2.1 bt303.2.2.2 bt307.1 bt307.2.1 bt307.2.2.1 bt307.2.2.2))))) else (none)) = some r := H
 have A3 := Aside0.mk A30
 clear A30
 by_cases c4 : t287 = true
 ·subst c4
  have H1 : ((bagatellelaw06_Place_Body.f k a0_0 a0_1 a0_2 a0_3 a0_4 a0_5 a0_6).bind fun bt288 => ((box_Of.f k bt288.1 bt288.2.1 bt288.2.2.1 bt288.2.2.2.1 bt288.2.2.2.2.1 bt288.2.2.2.2.2.1 bt288.2.2.2.2.2.2.1 bt288.2.2.2.2.2.2.2.1 bt288.2.2.2.2.2.2.2.2.1 bt288.2.2.2.2.2.2.2.2.2.1 bt288.2.2.2.2.2.2.2.2.2.2).bind fun bt303 => ((box_Of.f k bt288.1 bt288.2.1 bt288.2.2.1 bt288.2.2.2.1 bt288.2.2.2.2.1 (Go.bits .and .i64 (wrap64 (bt288.2.2.2.2.2.1 + (wrap64 (Int.tdiv (wrap64 ((wrap64 (a1)) * 4294967296)) 4)))) 4294967295) bt288.2.2.2.2.2.2.1 bt288.2.2.2.2.2.2.2.1 bt288.2.2.2.2.2.2.2.2.1 bt288.2.2.2.2.2.2.2.2.2.1 bt288.2.2.2.2.2.2.2.2.2.2).bind fun bt307 => (if bt288.2.2.2.2.2.2.2.2.1 = 1 then (bagatellelaw06_BoxTurns.j0 k a1 true bt288.1 bt288.2.1 bt288.2.2.1 bt288.2.2.2.1 bt288.2.2.2.2.1 bt288.2.2.2.2.2.1 bt288.2.2.2.2.2.2.1 bt288.2.2.2.2.2.2.2.1 bt288.2.2.2.2.2.2.2.2.1 bt288.2.2.2.2.2.2.2.2.2.1 bt288.2.2.2.2.2.2.2.2.2.2 bt303.1 bt303.2.1 bt303.2.2.1 bt303.2.2.2 bt307.1 bt307.2.1 bt307.2.2.1 bt307.2.2.2) else (bagatellelaw06_BoxTurns.j0 k a1 ((Int.tmod a1 4) == 0) bt288.1 bt288.2.1 bt288.2.2.1 bt288.2.2.2.1 bt288.2.2.2.2.1 bt288.2.2.2.2.2.1 bt288.2.2.2.2.2.2.1 bt288.2.2.2.2.2.2.2.1 bt288.2.2.2.2.2.2.2.2.1 bt288.2.2.2.2.2.2.2.2.2.1 bt288.2.2.2.2.2.2.2.2.2.2 bt303.1 bt303.2.1 bt303.2.2.1 bt303.2.2.2 bt307.1 bt307.2.1 bt307.2.2.1 bt307.2.2.2))))) = some r := by rw [if_pos rfl] at H; exact H
  clear H
  have H := H1
  clear H1
  replace H := Option.bind_eq_some_iff.mp H
  obtain ⟨⟨t288, t289, t290, t291, t292, t293, t294, t295, t296, t297, t298⟩, A50, H⟩ := H
  replace H : ((box_Of.f k t288 t289 t290 t291 t292 t293 t294 t295 t296 t297 t298).bind fun bt303 => ((box_Of.f k t288 t289 t290 t291 t292 (Go.bits .and .i64 (wrap64 (t293 + (wrap64 (Int.tdiv (wrap64 ((wrap64 (a1)) * 4294967296)) 4)))) 4294967295) t294 t295 t296 t297 t298).bind fun bt307 => (if t296 = 1 then (bagatellelaw06_BoxTurns.j0 k a1 true t288 t289 t290 t291 t292 t293 t294 t295 t296 t297 t298 bt303.1 bt303.2.1 bt303.2.2.1 bt303.2.2.2 bt307.1 bt307.2.1 bt307.2.2.1 bt307.2.2.2) else (bagatellelaw06_BoxTurns.j0 k a1 ((Int.tmod a1 4) == 0) t288 t289 t290 t291 t292 t293 t294 t295 t296 t297 t298 bt303.1 bt303.2.1 bt303.2.2.1 bt303.2.2.2 bt307.1 bt307.2.1 bt307.2.2.1 bt307.2.2.2)))) = some r := H
  have A5 := Aside0.mk A50
  clear A50
  replace H := Option.bind_eq_some_iff.mp H
  obtain ⟨⟨t303, t304, t305, t306⟩, A60, H⟩ := H
  replace H : ((box_Of.f k t288 t289 t290 t291 t292 (Go.bits .and .i64 (wrap64 (t293 + (wrap64 (Int.tdiv (wrap64 ((wrap64 (a1)) * 4294967296)) 4)))) 4294967295) t294 t295 t296 t297 t298).bind fun bt307 => (if t296 = 1 then (bagatellelaw06_BoxTurns.j0 k a1 true t288 t289 t290 t291 t292 t293 t294 t295 t296 t297 t298 t303 t304 t305 t306 bt307.1 bt307.2.1 bt307.2.2.1 bt307.2.2.2) else (bagatellelaw06_BoxTurns.j0 k a1 ((Int.tmod a1 4) == 0) t288 t289 t290 t291 t292 t293 t294 t295 t296 t297 t298 t303 t304 t305 t306 bt307.1 bt307.2.1 bt307.2.2.1 bt307.2.2.2))) = some r := H
  have A6 := Aside0.mk A60
  clear A60
  replace H := Option.bind_eq_some_iff.mp H
  obtain ⟨⟨t307, t308, t309, t310⟩, A70, H⟩ := H
  replace H : (if t296 = 1 then (bagatellelaw06_BoxTurns.j0 k a1 true t288 t289 t290 t291 t292 t293 t294 t295 t296 t297 t298 t303 t304 t305 t306 t307 t308 t309 t310) else (bagatellelaw06_BoxTurns.j0 k a1 ((Int.tmod a1 4) == 0) t288 t289 t290 t291 t292 t293 t294 t295 t296 t297 t298 t303 t304 t305 t306 t307 t308 t309 t310)) = some r := H
  have A7 := Aside0.mk A70
  clear A70
  have HC8 := Aside0.mk H
  clear H
  go_enter Try.func5, Try.ntmps5
  try go_wp2_with (first | ((with_reducible refine gate_dst (N := 2) rfl ?_); refine box_event ?hg (N := 2) ?hd (cs := #[.int .i64 a0_0, .int .i64 a0_1, .int .i64 a0_2, .int .i64 a0_3, .int .i64 a0_4, .int .i64 a0_5, .int .i64 a0_6]) (t := 34) ?hr ?_; (case hd => rfl); (case hg => rfl); (case hr => first | (go_simp; done) | (go_simp; rfl)); intro gb286 hg w9 hbox hb; have n0_ := Aside0.mk (below_step bw5 hb); have n1_ := Aside0.mk (hbox); have n2_ := Aside0.mk ((by rw [hg]; exact (below_size bw5) : w.heap.size ≤ gb286)); have n3_ := Aside0.mk ((by rw [hg]; exact (below_size bw5) : w.heap.size ≤ gb286)); clear HB; have HB := n0_; have BK286 := n1_; have GW286 := n2_; have GE286 := n3_; clear n0_ n1_ n2_ n3_; clear hb hbox hg) | ((with_reducible refine gate_callee (f := 7) rfl ?_); refine goesL_ (some 9) rfl rfl Try.func7 (by kernel_rfl) rfl #[] rfl (by (try simp only [List.map_toArray, List.map_cons, List.map_nil]); first | done | rfl | (simp only [List.length_drop, List.length_take]; rfl)) ?_; (with_reducible refine (bagatellelaw06_fit.calls k  true _ A3.out).mono ?_); rintro e w10 ⟨rfl, hb⟩; refine ⟨_, rfl, ?_⟩; have n0_ := Aside0.mk (blk_below (bl5 BK286) hb); have n1_ := Aside0.mk (below_step bw5 hb); clear BK286; clear HB; have BK286 := n0_; have HB := n1_; clear n0_ n1_; (try clear hb); (try clear hb2); (try clear hk); (try clear hi); have hcz11_0 : w10.cell? ⟨gb286, 0, none⟩ = some (.int .i64 a0_0) := bc5 BK286 0; have hcz11_1 : w10.cell? ⟨gb286, 1, none⟩ = some (.int .i64 a0_1) := bc5 BK286 1; have hcz11_2 : w10.cell? ⟨gb286, 2, none⟩ = some (.int .i64 a0_2) := bc5 BK286 2; have hcz11_3 : w10.cell? ⟨gb286, 3, none⟩ = some (.int .i64 a0_3) := bc5 BK286 3; have hcz11_4 : w10.cell? ⟨gb286, 4, none⟩ = some (.int .i64 a0_4) := bc5 BK286 4; have hcz11_5 : w10.cell? ⟨gb286, 5, none⟩ = some (.int .i64 a0_5) := bc5 BK286 5; have hcz11_6 : w10.cell? ⟨gb286, 6, none⟩ = some (.int .i64 a0_6) := bc5 BK286 6; have hfz11_0 := blk_frozen BK286.out 0; have hfz11_1 := blk_frozen BK286.out 1; have hfz11_2 := blk_frozen BK286.out 2; have hfz11_3 := blk_frozen BK286.out 3; have hfz11_4 := blk_frozen BK286.out 4; have hfz11_5 := blk_frozen BK286.out 5; have hfz11_6 := blk_frozen BK286.out 6) | ((with_reducible refine gate_callee (f := 11) rfl ?_); refine goesL_ (some 12) rfl rfl Try.func11 (by kernel_rfl) rfl #[.agg #[.int .i64 a0_0, .int .i64 a0_1, .int .i64 a0_2, .int .i64 a0_3, .int .i64 a0_4, .int .i64 a0_5, .int .i64 a0_6]] rfl (by (try simp only [List.map_toArray, List.map_cons, List.map_nil]); first | done | rfl | (simp only [List.length_drop, List.length_take]; rfl)) ?_; (with_reducible refine (bagatellelaw06_Place_Body.calls k a0_0 a0_1 a0_2 a0_3 a0_4 a0_5 a0_6 t288 t289 t290 t291 t292 t293 t294 t295 t296 t297 t298 _ A5.out).mono ?_); rintro e w12 ⟨v299, rfl, ho0, hb⟩; refine ⟨_, rfl, ?_⟩; have n0_ := Aside0.mk (Kd.R_lower ho0 (below_size bw5)); have n1_ := Aside0.mk (blk_below (bl5 BK286) hb); have n2_ := Aside0.mk (below_step bw5 hb); clear BK286; clear HB; have HO300 := n0_; have BK286 := n1_; have HB := n2_; clear n0_ n1_ n2_; (try clear hb); (try clear hb2); (try clear hk); (try clear hi); (try clear ho0)) | ((with_reducible refine gate_dst (N := 5) rfl ?_); refine box_event ?hg (N := 5) ?hd (cs := #[.int .i64 0, .int .i64 0, .int .i64 0, .int .i64 0, .int .i64 0, .int .i64 0, .int .i64 0, .int .i64 0, .int .i64 0, .int .i64 0, .slice none 0 0]) (t := 39) ?hr ?_; (case hd => rfl); (case hg => rfl); (case hr => first | (go_simp; done) | (go_simp; rfl)); intro gb301 hg w13 hbox hb; have n0_ := Aside0.mk (Kd.R_below (by (with_reducible repeat (first | apply Kd.R_alloc | apply Kd.R_drewN | apply Kd.R_drew)); exact HO300.out) hb); have n1_ := Aside0.mk (blk_below (bl5 BK286) hb); have n2_ := Aside0.mk (below_step bw5 hb); have n3_ := Aside0.mk (hbox); have n4_ := Aside0.mk ((by rw [hg]; exact (below_size bw5) : w.heap.size ≤ gb301)); have n5_ := Aside0.mk ((by rw [hg]; exact (below_size bw5) : w.heap.size ≤ gb301)); have n6_ := Aside0.mk ((by rw [hg]; exact Nat.ne_of_lt (blk_lt (bl5 BK286)) : gb286 ≠ gb301)); have n7_ := Aside0.mk ((by rw [hg]; exact Nat.ne_of_gt (blk_lt (bl5 BK286)) : gb301 ≠ gb286)); clear HO300; clear BK286; clear HB; have HO300 := n0_; have BK286 := n1_; have HB := n2_; have BK301 := n3_; have GW301 := n4_; have GE301 := n5_; have NB286_301 := n6_; have NB301_286 := n7_; clear n0_ n1_ n2_ n3_ n4_ n5_ n6_ n7_; clear hb hbox hg; have hnb14 := NB301_286.out; have hnc14 := NB286_301.out; have hcz15_0 : w13.cell? ⟨gb301, 0, none⟩ = some (.int .i64 0) := bc5 BK301 0; have hcz15_1 : w13.cell? ⟨gb301, 1, none⟩ = some (.int .i64 0) := bc5 BK301 1; have hcz15_2 : w13.cell? ⟨gb301, 2, none⟩ = some (.int .i64 0) := bc5 BK301 2; have hcz15_3 : w13.cell? ⟨gb301, 3, none⟩ = some (.int .i64 0) := bc5 BK301 3; have hcz15_4 : w13.cell? ⟨gb301, 4, none⟩ = some (.int .i64 0) := bc5 BK301 4; have hcz15_5 : w13.cell? ⟨gb301, 5, none⟩ = some (.int .i64 0) := bc5 BK301 5; have hcz15_6 : w13.cell? ⟨gb301, 6, none⟩ = some (.int .i64 0) := bc5 BK301 6; have hcz15_7 : w13.cell? ⟨gb301, 7, none⟩ = some (.int .i64 0) := bc5 BK301 7; have hcz15_8 : w13.cell? ⟨gb301, 8, none⟩ = some (.int .i64 0) := bc5 BK301 8; have hcz15_9 : w13.cell? ⟨gb301, 9, none⟩ = some (.int .i64 0) := bc5 BK301 9; have hcz15_10 : w13.cell? ⟨gb301, 10, none⟩ = some (.slice none 0 0) := bc5 BK301 10; have hfz15_0 := blk_frozen BK301.out 0; have hfz15_1 := blk_frozen BK301.out 1; have hfz15_2 := blk_frozen BK301.out 2; have hfz15_3 := blk_frozen BK301.out 3; have hfz15_4 := blk_frozen BK301.out 4; have hfz15_5 := blk_frozen BK301.out 5; have hfz15_6 := blk_frozen BK301.out 6; have hfz15_7 := blk_frozen BK301.out 7; have hfz15_8 := blk_frozen BK301.out 8; have hfz15_9 := blk_frozen BK301.out 9; have hfz15_10 := blk_frozen BK301.out 10; obtain ⟨Ao16, co16, eo16⟩ := Kd.R_slice HO300.out; subst eo16) | ((with_reducible refine gate_dst (N := 6) rfl ?_); refine box_event ?hg (N := 6) ?hd (cs := #[.int .i64 0, .int .i64 0, .int .i64 0, .int .i64 0, .int .i64 0, .int .i64 0, .int .i64 0, .int .i64 0, .int .i64 0, .int .i64 0, .slice none 0 0]) (t := 39) ?hr ?_; (case hd => rfl); (case hg => rfl); (case hr => first | (go_simp; done) | (go_simp; rfl)); intro gb302 hg w17 hbox hb; have n0_ := Aside0.mk (Kd.R_below (by (with_reducible repeat (first | apply Kd.R_alloc | apply Kd.R_drewN | apply Kd.R_drew)); exact (Kd.R_mono (Kd.R_far (p := ⟨gb301, 10, none⟩) (Kd.R_far (p := ⟨gb301, 9, none⟩) (Kd.R_far (p := ⟨gb301, 8, none⟩) (Kd.R_far (p := ⟨gb301, 7, none⟩) (Kd.R_far (p := ⟨gb301, 6, none⟩) (Kd.R_far (p := ⟨gb301, 5, none⟩) (Kd.R_far (p := ⟨gb301, 4, none⟩) (Kd.R_far (p := ⟨gb301, 3, none⟩) (Kd.R_far (p := ⟨gb301, 2, none⟩) (Kd.R_far (p := ⟨gb301, 1, none⟩) (Kd.R_far (p := ⟨gb301, 0, none⟩) (Kd.R_types HO300.out BK301.out (by decide)) (fun _ hk => hk.2) (.int .i64 t288)) (fun _ hk => hk.2) (.int .i64 t289)) (fun _ hk => hk.2) (.int .i64 t290)) (fun _ hk => hk.2) (.int .i64 t291)) (fun _ hk => hk.2) (.int .i64 t292)) (fun _ hk => hk.2) (.int .i64 t293)) (fun _ hk => hk.2) (.int .i64 t294)) (fun _ hk => hk.2) (.int .i64 t295)) (fun _ hk => hk.2) (.int .i64 t296)) (fun _ hk => hk.2) (.int .i64 t297)) (fun _ hk => hk.2) (.slice Ao16 t298.length co16)) (fun _ h_ => h_.1))) hb); have n1_ := Aside0.mk (blk_below (g := gb286) (o := .cells #[.int .i64 a0_0, .int .i64 a0_1, .int .i64 a0_2, .int .i64 a0_3, .int .i64 a0_4, .int .i64 a0_5, .int .i64 a0_6] 34 (0, 0)) (by (with_reducible repeat (first | refine blk_drewN ?_ _ | refine blk_drew ?_ | refine blk_alloc ?_ _)); refine blk_far ?_ NB286_301.out _; (with_reducible repeat (first | refine blk_drewN ?_ _ | refine blk_drew ?_ | refine blk_alloc ?_ _)); refine blk_far ?_ NB286_301.out _; (with_reducible repeat (first | refine blk_drewN ?_ _ | refine blk_drew ?_ | refine blk_alloc ?_ _)); refine blk_far ?_ NB286_301.out _; (with_reducible repeat (first | refine blk_drewN ?_ _ | refine blk_drew ?_ | refine blk_alloc ?_ _)); refine blk_far ?_ NB286_301.out _; (with_reducible repeat (first | refine blk_drewN ?_ _ | refine blk_drew ?_ | refine blk_alloc ?_ _)); refine blk_far ?_ NB286_301.out _; (with_reducible repeat (first | refine blk_drewN ?_ _ | refine blk_drew ?_ | refine blk_alloc ?_ _)); refine blk_far ?_ NB286_301.out _; (with_reducible repeat (first | refine blk_drewN ?_ _ | refine blk_drew ?_ | refine blk_alloc ?_ _)); refine blk_far ?_ NB286_301.out _; (with_reducible repeat (first | refine blk_drewN ?_ _ | refine blk_drew ?_ | refine blk_alloc ?_ _)); refine blk_far ?_ NB286_301.out _; (with_reducible repeat (first | refine blk_drewN ?_ _ | refine blk_drew ?_ | refine blk_alloc ?_ _)); refine blk_far ?_ NB286_301.out _; (with_reducible repeat (first | refine blk_drewN ?_ _ | refine blk_drew ?_ | refine blk_alloc ?_ _)); refine blk_far ?_ NB286_301.out _; (with_reducible repeat (first | refine blk_drewN ?_ _ | refine blk_drew ?_ | refine blk_alloc ?_ _)); refine blk_far ?_ NB286_301.out _; (with_reducible repeat (first | refine blk_drewN ?_ _ | refine blk_drew ?_ | refine blk_alloc ?_ _)); exact BK286.out) hb); have n2_ := Aside0.mk (blk_below (g := gb301) (o := .cells #[.int .i64 t288, .int .i64 t289, .int .i64 t290, .int .i64 t291, .int .i64 t292, .int .i64 t293, .int .i64 t294, .int .i64 t295, .int .i64 t296, .int .i64 t297, .slice Ao16 t298.length co16] 39 (0, 0)) (by (with_reducible repeat (first | refine blk_drewN ?_ _ | refine blk_drew ?_ | refine blk_alloc ?_ _)); refine blk_put (cs := #[.int .i64 t288, .int .i64 t289, .int .i64 t290, .int .i64 t291, .int .i64 t292, .int .i64 t293, .int .i64 t294, .int .i64 t295, .int .i64 t296, .int .i64 t297, .slice none 0 0]) ?_ 10 _ rfl; (with_reducible repeat (first | refine blk_drewN ?_ _ | refine blk_drew ?_ | refine blk_alloc ?_ _)); refine blk_put (cs := #[.int .i64 t288, .int .i64 t289, .int .i64 t290, .int .i64 t291, .int .i64 t292, .int .i64 t293, .int .i64 t294, .int .i64 t295, .int .i64 t296, .int .i64 0, .slice none 0 0]) ?_ 9 _ rfl; (with_reducible repeat (first | refine blk_drewN ?_ _ | refine blk_drew ?_ | refine blk_alloc ?_ _)); refine blk_put (cs := #[.int .i64 t288, .int .i64 t289, .int .i64 t290, .int .i64 t291, .int .i64 t292, .int .i64 t293, .int .i64 t294, .int .i64 t295, .int .i64 0, .int .i64 0, .slice none 0 0]) ?_ 8 _ rfl; (with_reducible repeat (first | refine blk_drewN ?_ _ | refine blk_drew ?_ | refine blk_alloc ?_ _)); refine blk_put (cs := #[.int .i64 t288, .int .i64 t289, .int .i64 t290, .int .i64 t291, .int .i64 t292, .int .i64 t293, .int .i64 t294, .int .i64 0, .int .i64 0, .int .i64 0, .slice none 0 0]) ?_ 7 _ rfl; (with_reducible repeat (first | refine blk_drewN ?_ _ | refine blk_drew ?_ | refine blk_alloc ?_ _)); refine blk_put (cs := #[.int .i64 t288, .int .i64 t289, .int .i64 t290, .int .i64 t291, .int .i64 t292, .int .i64 t293, .int .i64 0, .int .i64 0, .int .i64 0, .int .i64 0, .slice none 0 0]) ?_ 6 _ rfl; (with_reducible repeat (first | refine blk_drewN ?_ _ | refine blk_drew ?_ | refine blk_alloc ?_ _)); refine blk_put (cs := #[.int .i64 t288, .int .i64 t289, .int .i64 t290, .int .i64 t291, .int .i64 t292, .int .i64 0, .int .i64 0, .int .i64 0, .int .i64 0, .int .i64 0, .slice none 0 0]) ?_ 5 _ rfl; (with_reducible repeat (first | refine blk_drewN ?_ _ | refine blk_drew ?_ | refine blk_alloc ?_ _)); refine blk_put (cs := #[.int .i64 t288, .int .i64 t289, .int .i64 t290, .int .i64 t291, .int .i64 0, .int .i64 0, .int .i64 0, .int .i64 0, .int .i64 0, .int .i64 0, .slice none 0 0]) ?_ 4 _ rfl; (with_reducible repeat (first | refine blk_drewN ?_ _ | refine blk_drew ?_ | refine blk_alloc ?_ _)); refine blk_put (cs := #[.int .i64 t288, .int .i64 t289, .int .i64 t290, .int .i64 0, .int .i64 0, .int .i64 0, .int .i64 0, .int .i64 0, .int .i64 0, .int .i64 0, .slice none 0 0]) ?_ 3 _ rfl; (with_reducible repeat (first | refine blk_drewN ?_ _ | refine blk_drew ?_ | refine blk_alloc ?_ _)); refine blk_put (cs := #[.int .i64 t288, .int .i64 t289, .int .i64 0, .int .i64 0, .int .i64 0, .int .i64 0, .int .i64 0, .int .i64 0, .int .i64 0, .int .i64 0, .slice none 0 0]) ?_ 2 _ rfl; (with_reducible repeat (first | refine blk_drewN ?_ _ | refine blk_drew ?_ | refine blk_alloc ?_ _)); refine blk_put (cs := #[.int .i64 t288, .int .i64 0, .int .i64 0, .int .i64 0, .int .i64 0, .int .i64 0, .int .i64 0, .int .i64 0, .int .i64 0, .int .i64 0, .slice none 0 0]) ?_ 1 _ rfl; (with_reducible repeat (first | refine blk_drewN ?_ _ | refine blk_drew ?_ | refine blk_alloc ?_ _)); refine blk_put (cs := #[.int .i64 0, .int .i64 0, .int .i64 0, .int .i64 0, .int .i64 0, .int .i64 0, .int .i64 0, .int .i64 0, .int .i64 0, .int .i64 0, .slice none 0 0]) ?_ 0 _ rfl; (with_reducible repeat (first | refine blk_drewN ?_ _ | refine blk_drew ?_ | refine blk_alloc ?_ _)); exact BK301.out) hb); have n3_ := Aside0.mk (below_step bw5 hb); have n4_ := Aside0.mk (hbox); have n5_ := Aside0.mk ((by rw [hg]; exact (below_size bw5) : w.heap.size ≤ gb302)); have n6_ := Aside0.mk ((by rw [hg]; exact (below_size bw5) : w.heap.size ≤ gb302)); have n7_ := Aside0.mk ((by rw [hg]; exact Nat.ne_of_lt (blk_lt (g := gb286) (o := .cells #[.int .i64 a0_0, .int .i64 a0_1, .int .i64 a0_2, .int .i64 a0_3, .int .i64 a0_4, .int .i64 a0_5, .int .i64 a0_6] 34 (0, 0)) (by (with_reducible repeat (first | refine blk_drewN ?_ _ | refine blk_drew ?_ | refine blk_alloc ?_ _)); refine blk_far ?_ NB286_301.out _; (with_reducible repeat (first | refine blk_drewN ?_ _ | refine blk_drew ?_ | refine blk_alloc ?_ _)); refine blk_far ?_ NB286_301.out _; (with_reducible repeat (first | refine blk_drewN ?_ _ | refine blk_drew ?_ | refine blk_alloc ?_ _)); refine blk_far ?_ NB286_301.out _; (with_reducible repeat (first | refine blk_drewN ?_ _ | refine blk_drew ?_ | refine blk_alloc ?_ _)); refine blk_far ?_ NB286_301.out _; (with_reducible repeat (first | refine blk_drewN ?_ _ | refine blk_drew ?_ | refine blk_alloc ?_ _)); refine blk_far ?_ NB286_301.out _; (with_reducible repeat (first | refine blk_drewN ?_ _ | refine blk_drew ?_ | refine blk_alloc ?_ _)); refine blk_far ?_ NB286_301.out _; (with_reducible repeat (first | refine blk_drewN ?_ _ | refine blk_drew ?_ | refine blk_alloc ?_ _)); refine blk_far ?_ NB286_301.out _; (with_reducible repeat (first | refine blk_drewN ?_ _ | refine blk_drew ?_ | refine blk_alloc ?_ _)); refine blk_far ?_ NB286_301.out _; (with_reducible repeat (first | refine blk_drewN ?_ _ | refine blk_drew ?_ | refine blk_alloc ?_ _)); refine blk_far ?_ NB286_301.out _; (with_reducible repeat (first | refine blk_drewN ?_ _ | refine blk_drew ?_ | refine blk_alloc ?_ _)); refine blk_far ?_ NB286_301.out _; (with_reducible repeat (first | refine blk_drewN ?_ _ | refine blk_drew ?_ | refine blk_alloc ?_ _)); refine blk_far ?_ NB286_301.out _; (with_reducible repeat (first | refine blk_drewN ?_ _ | refine blk_drew ?_ | refine blk_alloc ?_ _)); exact BK286.out)) : gb286 ≠ gb302)); have n8_ := Aside0.mk ((by rw [hg]; exact Nat.ne_of_gt (blk_lt (g := gb286) (o := .cells #[.int .i64 a0_0, .int .i64 a0_1, .int .i64 a0_2, .int .i64 a0_3, .int .i64 a0_4, .int .i64 a0_5, .int .i64 a0_6] 34 (0, 0)) (by (with_reducible repeat (first | refine blk_drewN ?_ _ | refine blk_drew ?_ | refine blk_alloc ?_ _)); refine blk_far ?_ NB286_301.out _; (with_reducible repeat (first | refine blk_drewN ?_ _ | refine blk_drew ?_ | refine blk_alloc ?_ _)); refine blk_far ?_ NB286_301.out _; (with_reducible repeat (first | refine blk_drewN ?_ _ | refine blk_drew ?_ | refine blk_alloc ?_ _)); refine blk_far ?_ NB286_301.out _; (with_reducible repeat (first | refine blk_drewN ?_ _ | refine blk_drew ?_ | refine blk_alloc ?_ _)); refine blk_far ?_ NB286_301.out _; (with_reducible repeat (first | refine blk_drewN ?_ _ | refine blk_drew ?_ | refine blk_alloc ?_ _)); refine blk_far ?_ NB286_301.out _; (with_reducible repeat (first | refine blk_drewN ?_ _ | refine blk_drew ?_ | refine blk_alloc ?_ _)); refine blk_far ?_ NB286_301.out _; (with_reducible repeat (first | refine blk_drewN ?_ _ | refine blk_drew ?_ | refine blk_alloc ?_ _)); refine blk_far ?_ NB286_301.out _; (with_reducible repeat (first | refine blk_drewN ?_ _ | refine blk_drew ?_ | refine blk_alloc ?_ _)); refine blk_far ?_ NB286_301.out _; (with_reducible repeat (first | refine blk_drewN ?_ _ | refine blk_drew ?_ | refine blk_alloc ?_ _)); refine blk_far ?_ NB286_301.out _; (with_reducible repeat (first | refine blk_drewN ?_ _ | refine blk_drew ?_ | refine blk_alloc ?_ _)); refine blk_far ?_ NB286_301.out _; (with_reducible repeat (first | refine blk_drewN ?_ _ | refine blk_drew ?_ | refine blk_alloc ?_ _)); refine blk_far ?_ NB286_301.out _; (with_reducible repeat (first | refine blk_drewN ?_ _ | refine blk_drew ?_ | refine blk_alloc ?_ _)); exact BK286.out)) : gb302 ≠ gb286)); have n9_ := Aside0.mk ((by rw [hg]; exact Nat.ne_of_lt (blk_lt (g := gb301) (o := .cells #[.int .i64 t288, .int .i64 t289, .int .i64 t290, .int .i64 t291, .int .i64 t292, .int .i64 t293, .int .i64 t294, .int .i64 t295, .int .i64 t296, .int .i64 t297, .slice Ao16 t298.length co16] 39 (0, 0)) (by (with_reducible repeat (first | refine blk_drewN ?_ _ | refine blk_drew ?_ | refine blk_alloc ?_ _)); refine blk_put (cs := #[.int .i64 t288, .int .i64 t289, .int .i64 t290, .int .i64 t291, .int .i64 t292, .int .i64 t293, .int .i64 t294, .int .i64 t295, .int .i64 t296, .int .i64 t297, .slice none 0 0]) ?_ 10 _ rfl; (with_reducible repeat (first | refine blk_drewN ?_ _ | refine blk_drew ?_ | refine blk_alloc ?_ _)); refine blk_put (cs := #[.int .i64 t288, .int .i64 t289, .int .i64 t290, .int .i64 t291, .int .i64 t292, .int .i64 t293, .int .i64 t294, .int .i64 t295, .int .i64 t296, .int .i64 0, .slice none 0 0]) ?_ 9 _ rfl; (with_reducible repeat (first | refine blk_drewN ?_ _ | refine blk_drew ?_ | refine blk_alloc ?_ _)); refine blk_put (cs := #[.int .i64 t288, .int .i64 t289, .int .i64 t290, .int .i64 t291, .int .i64 t292, .int .i64 t293, .int .i64 t294, .int .i64 t295, .int .i64 0, .int .i64 0, .slice none 0 0]) ?_ 8 _ rfl; (with_reducible repeat (first | refine blk_drewN ?_ _ | refine blk_drew ?_ | refine blk_alloc ?_ _)); refine blk_put (cs := #[.int .i64 t288, .int .i64 t289, .int .i64 t290, .int .i64 t291, .int .i64 t292, .int .i64 t293, .int .i64 t294, .int .i64 0, .int .i64 0, .int .i64 0, .slice none 0 0]) ?_ 7 _ rfl; (with_reducible repeat (first | refine blk_drewN ?_ _ | refine blk_drew ?_ | refine blk_alloc ?_ _)); refine blk_put (cs := #[.int .i64 t288, .int .i64 t289, .int .i64 t290, .int .i64 t291, .int .i64 t292, .int .i64 t293, .int .i64 0, .int .i64 0, .int .i64 0, .int .i64 0, .slice none 0 0]) ?_ 6 _ rfl; (with_reducible repeat (first | refine blk_drewN ?_ _ | refine blk_drew ?_ | refine blk_alloc ?_ _)); refine blk_put (cs := #[.int .i64 t288, .int .i64 t289, .int .i64 t290, .int .i64 t291, .int .i64 t292, .int .i64 0, .int .i64 0, .int .i64 0, .int .i64 0, .int .i64 0, .slice none 0 0]) ?_ 5 _ rfl; (with_reducible repeat (first | refine blk_drewN ?_ _ | refine blk_drew ?_ | refine blk_alloc ?_ _)); refine blk_put (cs := #[.int .i64 t288, .int .i64 t289, .int .i64 t290, .int .i64 t291, .int .i64 0, .int .i64 0, .int .i64 0, .int .i64 0, .int .i64 0, .int .i64 0, .slice none 0 0]) ?_ 4 _ rfl; (with_reducible repeat (first | refine blk_drewN ?_ _ | refine blk_drew ?_ | refine blk_alloc ?_ _)); refine blk_put (cs := #[.int .i64 t288, .int .i64 t289, .int .i64 t290, .int .i64 0, .int .i64 0, .int .i64 0, .int .i64 0, .int .i64 0, .int .i64 0, .int .i64 0, .slice none 0 0]) ?_ 3 _ rfl; (with_reducible repeat (first | refine blk_drewN ?_ _ | refine blk_drew ?_ | refine blk_alloc ?_ _)); refine blk_put (cs := #[.int .i64 t288, .int .i64 t289, .int .i64 0, .int .i64 0, .int .i64 0, .int .i64 0, .int .i64 0, .int .i64 0, .int .i64 0, .int .i64 0, .slice none 0 0]) ?_ 2 _ rfl; (with_reducible repeat (first | refine blk_drewN ?_ _ | refine blk_drew ?_ | refine blk_alloc ?_ _)); refine blk_put (cs := #[.int .i64 t288, .int .i64 0, .int .i64 0, .int .i64 0, .int .i64 0, .int .i64 0, .int .i64 0, .int .i64 0, .int .i64 0, .int .i64 0, .slice none 0 0]) ?_ 1 _ rfl; (with_reducible repeat (first | refine blk_drewN ?_ _ | refine blk_drew ?_ | refine blk_alloc ?_ _)); refine blk_put (cs := #[.int .i64 0, .int .i64 0, .int .i64 0, .int .i64 0, .int .i64 0, .int .i64 0, .int .i64 0, .int .i64 0, .int .i64 0, .int .i64 0, .slice none 0 0]) ?_ 0 _ rfl; (with_reducible repeat (first | refine blk_drewN ?_ _ | refine blk_drew ?_ | refine blk_alloc ?_ _)); exact BK301.out)) : gb301 ≠ gb302)); have n10_ := Aside0.mk ((by rw [hg]; exact Nat.ne_of_gt (blk_lt (g := gb301) (o := .cells #[.int .i64 t288, .int .i64 t289, .int .i64 t290, .int .i64 t291, .int .i64 t292, .int .i64 t293, .int .i64 t294, .int .i64 t295, .int .i64 t296, .int .i64 t297, .slice Ao16 t298.length co16] 39 (0, 0)) (by (with_reducible repeat (first | refine blk_drewN ?_ _ | refine blk_drew ?_ | refine blk_alloc ?_ _)); refine blk_put (cs := #[.int .i64 t288, .int .i64 t289, .int .i64 t290, .int .i64 t291, .int .i64 t292, .int .i64 t293, .int .i64 t294, .int .i64 t295, .int .i64 t296, .int .i64 t297, .slice none 0 0]) ?_ 10 _ rfl; (with_reducible repeat (first | refine blk_drewN ?_ _ | refine blk_drew ?_ | refine blk_alloc ?_ _)); refine blk_put (cs := #[.int .i64 t288, .int .i64 t289, .int .i64 t290, .int .i64 t291, .int .i64 t292, .int .i64 t293, .int .i64 t294, .int .i64 t295, .int .i64 t296, .int .i64 0, .slice none 0 0]) ?_ 9 _ rfl; (with_reducible repeat (first | refine blk_drewN ?_ _ | refine blk_drew ?_ | refine blk_alloc ?_ _)); refine blk_put (cs := #[.int .i64 t288, .int .i64 t289, .int .i64 t290, .int .i64 t291, .int .i64 t292, .int .i64 t293, .int .i64 t294, .int .i64 t295, .int .i64 0, .int .i64 0, .slice none 0 0]) ?_ 8 _ rfl; (with_reducible repeat (first | refine blk_drewN ?_ _ | refine blk_drew ?_ | refine blk_alloc ?_ _)); refine blk_put (cs := #[.int .i64 t288, .int .i64 t289, .int .i64 t290, .int .i64 t291, .int .i64 t292, .int .i64 t293, .int .i64 t294, .int .i64 0, .int .i64 0, .int .i64 0, .slice none 0 0]) ?_ 7 _ rfl; (with_reducible repeat (first | refine blk_drewN ?_ _ | refine blk_drew ?_ | refine blk_alloc ?_ _)); refine blk_put (cs := #[.int .i64 t288, .int .i64 t289, .int .i64 t290, .int .i64 t291, .int .i64 t292, .int .i64 t293, .int .i64 0, .int .i64 0, .int .i64 0, .int .i64 0, .slice none 0 0]) ?_ 6 _ rfl; (with_reducible repeat (first | refine blk_drewN ?_ _ | refine blk_drew ?_ | refine blk_alloc ?_ _)); refine blk_put (cs := #[.int .i64 t288, .int .i64 t289, .int .i64 t290, .int .i64 t291, .int .i64 t292, .int .i64 0, .int .i64 0, .int .i64 0, .int .i64 0, .int .i64 0, .slice none 0 0]) ?_ 5 _ rfl; (with_reducible repeat (first | refine blk_drewN ?_ _ | refine blk_drew ?_ | refine blk_alloc ?_ _)); refine blk_put (cs := #[.int .i64 t288, .int .i64 t289, .int .i64 t290, .int .i64 t291, .int .i64 0, .int .i64 0, .int .i64 0, .int .i64 0, .int .i64 0, .int .i64 0, .slice none 0 0]) ?_ 4 _ rfl; (with_reducible repeat (first | refine blk_drewN ?_ _ | refine blk_drew ?_ | refine blk_alloc ?_ _)); refine blk_put (cs := #[.int .i64 t288, .int .i64 t289, .int .i64 t290, .int .i64 0, .int .i64 0, .int .i64 0, .int .i64 0, .int .i64 0, .int .i64 0, .int .i64 0, .slice none 0 0]) ?_ 3 _ rfl; (with_reducible repeat (first | refine blk_drewN ?_ _ | refine blk_drew ?_ | refine blk_alloc ?_ _)); refine blk_put (cs := #[.int .i64 t288, .int .i64 t289, .int .i64 0, .int .i64 0, .int .i64 0, .int .i64 0, .int .i64 0, .int .i64 0, .int .i64 0, .int .i64 0, .slice none 0 0]) ?_ 2 _ rfl; (with_reducible repeat (first | refine blk_drewN ?_ _ | refine blk_drew ?_ | refine blk_alloc ?_ _)); refine blk_put (cs := #[.int .i64 t288, .int .i64 0, .int .i64 0, .int .i64 0, .int .i64 0, .int .i64 0, .int .i64 0, .int .i64 0, .int .i64 0, .int .i64 0, .slice none 0 0]) ?_ 1 _ rfl; (with_reducible repeat (first | refine blk_drewN ?_ _ | refine blk_drew ?_ | refine blk_alloc ?_ _)); refine blk_put (cs := #[.int .i64 0, .int .i64 0, .int .i64 0, .int .i64 0, .int .i64 0, .int .i64 0, .int .i64 0, .int .i64 0, .int .i64 0, .int .i64 0, .slice none 0 0]) ?_ 0 _ rfl; (with_reducible repeat (first | refine blk_drewN ?_ _ | refine blk_drew ?_ | refine blk_alloc ?_ _)); exact BK301.out)) : gb302 ≠ gb301)); clear HO300; clear BK286; clear BK301; clear HB; have HO300 := n0_; have BK286 := n1_; have BK301 := n2_; have HB := n3_; have BK302 := n4_; have GW302 := n5_; have GE302 := n6_; have NB286_302 := n7_; have NB302_286 := n8_; have NB301_302 := n9_; have NB302_301 := n10_; clear n0_ n1_ n2_ n3_ n4_ n5_ n6_ n7_ n8_ n9_ n10_; clear hb hbox hg; have hnb18 := NB302_286.out; have hnc18 := NB286_302.out; have hnb19 := NB302_301.out; have hnc19 := NB301_302.out; have hcz20_0 : w17.cell? ⟨gb302, 0, none⟩ = some (.int .i64 0) := bc5 BK302 0; have hcz20_1 : w17.cell? ⟨gb302, 1, none⟩ = some (.int .i64 0) := bc5 BK302 1; have hcz20_2 : w17.cell? ⟨gb302, 2, none⟩ = some (.int .i64 0) := bc5 BK302 2; have hcz20_3 : w17.cell? ⟨gb302, 3, none⟩ = some (.int .i64 0) := bc5 BK302 3; have hcz20_4 : w17.cell? ⟨gb302, 4, none⟩ = some (.int .i64 0) := bc5 BK302 4; have hcz20_5 : w17.cell? ⟨gb302, 5, none⟩ = some (.int .i64 0) := bc5 BK302 5; have hcz20_6 : w17.cell? ⟨gb302, 6, none⟩ = some (.int .i64 0) := bc5 BK302 6; have hcz20_7 : w17.cell? ⟨gb302, 7, none⟩ = some (.int .i64 0) := bc5 BK302 7; have hcz20_8 : w17.cell? ⟨gb302, 8, none⟩ = some (.int .i64 0) := bc5 BK302 8; have hcz20_9 : w17.cell? ⟨gb302, 9, none⟩ = some (.int .i64 0) := bc5 BK302 9; have hcz20_10 : w17.cell? ⟨gb302, 10, none⟩ = some (.slice none 0 0) := bc5 BK302 10; have hfz20_0 := blk_frozen BK302.out 0; have hfz20_1 := blk_frozen BK302.out 1; have hfz20_2 := blk_frozen BK302.out 2; have hfz20_3 := blk_frozen BK302.out 3; have hfz20_4 := blk_frozen BK302.out 4; have hfz20_5 := blk_frozen BK302.out 5; have hfz20_6 := blk_frozen BK302.out 6; have hfz20_7 := blk_frozen BK302.out 7; have hfz20_8 := blk_frozen BK302.out 8; have hfz20_9 := blk_frozen BK302.out 9; have hfz20_10 := blk_frozen BK302.out 10; have hcz21_0 : w17.cell? ⟨gb301, 0, none⟩ = some (.int .i64 t288) := bc5 BK301 0; have hcz21_1 : w17.cell? ⟨gb301, 1, none⟩ = some (.int .i64 t289) := bc5 BK301 1; have hcz21_2 : w17.cell? ⟨gb301, 2, none⟩ = some (.int .i64 t290) := bc5 BK301 2; have hcz21_3 : w17.cell? ⟨gb301, 3, none⟩ = some (.int .i64 t291) := bc5 BK301 3; have hcz21_4 : w17.cell? ⟨gb301, 4, none⟩ = some (.int .i64 t292) := bc5 BK301 4; have hcz21_5 : w17.cell? ⟨gb301, 5, none⟩ = some (.int .i64 t293) := bc5 BK301 5; have hcz21_6 : w17.cell? ⟨gb301, 6, none⟩ = some (.int .i64 t294) := bc5 BK301 6; have hcz21_7 : w17.cell? ⟨gb301, 7, none⟩ = some (.int .i64 t295) := bc5 BK301 7; have hcz21_8 : w17.cell? ⟨gb301, 8, none⟩ = some (.int .i64 t296) := bc5 BK301 8; have hcz21_9 : w17.cell? ⟨gb301, 9, none⟩ = some (.int .i64 t297) := bc5 BK301 9; have hcz21_10 : w17.cell? ⟨gb301, 10, none⟩ = some (.slice Ao16 t298.length co16) := bc5 BK301 10; have hfz21_0 := blk_frozen BK301.out 0; have hfz21_1 := blk_frozen BK301.out 1; have hfz21_2 := blk_frozen BK301.out 2; have hfz21_3 := blk_frozen BK301.out 3; have hfz21_4 := blk_frozen BK301.out 4; have hfz21_5 := blk_frozen BK301.out 5; have hfz21_6 := blk_frozen BK301.out 6; have hfz21_7 := blk_frozen BK301.out 7; have hfz21_8 := blk_frozen BK301.out 8; have hfz21_9 := blk_frozen BK301.out 9; have hfz21_10 := blk_frozen BK301.out 10))
  have n0_ : Aside0 (Kd.R k24 24 ((((((((((((w17.setCell ⟨gb302, 0, none⟩ (.int .i64 t288)).setCell ⟨gb302, 1, none⟩ (.int .i64 t289)).setCell ⟨gb302, 2, none⟩ (.int .i64 t290)).setCell ⟨gb302, 3, none⟩ (.int .i64 t291)).setCell ⟨gb302, 4, none⟩ (.int .i64 t292)).setCell ⟨gb302, 5, none⟩ (.int .i64 t293)).setCell ⟨gb302, 6, none⟩ (.int .i64 t294)).setCell ⟨gb302, 7, none⟩ (.int .i64 t295)).setCell ⟨gb302, 8, none⟩ (.int .i64 t296)).setCell ⟨gb302, 9, none⟩ (.int .i64 t297)).setCell ⟨gb302, 10, none⟩ (.slice Ao16 t298.length co16)).setCell ⟨gb302, 5, none⟩ (.int .i64 (Go.bits .and .i64 (wrap64 (t293 + (wrap64 (Int.tdiv (wrap64 ((wrap64 (a1)) * 4294967296)) 4)))) 4294967295))) w.heap.size (fun _ => True) (.slice Ao16 t298.length co16) t298) := ⟨by (with_reducible repeat (first | apply Kd.R_alloc | apply Kd.R_drewN | apply Kd.R_drew)); exact Kd.R_mono (Kd.R_far (p := ⟨gb302, 5, none⟩) (Kd.R_far (p := ⟨gb302, 10, none⟩) (Kd.R_far (p := ⟨gb302, 9, none⟩) (Kd.R_far (p := ⟨gb302, 8, none⟩) (Kd.R_far (p := ⟨gb302, 7, none⟩) (Kd.R_far (p := ⟨gb302, 6, none⟩) (Kd.R_far (p := ⟨gb302, 5, none⟩) (Kd.R_far (p := ⟨gb302, 4, none⟩) (Kd.R_far (p := ⟨gb302, 3, none⟩) (Kd.R_far (p := ⟨gb302, 2, none⟩) (Kd.R_far (p := ⟨gb302, 1, none⟩) (Kd.R_far (p := ⟨gb302, 0, none⟩) (Kd.R_types HO300.out BK302.out (by decide)) (fun _ hk => hk.2) (.int .i64 t288)) (fun _ hk => hk.2) (.int .i64 t289)) (fun _ hk => hk.2) (.int .i64 t290)) (fun _ hk => hk.2) (.int .i64 t291)) (fun _ hk => hk.2) (.int .i64 t292)) (fun _ hk => hk.2) (.int .i64 t293)) (fun _ hk => hk.2) (.int .i64 t294)) (fun _ hk => hk.2) (.int .i64 t295)) (fun _ hk => hk.2) (.int .i64 t296)) (fun _ hk => hk.2) (.int .i64 t297)) (fun _ hk => hk.2) (.slice Ao16 t298.length co16)) (fun _ hk => hk.2) (.int .i64 (Go.bits .and .i64 (wrap64 (t293 + (wrap64 (Int.tdiv (wrap64 ((wrap64 (a1)) * 4294967296)) 4)))) 4294967295))) (fun _ hk => trivial)⟩
  have n1_ : Aside0 (((((((((((((w17.setCell ⟨gb302, 0, none⟩ (.int .i64 t288)).setCell ⟨gb302, 1, none⟩ (.int .i64 t289)).setCell ⟨gb302, 2, none⟩ (.int .i64 t290)).setCell ⟨gb302, 3, none⟩ (.int .i64 t291)).setCell ⟨gb302, 4, none⟩ (.int .i64 t292)).setCell ⟨gb302, 5, none⟩ (.int .i64 t293)).setCell ⟨gb302, 6, none⟩ (.int .i64 t294)).setCell ⟨gb302, 7, none⟩ (.int .i64 t295)).setCell ⟨gb302, 8, none⟩ (.int .i64 t296)).setCell ⟨gb302, 9, none⟩ (.int .i64 t297)).setCell ⟨gb302, 10, none⟩ (.slice Ao16 t298.length co16)).setCell ⟨gb302, 5, none⟩ (.int .i64 (Go.bits .and .i64 (wrap64 (t293 + (wrap64 (Int.tdiv (wrap64 ((wrap64 (a1)) * 4294967296)) 4)))) 4294967295))).heap[gb286]? = some (.cells #[.int .i64 a0_0, .int .i64 a0_1, .int .i64 a0_2, .int .i64 a0_3, .int .i64 a0_4, .int .i64 a0_5, .int .i64 a0_6] 34 (0, 0))) := ⟨by (with_reducible repeat (first | refine blk_drewN ?_ _ | refine blk_drew ?_ | refine blk_alloc ?_ _)); refine blk_far ?_ NB286_302.out _; (with_reducible repeat (first | refine blk_drewN ?_ _ | refine blk_drew ?_ | refine blk_alloc ?_ _)); refine blk_far ?_ NB286_302.out _; (with_reducible repeat (first | refine blk_drewN ?_ _ | refine blk_drew ?_ | refine blk_alloc ?_ _)); refine blk_far ?_ NB286_302.out _; (with_reducible repeat (first | refine blk_drewN ?_ _ | refine blk_drew ?_ | refine blk_alloc ?_ _)); refine blk_far ?_ NB286_302.out _; (with_reducible repeat (first | refine blk_drewN ?_ _ | refine blk_drew ?_ | refine blk_alloc ?_ _)); refine blk_far ?_ NB286_302.out _; (with_reducible repeat (first | refine blk_drewN ?_ _ | refine blk_drew ?_ | refine blk_alloc ?_ _)); refine blk_far ?_ NB286_302.out _; (with_reducible repeat (first | refine blk_drewN ?_ _ | refine blk_drew ?_ | refine blk_alloc ?_ _)); refine blk_far ?_ NB286_302.out _; (with_reducible repeat (first | refine blk_drewN ?_ _ | refine blk_drew ?_ | refine blk_alloc ?_ _)); refine blk_far ?_ NB286_302.out _; (with_reducible repeat (first | refine blk_drewN ?_ _ | refine blk_drew ?_ | refine blk_alloc ?_ _)); refine blk_far ?_ NB286_302.out _; (with_reducible repeat (first | refine blk_drewN ?_ _ | refine blk_drew ?_ | refine blk_alloc ?_ _)); refine blk_far ?_ NB286_302.out _; (with_reducible repeat (first | refine blk_drewN ?_ _ | refine blk_drew ?_ | refine blk_alloc ?_ _)); refine blk_far ?_ NB286_302.out _; (with_reducible repeat (first | refine blk_drewN ?_ _ | refine blk_drew ?_ | refine blk_alloc ?_ _)); refine blk_far ?_ NB286_302.out _; (with_reducible repeat (first | refine blk_drewN ?_ _ | refine blk_drew ?_ | refine blk_alloc ?_ _)); exact BK286.out⟩
  have n2_ : Aside0 (((((((((((((w17.setCell ⟨gb302, 0, none⟩ (.int .i64 t288)).setCell ⟨gb302, 1, none⟩ (.int .i64 t289)).setCell ⟨gb302, 2, none⟩ (.int .i64 t290)).setCell ⟨gb302, 3, none⟩ (.int .i64 t291)).setCell ⟨gb302, 4, none⟩ (.int .i64 t292)).setCell ⟨gb302, 5, none⟩ (.int .i64 t293)).setCell ⟨gb302, 6, none⟩ (.int .i64 t294)).setCell ⟨gb302, 7, none⟩ (.int .i64 t295)).setCell ⟨gb302, 8, none⟩ (.int .i64 t296)).setCell ⟨gb302, 9, none⟩ (.int .i64 t297)).setCell ⟨gb302, 10, none⟩ (.slice Ao16 t298.length co16)).setCell ⟨gb302, 5, none⟩ (.int .i64 (Go.bits .and .i64 (wrap64 (t293 + (wrap64 (Int.tdiv (wrap64 ((wrap64 (a1)) * 4294967296)) 4)))) 4294967295))).heap[gb301]? = some (.cells #[.int .i64 t288, .int .i64 t289, .int .i64 t290, .int .i64 t291, .int .i64 t292, .int .i64 t293, .int .i64 t294, .int .i64 t295, .int .i64 t296, .int .i64 t297, .slice Ao16 t298.length co16] 39 (0, 0))) := ⟨by (with_reducible repeat (first | refine blk_drewN ?_ _ | refine blk_drew ?_ | refine blk_alloc ?_ _)); refine blk_far ?_ NB301_302.out _; (with_reducible repeat (first | refine blk_drewN ?_ _ | refine blk_drew ?_ | refine blk_alloc ?_ _)); refine blk_far ?_ NB301_302.out _; (with_reducible repeat (first | refine blk_drewN ?_ _ | refine blk_drew ?_ | refine blk_alloc ?_ _)); refine blk_far ?_ NB301_302.out _; (with_reducible repeat (first | refine blk_drewN ?_ _ | refine blk_drew ?_ | refine blk_alloc ?_ _)); refine blk_far ?_ NB301_302.out _; (with_reducible repeat (first | refine blk_drewN ?_ _ | refine blk_drew ?_ | refine blk_alloc ?_ _)); refine blk_far ?_ NB301_302.out _; (with_reducible repeat (first | refine blk_drewN ?_ _ | refine blk_drew ?_ | refine blk_alloc ?_ _)); refine blk_far ?_ NB301_302.out _; (with_reducible repeat (first | refine blk_drewN ?_ _ | refine blk_drew ?_ | refine blk_alloc ?_ _)); refine blk_far ?_ NB301_302.out _; (with_reducible repeat (first | refine blk_drewN ?_ _ | refine blk_drew ?_ | refine blk_alloc ?_ _)); refine blk_far ?_ NB301_302.out _; (with_reducible repeat (first | refine blk_drewN ?_ _ | refine blk_drew ?_ | refine blk_alloc ?_ _)); refine blk_far ?_ NB301_302.out _; (with_reducible repeat (first | refine blk_drewN ?_ _ | refine blk_drew ?_ | refine blk_alloc ?_ _)); refine blk_far ?_ NB301_302.out _; (with_reducible repeat (first | refine blk_drewN ?_ _ | refine blk_drew ?_ | refine blk_alloc ?_ _)); refine blk_far ?_ NB301_302.out _; (with_reducible repeat (first | refine blk_drewN ?_ _ | refine blk_drew ?_ | refine blk_alloc ?_ _)); refine blk_far ?_ NB301_302.out _; (with_reducible repeat (first | refine blk_drewN ?_ _ | refine blk_drew ?_ | refine blk_alloc ?_ _)); exact BK301.out⟩
  have n3_ : Aside0 (((((((((((((w17.setCell ⟨gb302, 0, none⟩ (.int .i64 t288)).setCell ⟨gb302, 1, none⟩ (.int .i64 t289)).setCell ⟨gb302, 2, none⟩ (.int .i64 t290)).setCell ⟨gb302, 3, none⟩ (.int .i64 t291)).setCell ⟨gb302, 4, none⟩ (.int .i64 t292)).setCell ⟨gb302, 5, none⟩ (.int .i64 t293)).setCell ⟨gb302, 6, none⟩ (.int .i64 t294)).setCell ⟨gb302, 7, none⟩ (.int .i64 t295)).setCell ⟨gb302, 8, none⟩ (.int .i64 t296)).setCell ⟨gb302, 9, none⟩ (.int .i64 t297)).setCell ⟨gb302, 10, none⟩ (.slice Ao16 t298.length co16)).setCell ⟨gb302, 5, none⟩ (.int .i64 (Go.bits .and .i64 (wrap64 (t293 + (wrap64 (Int.tdiv (wrap64 ((wrap64 (a1)) * 4294967296)) 4)))) 4294967295))).heap[gb302]? = some (.cells #[.int .i64 t288, .int .i64 t289, .int .i64 t290, .int .i64 t291, .int .i64 t292, .int .i64 (Go.bits .and .i64 (wrap64 (t293 + (wrap64 (Int.tdiv (wrap64 ((wrap64 (a1)) * 4294967296)) 4)))) 4294967295), .int .i64 t294, .int .i64 t295, .int .i64 t296, .int .i64 t297, .slice Ao16 t298.length co16] 39 (0, 0))) := ⟨by (with_reducible repeat (first | refine blk_drewN ?_ _ | refine blk_drew ?_ | refine blk_alloc ?_ _)); refine blk_put (cs := #[.int .i64 t288, .int .i64 t289, .int .i64 t290, .int .i64 t291, .int .i64 t292, .int .i64 t293, .int .i64 t294, .int .i64 t295, .int .i64 t296, .int .i64 t297, .slice Ao16 t298.length co16]) ?_ 5 _ rfl; (with_reducible repeat (first | refine blk_drewN ?_ _ | refine blk_drew ?_ | refine blk_alloc ?_ _)); refine blk_put (cs := #[.int .i64 t288, .int .i64 t289, .int .i64 t290, .int .i64 t291, .int .i64 t292, .int .i64 t293, .int .i64 t294, .int .i64 t295, .int .i64 t296, .int .i64 t297, .slice none 0 0]) ?_ 10 _ rfl; (with_reducible repeat (first | refine blk_drewN ?_ _ | refine blk_drew ?_ | refine blk_alloc ?_ _)); refine blk_put (cs := #[.int .i64 t288, .int .i64 t289, .int .i64 t290, .int .i64 t291, .int .i64 t292, .int .i64 t293, .int .i64 t294, .int .i64 t295, .int .i64 t296, .int .i64 0, .slice none 0 0]) ?_ 9 _ rfl; (with_reducible repeat (first | refine blk_drewN ?_ _ | refine blk_drew ?_ | refine blk_alloc ?_ _)); refine blk_put (cs := #[.int .i64 t288, .int .i64 t289, .int .i64 t290, .int .i64 t291, .int .i64 t292, .int .i64 t293, .int .i64 t294, .int .i64 t295, .int .i64 0, .int .i64 0, .slice none 0 0]) ?_ 8 _ rfl; (with_reducible repeat (first | refine blk_drewN ?_ _ | refine blk_drew ?_ | refine blk_alloc ?_ _)); refine blk_put (cs := #[.int .i64 t288, .int .i64 t289, .int .i64 t290, .int .i64 t291, .int .i64 t292, .int .i64 t293, .int .i64 t294, .int .i64 0, .int .i64 0, .int .i64 0, .slice none 0 0]) ?_ 7 _ rfl; (with_reducible repeat (first | refine blk_drewN ?_ _ | refine blk_drew ?_ | refine blk_alloc ?_ _)); refine blk_put (cs := #[.int .i64 t288, .int .i64 t289, .int .i64 t290, .int .i64 t291, .int .i64 t292, .int .i64 t293, .int .i64 0, .int .i64 0, .int .i64 0, .int .i64 0, .slice none 0 0]) ?_ 6 _ rfl; (with_reducible repeat (first | refine blk_drewN ?_ _ | refine blk_drew ?_ | refine blk_alloc ?_ _)); refine blk_put (cs := #[.int .i64 t288, .int .i64 t289, .int .i64 t290, .int .i64 t291, .int .i64 t292, .int .i64 0, .int .i64 0, .int .i64 0, .int .i64 0, .int .i64 0, .slice none 0 0]) ?_ 5 _ rfl; (with_reducible repeat (first | refine blk_drewN ?_ _ | refine blk_drew ?_ | refine blk_alloc ?_ _)); refine blk_put (cs := #[.int .i64 t288, .int .i64 t289, .int .i64 t290, .int .i64 t291, .int .i64 0, .int .i64 0, .int .i64 0, .int .i64 0, .int .i64 0, .int .i64 0, .slice none 0 0]) ?_ 4 _ rfl; (with_reducible repeat (first | refine blk_drewN ?_ _ | refine blk_drew ?_ | refine blk_alloc ?_ _)); refine blk_put (cs := #[.int .i64 t288, .int .i64 t289, .int .i64 t290, .int .i64 0, .int .i64 0, .int .i64 0, .int .i64 0, .int .i64 0, .int .i64 0, .int .i64 0, .slice none 0 0]) ?_ 3 _ rfl; (with_reducible repeat (first | refine blk_drewN ?_ _ | refine blk_drew ?_ | refine blk_alloc ?_ _)); refine blk_put (cs := #[.int .i64 t288, .int .i64 t289, .int .i64 0, .int .i64 0, .int .i64 0, .int .i64 0, .int .i64 0, .int .i64 0, .int .i64 0, .int .i64 0, .slice none 0 0]) ?_ 2 _ rfl; (with_reducible repeat (first | refine blk_drewN ?_ _ | refine blk_drew ?_ | refine blk_alloc ?_ _)); refine blk_put (cs := #[.int .i64 t288, .int .i64 0, .int .i64 0, .int .i64 0, .int .i64 0, .int .i64 0, .int .i64 0, .int .i64 0, .int .i64 0, .int .i64 0, .slice none 0 0]) ?_ 1 _ rfl; (with_reducible repeat (first | refine blk_drewN ?_ _ | refine blk_drew ?_ | refine blk_alloc ?_ _)); refine blk_put (cs := #[.int .i64 0, .int .i64 0, .int .i64 0, .int .i64 0, .int .i64 0, .int .i64 0, .int .i64 0, .int .i64 0, .int .i64 0, .int .i64 0, .slice none 0 0]) ?_ 0 _ rfl; (with_reducible repeat (first | refine blk_drewN ?_ _ | refine blk_drew ?_ | refine blk_alloc ?_ _)); exact BK302.out⟩
  have n4_ : Aside0 (Below w.heap.size w ((((((((((((w17.setCell ⟨gb302, 0, none⟩ (.int .i64 t288)).setCell ⟨gb302, 1, none⟩ (.int .i64 t289)).setCell ⟨gb302, 2, none⟩ (.int .i64 t290)).setCell ⟨gb302, 3, none⟩ (.int .i64 t291)).setCell ⟨gb302, 4, none⟩ (.int .i64 t292)).setCell ⟨gb302, 5, none⟩ (.int .i64 t293)).setCell ⟨gb302, 6, none⟩ (.int .i64 t294)).setCell ⟨gb302, 7, none⟩ (.int .i64 t295)).setCell ⟨gb302, 8, none⟩ (.int .i64 t296)).setCell ⟨gb302, 9, none⟩ (.int .i64 t297)).setCell ⟨gb302, 10, none⟩ (.slice Ao16 t298.length co16)).setCell ⟨gb302, 5, none⟩ (.int .i64 (Go.bits .and .i64 (wrap64 (t293 + (wrap64 (Int.tdiv (wrap64 ((wrap64 (a1)) * 4294967296)) 4)))) 4294967295)))) := ⟨by repeat (first | (with_reducible first | exact HB.out | apply below_alloc | apply pw_below_drewN | apply below_drew1 | refine below_set ?_ GE286.out | refine below_set ?_ GE301.out | refine below_set ?_ GE302.out) | exact HB.out)⟩
  (try clear HO300)
  (try clear BK286)
  (try clear BK301)
  (try clear BK302)
  (try clear HB)
  generalize ((((((((((((w17.setCell ⟨gb302, 0, none⟩ (.int .i64 t288)).setCell ⟨gb302, 1, none⟩ (.int .i64 t289)).setCell ⟨gb302, 2, none⟩ (.int .i64 t290)).setCell ⟨gb302, 3, none⟩ (.int .i64 t291)).setCell ⟨gb302, 4, none⟩ (.int .i64 t292)).setCell ⟨gb302, 5, none⟩ (.int .i64 t293)).setCell ⟨gb302, 6, none⟩ (.int .i64 t294)).setCell ⟨gb302, 7, none⟩ (.int .i64 t295)).setCell ⟨gb302, 8, none⟩ (.int .i64 t296)).setCell ⟨gb302, 9, none⟩ (.int .i64 t297)).setCell ⟨gb302, 10, none⟩ (.slice Ao16 t298.length co16)).setCell ⟨gb302, 5, none⟩ (.int .i64 (Go.bits .and .i64 (wrap64 (t293 + (wrap64 (Int.tdiv (wrap64 ((wrap64 (a1)) * 4294967296)) 4)))) 4294967295))) = w22 at n0_ n1_ n2_ n3_ n4_ ⊢
  have HO300 := n0_
  have BK286 := n1_
  have BK301 := n2_
  have BK302 := n3_
  have HB := n4_
  clear n0_ n1_ n2_ n3_ n4_
  have n0_ := Aside0.mk (Kd.R_drew HO300.out)
  have n1_ := Aside0.mk (blk_drew BK286.out)
  have n2_ := Aside0.mk (blk_drew BK301.out)
  have n3_ := Aside0.mk (blk_drew BK302.out)
  have n4_ := Aside0.mk (below_drew1 HB.out)
  clear HO300
  clear BK286
  clear BK301
  clear BK302
  clear HB
  have HO300 := n0_
  have BK286 := n1_
  have BK301 := n2_
  have BK302 := n3_
  have HB := n4_
  clear n0_ n1_ n2_ n3_ n4_
  refine start_ (n := 8) (S := fun w' => w'.cell? ⟨gb301, 0, none⟩ = some (.int .i64 t288) ∧ w'.cell? ⟨gb301, 1, none⟩ = some (.int .i64 t289) ∧ w'.cell? ⟨gb301, 2, none⟩ = some (.int .i64 t290) ∧ w'.cell? ⟨gb301, 3, none⟩ = some (.int .i64 t291) ∧ w'.cell? ⟨gb301, 4, none⟩ = some (.int .i64 t292) ∧ w'.cell? ⟨gb301, 5, none⟩ = some (.int .i64 t293) ∧ w'.cell? ⟨gb301, 6, none⟩ = some (.int .i64 t294) ∧ w'.cell? ⟨gb301, 7, none⟩ = some (.int .i64 t295) ∧ w'.cell? ⟨gb301, 8, none⟩ = some (.int .i64 t296) ∧ w'.cell? ⟨gb301, 9, none⟩ = some (.int .i64 t297) ∧ w'.cell? ⟨gb301, 10, none⟩ = some (.slice Ao16 t298.length co16) ∧ w'.cell? ⟨gb302, 0, none⟩ = some (.int .i64 t288) ∧ w'.cell? ⟨gb302, 1, none⟩ = some (.int .i64 t289) ∧ w'.cell? ⟨gb302, 2, none⟩ = some (.int .i64 t290) ∧ w'.cell? ⟨gb302, 3, none⟩ = some (.int .i64 t291) ∧ w'.cell? ⟨gb302, 4, none⟩ = some (.int .i64 t292) ∧ w'.cell? ⟨gb302, 5, none⟩ = some (.int .i64 (Go.bits .and .i64 (wrap64 (t293 + (wrap64 (Int.tdiv (wrap64 ((wrap64 (a1)) * 4294967296)) 4)))) 4294967295)) ∧ w'.cell? ⟨gb302, 6, none⟩ = some (.int .i64 t294) ∧ w'.cell? ⟨gb302, 7, none⟩ = some (.int .i64 t295) ∧ w'.cell? ⟨gb302, 8, none⟩ = some (.int .i64 t296) ∧ w'.cell? ⟨gb302, 9, none⟩ = some (.int .i64 t297) ∧ w'.cell? ⟨gb302, 10, none⟩ = some (.slice Ao16 t298.length co16)) (ds := []) #[O5,O5,O5,O5,O5,O5,O5,O5] (by kernel_rfl) rfl rfl ⟨bc5 BK301 0, bc5 BK301 1, bc5 BK301 2, bc5 BK301 3, bc5 BK301 4, bc5 BK301 5, bc5 BK301 6, bc5 BK301 7, bc5 BK301 8, bc5 BK301 9, bc5 BK301 10, bc5 BK302 0, bc5 BK302 1, bc5 BK302 2, bc5 BK302 3, bc5 BK302 4, bc5 BK302 5, bc5 BK302 6, bc5 BK302 7, bc5 BK302 8, bc5 BK302 9, bc5 BK302 10⟩ (fun hHeld => ?_); refine with_tabW bagatellelaw06_BoxTurns.tab6 bagatellelaw06_BoxTurns.bits6 (fun HT_ HW_ => ?_)
  generalize w22.drew = w23 at HO300 BK286 BK301 BK302 HB hHeld ⊢
  refine take_ (i := 0) (N := some 23) (v := ?_) (a' := ?_) #[I5,O5,O5,O5,O5,O5,O5,O5] rfl rfl (take_ofW HT_.out HW_.out (by kernel_rfl)) (fun _ _ _ h => h) (Or.inl ⟨by rfl, ?_⟩) hHeld ?_ ?_
  rotate_left
  ·rintro w' ⟨s0, s1, s2, s3, s4, s5, s6, s7, s8, s9, s10, s11, s12, s13, s14, s15, s16, s17, s18, s19, s20, s21⟩
   go_simp
   first | with_reducible rfl | (rw [fld24 _ _ w']; rfl) | (rw [fle24 _ _ w']; rfl)
  rotate_left
  ·simp only [Act.put, List.setIfInBounds_toArray, List.set_cons_zero, List.set_cons_succ, i64_w, i32_w]
   rfl
  refine take_ (i := 2) (N := some 25) (v := ?_) (a' := ?_) #[I5,O5,I5,O5,O5,O5,O5,O5] rfl rfl (take_ofW HT_.out HW_.out (by kernel_rfl)) (fun _ _ _ h => h) (Or.inl ⟨by rfl, ?_⟩) hHeld ?_ ?_
  rotate_left
  ·rintro w' ⟨s0, s1, s2, s3, s4, s5, s6, s7, s8, s9, s10, s11, s12, s13, s14, s15, s16, s17, s18, s19, s20, s21⟩
   go_simp
   first | with_reducible rfl | (rw [fld24 _ _ w']; rfl) | (rw [fle24 _ _ w']; rfl)
  rotate_left
  ·simp only [Act.put, List.setIfInBounds_toArray, List.set_cons_zero, List.set_cons_succ, i64_w, i32_w]
   rfl
  refine join_ (σ := Nat × Nat) 2 #[I5,I5,I5,I5,I5,I5,O5,O5] (fun s_ => [(24, .agg #[.int .i64 t303, .int .i64 t304, .int .i64 t305, .int .i64 t306]), (26, .agg #[.int .i64 t307, .int .i64 t308, .int .i64 t309, .int .i64 t310]), (7, .pointer (some ⟨s_.1, 0, none⟩)), (8, .pointer (some ⟨s_.2, 0, none⟩))]) (fun s_ w' => (w'.cell? ⟨gb301, 0, none⟩ = some (.int .i64 t288) ∧ w'.cell? ⟨gb301, 1, none⟩ = some (.int .i64 t289) ∧ w'.cell? ⟨gb301, 2, none⟩ = some (.int .i64 t290) ∧ w'.cell? ⟨gb301, 3, none⟩ = some (.int .i64 t291) ∧ w'.cell? ⟨gb301, 4, none⟩ = some (.int .i64 t292) ∧ w'.cell? ⟨gb301, 5, none⟩ = some (.int .i64 t293) ∧ w'.cell? ⟨gb301, 6, none⟩ = some (.int .i64 t294) ∧ w'.cell? ⟨gb301, 7, none⟩ = some (.int .i64 t295) ∧ w'.cell? ⟨gb301, 8, none⟩ = some (.int .i64 t296) ∧ w'.cell? ⟨gb301, 9, none⟩ = some (.int .i64 t297) ∧ w'.cell? ⟨gb301, 10, none⟩ = some (.slice Ao16 t298.length co16) ∧ w'.cell? ⟨gb302, 0, none⟩ = some (.int .i64 t288) ∧ w'.cell? ⟨gb302, 1, none⟩ = some (.int .i64 t289) ∧ w'.cell? ⟨gb302, 2, none⟩ = some (.int .i64 t290) ∧ w'.cell? ⟨gb302, 3, none⟩ = some (.int .i64 t291) ∧ w'.cell? ⟨gb302, 4, none⟩ = some (.int .i64 t292) ∧ w'.cell? ⟨gb302, 5, none⟩ = some (.int .i64 (Go.bits .and .i64 (wrap64 (t293 + (wrap64 (Int.tdiv (wrap64 ((wrap64 (a1)) * 4294967296)) 4)))) 4294967295)) ∧ w'.cell? ⟨gb302, 6, none⟩ = some (.int .i64 t294) ∧ w'.cell? ⟨gb302, 7, none⟩ = some (.int .i64 t295) ∧ w'.cell? ⟨gb302, 8, none⟩ = some (.int .i64 t296) ∧ w'.cell? ⟨gb302, 9, none⟩ = some (.int .i64 t297) ∧ w'.cell? ⟨gb302, 10, none⟩ = some (.slice Ao16 t298.length co16)) ∧ (Kd.R k24 24 w' w.heap.size (fun _ => True) (.slice Ao16 t298.length co16) t298) ∧ (w'.heap[gb286]? = some (.cells #[.int .i64 a0_0, .int .i64 a0_1, .int .i64 a0_2, .int .i64 a0_3, .int .i64 a0_4, .int .i64 a0_5, .int .i64 a0_6] 34 (0, 0))) ∧ (w'.heap[gb301]? = some (.cells #[.int .i64 t288, .int .i64 t289, .int .i64 t290, .int .i64 t291, .int .i64 t292, .int .i64 t293, .int .i64 t294, .int .i64 t295, .int .i64 t296, .int .i64 t297, .slice Ao16 t298.length co16] 39 (0, 0))) ∧ (w'.heap[gb302]? = some (.cells #[.int .i64 t288, .int .i64 t289, .int .i64 t290, .int .i64 t291, .int .i64 t292, .int .i64 (Go.bits .and .i64 (wrap64 (t293 + (wrap64 (Int.tdiv (wrap64 ((wrap64 (a1)) * 4294967296)) 4)))) 4294967295), .int .i64 t294, .int .i64 t295, .int .i64 t296, .int .i64 t297, .slice Ao16 t298.length co16] 39 (0, 0))) ∧ (w'.heap[s_.1]? = some (.cells #[.int .i64 0, .int .i64 0, .int .i64 0, .int .i64 0] 26 (0, 0))) ∧ (w'.heap[s_.2]? = some (.cells #[.int .i64 0, .int .i64 0, .int .i64 0, .int .i64 0] 26 (0, 0))) ∧ (w.heap.size ≤ s_.1) ∧ (w.heap.size ≤ s_.1) ∧ (gb286 ≠ s_.1) ∧ (s_.1 ≠ gb286) ∧ (gb301 ≠ s_.1) ∧ (s_.1 ≠ gb301) ∧ (gb302 ≠ s_.1) ∧ (s_.1 ≠ gb302) ∧ (s_.2 ≠ s_.1) ∧ (s_.1 ≠ s_.2) ∧ (w.heap.size ≤ s_.2) ∧ (w.heap.size ≤ s_.2) ∧ (gb286 ≠ s_.2) ∧ (s_.2 ≠ gb286) ∧ (gb301 ≠ s_.2) ∧ (s_.2 ≠ gb301) ∧ (gb302 ≠ s_.2) ∧ (s_.2 ≠ gb302) ∧ (Below w.heap.size w w')) ?_ ?_
  rotate_left
  ·intro hJ1_3_4_5
   refine join_ (σ := Nat) 3 #[I5,I5,I5,I5,I5,O5,O5,O5] (fun s_ => [(24, .agg #[.int .i64 t303, .int .i64 t304, .int .i64 t305, .int .i64 t306]), (26, .agg #[.int .i64 t307, .int .i64 t308, .int .i64 t309, .int .i64 t310]), (7, .pointer (some ⟨s_, 0, none⟩))]) (fun s_ w' => (w'.cell? ⟨gb301, 0, none⟩ = some (.int .i64 t288) ∧ w'.cell? ⟨gb301, 1, none⟩ = some (.int .i64 t289) ∧ w'.cell? ⟨gb301, 2, none⟩ = some (.int .i64 t290) ∧ w'.cell? ⟨gb301, 3, none⟩ = some (.int .i64 t291) ∧ w'.cell? ⟨gb301, 4, none⟩ = some (.int .i64 t292) ∧ w'.cell? ⟨gb301, 5, none⟩ = some (.int .i64 t293) ∧ w'.cell? ⟨gb301, 6, none⟩ = some (.int .i64 t294) ∧ w'.cell? ⟨gb301, 7, none⟩ = some (.int .i64 t295) ∧ w'.cell? ⟨gb301, 8, none⟩ = some (.int .i64 t296) ∧ w'.cell? ⟨gb301, 9, none⟩ = some (.int .i64 t297) ∧ w'.cell? ⟨gb301, 10, none⟩ = some (.slice Ao16 t298.length co16) ∧ w'.cell? ⟨gb302, 0, none⟩ = some (.int .i64 t288) ∧ w'.cell? ⟨gb302, 1, none⟩ = some (.int .i64 t289) ∧ w'.cell? ⟨gb302, 2, none⟩ = some (.int .i64 t290) ∧ w'.cell? ⟨gb302, 3, none⟩ = some (.int .i64 t291) ∧ w'.cell? ⟨gb302, 4, none⟩ = some (.int .i64 t292) ∧ w'.cell? ⟨gb302, 5, none⟩ = some (.int .i64 (Go.bits .and .i64 (wrap64 (t293 + (wrap64 (Int.tdiv (wrap64 ((wrap64 (a1)) * 4294967296)) 4)))) 4294967295)) ∧ w'.cell? ⟨gb302, 6, none⟩ = some (.int .i64 t294) ∧ w'.cell? ⟨gb302, 7, none⟩ = some (.int .i64 t295) ∧ w'.cell? ⟨gb302, 8, none⟩ = some (.int .i64 t296) ∧ w'.cell? ⟨gb302, 9, none⟩ = some (.int .i64 t297) ∧ w'.cell? ⟨gb302, 10, none⟩ = some (.slice Ao16 t298.length co16)) ∧ (Kd.R k24 24 w' w.heap.size (fun _ => True) (.slice Ao16 t298.length co16) t298) ∧ (w'.heap[gb286]? = some (.cells #[.int .i64 a0_0, .int .i64 a0_1, .int .i64 a0_2, .int .i64 a0_3, .int .i64 a0_4, .int .i64 a0_5, .int .i64 a0_6] 34 (0, 0))) ∧ (w'.heap[gb301]? = some (.cells #[.int .i64 t288, .int .i64 t289, .int .i64 t290, .int .i64 t291, .int .i64 t292, .int .i64 t293, .int .i64 t294, .int .i64 t295, .int .i64 t296, .int .i64 t297, .slice Ao16 t298.length co16] 39 (0, 0))) ∧ (w'.heap[gb302]? = some (.cells #[.int .i64 t288, .int .i64 t289, .int .i64 t290, .int .i64 t291, .int .i64 t292, .int .i64 (Go.bits .and .i64 (wrap64 (t293 + (wrap64 (Int.tdiv (wrap64 ((wrap64 (a1)) * 4294967296)) 4)))) 4294967295), .int .i64 t294, .int .i64 t295, .int .i64 t296, .int .i64 t297, .slice Ao16 t298.length co16] 39 (0, 0))) ∧ (w'.heap[s_]? = some (.cells #[.int .i64 0, .int .i64 0, .int .i64 0, .int .i64 0] 26 (0, 0))) ∧ (w.heap.size ≤ s_) ∧ (w.heap.size ≤ s_) ∧ (gb286 ≠ s_) ∧ (s_ ≠ gb286) ∧ (gb301 ≠ s_) ∧ (s_ ≠ gb301) ∧ (gb302 ≠ s_) ∧ (s_ ≠ gb302) ∧ (Below w.heap.size w w')) ?_ ?_
   rotate_left
   ·intro hJ1_3_4
    refine join_ (σ := Nat) 3 #[I5,I5,I5,I5,O5,I5,O5,O5] (fun s_ => [(24, .agg #[.int .i64 t303, .int .i64 t304, .int .i64 t305, .int .i64 t306]), (26, .agg #[.int .i64 t307, .int .i64 t308, .int .i64 t309, .int .i64 t310]), (8, .pointer (some ⟨s_, 0, none⟩))]) (fun s_ w' => (w'.cell? ⟨gb301, 0, none⟩ = some (.int .i64 t288) ∧ w'.cell? ⟨gb301, 1, none⟩ = some (.int .i64 t289) ∧ w'.cell? ⟨gb301, 2, none⟩ = some (.int .i64 t290) ∧ w'.cell? ⟨gb301, 3, none⟩ = some (.int .i64 t291) ∧ w'.cell? ⟨gb301, 4, none⟩ = some (.int .i64 t292) ∧ w'.cell? ⟨gb301, 5, none⟩ = some (.int .i64 t293) ∧ w'.cell? ⟨gb301, 6, none⟩ = some (.int .i64 t294) ∧ w'.cell? ⟨gb301, 7, none⟩ = some (.int .i64 t295) ∧ w'.cell? ⟨gb301, 8, none⟩ = some (.int .i64 t296) ∧ w'.cell? ⟨gb301, 9, none⟩ = some (.int .i64 t297) ∧ w'.cell? ⟨gb301, 10, none⟩ = some (.slice Ao16 t298.length co16) ∧ w'.cell? ⟨gb302, 0, none⟩ = some (.int .i64 t288) ∧ w'.cell? ⟨gb302, 1, none⟩ = some (.int .i64 t289) ∧ w'.cell? ⟨gb302, 2, none⟩ = some (.int .i64 t290) ∧ w'.cell? ⟨gb302, 3, none⟩ = some (.int .i64 t291) ∧ w'.cell? ⟨gb302, 4, none⟩ = some (.int .i64 t292) ∧ w'.cell? ⟨gb302, 5, none⟩ = some (.int .i64 (Go.bits .and .i64 (wrap64 (t293 + (wrap64 (Int.tdiv (wrap64 ((wrap64 (a1)) * 4294967296)) 4)))) 4294967295)) ∧ w'.cell? ⟨gb302, 6, none⟩ = some (.int .i64 t294) ∧ w'.cell? ⟨gb302, 7, none⟩ = some (.int .i64 t295) ∧ w'.cell? ⟨gb302, 8, none⟩ = some (.int .i64 t296) ∧ w'.cell? ⟨gb302, 9, none⟩ = some (.int .i64 t297) ∧ w'.cell? ⟨gb302, 10, none⟩ = some (.slice Ao16 t298.length co16)) ∧ (Kd.R k24 24 w' w.heap.size (fun _ => True) (.slice Ao16 t298.length co16) t298) ∧ (w'.heap[gb286]? = some (.cells #[.int .i64 a0_0, .int .i64 a0_1, .int .i64 a0_2, .int .i64 a0_3, .int .i64 a0_4, .int .i64 a0_5, .int .i64 a0_6] 34 (0, 0))) ∧ (w'.heap[gb301]? = some (.cells #[.int .i64 t288, .int .i64 t289, .int .i64 t290, .int .i64 t291, .int .i64 t292, .int .i64 t293, .int .i64 t294, .int .i64 t295, .int .i64 t296, .int .i64 t297, .slice Ao16 t298.length co16] 39 (0, 0))) ∧ (w'.heap[gb302]? = some (.cells #[.int .i64 t288, .int .i64 t289, .int .i64 t290, .int .i64 t291, .int .i64 t292, .int .i64 (Go.bits .and .i64 (wrap64 (t293 + (wrap64 (Int.tdiv (wrap64 ((wrap64 (a1)) * 4294967296)) 4)))) 4294967295), .int .i64 t294, .int .i64 t295, .int .i64 t296, .int .i64 t297, .slice Ao16 t298.length co16] 39 (0, 0))) ∧ (w'.heap[s_]? = some (.cells #[.int .i64 0, .int .i64 0, .int .i64 0, .int .i64 0] 26 (0, 0))) ∧ (w.heap.size ≤ s_) ∧ (w.heap.size ≤ s_) ∧ (gb286 ≠ s_) ∧ (s_ ≠ gb286) ∧ (gb301 ≠ s_) ∧ (s_ ≠ gb301) ∧ (gb302 ≠ s_) ∧ (s_ ≠ gb302) ∧ (Below w.heap.size w w')) ?_ ?_
    rotate_left
    ·intro hJ1_3_5
     refine join_ (σ := Nat × Nat) 3 #[I5,I5,I5,O5,I5,I5,O5,O5] (fun s_ => [(24, .agg #[.int .i64 t303, .int .i64 t304, .int .i64 t305, .int .i64 t306]), (7, .pointer (some ⟨s_.1, 0, none⟩)), (8, .pointer (some ⟨s_.2, 0, none⟩))]) (fun s_ w' => (w'.cell? ⟨gb301, 0, none⟩ = some (.int .i64 t288) ∧ w'.cell? ⟨gb301, 1, none⟩ = some (.int .i64 t289) ∧ w'.cell? ⟨gb301, 2, none⟩ = some (.int .i64 t290) ∧ w'.cell? ⟨gb301, 3, none⟩ = some (.int .i64 t291) ∧ w'.cell? ⟨gb301, 4, none⟩ = some (.int .i64 t292) ∧ w'.cell? ⟨gb301, 5, none⟩ = some (.int .i64 t293) ∧ w'.cell? ⟨gb301, 6, none⟩ = some (.int .i64 t294) ∧ w'.cell? ⟨gb301, 7, none⟩ = some (.int .i64 t295) ∧ w'.cell? ⟨gb301, 8, none⟩ = some (.int .i64 t296) ∧ w'.cell? ⟨gb301, 9, none⟩ = some (.int .i64 t297) ∧ w'.cell? ⟨gb301, 10, none⟩ = some (.slice Ao16 t298.length co16) ∧ w'.cell? ⟨gb302, 0, none⟩ = some (.int .i64 t288) ∧ w'.cell? ⟨gb302, 1, none⟩ = some (.int .i64 t289) ∧ w'.cell? ⟨gb302, 2, none⟩ = some (.int .i64 t290) ∧ w'.cell? ⟨gb302, 3, none⟩ = some (.int .i64 t291) ∧ w'.cell? ⟨gb302, 4, none⟩ = some (.int .i64 t292) ∧ w'.cell? ⟨gb302, 5, none⟩ = some (.int .i64 (Go.bits .and .i64 (wrap64 (t293 + (wrap64 (Int.tdiv (wrap64 ((wrap64 (a1)) * 4294967296)) 4)))) 4294967295)) ∧ w'.cell? ⟨gb302, 6, none⟩ = some (.int .i64 t294) ∧ w'.cell? ⟨gb302, 7, none⟩ = some (.int .i64 t295) ∧ w'.cell? ⟨gb302, 8, none⟩ = some (.int .i64 t296) ∧ w'.cell? ⟨gb302, 9, none⟩ = some (.int .i64 t297) ∧ w'.cell? ⟨gb302, 10, none⟩ = some (.slice Ao16 t298.length co16)) ∧ (Kd.R k24 24 w' w.heap.size (fun _ => True) (.slice Ao16 t298.length co16) t298) ∧ (w'.heap[gb286]? = some (.cells #[.int .i64 a0_0, .int .i64 a0_1, .int .i64 a0_2, .int .i64 a0_3, .int .i64 a0_4, .int .i64 a0_5, .int .i64 a0_6] 34 (0, 0))) ∧ (w'.heap[gb301]? = some (.cells #[.int .i64 t288, .int .i64 t289, .int .i64 t290, .int .i64 t291, .int .i64 t292, .int .i64 t293, .int .i64 t294, .int .i64 t295, .int .i64 t296, .int .i64 t297, .slice Ao16 t298.length co16] 39 (0, 0))) ∧ (w'.heap[gb302]? = some (.cells #[.int .i64 t288, .int .i64 t289, .int .i64 t290, .int .i64 t291, .int .i64 t292, .int .i64 (Go.bits .and .i64 (wrap64 (t293 + (wrap64 (Int.tdiv (wrap64 ((wrap64 (a1)) * 4294967296)) 4)))) 4294967295), .int .i64 t294, .int .i64 t295, .int .i64 t296, .int .i64 t297, .slice Ao16 t298.length co16] 39 (0, 0))) ∧ (w'.heap[s_.1]? = some (.cells #[.int .i64 0, .int .i64 0, .int .i64 0, .int .i64 0] 26 (0, 0))) ∧ (w'.heap[s_.2]? = some (.cells #[.int .i64 0, .int .i64 0, .int .i64 0, .int .i64 0] 26 (0, 0))) ∧ (w.heap.size ≤ s_.1) ∧ (w.heap.size ≤ s_.1) ∧ (gb286 ≠ s_.1) ∧ (s_.1 ≠ gb286) ∧ (gb301 ≠ s_.1) ∧ (s_.1 ≠ gb301) ∧ (gb302 ≠ s_.1) ∧ (s_.1 ≠ gb302) ∧ (s_.2 ≠ s_.1) ∧ (s_.1 ≠ s_.2) ∧ (w.heap.size ≤ s_.2) ∧ (w.heap.size ≤ s_.2) ∧ (gb286 ≠ s_.2) ∧ (s_.2 ≠ gb286) ∧ (gb301 ≠ s_.2) ∧ (s_.2 ≠ gb301) ∧ (gb302 ≠ s_.2) ∧ (s_.2 ≠ gb302) ∧ (Below w.heap.size w w')) ?_ ?_
     rotate_left
     ·intro hJ1_4_5
      refine join_ (σ := Unit) 4 #[I5,I5,I5,I5,O5,O5,O5,O5] (fun s_ => [(24, .agg #[.int .i64 t303, .int .i64 t304, .int .i64 t305, .int .i64 t306]), (26, .agg #[.int .i64 t307, .int .i64 t308, .int .i64 t309, .int .i64 t310])]) (fun s_ w' => (w'.cell? ⟨gb301, 0, none⟩ = some (.int .i64 t288) ∧ w'.cell? ⟨gb301, 1, none⟩ = some (.int .i64 t289) ∧ w'.cell? ⟨gb301, 2, none⟩ = some (.int .i64 t290) ∧ w'.cell? ⟨gb301, 3, none⟩ = some (.int .i64 t291) ∧ w'.cell? ⟨gb301, 4, none⟩ = some (.int .i64 t292) ∧ w'.cell? ⟨gb301, 5, none⟩ = some (.int .i64 t293) ∧ w'.cell? ⟨gb301, 6, none⟩ = some (.int .i64 t294) ∧ w'.cell? ⟨gb301, 7, none⟩ = some (.int .i64 t295) ∧ w'.cell? ⟨gb301, 8, none⟩ = some (.int .i64 t296) ∧ w'.cell? ⟨gb301, 9, none⟩ = some (.int .i64 t297) ∧ w'.cell? ⟨gb301, 10, none⟩ = some (.slice Ao16 t298.length co16) ∧ w'.cell? ⟨gb302, 0, none⟩ = some (.int .i64 t288) ∧ w'.cell? ⟨gb302, 1, none⟩ = some (.int .i64 t289) ∧ w'.cell? ⟨gb302, 2, none⟩ = some (.int .i64 t290) ∧ w'.cell? ⟨gb302, 3, none⟩ = some (.int .i64 t291) ∧ w'.cell? ⟨gb302, 4, none⟩ = some (.int .i64 t292) ∧ w'.cell? ⟨gb302, 5, none⟩ = some (.int .i64 (Go.bits .and .i64 (wrap64 (t293 + (wrap64 (Int.tdiv (wrap64 ((wrap64 (a1)) * 4294967296)) 4)))) 4294967295)) ∧ w'.cell? ⟨gb302, 6, none⟩ = some (.int .i64 t294) ∧ w'.cell? ⟨gb302, 7, none⟩ = some (.int .i64 t295) ∧ w'.cell? ⟨gb302, 8, none⟩ = some (.int .i64 t296) ∧ w'.cell? ⟨gb302, 9, none⟩ = some (.int .i64 t297) ∧ w'.cell? ⟨gb302, 10, none⟩ = some (.slice Ao16 t298.length co16)) ∧ (Kd.R k24 24 w' w.heap.size (fun _ => True) (.slice Ao16 t298.length co16) t298) ∧ (w'.heap[gb286]? = some (.cells #[.int .i64 a0_0, .int .i64 a0_1, .int .i64 a0_2, .int .i64 a0_3, .int .i64 a0_4, .int .i64 a0_5, .int .i64 a0_6] 34 (0, 0))) ∧ (w'.heap[gb301]? = some (.cells #[.int .i64 t288, .int .i64 t289, .int .i64 t290, .int .i64 t291, .int .i64 t292, .int .i64 t293, .int .i64 t294, .int .i64 t295, .int .i64 t296, .int .i64 t297, .slice Ao16 t298.length co16] 39 (0, 0))) ∧ (w'.heap[gb302]? = some (.cells #[.int .i64 t288, .int .i64 t289, .int .i64 t290, .int .i64 t291, .int .i64 t292, .int .i64 (Go.bits .and .i64 (wrap64 (t293 + (wrap64 (Int.tdiv (wrap64 ((wrap64 (a1)) * 4294967296)) 4)))) 4294967295), .int .i64 t294, .int .i64 t295, .int .i64 t296, .int .i64 t297, .slice Ao16 t298.length co16] 39 (0, 0))) ∧ (Below w.heap.size w w')) ?_ ?_
      rotate_left
      ·intro hJ1_3
       refine join_ (σ := Nat) 4 #[I5,I5,I5,O5,I5,O5,O5,O5] (fun s_ => [(24, .agg #[.int .i64 t303, .int .i64 t304, .int .i64 t305, .int .i64 t306]), (7, .pointer (some ⟨s_, 0, none⟩))]) (fun s_ w' => (w'.cell? ⟨gb301, 0, none⟩ = some (.int .i64 t288) ∧ w'.cell? ⟨gb301, 1, none⟩ = some (.int .i64 t289) ∧ w'.cell? ⟨gb301, 2, none⟩ = some (.int .i64 t290) ∧ w'.cell? ⟨gb301, 3, none⟩ = some (.int .i64 t291) ∧ w'.cell? ⟨gb301, 4, none⟩ = some (.int .i64 t292) ∧ w'.cell? ⟨gb301, 5, none⟩ = some (.int .i64 t293) ∧ w'.cell? ⟨gb301, 6, none⟩ = some (.int .i64 t294) ∧ w'.cell? ⟨gb301, 7, none⟩ = some (.int .i64 t295) ∧ w'.cell? ⟨gb301, 8, none⟩ = some (.int .i64 t296) ∧ w'.cell? ⟨gb301, 9, none⟩ = some (.int .i64 t297) ∧ w'.cell? ⟨gb301, 10, none⟩ = some (.slice Ao16 t298.length co16) ∧ w'.cell? ⟨gb302, 0, none⟩ = some (.int .i64 t288) ∧ w'.cell? ⟨gb302, 1, none⟩ = some (.int .i64 t289) ∧ w'.cell? ⟨gb302, 2, none⟩ = some (.int .i64 t290) ∧ w'.cell? ⟨gb302, 3, none⟩ = some (.int .i64 t291) ∧ w'.cell? ⟨gb302, 4, none⟩ = some (.int .i64 t292) ∧ w'.cell? ⟨gb302, 5, none⟩ = some (.int .i64 (Go.bits .and .i64 (wrap64 (t293 + (wrap64 (Int.tdiv (wrap64 ((wrap64 (a1)) * 4294967296)) 4)))) 4294967295)) ∧ w'.cell? ⟨gb302, 6, none⟩ = some (.int .i64 t294) ∧ w'.cell? ⟨gb302, 7, none⟩ = some (.int .i64 t295) ∧ w'.cell? ⟨gb302, 8, none⟩ = some (.int .i64 t296) ∧ w'.cell? ⟨gb302, 9, none⟩ = some (.int .i64 t297) ∧ w'.cell? ⟨gb302, 10, none⟩ = some (.slice Ao16 t298.length co16)) ∧ (Kd.R k24 24 w' w.heap.size (fun _ => True) (.slice Ao16 t298.length co16) t298) ∧ (w'.heap[gb286]? = some (.cells #[.int .i64 a0_0, .int .i64 a0_1, .int .i64 a0_2, .int .i64 a0_3, .int .i64 a0_4, .int .i64 a0_5, .int .i64 a0_6] 34 (0, 0))) ∧ (w'.heap[gb301]? = some (.cells #[.int .i64 t288, .int .i64 t289, .int .i64 t290, .int .i64 t291, .int .i64 t292, .int .i64 t293, .int .i64 t294, .int .i64 t295, .int .i64 t296, .int .i64 t297, .slice Ao16 t298.length co16] 39 (0, 0))) ∧ (w'.heap[gb302]? = some (.cells #[.int .i64 t288, .int .i64 t289, .int .i64 t290, .int .i64 t291, .int .i64 t292, .int .i64 (Go.bits .and .i64 (wrap64 (t293 + (wrap64 (Int.tdiv (wrap64 ((wrap64 (a1)) * 4294967296)) 4)))) 4294967295), .int .i64 t294, .int .i64 t295, .int .i64 t296, .int .i64 t297, .slice Ao16 t298.length co16] 39 (0, 0))) ∧ (w'.heap[s_]? = some (.cells #[.int .i64 0, .int .i64 0, .int .i64 0, .int .i64 0] 26 (0, 0))) ∧ (w.heap.size ≤ s_) ∧ (w.heap.size ≤ s_) ∧ (gb286 ≠ s_) ∧ (s_ ≠ gb286) ∧ (gb301 ≠ s_) ∧ (s_ ≠ gb301) ∧ (gb302 ≠ s_) ∧ (s_ ≠ gb302) ∧ (Below w.heap.size w w')) ?_ ?_
       rotate_left
       ·intro hJ1_4
        refine join_ (σ := Nat) 4 #[I5,I5,I5,O5,O5,I5,O5,O5] (fun s_ => [(24, .agg #[.int .i64 t303, .int .i64 t304, .int .i64 t305, .int .i64 t306]), (8, .pointer (some ⟨s_, 0, none⟩))]) (fun s_ w' => (w'.cell? ⟨gb301, 0, none⟩ = some (.int .i64 t288) ∧ w'.cell? ⟨gb301, 1, none⟩ = some (.int .i64 t289) ∧ w'.cell? ⟨gb301, 2, none⟩ = some (.int .i64 t290) ∧ w'.cell? ⟨gb301, 3, none⟩ = some (.int .i64 t291) ∧ w'.cell? ⟨gb301, 4, none⟩ = some (.int .i64 t292) ∧ w'.cell? ⟨gb301, 5, none⟩ = some (.int .i64 t293) ∧ w'.cell? ⟨gb301, 6, none⟩ = some (.int .i64 t294) ∧ w'.cell? ⟨gb301, 7, none⟩ = some (.int .i64 t295) ∧ w'.cell? ⟨gb301, 8, none⟩ = some (.int .i64 t296) ∧ w'.cell? ⟨gb301, 9, none⟩ = some (.int .i64 t297) ∧ w'.cell? ⟨gb301, 10, none⟩ = some (.slice Ao16 t298.length co16) ∧ w'.cell? ⟨gb302, 0, none⟩ = some (.int .i64 t288) ∧ w'.cell? ⟨gb302, 1, none⟩ = some (.int .i64 t289) ∧ w'.cell? ⟨gb302, 2, none⟩ = some (.int .i64 t290) ∧ w'.cell? ⟨gb302, 3, none⟩ = some (.int .i64 t291) ∧ w'.cell? ⟨gb302, 4, none⟩ = some (.int .i64 t292) ∧ w'.cell? ⟨gb302, 5, none⟩ = some (.int .i64 (Go.bits .and .i64 (wrap64 (t293 + (wrap64 (Int.tdiv (wrap64 ((wrap64 (a1)) * 4294967296)) 4)))) 4294967295)) ∧ w'.cell? ⟨gb302, 6, none⟩ = some (.int .i64 t294) ∧ w'.cell? ⟨gb302, 7, none⟩ = some (.int .i64 t295) ∧ w'.cell? ⟨gb302, 8, none⟩ = some (.int .i64 t296) ∧ w'.cell? ⟨gb302, 9, none⟩ = some (.int .i64 t297) ∧ w'.cell? ⟨gb302, 10, none⟩ = some (.slice Ao16 t298.length co16)) ∧ (Kd.R k24 24 w' w.heap.size (fun _ => True) (.slice Ao16 t298.length co16) t298) ∧ (w'.heap[gb286]? = some (.cells #[.int .i64 a0_0, .int .i64 a0_1, .int .i64 a0_2, .int .i64 a0_3, .int .i64 a0_4, .int .i64 a0_5, .int .i64 a0_6] 34 (0, 0))) ∧ (w'.heap[gb301]? = some (.cells #[.int .i64 t288, .int .i64 t289, .int .i64 t290, .int .i64 t291, .int .i64 t292, .int .i64 t293, .int .i64 t294, .int .i64 t295, .int .i64 t296, .int .i64 t297, .slice Ao16 t298.length co16] 39 (0, 0))) ∧ (w'.heap[gb302]? = some (.cells #[.int .i64 t288, .int .i64 t289, .int .i64 t290, .int .i64 t291, .int .i64 t292, .int .i64 (Go.bits .and .i64 (wrap64 (t293 + (wrap64 (Int.tdiv (wrap64 ((wrap64 (a1)) * 4294967296)) 4)))) 4294967295), .int .i64 t294, .int .i64 t295, .int .i64 t296, .int .i64 t297, .slice Ao16 t298.length co16] 39 (0, 0))) ∧ (w'.heap[s_]? = some (.cells #[.int .i64 0, .int .i64 0, .int .i64 0, .int .i64 0] 26 (0, 0))) ∧ (w.heap.size ≤ s_) ∧ (w.heap.size ≤ s_) ∧ (gb286 ≠ s_) ∧ (s_ ≠ gb286) ∧ (gb301 ≠ s_) ∧ (s_ ≠ gb301) ∧ (gb302 ≠ s_) ∧ (s_ ≠ gb302) ∧ (Below w.heap.size w w')) ?_ ?_
        rotate_left
        ·intro hJ1_5
         refine join_ (σ := Nat × Nat) 4 #[I5,O5,I5,O5,I5,I5,O5,O5] (fun s_ => [(7, .pointer (some ⟨s_.1, 0, none⟩)), (8, .pointer (some ⟨s_.2, 0, none⟩))]) (fun s_ w' => (w'.cell? ⟨gb301, 0, none⟩ = some (.int .i64 t288) ∧ w'.cell? ⟨gb301, 1, none⟩ = some (.int .i64 t289) ∧ w'.cell? ⟨gb301, 2, none⟩ = some (.int .i64 t290) ∧ w'.cell? ⟨gb301, 3, none⟩ = some (.int .i64 t291) ∧ w'.cell? ⟨gb301, 4, none⟩ = some (.int .i64 t292) ∧ w'.cell? ⟨gb301, 5, none⟩ = some (.int .i64 t293) ∧ w'.cell? ⟨gb301, 6, none⟩ = some (.int .i64 t294) ∧ w'.cell? ⟨gb301, 7, none⟩ = some (.int .i64 t295) ∧ w'.cell? ⟨gb301, 8, none⟩ = some (.int .i64 t296) ∧ w'.cell? ⟨gb301, 9, none⟩ = some (.int .i64 t297) ∧ w'.cell? ⟨gb301, 10, none⟩ = some (.slice Ao16 t298.length co16) ∧ w'.cell? ⟨gb302, 0, none⟩ = some (.int .i64 t288) ∧ w'.cell? ⟨gb302, 1, none⟩ = some (.int .i64 t289) ∧ w'.cell? ⟨gb302, 2, none⟩ = some (.int .i64 t290) ∧ w'.cell? ⟨gb302, 3, none⟩ = some (.int .i64 t291) ∧ w'.cell? ⟨gb302, 4, none⟩ = some (.int .i64 t292) ∧ w'.cell? ⟨gb302, 5, none⟩ = some (.int .i64 (Go.bits .and .i64 (wrap64 (t293 + (wrap64 (Int.tdiv (wrap64 ((wrap64 (a1)) * 4294967296)) 4)))) 4294967295)) ∧ w'.cell? ⟨gb302, 6, none⟩ = some (.int .i64 t294) ∧ w'.cell? ⟨gb302, 7, none⟩ = some (.int .i64 t295) ∧ w'.cell? ⟨gb302, 8, none⟩ = some (.int .i64 t296) ∧ w'.cell? ⟨gb302, 9, none⟩ = some (.int .i64 t297) ∧ w'.cell? ⟨gb302, 10, none⟩ = some (.slice Ao16 t298.length co16)) ∧ (Kd.R k24 24 w' w.heap.size (fun _ => True) (.slice Ao16 t298.length co16) t298) ∧ (w'.heap[gb286]? = some (.cells #[.int .i64 a0_0, .int .i64 a0_1, .int .i64 a0_2, .int .i64 a0_3, .int .i64 a0_4, .int .i64 a0_5, .int .i64 a0_6] 34 (0, 0))) ∧ (w'.heap[gb301]? = some (.cells #[.int .i64 t288, .int .i64 t289, .int .i64 t290, .int .i64 t291, .int .i64 t292, .int .i64 t293, .int .i64 t294, .int .i64 t295, .int .i64 t296, .int .i64 t297, .slice Ao16 t298.length co16] 39 (0, 0))) ∧ (w'.heap[gb302]? = some (.cells #[.int .i64 t288, .int .i64 t289, .int .i64 t290, .int .i64 t291, .int .i64 t292, .int .i64 (Go.bits .and .i64 (wrap64 (t293 + (wrap64 (Int.tdiv (wrap64 ((wrap64 (a1)) * 4294967296)) 4)))) 4294967295), .int .i64 t294, .int .i64 t295, .int .i64 t296, .int .i64 t297, .slice Ao16 t298.length co16] 39 (0, 0))) ∧ (w'.heap[s_.1]? = some (.cells #[.int .i64 0, .int .i64 0, .int .i64 0, .int .i64 0] 26 (0, 0))) ∧ (w'.heap[s_.2]? = some (.cells #[.int .i64 0, .int .i64 0, .int .i64 0, .int .i64 0] 26 (0, 0))) ∧ (w.heap.size ≤ s_.1) ∧ (w.heap.size ≤ s_.1) ∧ (gb286 ≠ s_.1) ∧ (s_.1 ≠ gb286) ∧ (gb301 ≠ s_.1) ∧ (s_.1 ≠ gb301) ∧ (gb302 ≠ s_.1) ∧ (s_.1 ≠ gb302) ∧ (s_.2 ≠ s_.1) ∧ (s_.1 ≠ s_.2) ∧ (w.heap.size ≤ s_.2) ∧ (w.heap.size ≤ s_.2) ∧ (gb286 ≠ s_.2) ∧ (s_.2 ≠ gb286) ∧ (gb301 ≠ s_.2) ∧ (s_.2 ≠ gb301) ∧ (gb302 ≠ s_.2) ∧ (s_.2 ≠ gb302) ∧ (Below w.heap.size w w')) ?_ ?_
         rotate_left
         ·intro hJ4_5
          refine join_ (σ := Unit) 5 #[I5,I5,I5,O5,O5,O5,O5,O5] (fun s_ => [(24, .agg #[.int .i64 t303, .int .i64 t304, .int .i64 t305, .int .i64 t306])]) (fun s_ w' => (w'.cell? ⟨gb301, 0, none⟩ = some (.int .i64 t288) ∧ w'.cell? ⟨gb301, 1, none⟩ = some (.int .i64 t289) ∧ w'.cell? ⟨gb301, 2, none⟩ = some (.int .i64 t290) ∧ w'.cell? ⟨gb301, 3, none⟩ = some (.int .i64 t291) ∧ w'.cell? ⟨gb301, 4, none⟩ = some (.int .i64 t292) ∧ w'.cell? ⟨gb301, 5, none⟩ = some (.int .i64 t293) ∧ w'.cell? ⟨gb301, 6, none⟩ = some (.int .i64 t294) ∧ w'.cell? ⟨gb301, 7, none⟩ = some (.int .i64 t295) ∧ w'.cell? ⟨gb301, 8, none⟩ = some (.int .i64 t296) ∧ w'.cell? ⟨gb301, 9, none⟩ = some (.int .i64 t297) ∧ w'.cell? ⟨gb301, 10, none⟩ = some (.slice Ao16 t298.length co16) ∧ w'.cell? ⟨gb302, 0, none⟩ = some (.int .i64 t288) ∧ w'.cell? ⟨gb302, 1, none⟩ = some (.int .i64 t289) ∧ w'.cell? ⟨gb302, 2, none⟩ = some (.int .i64 t290) ∧ w'.cell? ⟨gb302, 3, none⟩ = some (.int .i64 t291) ∧ w'.cell? ⟨gb302, 4, none⟩ = some (.int .i64 t292) ∧ w'.cell? ⟨gb302, 5, none⟩ = some (.int .i64 (Go.bits .and .i64 (wrap64 (t293 + (wrap64 (Int.tdiv (wrap64 ((wrap64 (a1)) * 4294967296)) 4)))) 4294967295)) ∧ w'.cell? ⟨gb302, 6, none⟩ = some (.int .i64 t294) ∧ w'.cell? ⟨gb302, 7, none⟩ = some (.int .i64 t295) ∧ w'.cell? ⟨gb302, 8, none⟩ = some (.int .i64 t296) ∧ w'.cell? ⟨gb302, 9, none⟩ = some (.int .i64 t297) ∧ w'.cell? ⟨gb302, 10, none⟩ = some (.slice Ao16 t298.length co16)) ∧ (Kd.R k24 24 w' w.heap.size (fun _ => True) (.slice Ao16 t298.length co16) t298) ∧ (w'.heap[gb286]? = some (.cells #[.int .i64 a0_0, .int .i64 a0_1, .int .i64 a0_2, .int .i64 a0_3, .int .i64 a0_4, .int .i64 a0_5, .int .i64 a0_6] 34 (0, 0))) ∧ (w'.heap[gb301]? = some (.cells #[.int .i64 t288, .int .i64 t289, .int .i64 t290, .int .i64 t291, .int .i64 t292, .int .i64 t293, .int .i64 t294, .int .i64 t295, .int .i64 t296, .int .i64 t297, .slice Ao16 t298.length co16] 39 (0, 0))) ∧ (w'.heap[gb302]? = some (.cells #[.int .i64 t288, .int .i64 t289, .int .i64 t290, .int .i64 t291, .int .i64 t292, .int .i64 (Go.bits .and .i64 (wrap64 (t293 + (wrap64 (Int.tdiv (wrap64 ((wrap64 (a1)) * 4294967296)) 4)))) 4294967295), .int .i64 t294, .int .i64 t295, .int .i64 t296, .int .i64 t297, .slice Ao16 t298.length co16] 39 (0, 0))) ∧ (Below w.heap.size w w')) ?_ ?_
          rotate_left
          ·intro hJ1
           refine join_ (σ := Nat) 5 #[I5,O5,I5,O5,I5,O5,O5,O5] (fun s_ => [(7, .pointer (some ⟨s_, 0, none⟩))]) (fun s_ w' => (w'.cell? ⟨gb301, 0, none⟩ = some (.int .i64 t288) ∧ w'.cell? ⟨gb301, 1, none⟩ = some (.int .i64 t289) ∧ w'.cell? ⟨gb301, 2, none⟩ = some (.int .i64 t290) ∧ w'.cell? ⟨gb301, 3, none⟩ = some (.int .i64 t291) ∧ w'.cell? ⟨gb301, 4, none⟩ = some (.int .i64 t292) ∧ w'.cell? ⟨gb301, 5, none⟩ = some (.int .i64 t293) ∧ w'.cell? ⟨gb301, 6, none⟩ = some (.int .i64 t294) ∧ w'.cell? ⟨gb301, 7, none⟩ = some (.int .i64 t295) ∧ w'.cell? ⟨gb301, 8, none⟩ = some (.int .i64 t296) ∧ w'.cell? ⟨gb301, 9, none⟩ = some (.int .i64 t297) ∧ w'.cell? ⟨gb301, 10, none⟩ = some (.slice Ao16 t298.length co16) ∧ w'.cell? ⟨gb302, 0, none⟩ = some (.int .i64 t288) ∧ w'.cell? ⟨gb302, 1, none⟩ = some (.int .i64 t289) ∧ w'.cell? ⟨gb302, 2, none⟩ = some (.int .i64 t290) ∧ w'.cell? ⟨gb302, 3, none⟩ = some (.int .i64 t291) ∧ w'.cell? ⟨gb302, 4, none⟩ = some (.int .i64 t292) ∧ w'.cell? ⟨gb302, 5, none⟩ = some (.int .i64 (Go.bits .and .i64 (wrap64 (t293 + (wrap64 (Int.tdiv (wrap64 ((wrap64 (a1)) * 4294967296)) 4)))) 4294967295)) ∧ w'.cell? ⟨gb302, 6, none⟩ = some (.int .i64 t294) ∧ w'.cell? ⟨gb302, 7, none⟩ = some (.int .i64 t295) ∧ w'.cell? ⟨gb302, 8, none⟩ = some (.int .i64 t296) ∧ w'.cell? ⟨gb302, 9, none⟩ = some (.int .i64 t297) ∧ w'.cell? ⟨gb302, 10, none⟩ = some (.slice Ao16 t298.length co16)) ∧ (Kd.R k24 24 w' w.heap.size (fun _ => True) (.slice Ao16 t298.length co16) t298) ∧ (w'.heap[gb286]? = some (.cells #[.int .i64 a0_0, .int .i64 a0_1, .int .i64 a0_2, .int .i64 a0_3, .int .i64 a0_4, .int .i64 a0_5, .int .i64 a0_6] 34 (0, 0))) ∧ (w'.heap[gb301]? = some (.cells #[.int .i64 t288, .int .i64 t289, .int .i64 t290, .int .i64 t291, .int .i64 t292, .int .i64 t293, .int .i64 t294, .int .i64 t295, .int .i64 t296, .int .i64 t297, .slice Ao16 t298.length co16] 39 (0, 0))) ∧ (w'.heap[gb302]? = some (.cells #[.int .i64 t288, .int .i64 t289, .int .i64 t290, .int .i64 t291, .int .i64 t292, .int .i64 (Go.bits .and .i64 (wrap64 (t293 + (wrap64 (Int.tdiv (wrap64 ((wrap64 (a1)) * 4294967296)) 4)))) 4294967295), .int .i64 t294, .int .i64 t295, .int .i64 t296, .int .i64 t297, .slice Ao16 t298.length co16] 39 (0, 0))) ∧ (w'.heap[s_]? = some (.cells #[.int .i64 0, .int .i64 0, .int .i64 0, .int .i64 0] 26 (0, 0))) ∧ (w.heap.size ≤ s_) ∧ (w.heap.size ≤ s_) ∧ (gb286 ≠ s_) ∧ (s_ ≠ gb286) ∧ (gb301 ≠ s_) ∧ (s_ ≠ gb301) ∧ (gb302 ≠ s_) ∧ (s_ ≠ gb302) ∧ (Below w.heap.size w w')) ?_ ?_
           rotate_left
           ·intro hJ4
            refine join_ (σ := Nat) 5 #[I5,O5,I5,O5,O5,I5,O5,O5] (fun s_ => [(8, .pointer (some ⟨s_, 0, none⟩))]) (fun s_ w' => (w'.cell? ⟨gb301, 0, none⟩ = some (.int .i64 t288) ∧ w'.cell? ⟨gb301, 1, none⟩ = some (.int .i64 t289) ∧ w'.cell? ⟨gb301, 2, none⟩ = some (.int .i64 t290) ∧ w'.cell? ⟨gb301, 3, none⟩ = some (.int .i64 t291) ∧ w'.cell? ⟨gb301, 4, none⟩ = some (.int .i64 t292) ∧ w'.cell? ⟨gb301, 5, none⟩ = some (.int .i64 t293) ∧ w'.cell? ⟨gb301, 6, none⟩ = some (.int .i64 t294) ∧ w'.cell? ⟨gb301, 7, none⟩ = some (.int .i64 t295) ∧ w'.cell? ⟨gb301, 8, none⟩ = some (.int .i64 t296) ∧ w'.cell? ⟨gb301, 9, none⟩ = some (.int .i64 t297) ∧ w'.cell? ⟨gb301, 10, none⟩ = some (.slice Ao16 t298.length co16) ∧ w'.cell? ⟨gb302, 0, none⟩ = some (.int .i64 t288) ∧ w'.cell? ⟨gb302, 1, none⟩ = some (.int .i64 t289) ∧ w'.cell? ⟨gb302, 2, none⟩ = some (.int .i64 t290) ∧ w'.cell? ⟨gb302, 3, none⟩ = some (.int .i64 t291) ∧ w'.cell? ⟨gb302, 4, none⟩ = some (.int .i64 t292) ∧ w'.cell? ⟨gb302, 5, none⟩ = some (.int .i64 (Go.bits .and .i64 (wrap64 (t293 + (wrap64 (Int.tdiv (wrap64 ((wrap64 (a1)) * 4294967296)) 4)))) 4294967295)) ∧ w'.cell? ⟨gb302, 6, none⟩ = some (.int .i64 t294) ∧ w'.cell? ⟨gb302, 7, none⟩ = some (.int .i64 t295) ∧ w'.cell? ⟨gb302, 8, none⟩ = some (.int .i64 t296) ∧ w'.cell? ⟨gb302, 9, none⟩ = some (.int .i64 t297) ∧ w'.cell? ⟨gb302, 10, none⟩ = some (.slice Ao16 t298.length co16)) ∧ (Kd.R k24 24 w' w.heap.size (fun _ => True) (.slice Ao16 t298.length co16) t298) ∧ (w'.heap[gb286]? = some (.cells #[.int .i64 a0_0, .int .i64 a0_1, .int .i64 a0_2, .int .i64 a0_3, .int .i64 a0_4, .int .i64 a0_5, .int .i64 a0_6] 34 (0, 0))) ∧ (w'.heap[gb301]? = some (.cells #[.int .i64 t288, .int .i64 t289, .int .i64 t290, .int .i64 t291, .int .i64 t292, .int .i64 t293, .int .i64 t294, .int .i64 t295, .int .i64 t296, .int .i64 t297, .slice Ao16 t298.length co16] 39 (0, 0))) ∧ (w'.heap[gb302]? = some (.cells #[.int .i64 t288, .int .i64 t289, .int .i64 t290, .int .i64 t291, .int .i64 t292, .int .i64 (Go.bits .and .i64 (wrap64 (t293 + (wrap64 (Int.tdiv (wrap64 ((wrap64 (a1)) * 4294967296)) 4)))) 4294967295), .int .i64 t294, .int .i64 t295, .int .i64 t296, .int .i64 t297, .slice Ao16 t298.length co16] 39 (0, 0))) ∧ (w'.heap[s_]? = some (.cells #[.int .i64 0, .int .i64 0, .int .i64 0, .int .i64 0] 26 (0, 0))) ∧ (w.heap.size ≤ s_) ∧ (w.heap.size ≤ s_) ∧ (gb286 ≠ s_) ∧ (s_ ≠ gb286) ∧ (gb301 ≠ s_) ∧ (s_ ≠ gb301) ∧ (gb302 ≠ s_) ∧ (s_ ≠ gb302) ∧ (Below w.heap.size w w')) ?_ ?_
            rotate_left
            ·intro hJ5
             refine three_ (i := 1) (j := 4) (k := 5) (Ni := some 24) (Nj := some 7) (Nk := some 8) #[I5,I5,I5,O5,O5,O5,O5,O5] #[I5,O5,I5,O5,I5,O5,O5,O5] #[I5,O5,I5,O5,O5,I5,O5,O5] rfl rfl rfl rfl rfl rfl (three_of HT_.out (by kernel_rfl)) (by decide) (by decide) (by decide) (fun K hK => ?_) (fun K hK => ?_) (fun K hK => ?_)
             ·skip
              refine goes_ Try.func12 (by kernel_rfl) rfl #[.agg #[.int .i64 t288, .int .i64 t289, .int .i64 t290, .int .i64 t291, .int .i64 t292, .int .i64 t293, .int .i64 t294, .int .i64 t295, .int .i64 t296, .int .i64 t297, .slice Ao16 t298.length co16]] (by rfl) rfl rfl (by (try simp only [List.map_toArray, List.map_cons, List.map_nil]); first | done | rfl | (simp only [List.length_drop, List.length_take]; rfl)) ?_
              with_reducible refine (box_Of.calls k t288 t289 t290 t291 t292 t293 t294 t295 t296 t297 _ _ t298 t303 t304 t305 t306 _ ?side1 ?side2 A6.out).mono ?_
              (case side1 => repeat (first | exact (Kd.R_reads' HO300.out).2.2 | (with_reducible refine Kd.C_alloc ?_ _) | (with_reducible refine Kd.C_drewN ?_ _) | (with_reducible refine Kd.C_drew ?_)))
              (case side2 => exact (Kd.R_reads' HO300.out).2.1)
              rintro e w24 ⟨rfl, hb⟩
              refine ⟨_, rfl, ?_⟩
              have n0_ := Aside0.mk (Kd.R_below (by (with_reducible repeat (first | apply Kd.R_alloc | apply Kd.R_drewN | apply Kd.R_drew)); exact HO300.out) hb)
              have n1_ := Aside0.mk (blk_below (bl5 BK286) hb)
              have n2_ := Aside0.mk (blk_below (bl5 BK301) hb)
              have n3_ := Aside0.mk (blk_below (bl5 BK302) hb)
              have n4_ := Aside0.mk (below_step bw5 hb)
              clear HO300
              clear BK286
              clear BK301
              clear BK302
              clear HB
              have HO300 := n0_
              have BK286 := n1_
              have BK301 := n2_
              have BK302 := n3_
              have HB := n4_
              clear n0_ n1_ n2_ n3_ n4_
              (try clear hb)
              (try clear hb2)
              (try clear hk)
              (try clear hi)
              refine hK.out _ _ ⟨bc5 BK301 0, bc5 BK301 1, bc5 BK301 2, bc5 BK301 3, bc5 BK301 4, bc5 BK301 5, bc5 BK301 6, bc5 BK301 7, bc5 BK301 8, bc5 BK301 9, bc5 BK301 10, bc5 BK302 0, bc5 BK302 1, bc5 BK302 2, bc5 BK302 3, bc5 BK302 4, bc5 BK302 5, bc5 BK302 6, bc5 BK302 7, bc5 BK302 8, bc5 BK302 9, bc5 BK302 10⟩ (fun hHeld => ?_)
              clear hK K
              refine norm_ (a' := ?_) ?_ ?_
              rotate_left
              ·show Act.put _ (some 24) _ = _
               simp only [Act.put, List.setIfInBounds_toArray, List.set_cons_zero, List.set_cons_succ, i64_w, i32_w]
               rfl
              exact norm_ (by first | (simp only [putAll, Act.put, List.setIfInBounds_toArray, List.set_cons_zero, List.set_cons_succ]; done) | (simp only [putAll, Act.put, List.setIfInBounds_toArray, List.set_cons_zero, List.set_cons_succ]; rfl)) (hJ1 () _ ⟨hHeld, (by (with_reducible repeat (first | apply Kd.R_alloc | apply Kd.R_drewN | apply Kd.R_drew)); exact HO300.out), (bl5 BK286), (bl5 BK301), (bl5 BK302), bw5⟩)
             ·skip
              refine box_step ?hg (N := 7) ?hd (cs := #[.int .i64 0, .int .i64 0, .int .i64 0, .int .i64 0]) (t := 26) ?hr ?_; (case hd => rfl); (case hg => rfl); (case hr => first | (go_simp; done) | (go_simp; rfl))
              intro gb311 hg w24 hbox hb
              have n0_ := Aside0.mk (Kd.R_below (by (with_reducible repeat (first | apply Kd.R_alloc | apply Kd.R_drewN | apply Kd.R_drew)); exact HO300.out) hb)
              have n1_ := Aside0.mk (blk_below (bl5 BK286) hb)
              have n2_ := Aside0.mk (blk_below (bl5 BK301) hb)
              have n3_ := Aside0.mk (blk_below (bl5 BK302) hb)
              have n4_ := Aside0.mk (below_step bw5 hb)
              have n5_ := Aside0.mk (hbox)
              have n6_ := Aside0.mk ((by rw [hg]; exact (below_size bw5) : w.heap.size ≤ gb311))
              have n7_ := Aside0.mk ((by rw [hg]; exact (below_size bw5) : w.heap.size ≤ gb311))
              have n8_ := Aside0.mk ((by rw [hg]; exact Nat.ne_of_lt (blk_lt (bl5 BK286)) : gb286 ≠ gb311))
              have n9_ := Aside0.mk ((by rw [hg]; exact Nat.ne_of_gt (blk_lt (bl5 BK286)) : gb311 ≠ gb286))
              have n10_ := Aside0.mk ((by rw [hg]; exact Nat.ne_of_lt (blk_lt (bl5 BK301)) : gb301 ≠ gb311))
              have n11_ := Aside0.mk ((by rw [hg]; exact Nat.ne_of_gt (blk_lt (bl5 BK301)) : gb311 ≠ gb301))
              have n12_ := Aside0.mk ((by rw [hg]; exact Nat.ne_of_lt (blk_lt (bl5 BK302)) : gb302 ≠ gb311))
              have n13_ := Aside0.mk ((by rw [hg]; exact Nat.ne_of_gt (blk_lt (bl5 BK302)) : gb311 ≠ gb302))
              clear HO300
              clear BK286
              clear BK301
              clear BK302
              clear HB
              have HO300 := n0_
              have BK286 := n1_
              have BK301 := n2_
              have BK302 := n3_
              have HB := n4_
              have BK311 := n5_
              have GW311 := n6_
              have GE311 := n7_
              have NB286_311 := n8_
              have NB311_286 := n9_
              have NB301_311 := n10_
              have NB311_301 := n11_
              have NB302_311 := n12_
              have NB311_302 := n13_
              clear n0_ n1_ n2_ n3_ n4_ n5_ n6_ n7_ n8_ n9_ n10_ n11_ n12_ n13_
              clear hb hbox hg
              refine hK.out _ _ ⟨bc5 BK301 0, bc5 BK301 1, bc5 BK301 2, bc5 BK301 3, bc5 BK301 4, bc5 BK301 5, bc5 BK301 6, bc5 BK301 7, bc5 BK301 8, bc5 BK301 9, bc5 BK301 10, bc5 BK302 0, bc5 BK302 1, bc5 BK302 2, bc5 BK302 3, bc5 BK302 4, bc5 BK302 5, bc5 BK302 6, bc5 BK302 7, bc5 BK302 8, bc5 BK302 9, bc5 BK302 10⟩ (fun hHeld => ?_)
              clear hK K
              refine norm_ (a' := ?_) ?_ ?_
              rotate_left
              ·show Act.put _ (some 7) _ = _
               simp only [Act.put, List.setIfInBounds_toArray, List.set_cons_zero, List.set_cons_succ, i64_w, i32_w]
               rfl
              exact norm_ (by first | (simp only [putAll, Act.put, List.setIfInBounds_toArray, List.set_cons_zero, List.set_cons_succ]; done) | (simp only [putAll, Act.put, List.setIfInBounds_toArray, List.set_cons_zero, List.set_cons_succ]; rfl)) (hJ4 (gb311) _ ⟨hHeld, (by (with_reducible repeat (first | apply Kd.R_alloc | apply Kd.R_drewN | apply Kd.R_drew)); exact HO300.out), (bl5 BK286), (bl5 BK301), (bl5 BK302), (bl5 BK311), GW311.out, GE311.out, NB286_311.out, NB311_286.out, NB301_311.out, NB311_301.out, NB302_311.out, NB311_302.out, bw5⟩)
             ·skip
              refine box_step ?hg (N := 8) ?hd (cs := #[.int .i64 0, .int .i64 0, .int .i64 0, .int .i64 0]) (t := 26) ?hr ?_; (case hd => rfl); (case hg => rfl); (case hr => first | (go_simp; done) | (go_simp; rfl))
              intro gb312 hg w24 hbox hb
              have n0_ := Aside0.mk (Kd.R_below (by (with_reducible repeat (first | apply Kd.R_alloc | apply Kd.R_drewN | apply Kd.R_drew)); exact HO300.out) hb)
              have n1_ := Aside0.mk (blk_below (bl5 BK286) hb)
              have n2_ := Aside0.mk (blk_below (bl5 BK301) hb)
              have n3_ := Aside0.mk (blk_below (bl5 BK302) hb)
              have n4_ := Aside0.mk (below_step bw5 hb)
              have n5_ := Aside0.mk (hbox)
              have n6_ := Aside0.mk ((by rw [hg]; exact (below_size bw5) : w.heap.size ≤ gb312))
              have n7_ := Aside0.mk ((by rw [hg]; exact (below_size bw5) : w.heap.size ≤ gb312))
              have n8_ := Aside0.mk ((by rw [hg]; exact Nat.ne_of_lt (blk_lt (bl5 BK286)) : gb286 ≠ gb312))
              have n9_ := Aside0.mk ((by rw [hg]; exact Nat.ne_of_gt (blk_lt (bl5 BK286)) : gb312 ≠ gb286))
              have n10_ := Aside0.mk ((by rw [hg]; exact Nat.ne_of_lt (blk_lt (bl5 BK301)) : gb301 ≠ gb312))
              have n11_ := Aside0.mk ((by rw [hg]; exact Nat.ne_of_gt (blk_lt (bl5 BK301)) : gb312 ≠ gb301))
              have n12_ := Aside0.mk ((by rw [hg]; exact Nat.ne_of_lt (blk_lt (bl5 BK302)) : gb302 ≠ gb312))
              have n13_ := Aside0.mk ((by rw [hg]; exact Nat.ne_of_gt (blk_lt (bl5 BK302)) : gb312 ≠ gb302))
              clear HO300
              clear BK286
              clear BK301
              clear BK302
              clear HB
              have HO300 := n0_
              have BK286 := n1_
              have BK301 := n2_
              have BK302 := n3_
              have HB := n4_
              have BK312 := n5_
              have GW312 := n6_
              have GE312 := n7_
              have NB286_312 := n8_
              have NB312_286 := n9_
              have NB301_312 := n10_
              have NB312_301 := n11_
              have NB302_312 := n12_
              have NB312_302 := n13_
              clear n0_ n1_ n2_ n3_ n4_ n5_ n6_ n7_ n8_ n9_ n10_ n11_ n12_ n13_
              clear hb hbox hg
              refine hK.out _ _ ⟨bc5 BK301 0, bc5 BK301 1, bc5 BK301 2, bc5 BK301 3, bc5 BK301 4, bc5 BK301 5, bc5 BK301 6, bc5 BK301 7, bc5 BK301 8, bc5 BK301 9, bc5 BK301 10, bc5 BK302 0, bc5 BK302 1, bc5 BK302 2, bc5 BK302 3, bc5 BK302 4, bc5 BK302 5, bc5 BK302 6, bc5 BK302 7, bc5 BK302 8, bc5 BK302 9, bc5 BK302 10⟩ (fun hHeld => ?_)
              clear hK K
              refine norm_ (a' := ?_) ?_ ?_
              rotate_left
              ·show Act.put _ (some 8) _ = _
               simp only [Act.put, List.setIfInBounds_toArray, List.set_cons_zero, List.set_cons_succ, i64_w, i32_w]
               rfl
              exact norm_ (by first | (simp only [putAll, Act.put, List.setIfInBounds_toArray, List.set_cons_zero, List.set_cons_succ]; done) | (simp only [putAll, Act.put, List.setIfInBounds_toArray, List.set_cons_zero, List.set_cons_succ]; rfl)) (hJ5 (gb312) _ ⟨hHeld, (by (with_reducible repeat (first | apply Kd.R_alloc | apply Kd.R_drewN | apply Kd.R_drew)); exact HO300.out), (bl5 BK286), (bl5 BK301), (bl5 BK302), (bl5 BK312), GW312.out, GE312.out, NB286_312.out, NB312_286.out, NB301_312.out, NB312_301.out, NB302_312.out, NB312_302.out, bw5⟩)
            ·skip
             rintro gb312 w25 ⟨hS_, h0_, h1_, h2_, h3_, h4_, h5_, h6_, h7_, h8_, h9_, h10_, h11_, h12_, h13_⟩
             have n0_ : Aside0 (Kd.R k24 24 w25 w.heap.size (fun _ => True) (.slice Ao16 t298.length co16) t298) := ⟨h0_⟩
             have n1_ : Aside0 (w25.heap[gb286]? = some (.cells #[.int .i64 a0_0, .int .i64 a0_1, .int .i64 a0_2, .int .i64 a0_3, .int .i64 a0_4, .int .i64 a0_5, .int .i64 a0_6] 34 (0, 0))) := ⟨h1_⟩
             have n2_ : Aside0 (w25.heap[gb301]? = some (.cells #[.int .i64 t288, .int .i64 t289, .int .i64 t290, .int .i64 t291, .int .i64 t292, .int .i64 t293, .int .i64 t294, .int .i64 t295, .int .i64 t296, .int .i64 t297, .slice Ao16 t298.length co16] 39 (0, 0))) := ⟨h2_⟩
             have n3_ : Aside0 (w25.heap[gb302]? = some (.cells #[.int .i64 t288, .int .i64 t289, .int .i64 t290, .int .i64 t291, .int .i64 t292, .int .i64 (Go.bits .and .i64 (wrap64 (t293 + (wrap64 (Int.tdiv (wrap64 ((wrap64 (a1)) * 4294967296)) 4)))) 4294967295), .int .i64 t294, .int .i64 t295, .int .i64 t296, .int .i64 t297, .slice Ao16 t298.length co16] 39 (0, 0))) := ⟨h3_⟩
             have n4_ : Aside0 (w25.heap[gb312]? = some (.cells #[.int .i64 0, .int .i64 0, .int .i64 0, .int .i64 0] 26 (0, 0))) := ⟨h4_⟩
             have n5_ : Aside0 (w.heap.size ≤ gb312) := ⟨h5_⟩
             have n6_ : Aside0 (w.heap.size ≤ gb312) := ⟨h6_⟩
             have n7_ : Aside0 (gb286 ≠ gb312) := ⟨h7_⟩
             have n8_ : Aside0 (gb312 ≠ gb286) := ⟨h8_⟩
             have n9_ : Aside0 (gb301 ≠ gb312) := ⟨h9_⟩
             have n10_ : Aside0 (gb312 ≠ gb301) := ⟨h10_⟩
             have n11_ : Aside0 (gb302 ≠ gb312) := ⟨h11_⟩
             have n12_ : Aside0 (gb312 ≠ gb302) := ⟨h12_⟩
             have n13_ : Aside0 (Below w.heap.size w w25) := ⟨h13_⟩
             clear HO300
             clear BK286
             clear BK301
             clear BK302
             clear HB
             clear h0_ h1_ h2_ h3_ h4_ h5_ h6_ h7_ h8_ h9_ h10_ h11_ h12_ h13_
             have HO300 := n0_
             have BK286 := n1_
             have BK301 := n2_
             have BK302 := n3_
             have BK312 := n4_
             have GW312 := n5_
             have GE312 := n6_
             have NB286_312 := n7_
             have NB312_286 := n8_
             have NB301_312 := n9_
             have NB312_301 := n10_
             have NB302_312 := n11_
             have NB312_302 := n12_
             have HB := n13_
             clear n0_ n1_ n2_ n3_ n4_ n5_ n6_ n7_ n8_ n9_ n10_ n11_ n12_ n13_
             have hHeld : w25.cell? ⟨gb301, 0, none⟩ = some (.int .i64 t288) ∧ w25.cell? ⟨gb301, 1, none⟩ = some (.int .i64 t289) ∧ w25.cell? ⟨gb301, 2, none⟩ = some (.int .i64 t290) ∧ w25.cell? ⟨gb301, 3, none⟩ = some (.int .i64 t291) ∧ w25.cell? ⟨gb301, 4, none⟩ = some (.int .i64 t292) ∧ w25.cell? ⟨gb301, 5, none⟩ = some (.int .i64 t293) ∧ w25.cell? ⟨gb301, 6, none⟩ = some (.int .i64 t294) ∧ w25.cell? ⟨gb301, 7, none⟩ = some (.int .i64 t295) ∧ w25.cell? ⟨gb301, 8, none⟩ = some (.int .i64 t296) ∧ w25.cell? ⟨gb301, 9, none⟩ = some (.int .i64 t297) ∧ w25.cell? ⟨gb301, 10, none⟩ = some (.slice Ao16 t298.length co16) ∧ w25.cell? ⟨gb302, 0, none⟩ = some (.int .i64 t288) ∧ w25.cell? ⟨gb302, 1, none⟩ = some (.int .i64 t289) ∧ w25.cell? ⟨gb302, 2, none⟩ = some (.int .i64 t290) ∧ w25.cell? ⟨gb302, 3, none⟩ = some (.int .i64 t291) ∧ w25.cell? ⟨gb302, 4, none⟩ = some (.int .i64 t292) ∧ w25.cell? ⟨gb302, 5, none⟩ = some (.int .i64 (Go.bits .and .i64 (wrap64 (t293 + (wrap64 (Int.tdiv (wrap64 ((wrap64 (a1)) * 4294967296)) 4)))) 4294967295)) ∧ w25.cell? ⟨gb302, 6, none⟩ = some (.int .i64 t294) ∧ w25.cell? ⟨gb302, 7, none⟩ = some (.int .i64 t295) ∧ w25.cell? ⟨gb302, 8, none⟩ = some (.int .i64 t296) ∧ w25.cell? ⟨gb302, 9, none⟩ = some (.int .i64 t297) ∧ w25.cell? ⟨gb302, 10, none⟩ = some (.slice Ao16 t298.length co16) := hS_
             refine norm_ (a' := ?_) ?_ ?_
             rotate_left
             ·simp only [putAll, Act.put, List.setIfInBounds_toArray, List.set_cons_zero, List.set_cons_succ]
              rfl
             refine two_ (i := 1) (j := 4) (Ni := some 24) (Nj := some 7) #[I5,I5,I5,O5,O5,I5,O5,O5] #[I5,O5,I5,O5,I5,I5,O5,O5] rfl rfl rfl rfl (two_of HT_.out (by kernel_rfl)) (by decide) (by decide) (fun K hK => ?_) (fun K hK => ?_)
             ·skip
              refine goes_ Try.func12 (by kernel_rfl) rfl #[.agg #[.int .i64 t288, .int .i64 t289, .int .i64 t290, .int .i64 t291, .int .i64 t292, .int .i64 t293, .int .i64 t294, .int .i64 t295, .int .i64 t296, .int .i64 t297, .slice Ao16 t298.length co16]] (by rfl) rfl rfl (by (try simp only [List.map_toArray, List.map_cons, List.map_nil]); first | done | rfl | (simp only [List.length_drop, List.length_take]; rfl)) ?_
              with_reducible refine (box_Of.calls k t288 t289 t290 t291 t292 t293 t294 t295 t296 t297 _ _ t298 t303 t304 t305 t306 _ ?side1 ?side2 A6.out).mono ?_
              (case side1 => repeat (first | exact (Kd.R_reads' HO300.out).2.2 | (with_reducible refine Kd.C_alloc ?_ _) | (with_reducible refine Kd.C_drewN ?_ _) | (with_reducible refine Kd.C_drew ?_)))
              (case side2 => exact (Kd.R_reads' HO300.out).2.1)
              rintro e w26 ⟨rfl, hb⟩
              refine ⟨_, rfl, ?_⟩
              have n0_ := Aside0.mk (Kd.R_below (by (with_reducible repeat (first | apply Kd.R_alloc | apply Kd.R_drewN | apply Kd.R_drew)); exact HO300.out) hb)
              have n1_ := Aside0.mk (blk_below (bl5 BK286) hb)
              have n2_ := Aside0.mk (blk_below (bl5 BK301) hb)
              have n3_ := Aside0.mk (blk_below (bl5 BK302) hb)
              have n4_ := Aside0.mk (blk_below (bl5 BK312) hb)
              have n5_ := Aside0.mk (below_step bw5 hb)
              clear HO300
              clear BK286
              clear BK301
              clear BK302
              clear BK312
              clear HB
              have HO300 := n0_
              have BK286 := n1_
              have BK301 := n2_
              have BK302 := n3_
              have BK312 := n4_
              have HB := n5_
              clear n0_ n1_ n2_ n3_ n4_ n5_
              (try clear hb)
              (try clear hb2)
              (try clear hk)
              (try clear hi)
              refine hK.out _ _ ⟨bc5 BK301 0, bc5 BK301 1, bc5 BK301 2, bc5 BK301 3, bc5 BK301 4, bc5 BK301 5, bc5 BK301 6, bc5 BK301 7, bc5 BK301 8, bc5 BK301 9, bc5 BK301 10, bc5 BK302 0, bc5 BK302 1, bc5 BK302 2, bc5 BK302 3, bc5 BK302 4, bc5 BK302 5, bc5 BK302 6, bc5 BK302 7, bc5 BK302 8, bc5 BK302 9, bc5 BK302 10⟩ (fun hHeld => ?_)
              clear hK K
              refine norm_ (a' := ?_) ?_ ?_
              rotate_left
              ·show Act.put _ (some 24) _ = _
               simp only [Act.put, List.setIfInBounds_toArray, List.set_cons_zero, List.set_cons_succ, i64_w, i32_w]
               rfl
              exact norm_ (by first | (simp only [putAll, Act.put, List.setIfInBounds_toArray, List.set_cons_zero, List.set_cons_succ]; done) | (simp only [putAll, Act.put, List.setIfInBounds_toArray, List.set_cons_zero, List.set_cons_succ]; rfl)) (hJ1_5 (gb312) _ ⟨hHeld, (by (with_reducible repeat (first | apply Kd.R_alloc | apply Kd.R_drewN | apply Kd.R_drew)); exact HO300.out), (bl5 BK286), (bl5 BK301), (bl5 BK302), (bl5 BK312), GW312.out, GE312.out, NB286_312.out, NB312_286.out, NB301_312.out, NB312_301.out, NB302_312.out, NB312_302.out, bw5⟩)
             ·skip
              refine box_step ?hg (N := 7) ?hd (cs := #[.int .i64 0, .int .i64 0, .int .i64 0, .int .i64 0]) (t := 26) ?hr ?_; (case hd => rfl); (case hg => rfl); (case hr => first | (go_simp; done) | (go_simp; rfl))
              intro gb311 hg w26 hbox hb
              have n0_ := Aside0.mk (Kd.R_below (by (with_reducible repeat (first | apply Kd.R_alloc | apply Kd.R_drewN | apply Kd.R_drew)); exact HO300.out) hb)
              have n1_ := Aside0.mk (blk_below (bl5 BK286) hb)
              have n2_ := Aside0.mk (blk_below (bl5 BK301) hb)
              have n3_ := Aside0.mk (blk_below (bl5 BK302) hb)
              have n4_ := Aside0.mk (blk_below (bl5 BK312) hb)
              have n5_ := Aside0.mk (below_step bw5 hb)
              have n6_ := Aside0.mk (hbox)
              have n7_ := Aside0.mk ((by rw [hg]; exact (below_size bw5) : w.heap.size ≤ gb311))
              have n8_ := Aside0.mk ((by rw [hg]; exact (below_size bw5) : w.heap.size ≤ gb311))
              have n9_ := Aside0.mk ((by rw [hg]; exact Nat.ne_of_lt (blk_lt (bl5 BK286)) : gb286 ≠ gb311))
              have n10_ := Aside0.mk ((by rw [hg]; exact Nat.ne_of_gt (blk_lt (bl5 BK286)) : gb311 ≠ gb286))
              have n11_ := Aside0.mk ((by rw [hg]; exact Nat.ne_of_lt (blk_lt (bl5 BK301)) : gb301 ≠ gb311))
              have n12_ := Aside0.mk ((by rw [hg]; exact Nat.ne_of_gt (blk_lt (bl5 BK301)) : gb311 ≠ gb301))
              have n13_ := Aside0.mk ((by rw [hg]; exact Nat.ne_of_lt (blk_lt (bl5 BK302)) : gb302 ≠ gb311))
              have n14_ := Aside0.mk ((by rw [hg]; exact Nat.ne_of_gt (blk_lt (bl5 BK302)) : gb311 ≠ gb302))
              have n15_ := Aside0.mk ((by rw [hg]; exact Nat.ne_of_lt (blk_lt (bl5 BK312)) : gb312 ≠ gb311))
              have n16_ := Aside0.mk ((by rw [hg]; exact Nat.ne_of_gt (blk_lt (bl5 BK312)) : gb311 ≠ gb312))
              clear HO300
              clear BK286
              clear BK301
              clear BK302
              clear BK312
              clear HB
              have HO300 := n0_
              have BK286 := n1_
              have BK301 := n2_
              have BK302 := n3_
              have BK312 := n4_
              have HB := n5_
              have BK311 := n6_
              have GW311 := n7_
              have GE311 := n8_
              have NB286_311 := n9_
              have NB311_286 := n10_
              have NB301_311 := n11_
              have NB311_301 := n12_
              have NB302_311 := n13_
              have NB311_302 := n14_
              have NB312_311 := n15_
              have NB311_312 := n16_
              clear n0_ n1_ n2_ n3_ n4_ n5_ n6_ n7_ n8_ n9_ n10_ n11_ n12_ n13_ n14_ n15_ n16_
              clear hb hbox hg
              refine hK.out _ _ ⟨bc5 BK301 0, bc5 BK301 1, bc5 BK301 2, bc5 BK301 3, bc5 BK301 4, bc5 BK301 5, bc5 BK301 6, bc5 BK301 7, bc5 BK301 8, bc5 BK301 9, bc5 BK301 10, bc5 BK302 0, bc5 BK302 1, bc5 BK302 2, bc5 BK302 3, bc5 BK302 4, bc5 BK302 5, bc5 BK302 6, bc5 BK302 7, bc5 BK302 8, bc5 BK302 9, bc5 BK302 10⟩ (fun hHeld => ?_)
              clear hK K
              refine norm_ (a' := ?_) ?_ ?_
              rotate_left
              ·show Act.put _ (some 7) _ = _
               simp only [Act.put, List.setIfInBounds_toArray, List.set_cons_zero, List.set_cons_succ, i64_w, i32_w]
               rfl
              exact norm_ (by first | (simp only [putAll, Act.put, List.setIfInBounds_toArray, List.set_cons_zero, List.set_cons_succ]; done) | (simp only [putAll, Act.put, List.setIfInBounds_toArray, List.set_cons_zero, List.set_cons_succ]; rfl)) (hJ4_5 (gb311, gb312) _ ⟨hHeld, (by (with_reducible repeat (first | apply Kd.R_alloc | apply Kd.R_drewN | apply Kd.R_drew)); exact HO300.out), (bl5 BK286), (bl5 BK301), (bl5 BK302), (bl5 BK311), (bl5 BK312), GW311.out, GE311.out, NB286_311.out, NB311_286.out, NB301_311.out, NB311_301.out, NB302_311.out, NB311_302.out, NB312_311.out, NB311_312.out, GW312.out, GE312.out, NB286_312.out, NB312_286.out, NB301_312.out, NB312_301.out, NB302_312.out, NB312_302.out, bw5⟩)
           ·skip
            rintro gb311 w25 ⟨hS_, h0_, h1_, h2_, h3_, h4_, h5_, h6_, h7_, h8_, h9_, h10_, h11_, h12_, h13_⟩
            have n0_ : Aside0 (Kd.R k24 24 w25 w.heap.size (fun _ => True) (.slice Ao16 t298.length co16) t298) := ⟨h0_⟩
            have n1_ : Aside0 (w25.heap[gb286]? = some (.cells #[.int .i64 a0_0, .int .i64 a0_1, .int .i64 a0_2, .int .i64 a0_3, .int .i64 a0_4, .int .i64 a0_5, .int .i64 a0_6] 34 (0, 0))) := ⟨h1_⟩
            have n2_ : Aside0 (w25.heap[gb301]? = some (.cells #[.int .i64 t288, .int .i64 t289, .int .i64 t290, .int .i64 t291, .int .i64 t292, .int .i64 t293, .int .i64 t294, .int .i64 t295, .int .i64 t296, .int .i64 t297, .slice Ao16 t298.length co16] 39 (0, 0))) := ⟨h2_⟩
            have n3_ : Aside0 (w25.heap[gb302]? = some (.cells #[.int .i64 t288, .int .i64 t289, .int .i64 t290, .int .i64 t291, .int .i64 t292, .int .i64 (Go.bits .and .i64 (wrap64 (t293 + (wrap64 (Int.tdiv (wrap64 ((wrap64 (a1)) * 4294967296)) 4)))) 4294967295), .int .i64 t294, .int .i64 t295, .int .i64 t296, .int .i64 t297, .slice Ao16 t298.length co16] 39 (0, 0))) := ⟨h3_⟩
            have n4_ : Aside0 (w25.heap[gb311]? = some (.cells #[.int .i64 0, .int .i64 0, .int .i64 0, .int .i64 0] 26 (0, 0))) := ⟨h4_⟩
            have n5_ : Aside0 (w.heap.size ≤ gb311) := ⟨h5_⟩
            have n6_ : Aside0 (w.heap.size ≤ gb311) := ⟨h6_⟩
            have n7_ : Aside0 (gb286 ≠ gb311) := ⟨h7_⟩
            have n8_ : Aside0 (gb311 ≠ gb286) := ⟨h8_⟩
            have n9_ : Aside0 (gb301 ≠ gb311) := ⟨h9_⟩
            have n10_ : Aside0 (gb311 ≠ gb301) := ⟨h10_⟩
            have n11_ : Aside0 (gb302 ≠ gb311) := ⟨h11_⟩
            have n12_ : Aside0 (gb311 ≠ gb302) := ⟨h12_⟩
            have n13_ : Aside0 (Below w.heap.size w w25) := ⟨h13_⟩
            clear HO300
            clear BK286
            clear BK301
            clear BK302
            clear HB
            clear h0_ h1_ h2_ h3_ h4_ h5_ h6_ h7_ h8_ h9_ h10_ h11_ h12_ h13_
            have HO300 := n0_
            have BK286 := n1_
            have BK301 := n2_
            have BK302 := n3_
            have BK311 := n4_
            have GW311 := n5_
            have GE311 := n6_
            have NB286_311 := n7_
            have NB311_286 := n8_
            have NB301_311 := n9_
            have NB311_301 := n10_
            have NB302_311 := n11_
            have NB311_302 := n12_
            have HB := n13_
            clear n0_ n1_ n2_ n3_ n4_ n5_ n6_ n7_ n8_ n9_ n10_ n11_ n12_ n13_
            have hHeld : w25.cell? ⟨gb301, 0, none⟩ = some (.int .i64 t288) ∧ w25.cell? ⟨gb301, 1, none⟩ = some (.int .i64 t289) ∧ w25.cell? ⟨gb301, 2, none⟩ = some (.int .i64 t290) ∧ w25.cell? ⟨gb301, 3, none⟩ = some (.int .i64 t291) ∧ w25.cell? ⟨gb301, 4, none⟩ = some (.int .i64 t292) ∧ w25.cell? ⟨gb301, 5, none⟩ = some (.int .i64 t293) ∧ w25.cell? ⟨gb301, 6, none⟩ = some (.int .i64 t294) ∧ w25.cell? ⟨gb301, 7, none⟩ = some (.int .i64 t295) ∧ w25.cell? ⟨gb301, 8, none⟩ = some (.int .i64 t296) ∧ w25.cell? ⟨gb301, 9, none⟩ = some (.int .i64 t297) ∧ w25.cell? ⟨gb301, 10, none⟩ = some (.slice Ao16 t298.length co16) ∧ w25.cell? ⟨gb302, 0, none⟩ = some (.int .i64 t288) ∧ w25.cell? ⟨gb302, 1, none⟩ = some (.int .i64 t289) ∧ w25.cell? ⟨gb302, 2, none⟩ = some (.int .i64 t290) ∧ w25.cell? ⟨gb302, 3, none⟩ = some (.int .i64 t291) ∧ w25.cell? ⟨gb302, 4, none⟩ = some (.int .i64 t292) ∧ w25.cell? ⟨gb302, 5, none⟩ = some (.int .i64 (Go.bits .and .i64 (wrap64 (t293 + (wrap64 (Int.tdiv (wrap64 ((wrap64 (a1)) * 4294967296)) 4)))) 4294967295)) ∧ w25.cell? ⟨gb302, 6, none⟩ = some (.int .i64 t294) ∧ w25.cell? ⟨gb302, 7, none⟩ = some (.int .i64 t295) ∧ w25.cell? ⟨gb302, 8, none⟩ = some (.int .i64 t296) ∧ w25.cell? ⟨gb302, 9, none⟩ = some (.int .i64 t297) ∧ w25.cell? ⟨gb302, 10, none⟩ = some (.slice Ao16 t298.length co16) := hS_
            refine norm_ (a' := ?_) ?_ ?_
            rotate_left
            ·simp only [putAll, Act.put, List.setIfInBounds_toArray, List.set_cons_zero, List.set_cons_succ]
             rfl
            refine two_ (i := 1) (j := 5) (Ni := some 24) (Nj := some 8) #[I5,I5,I5,O5,I5,O5,O5,O5] #[I5,O5,I5,O5,I5,I5,O5,O5] rfl rfl rfl rfl (two_of HT_.out (by kernel_rfl)) (by decide) (by decide) (fun K hK => ?_) (fun K hK => ?_)
            ·skip
             refine goes_ Try.func12 (by kernel_rfl) rfl #[.agg #[.int .i64 t288, .int .i64 t289, .int .i64 t290, .int .i64 t291, .int .i64 t292, .int .i64 t293, .int .i64 t294, .int .i64 t295, .int .i64 t296, .int .i64 t297, .slice Ao16 t298.length co16]] (by rfl) rfl rfl (by (try simp only [List.map_toArray, List.map_cons, List.map_nil]); first | done | rfl | (simp only [List.length_drop, List.length_take]; rfl)) ?_
             with_reducible refine (box_Of.calls k t288 t289 t290 t291 t292 t293 t294 t295 t296 t297 _ _ t298 t303 t304 t305 t306 _ ?side1 ?side2 A6.out).mono ?_
             (case side1 => repeat (first | exact (Kd.R_reads' HO300.out).2.2 | (with_reducible refine Kd.C_alloc ?_ _) | (with_reducible refine Kd.C_drewN ?_ _) | (with_reducible refine Kd.C_drew ?_)))
             (case side2 => exact (Kd.R_reads' HO300.out).2.1)
             rintro e w26 ⟨rfl, hb⟩
             refine ⟨_, rfl, ?_⟩
             have n0_ := Aside0.mk (Kd.R_below (by (with_reducible repeat (first | apply Kd.R_alloc | apply Kd.R_drewN | apply Kd.R_drew)); exact HO300.out) hb)
             have n1_ := Aside0.mk (blk_below (bl5 BK286) hb)
             have n2_ := Aside0.mk (blk_below (bl5 BK301) hb)
             have n3_ := Aside0.mk (blk_below (bl5 BK302) hb)
             have n4_ := Aside0.mk (blk_below (bl5 BK311) hb)
             have n5_ := Aside0.mk (below_step bw5 hb)
             clear HO300
             clear BK286
             clear BK301
             clear BK302
             clear BK311
             clear HB
             have HO300 := n0_
             have BK286 := n1_
             have BK301 := n2_
             have BK302 := n3_
             have BK311 := n4_
             have HB := n5_
             clear n0_ n1_ n2_ n3_ n4_ n5_
             (try clear hb)
             (try clear hb2)
             (try clear hk)
             (try clear hi)
             refine hK.out _ _ ⟨bc5 BK301 0, bc5 BK301 1, bc5 BK301 2, bc5 BK301 3, bc5 BK301 4, bc5 BK301 5, bc5 BK301 6, bc5 BK301 7, bc5 BK301 8, bc5 BK301 9, bc5 BK301 10, bc5 BK302 0, bc5 BK302 1, bc5 BK302 2, bc5 BK302 3, bc5 BK302 4, bc5 BK302 5, bc5 BK302 6, bc5 BK302 7, bc5 BK302 8, bc5 BK302 9, bc5 BK302 10⟩ (fun hHeld => ?_)
             clear hK K
             refine norm_ (a' := ?_) ?_ ?_
             rotate_left
             ·show Act.put _ (some 24) _ = _
              simp only [Act.put, List.setIfInBounds_toArray, List.set_cons_zero, List.set_cons_succ, i64_w, i32_w]
              rfl
             exact norm_ (by first | (simp only [putAll, Act.put, List.setIfInBounds_toArray, List.set_cons_zero, List.set_cons_succ]; done) | (simp only [putAll, Act.put, List.setIfInBounds_toArray, List.set_cons_zero, List.set_cons_succ]; rfl)) (hJ1_4 (gb311) _ ⟨hHeld, (by (with_reducible repeat (first | apply Kd.R_alloc | apply Kd.R_drewN | apply Kd.R_drew)); exact HO300.out), (bl5 BK286), (bl5 BK301), (bl5 BK302), (bl5 BK311), GW311.out, GE311.out, NB286_311.out, NB311_286.out, NB301_311.out, NB311_301.out, NB302_311.out, NB311_302.out, bw5⟩)
            ·skip
             refine box_step ?hg (N := 8) ?hd (cs := #[.int .i64 0, .int .i64 0, .int .i64 0, .int .i64 0]) (t := 26) ?hr ?_; (case hd => rfl); (case hg => rfl); (case hr => first | (go_simp; done) | (go_simp; rfl))
             intro gb312 hg w26 hbox hb
             have n0_ := Aside0.mk (Kd.R_below (by (with_reducible repeat (first | apply Kd.R_alloc | apply Kd.R_drewN | apply Kd.R_drew)); exact HO300.out) hb)
             have n1_ := Aside0.mk (blk_below (bl5 BK286) hb)
             have n2_ := Aside0.mk (blk_below (bl5 BK301) hb)
             have n3_ := Aside0.mk (blk_below (bl5 BK302) hb)
             have n4_ := Aside0.mk (blk_below (bl5 BK311) hb)
             have n5_ := Aside0.mk (below_step bw5 hb)
             have n6_ := Aside0.mk (hbox)
             have n7_ := Aside0.mk ((by rw [hg]; exact (below_size bw5) : w.heap.size ≤ gb312))
             have n8_ := Aside0.mk ((by rw [hg]; exact (below_size bw5) : w.heap.size ≤ gb312))
             have n9_ := Aside0.mk ((by rw [hg]; exact Nat.ne_of_lt (blk_lt (bl5 BK286)) : gb286 ≠ gb312))
             have n10_ := Aside0.mk ((by rw [hg]; exact Nat.ne_of_gt (blk_lt (bl5 BK286)) : gb312 ≠ gb286))
             have n11_ := Aside0.mk ((by rw [hg]; exact Nat.ne_of_lt (blk_lt (bl5 BK301)) : gb301 ≠ gb312))
             have n12_ := Aside0.mk ((by rw [hg]; exact Nat.ne_of_gt (blk_lt (bl5 BK301)) : gb312 ≠ gb301))
             have n13_ := Aside0.mk ((by rw [hg]; exact Nat.ne_of_lt (blk_lt (bl5 BK302)) : gb302 ≠ gb312))
             have n14_ := Aside0.mk ((by rw [hg]; exact Nat.ne_of_gt (blk_lt (bl5 BK302)) : gb312 ≠ gb302))
             have n15_ := Aside0.mk ((by rw [hg]; exact Nat.ne_of_lt (blk_lt (bl5 BK311)) : gb311 ≠ gb312))
             have n16_ := Aside0.mk ((by rw [hg]; exact Nat.ne_of_gt (blk_lt (bl5 BK311)) : gb312 ≠ gb311))
             clear HO300
             clear BK286
             clear BK301
             clear BK302
             clear BK311
             clear HB
             have HO300 := n0_
             have BK286 := n1_
             have BK301 := n2_
             have BK302 := n3_
             have BK311 := n4_
             have HB := n5_
             have BK312 := n6_
             have GW312 := n7_
             have GE312 := n8_
             have NB286_312 := n9_
             have NB312_286 := n10_
             have NB301_312 := n11_
             have NB312_301 := n12_
             have NB302_312 := n13_
             have NB312_302 := n14_
             have NB311_312 := n15_
             have NB312_311 := n16_
             clear n0_ n1_ n2_ n3_ n4_ n5_ n6_ n7_ n8_ n9_ n10_ n11_ n12_ n13_ n14_ n15_ n16_
             clear hb hbox hg
             refine hK.out _ _ ⟨bc5 BK301 0, bc5 BK301 1, bc5 BK301 2, bc5 BK301 3, bc5 BK301 4, bc5 BK301 5, bc5 BK301 6, bc5 BK301 7, bc5 BK301 8, bc5 BK301 9, bc5 BK301 10, bc5 BK302 0, bc5 BK302 1, bc5 BK302 2, bc5 BK302 3, bc5 BK302 4, bc5 BK302 5, bc5 BK302 6, bc5 BK302 7, bc5 BK302 8, bc5 BK302 9, bc5 BK302 10⟩ (fun hHeld => ?_)
             clear hK K
             refine norm_ (a' := ?_) ?_ ?_
             rotate_left
             ·show Act.put _ (some 8) _ = _
              simp only [Act.put, List.setIfInBounds_toArray, List.set_cons_zero, List.set_cons_succ, i64_w, i32_w]
              rfl
             exact norm_ (by first | (simp only [putAll, Act.put, List.setIfInBounds_toArray, List.set_cons_zero, List.set_cons_succ]; done) | (simp only [putAll, Act.put, List.setIfInBounds_toArray, List.set_cons_zero, List.set_cons_succ]; rfl)) (hJ4_5 (gb311, gb312) _ ⟨hHeld, (by (with_reducible repeat (first | apply Kd.R_alloc | apply Kd.R_drewN | apply Kd.R_drew)); exact HO300.out), (bl5 BK286), (bl5 BK301), (bl5 BK302), (bl5 BK311), (bl5 BK312), GW311.out, GE311.out, NB286_311.out, NB311_286.out, NB301_311.out, NB311_301.out, NB302_311.out, NB311_302.out, NB312_311.out, NB311_312.out, GW312.out, GE312.out, NB286_312.out, NB312_286.out, NB301_312.out, NB312_301.out, NB302_312.out, NB312_302.out, bw5⟩)
          ·skip
           rintro _ w25 ⟨hS_, h0_, h1_, h2_, h3_, h4_⟩
           have n0_ : Aside0 (Kd.R k24 24 w25 w.heap.size (fun _ => True) (.slice Ao16 t298.length co16) t298) := ⟨h0_⟩
           have n1_ : Aside0 (w25.heap[gb286]? = some (.cells #[.int .i64 a0_0, .int .i64 a0_1, .int .i64 a0_2, .int .i64 a0_3, .int .i64 a0_4, .int .i64 a0_5, .int .i64 a0_6] 34 (0, 0))) := ⟨h1_⟩
           have n2_ : Aside0 (w25.heap[gb301]? = some (.cells #[.int .i64 t288, .int .i64 t289, .int .i64 t290, .int .i64 t291, .int .i64 t292, .int .i64 t293, .int .i64 t294, .int .i64 t295, .int .i64 t296, .int .i64 t297, .slice Ao16 t298.length co16] 39 (0, 0))) := ⟨h2_⟩
           have n3_ : Aside0 (w25.heap[gb302]? = some (.cells #[.int .i64 t288, .int .i64 t289, .int .i64 t290, .int .i64 t291, .int .i64 t292, .int .i64 (Go.bits .and .i64 (wrap64 (t293 + (wrap64 (Int.tdiv (wrap64 ((wrap64 (a1)) * 4294967296)) 4)))) 4294967295), .int .i64 t294, .int .i64 t295, .int .i64 t296, .int .i64 t297, .slice Ao16 t298.length co16] 39 (0, 0))) := ⟨h3_⟩
           have n4_ : Aside0 (Below w.heap.size w w25) := ⟨h4_⟩
           clear HO300
           clear BK286
           clear BK301
           clear BK302
           clear HB
           clear h0_ h1_ h2_ h3_ h4_
           have HO300 := n0_
           have BK286 := n1_
           have BK301 := n2_
           have BK302 := n3_
           have HB := n4_
           clear n0_ n1_ n2_ n3_ n4_
           have hHeld : w25.cell? ⟨gb301, 0, none⟩ = some (.int .i64 t288) ∧ w25.cell? ⟨gb301, 1, none⟩ = some (.int .i64 t289) ∧ w25.cell? ⟨gb301, 2, none⟩ = some (.int .i64 t290) ∧ w25.cell? ⟨gb301, 3, none⟩ = some (.int .i64 t291) ∧ w25.cell? ⟨gb301, 4, none⟩ = some (.int .i64 t292) ∧ w25.cell? ⟨gb301, 5, none⟩ = some (.int .i64 t293) ∧ w25.cell? ⟨gb301, 6, none⟩ = some (.int .i64 t294) ∧ w25.cell? ⟨gb301, 7, none⟩ = some (.int .i64 t295) ∧ w25.cell? ⟨gb301, 8, none⟩ = some (.int .i64 t296) ∧ w25.cell? ⟨gb301, 9, none⟩ = some (.int .i64 t297) ∧ w25.cell? ⟨gb301, 10, none⟩ = some (.slice Ao16 t298.length co16) ∧ w25.cell? ⟨gb302, 0, none⟩ = some (.int .i64 t288) ∧ w25.cell? ⟨gb302, 1, none⟩ = some (.int .i64 t289) ∧ w25.cell? ⟨gb302, 2, none⟩ = some (.int .i64 t290) ∧ w25.cell? ⟨gb302, 3, none⟩ = some (.int .i64 t291) ∧ w25.cell? ⟨gb302, 4, none⟩ = some (.int .i64 t292) ∧ w25.cell? ⟨gb302, 5, none⟩ = some (.int .i64 (Go.bits .and .i64 (wrap64 (t293 + (wrap64 (Int.tdiv (wrap64 ((wrap64 (a1)) * 4294967296)) 4)))) 4294967295)) ∧ w25.cell? ⟨gb302, 6, none⟩ = some (.int .i64 t294) ∧ w25.cell? ⟨gb302, 7, none⟩ = some (.int .i64 t295) ∧ w25.cell? ⟨gb302, 8, none⟩ = some (.int .i64 t296) ∧ w25.cell? ⟨gb302, 9, none⟩ = some (.int .i64 t297) ∧ w25.cell? ⟨gb302, 10, none⟩ = some (.slice Ao16 t298.length co16) := hS_
           refine norm_ (a' := ?_) ?_ ?_
           rotate_left
           ·simp only [putAll, Act.put, List.setIfInBounds_toArray, List.set_cons_zero, List.set_cons_succ]
            rfl
           refine three_ (i := 3) (j := 4) (k := 5) (Ni := some 26) (Nj := some 7) (Nk := some 8) #[I5,I5,I5,I5,O5,O5,O5,O5] #[I5,I5,I5,O5,I5,O5,O5,O5] #[I5,I5,I5,O5,O5,I5,O5,O5] rfl rfl rfl rfl rfl rfl (three_of HT_.out (by kernel_rfl)) (by decide) (by decide) (by decide) (fun K hK => ?_) (fun K hK => ?_) (fun K hK => ?_)
           ·skip
            refine goes_ Try.func12 (by kernel_rfl) rfl #[.agg #[.int .i64 t288, .int .i64 t289, .int .i64 t290, .int .i64 t291, .int .i64 t292, .int .i64 (Go.bits .and .i64 (wrap64 (t293 + (wrap64 (Int.tdiv (wrap64 ((wrap64 (a1)) * 4294967296)) 4)))) 4294967295), .int .i64 t294, .int .i64 t295, .int .i64 t296, .int .i64 t297, .slice Ao16 t298.length co16]] (by rfl) rfl rfl (by (try simp only [List.map_toArray, List.map_cons, List.map_nil]); first | done | rfl | (simp only [List.length_drop, List.length_take]; rfl)) ?_
            with_reducible refine (box_Of.calls k t288 t289 t290 t291 t292 (Go.bits .and .i64 (wrap64 (t293 + (wrap64 (Int.tdiv (wrap64 ((wrap64 (a1)) * 4294967296)) 4)))) 4294967295) t294 t295 t296 t297 _ _ t298 t307 t308 t309 t310 _ ?side1 ?side2 A7.out).mono ?_
            (case side1 => repeat (first | exact (Kd.R_reads' HO300.out).2.2 | (with_reducible refine Kd.C_alloc ?_ _) | (with_reducible refine Kd.C_drewN ?_ _) | (with_reducible refine Kd.C_drew ?_)))
            (case side2 => exact (Kd.R_reads' HO300.out).2.1)
            rintro e w26 ⟨rfl, hb⟩
            refine ⟨_, rfl, ?_⟩
            have n0_ := Aside0.mk (Kd.R_below (by (with_reducible repeat (first | apply Kd.R_alloc | apply Kd.R_drewN | apply Kd.R_drew)); exact HO300.out) hb)
            have n1_ := Aside0.mk (blk_below (bl5 BK286) hb)
            have n2_ := Aside0.mk (blk_below (bl5 BK301) hb)
            have n3_ := Aside0.mk (blk_below (bl5 BK302) hb)
            have n4_ := Aside0.mk (below_step bw5 hb)
            clear HO300
            clear BK286
            clear BK301
            clear BK302
            clear HB
            have HO300 := n0_
            have BK286 := n1_
            have BK301 := n2_
            have BK302 := n3_
            have HB := n4_
            clear n0_ n1_ n2_ n3_ n4_
            (try clear hb)
            (try clear hb2)
            (try clear hk)
            (try clear hi)
            refine hK.out _ _ ⟨bc5 BK301 0, bc5 BK301 1, bc5 BK301 2, bc5 BK301 3, bc5 BK301 4, bc5 BK301 5, bc5 BK301 6, bc5 BK301 7, bc5 BK301 8, bc5 BK301 9, bc5 BK301 10, bc5 BK302 0, bc5 BK302 1, bc5 BK302 2, bc5 BK302 3, bc5 BK302 4, bc5 BK302 5, bc5 BK302 6, bc5 BK302 7, bc5 BK302 8, bc5 BK302 9, bc5 BK302 10⟩ (fun hHeld => ?_)
            clear hK K
            refine norm_ (a' := ?_) ?_ ?_
            rotate_left
            ·show Act.put _ (some 26) _ = _
             simp only [Act.put, List.setIfInBounds_toArray, List.set_cons_zero, List.set_cons_succ, i64_w, i32_w]
             rfl
            exact norm_ (by first | (simp only [putAll, Act.put, List.setIfInBounds_toArray, List.set_cons_zero, List.set_cons_succ]; done) | (simp only [putAll, Act.put, List.setIfInBounds_toArray, List.set_cons_zero, List.set_cons_succ]; rfl)) (hJ1_3 () _ ⟨hHeld, (by (with_reducible repeat (first | apply Kd.R_alloc | apply Kd.R_drewN | apply Kd.R_drew)); exact HO300.out), (bl5 BK286), (bl5 BK301), (bl5 BK302), bw5⟩)
           ·skip
            refine box_step ?hg (N := 7) ?hd (cs := #[.int .i64 0, .int .i64 0, .int .i64 0, .int .i64 0]) (t := 26) ?hr ?_; (case hd => rfl); (case hg => rfl); (case hr => first | (go_simp; done) | (go_simp; rfl))
            intro gb311 hg w26 hbox hb
            have n0_ := Aside0.mk (Kd.R_below (by (with_reducible repeat (first | apply Kd.R_alloc | apply Kd.R_drewN | apply Kd.R_drew)); exact HO300.out) hb)
            have n1_ := Aside0.mk (blk_below (bl5 BK286) hb)
            have n2_ := Aside0.mk (blk_below (bl5 BK301) hb)
            have n3_ := Aside0.mk (blk_below (bl5 BK302) hb)
            have n4_ := Aside0.mk (below_step bw5 hb)
            have n5_ := Aside0.mk (hbox)
            have n6_ := Aside0.mk ((by rw [hg]; exact (below_size bw5) : w.heap.size ≤ gb311))
            have n7_ := Aside0.mk ((by rw [hg]; exact (below_size bw5) : w.heap.size ≤ gb311))
            have n8_ := Aside0.mk ((by rw [hg]; exact Nat.ne_of_lt (blk_lt (bl5 BK286)) : gb286 ≠ gb311))
            have n9_ := Aside0.mk ((by rw [hg]; exact Nat.ne_of_gt (blk_lt (bl5 BK286)) : gb311 ≠ gb286))
            have n10_ := Aside0.mk ((by rw [hg]; exact Nat.ne_of_lt (blk_lt (bl5 BK301)) : gb301 ≠ gb311))
            have n11_ := Aside0.mk ((by rw [hg]; exact Nat.ne_of_gt (blk_lt (bl5 BK301)) : gb311 ≠ gb301))
            have n12_ := Aside0.mk ((by rw [hg]; exact Nat.ne_of_lt (blk_lt (bl5 BK302)) : gb302 ≠ gb311))
            have n13_ := Aside0.mk ((by rw [hg]; exact Nat.ne_of_gt (blk_lt (bl5 BK302)) : gb311 ≠ gb302))
            clear HO300
            clear BK286
            clear BK301
            clear BK302
            clear HB
            have HO300 := n0_
            have BK286 := n1_
            have BK301 := n2_
            have BK302 := n3_
            have HB := n4_
            have BK311 := n5_
            have GW311 := n6_
            have GE311 := n7_
            have NB286_311 := n8_
            have NB311_286 := n9_
            have NB301_311 := n10_
            have NB311_301 := n11_
            have NB302_311 := n12_
            have NB311_302 := n13_
            clear n0_ n1_ n2_ n3_ n4_ n5_ n6_ n7_ n8_ n9_ n10_ n11_ n12_ n13_
            clear hb hbox hg
            refine hK.out _ _ ⟨bc5 BK301 0, bc5 BK301 1, bc5 BK301 2, bc5 BK301 3, bc5 BK301 4, bc5 BK301 5, bc5 BK301 6, bc5 BK301 7, bc5 BK301 8, bc5 BK301 9, bc5 BK301 10, bc5 BK302 0, bc5 BK302 1, bc5 BK302 2, bc5 BK302 3, bc5 BK302 4, bc5 BK302 5, bc5 BK302 6, bc5 BK302 7, bc5 BK302 8, bc5 BK302 9, bc5 BK302 10⟩ (fun hHeld => ?_)
            clear hK K
            refine norm_ (a' := ?_) ?_ ?_
            rotate_left
            ·show Act.put _ (some 7) _ = _
             simp only [Act.put, List.setIfInBounds_toArray, List.set_cons_zero, List.set_cons_succ, i64_w, i32_w]
             rfl
            exact norm_ (by first | (simp only [putAll, Act.put, List.setIfInBounds_toArray, List.set_cons_zero, List.set_cons_succ]; done) | (simp only [putAll, Act.put, List.setIfInBounds_toArray, List.set_cons_zero, List.set_cons_succ]; rfl)) (hJ1_4 (gb311) _ ⟨hHeld, (by (with_reducible repeat (first | apply Kd.R_alloc | apply Kd.R_drewN | apply Kd.R_drew)); exact HO300.out), (bl5 BK286), (bl5 BK301), (bl5 BK302), (bl5 BK311), GW311.out, GE311.out, NB286_311.out, NB311_286.out, NB301_311.out, NB311_301.out, NB302_311.out, NB311_302.out, bw5⟩)
           ·skip
            refine box_step ?hg (N := 8) ?hd (cs := #[.int .i64 0, .int .i64 0, .int .i64 0, .int .i64 0]) (t := 26) ?hr ?_; (case hd => rfl); (case hg => rfl); (case hr => first | (go_simp; done) | (go_simp; rfl))
            intro gb312 hg w26 hbox hb
            have n0_ := Aside0.mk (Kd.R_below (by (with_reducible repeat (first | apply Kd.R_alloc | apply Kd.R_drewN | apply Kd.R_drew)); exact HO300.out) hb)
            have n1_ := Aside0.mk (blk_below (bl5 BK286) hb)
            have n2_ := Aside0.mk (blk_below (bl5 BK301) hb)
            have n3_ := Aside0.mk (blk_below (bl5 BK302) hb)
            have n4_ := Aside0.mk (below_step bw5 hb)
            have n5_ := Aside0.mk (hbox)
            have n6_ := Aside0.mk ((by rw [hg]; exact (below_size bw5) : w.heap.size ≤ gb312))
            have n7_ := Aside0.mk ((by rw [hg]; exact (below_size bw5) : w.heap.size ≤ gb312))
            have n8_ := Aside0.mk ((by rw [hg]; exact Nat.ne_of_lt (blk_lt (bl5 BK286)) : gb286 ≠ gb312))
            have n9_ := Aside0.mk ((by rw [hg]; exact Nat.ne_of_gt (blk_lt (bl5 BK286)) : gb312 ≠ gb286))
            have n10_ := Aside0.mk ((by rw [hg]; exact Nat.ne_of_lt (blk_lt (bl5 BK301)) : gb301 ≠ gb312))
            have n11_ := Aside0.mk ((by rw [hg]; exact Nat.ne_of_gt (blk_lt (bl5 BK301)) : gb312 ≠ gb301))
            have n12_ := Aside0.mk ((by rw [hg]; exact Nat.ne_of_lt (blk_lt (bl5 BK302)) : gb302 ≠ gb312))
            have n13_ := Aside0.mk ((by rw [hg]; exact Nat.ne_of_gt (blk_lt (bl5 BK302)) : gb312 ≠ gb302))
            clear HO300
            clear BK286
            clear BK301
            clear BK302
            clear HB
            have HO300 := n0_
            have BK286 := n1_
            have BK301 := n2_
            have BK302 := n3_
            have HB := n4_
            have BK312 := n5_
            have GW312 := n6_
            have GE312 := n7_
            have NB286_312 := n8_
            have NB312_286 := n9_
            have NB301_312 := n10_
            have NB312_301 := n11_
            have NB302_312 := n12_
            have NB312_302 := n13_
            clear n0_ n1_ n2_ n3_ n4_ n5_ n6_ n7_ n8_ n9_ n10_ n11_ n12_ n13_
            clear hb hbox hg
            refine hK.out _ _ ⟨bc5 BK301 0, bc5 BK301 1, bc5 BK301 2, bc5 BK301 3, bc5 BK301 4, bc5 BK301 5, bc5 BK301 6, bc5 BK301 7, bc5 BK301 8, bc5 BK301 9, bc5 BK301 10, bc5 BK302 0, bc5 BK302 1, bc5 BK302 2, bc5 BK302 3, bc5 BK302 4, bc5 BK302 5, bc5 BK302 6, bc5 BK302 7, bc5 BK302 8, bc5 BK302 9, bc5 BK302 10⟩ (fun hHeld => ?_)
            clear hK K
            refine norm_ (a' := ?_) ?_ ?_
            rotate_left
            ·show Act.put _ (some 8) _ = _
             simp only [Act.put, List.setIfInBounds_toArray, List.set_cons_zero, List.set_cons_succ, i64_w, i32_w]
             rfl
            exact norm_ (by first | (simp only [putAll, Act.put, List.setIfInBounds_toArray, List.set_cons_zero, List.set_cons_succ]; done) | (simp only [putAll, Act.put, List.setIfInBounds_toArray, List.set_cons_zero, List.set_cons_succ]; rfl)) (hJ1_5 (gb312) _ ⟨hHeld, (by (with_reducible repeat (first | apply Kd.R_alloc | apply Kd.R_drewN | apply Kd.R_drew)); exact HO300.out), (bl5 BK286), (bl5 BK301), (bl5 BK302), (bl5 BK312), GW312.out, GE312.out, NB286_312.out, NB312_286.out, NB301_312.out, NB312_301.out, NB302_312.out, NB312_302.out, bw5⟩)
         ·skip
          rintro ⟨gb311, gb312⟩ w26 ⟨hS_, h0_, h1_, h2_, h3_, h4_, h5_, h6_, h7_, h8_, h9_, h10_, h11_, h12_, h13_, h14_, h15_, h16_, h17_, h18_, h19_, h20_, h21_, h22_, h23_, h24_⟩
          have n0_ : Aside0 (Kd.R k24 24 w26 w.heap.size (fun _ => True) (.slice Ao16 t298.length co16) t298) := ⟨h0_⟩
          have n1_ : Aside0 (w26.heap[gb286]? = some (.cells #[.int .i64 a0_0, .int .i64 a0_1, .int .i64 a0_2, .int .i64 a0_3, .int .i64 a0_4, .int .i64 a0_5, .int .i64 a0_6] 34 (0, 0))) := ⟨h1_⟩
          have n2_ : Aside0 (w26.heap[gb301]? = some (.cells #[.int .i64 t288, .int .i64 t289, .int .i64 t290, .int .i64 t291, .int .i64 t292, .int .i64 t293, .int .i64 t294, .int .i64 t295, .int .i64 t296, .int .i64 t297, .slice Ao16 t298.length co16] 39 (0, 0))) := ⟨h2_⟩
          have n3_ : Aside0 (w26.heap[gb302]? = some (.cells #[.int .i64 t288, .int .i64 t289, .int .i64 t290, .int .i64 t291, .int .i64 t292, .int .i64 (Go.bits .and .i64 (wrap64 (t293 + (wrap64 (Int.tdiv (wrap64 ((wrap64 (a1)) * 4294967296)) 4)))) 4294967295), .int .i64 t294, .int .i64 t295, .int .i64 t296, .int .i64 t297, .slice Ao16 t298.length co16] 39 (0, 0))) := ⟨h3_⟩
          have n4_ : Aside0 (w26.heap[gb311]? = some (.cells #[.int .i64 0, .int .i64 0, .int .i64 0, .int .i64 0] 26 (0, 0))) := ⟨h4_⟩
          have n5_ : Aside0 (w26.heap[gb312]? = some (.cells #[.int .i64 0, .int .i64 0, .int .i64 0, .int .i64 0] 26 (0, 0))) := ⟨h5_⟩
          have n6_ : Aside0 (w.heap.size ≤ gb311) := ⟨h6_⟩
          have n7_ : Aside0 (w.heap.size ≤ gb311) := ⟨h7_⟩
          have n8_ : Aside0 (gb286 ≠ gb311) := ⟨h8_⟩
          have n9_ : Aside0 (gb311 ≠ gb286) := ⟨h9_⟩
          have n10_ : Aside0 (gb301 ≠ gb311) := ⟨h10_⟩
          have n11_ : Aside0 (gb311 ≠ gb301) := ⟨h11_⟩
          have n12_ : Aside0 (gb302 ≠ gb311) := ⟨h12_⟩
          have n13_ : Aside0 (gb311 ≠ gb302) := ⟨h13_⟩
          have n14_ : Aside0 (gb312 ≠ gb311) := ⟨h14_⟩
          have n15_ : Aside0 (gb311 ≠ gb312) := ⟨h15_⟩
          have n16_ : Aside0 (w.heap.size ≤ gb312) := ⟨h16_⟩
          have n17_ : Aside0 (w.heap.size ≤ gb312) := ⟨h17_⟩
          have n18_ : Aside0 (gb286 ≠ gb312) := ⟨h18_⟩
          have n19_ : Aside0 (gb312 ≠ gb286) := ⟨h19_⟩
          have n20_ : Aside0 (gb301 ≠ gb312) := ⟨h20_⟩
          have n21_ : Aside0 (gb312 ≠ gb301) := ⟨h21_⟩
          have n22_ : Aside0 (gb302 ≠ gb312) := ⟨h22_⟩
          have n23_ : Aside0 (gb312 ≠ gb302) := ⟨h23_⟩
          have n24_ : Aside0 (Below w.heap.size w w26) := ⟨h24_⟩
          clear HO300
          clear BK286
          clear BK301
          clear BK302
          clear HB
          clear h0_ h1_ h2_ h3_ h4_ h5_ h6_ h7_ h8_ h9_ h10_ h11_ h12_ h13_ h14_ h15_ h16_ h17_ h18_ h19_ h20_ h21_ h22_ h23_ h24_
          have HO300 := n0_
          have BK286 := n1_
          have BK301 := n2_
          have BK302 := n3_
          have BK311 := n4_
          have BK312 := n5_
          have GW311 := n6_
          have GE311 := n7_
          have NB286_311 := n8_
          have NB311_286 := n9_
          have NB301_311 := n10_
          have NB311_301 := n11_
          have NB302_311 := n12_
          have NB311_302 := n13_
          have NB312_311 := n14_
          have NB311_312 := n15_
          have GW312 := n16_
          have GE312 := n17_
          have NB286_312 := n18_
          have NB312_286 := n19_
          have NB301_312 := n20_
          have NB312_301 := n21_
          have NB302_312 := n22_
          have NB312_302 := n23_
          have HB := n24_
          clear n0_ n1_ n2_ n3_ n4_ n5_ n6_ n7_ n8_ n9_ n10_ n11_ n12_ n13_ n14_ n15_ n16_ n17_ n18_ n19_ n20_ n21_ n22_ n23_ n24_
          have hHeld : w26.cell? ⟨gb301, 0, none⟩ = some (.int .i64 t288) ∧ w26.cell? ⟨gb301, 1, none⟩ = some (.int .i64 t289) ∧ w26.cell? ⟨gb301, 2, none⟩ = some (.int .i64 t290) ∧ w26.cell? ⟨gb301, 3, none⟩ = some (.int .i64 t291) ∧ w26.cell? ⟨gb301, 4, none⟩ = some (.int .i64 t292) ∧ w26.cell? ⟨gb301, 5, none⟩ = some (.int .i64 t293) ∧ w26.cell? ⟨gb301, 6, none⟩ = some (.int .i64 t294) ∧ w26.cell? ⟨gb301, 7, none⟩ = some (.int .i64 t295) ∧ w26.cell? ⟨gb301, 8, none⟩ = some (.int .i64 t296) ∧ w26.cell? ⟨gb301, 9, none⟩ = some (.int .i64 t297) ∧ w26.cell? ⟨gb301, 10, none⟩ = some (.slice Ao16 t298.length co16) ∧ w26.cell? ⟨gb302, 0, none⟩ = some (.int .i64 t288) ∧ w26.cell? ⟨gb302, 1, none⟩ = some (.int .i64 t289) ∧ w26.cell? ⟨gb302, 2, none⟩ = some (.int .i64 t290) ∧ w26.cell? ⟨gb302, 3, none⟩ = some (.int .i64 t291) ∧ w26.cell? ⟨gb302, 4, none⟩ = some (.int .i64 t292) ∧ w26.cell? ⟨gb302, 5, none⟩ = some (.int .i64 (Go.bits .and .i64 (wrap64 (t293 + (wrap64 (Int.tdiv (wrap64 ((wrap64 (a1)) * 4294967296)) 4)))) 4294967295)) ∧ w26.cell? ⟨gb302, 6, none⟩ = some (.int .i64 t294) ∧ w26.cell? ⟨gb302, 7, none⟩ = some (.int .i64 t295) ∧ w26.cell? ⟨gb302, 8, none⟩ = some (.int .i64 t296) ∧ w26.cell? ⟨gb302, 9, none⟩ = some (.int .i64 t297) ∧ w26.cell? ⟨gb302, 10, none⟩ = some (.slice Ao16 t298.length co16) := hS_
          refine norm_ (a' := ?_) ?_ ?_
          rotate_left
          ·simp only [putAll, Act.put, List.setIfInBounds_toArray, List.set_cons_zero, List.set_cons_succ]
           rfl
          refine one_ (i := 1) (N := some 24) #[I5,I5,I5,O5,I5,I5,O5,O5] rfl rfl (one_of HT_.out (by kernel_rfl)) (by decide) (fun K hK => ?_)
          refine goes_ Try.func12 (by kernel_rfl) rfl #[.agg #[.int .i64 t288, .int .i64 t289, .int .i64 t290, .int .i64 t291, .int .i64 t292, .int .i64 t293, .int .i64 t294, .int .i64 t295, .int .i64 t296, .int .i64 t297, .slice Ao16 t298.length co16]] (by rfl) rfl rfl (by (try simp only [List.map_toArray, List.map_cons, List.map_nil]); first | done | rfl | (simp only [List.length_drop, List.length_take]; rfl)) ?_
          with_reducible refine (box_Of.calls k t288 t289 t290 t291 t292 t293 t294 t295 t296 t297 _ _ t298 t303 t304 t305 t306 _ ?side1 ?side2 A6.out).mono ?_
          (case side1 => repeat (first | exact (Kd.R_reads' HO300.out).2.2 | (with_reducible refine Kd.C_alloc ?_ _) | (with_reducible refine Kd.C_drewN ?_ _) | (with_reducible refine Kd.C_drew ?_)))
          (case side2 => exact (Kd.R_reads' HO300.out).2.1)
          rintro e w27 ⟨rfl, hb⟩
          refine ⟨_, rfl, ?_⟩
          have n0_ := Aside0.mk (Kd.R_below (by (with_reducible repeat (first | apply Kd.R_alloc | apply Kd.R_drewN | apply Kd.R_drew)); exact HO300.out) hb)
          have n1_ := Aside0.mk (blk_below (bl5 BK286) hb)
          have n2_ := Aside0.mk (blk_below (bl5 BK301) hb)
          have n3_ := Aside0.mk (blk_below (bl5 BK302) hb)
          have n4_ := Aside0.mk (blk_below (bl5 BK311) hb)
          have n5_ := Aside0.mk (blk_below (bl5 BK312) hb)
          have n6_ := Aside0.mk (below_step bw5 hb)
          clear HO300
          clear BK286
          clear BK301
          clear BK302
          clear BK311
          clear BK312
          clear HB
          have HO300 := n0_
          have BK286 := n1_
          have BK301 := n2_
          have BK302 := n3_
          have BK311 := n4_
          have BK312 := n5_
          have HB := n6_
          clear n0_ n1_ n2_ n3_ n4_ n5_ n6_
          (try clear hb)
          (try clear hb2)
          (try clear hk)
          (try clear hi)
          refine hK.out _ _ ⟨bc5 BK301 0, bc5 BK301 1, bc5 BK301 2, bc5 BK301 3, bc5 BK301 4, bc5 BK301 5, bc5 BK301 6, bc5 BK301 7, bc5 BK301 8, bc5 BK301 9, bc5 BK301 10, bc5 BK302 0, bc5 BK302 1, bc5 BK302 2, bc5 BK302 3, bc5 BK302 4, bc5 BK302 5, bc5 BK302 6, bc5 BK302 7, bc5 BK302 8, bc5 BK302 9, bc5 BK302 10⟩ (fun hHeld => ?_)
          clear hK K
          refine norm_ (a' := ?_) ?_ ?_
          rotate_left
          ·show Act.put _ (some 24) _ = _
           simp only [Act.put, List.setIfInBounds_toArray, List.set_cons_zero, List.set_cons_succ, i64_w, i32_w]
           rfl
          exact norm_ (by first | (simp only [putAll, Act.put, List.setIfInBounds_toArray, List.set_cons_zero, List.set_cons_succ]; done) | (simp only [putAll, Act.put, List.setIfInBounds_toArray, List.set_cons_zero, List.set_cons_succ]; rfl)) (hJ1_4_5 (gb311, gb312) _ ⟨hHeld, (by (with_reducible repeat (first | apply Kd.R_alloc | apply Kd.R_drewN | apply Kd.R_drew)); exact HO300.out), (bl5 BK286), (bl5 BK301), (bl5 BK302), (bl5 BK311), (bl5 BK312), GW311.out, GE311.out, NB286_311.out, NB311_286.out, NB301_311.out, NB311_301.out, NB302_311.out, NB311_302.out, NB312_311.out, NB311_312.out, GW312.out, GE312.out, NB286_312.out, NB312_286.out, NB301_312.out, NB312_301.out, NB302_312.out, NB312_302.out, bw5⟩)
        ·skip
         rintro gb312 w26 ⟨hS_, h0_, h1_, h2_, h3_, h4_, h5_, h6_, h7_, h8_, h9_, h10_, h11_, h12_, h13_⟩
         have n0_ : Aside0 (Kd.R k24 24 w26 w.heap.size (fun _ => True) (.slice Ao16 t298.length co16) t298) := ⟨h0_⟩
         have n1_ : Aside0 (w26.heap[gb286]? = some (.cells #[.int .i64 a0_0, .int .i64 a0_1, .int .i64 a0_2, .int .i64 a0_3, .int .i64 a0_4, .int .i64 a0_5, .int .i64 a0_6] 34 (0, 0))) := ⟨h1_⟩
         have n2_ : Aside0 (w26.heap[gb301]? = some (.cells #[.int .i64 t288, .int .i64 t289, .int .i64 t290, .int .i64 t291, .int .i64 t292, .int .i64 t293, .int .i64 t294, .int .i64 t295, .int .i64 t296, .int .i64 t297, .slice Ao16 t298.length co16] 39 (0, 0))) := ⟨h2_⟩
         have n3_ : Aside0 (w26.heap[gb302]? = some (.cells #[.int .i64 t288, .int .i64 t289, .int .i64 t290, .int .i64 t291, .int .i64 t292, .int .i64 (Go.bits .and .i64 (wrap64 (t293 + (wrap64 (Int.tdiv (wrap64 ((wrap64 (a1)) * 4294967296)) 4)))) 4294967295), .int .i64 t294, .int .i64 t295, .int .i64 t296, .int .i64 t297, .slice Ao16 t298.length co16] 39 (0, 0))) := ⟨h3_⟩
         have n4_ : Aside0 (w26.heap[gb312]? = some (.cells #[.int .i64 0, .int .i64 0, .int .i64 0, .int .i64 0] 26 (0, 0))) := ⟨h4_⟩
         have n5_ : Aside0 (w.heap.size ≤ gb312) := ⟨h5_⟩
         have n6_ : Aside0 (w.heap.size ≤ gb312) := ⟨h6_⟩
         have n7_ : Aside0 (gb286 ≠ gb312) := ⟨h7_⟩
         have n8_ : Aside0 (gb312 ≠ gb286) := ⟨h8_⟩
         have n9_ : Aside0 (gb301 ≠ gb312) := ⟨h9_⟩
         have n10_ : Aside0 (gb312 ≠ gb301) := ⟨h10_⟩
         have n11_ : Aside0 (gb302 ≠ gb312) := ⟨h11_⟩
         have n12_ : Aside0 (gb312 ≠ gb302) := ⟨h12_⟩
         have n13_ : Aside0 (Below w.heap.size w w26) := ⟨h13_⟩
         clear HO300
         clear BK286
         clear BK301
         clear BK302
         clear HB
         clear h0_ h1_ h2_ h3_ h4_ h5_ h6_ h7_ h8_ h9_ h10_ h11_ h12_ h13_
         have HO300 := n0_
         have BK286 := n1_
         have BK301 := n2_
         have BK302 := n3_
         have BK312 := n4_
         have GW312 := n5_
         have GE312 := n6_
         have NB286_312 := n7_
         have NB312_286 := n8_
         have NB301_312 := n9_
         have NB312_301 := n10_
         have NB302_312 := n11_
         have NB312_302 := n12_
         have HB := n13_
         clear n0_ n1_ n2_ n3_ n4_ n5_ n6_ n7_ n8_ n9_ n10_ n11_ n12_ n13_
         have hHeld : w26.cell? ⟨gb301, 0, none⟩ = some (.int .i64 t288) ∧ w26.cell? ⟨gb301, 1, none⟩ = some (.int .i64 t289) ∧ w26.cell? ⟨gb301, 2, none⟩ = some (.int .i64 t290) ∧ w26.cell? ⟨gb301, 3, none⟩ = some (.int .i64 t291) ∧ w26.cell? ⟨gb301, 4, none⟩ = some (.int .i64 t292) ∧ w26.cell? ⟨gb301, 5, none⟩ = some (.int .i64 t293) ∧ w26.cell? ⟨gb301, 6, none⟩ = some (.int .i64 t294) ∧ w26.cell? ⟨gb301, 7, none⟩ = some (.int .i64 t295) ∧ w26.cell? ⟨gb301, 8, none⟩ = some (.int .i64 t296) ∧ w26.cell? ⟨gb301, 9, none⟩ = some (.int .i64 t297) ∧ w26.cell? ⟨gb301, 10, none⟩ = some (.slice Ao16 t298.length co16) ∧ w26.cell? ⟨gb302, 0, none⟩ = some (.int .i64 t288) ∧ w26.cell? ⟨gb302, 1, none⟩ = some (.int .i64 t289) ∧ w26.cell? ⟨gb302, 2, none⟩ = some (.int .i64 t290) ∧ w26.cell? ⟨gb302, 3, none⟩ = some (.int .i64 t291) ∧ w26.cell? ⟨gb302, 4, none⟩ = some (.int .i64 t292) ∧ w26.cell? ⟨gb302, 5, none⟩ = some (.int .i64 (Go.bits .and .i64 (wrap64 (t293 + (wrap64 (Int.tdiv (wrap64 ((wrap64 (a1)) * 4294967296)) 4)))) 4294967295)) ∧ w26.cell? ⟨gb302, 6, none⟩ = some (.int .i64 t294) ∧ w26.cell? ⟨gb302, 7, none⟩ = some (.int .i64 t295) ∧ w26.cell? ⟨gb302, 8, none⟩ = some (.int .i64 t296) ∧ w26.cell? ⟨gb302, 9, none⟩ = some (.int .i64 t297) ∧ w26.cell? ⟨gb302, 10, none⟩ = some (.slice Ao16 t298.length co16) := hS_
         refine norm_ (a' := ?_) ?_ ?_
         rotate_left
         ·simp only [putAll, Act.put, List.setIfInBounds_toArray, List.set_cons_zero, List.set_cons_succ]
          rfl
         refine two_ (i := 3) (j := 4) (Ni := some 26) (Nj := some 7) #[I5,I5,I5,I5,O5,I5,O5,O5] #[I5,I5,I5,O5,I5,I5,O5,O5] rfl rfl rfl rfl (two_of HT_.out (by kernel_rfl)) (by decide) (by decide) (fun K hK => ?_) (fun K hK => ?_)
         ·skip
          refine goes_ Try.func12 (by kernel_rfl) rfl #[.agg #[.int .i64 t288, .int .i64 t289, .int .i64 t290, .int .i64 t291, .int .i64 t292, .int .i64 (Go.bits .and .i64 (wrap64 (t293 + (wrap64 (Int.tdiv (wrap64 ((wrap64 (a1)) * 4294967296)) 4)))) 4294967295), .int .i64 t294, .int .i64 t295, .int .i64 t296, .int .i64 t297, .slice Ao16 t298.length co16]] (by rfl) rfl rfl (by (try simp only [List.map_toArray, List.map_cons, List.map_nil]); first | done | rfl | (simp only [List.length_drop, List.length_take]; rfl)) ?_
          with_reducible refine (box_Of.calls k t288 t289 t290 t291 t292 (Go.bits .and .i64 (wrap64 (t293 + (wrap64 (Int.tdiv (wrap64 ((wrap64 (a1)) * 4294967296)) 4)))) 4294967295) t294 t295 t296 t297 _ _ t298 t307 t308 t309 t310 _ ?side1 ?side2 A7.out).mono ?_
          (case side1 => repeat (first | exact (Kd.R_reads' HO300.out).2.2 | (with_reducible refine Kd.C_alloc ?_ _) | (with_reducible refine Kd.C_drewN ?_ _) | (with_reducible refine Kd.C_drew ?_)))
          (case side2 => exact (Kd.R_reads' HO300.out).2.1)
          rintro e w27 ⟨rfl, hb⟩
          refine ⟨_, rfl, ?_⟩
          have n0_ := Aside0.mk (Kd.R_below (by (with_reducible repeat (first | apply Kd.R_alloc | apply Kd.R_drewN | apply Kd.R_drew)); exact HO300.out) hb)
          have n1_ := Aside0.mk (blk_below (bl5 BK286) hb)
          have n2_ := Aside0.mk (blk_below (bl5 BK301) hb)
          have n3_ := Aside0.mk (blk_below (bl5 BK302) hb)
          have n4_ := Aside0.mk (blk_below (bl5 BK312) hb)
          have n5_ := Aside0.mk (below_step bw5 hb)
          clear HO300
          clear BK286
          clear BK301
          clear BK302
          clear BK312
          clear HB
          have HO300 := n0_
          have BK286 := n1_
          have BK301 := n2_
          have BK302 := n3_
          have BK312 := n4_
          have HB := n5_
          clear n0_ n1_ n2_ n3_ n4_ n5_
          (try clear hb)
          (try clear hb2)
          (try clear hk)
          (try clear hi)
          refine hK.out _ _ ⟨bc5 BK301 0, bc5 BK301 1, bc5 BK301 2, bc5 BK301 3, bc5 BK301 4, bc5 BK301 5, bc5 BK301 6, bc5 BK301 7, bc5 BK301 8, bc5 BK301 9, bc5 BK301 10, bc5 BK302 0, bc5 BK302 1, bc5 BK302 2, bc5 BK302 3, bc5 BK302 4, bc5 BK302 5, bc5 BK302 6, bc5 BK302 7, bc5 BK302 8, bc5 BK302 9, bc5 BK302 10⟩ (fun hHeld => ?_)
          clear hK K
          refine norm_ (a' := ?_) ?_ ?_
          rotate_left
          ·show Act.put _ (some 26) _ = _
           simp only [Act.put, List.setIfInBounds_toArray, List.set_cons_zero, List.set_cons_succ, i64_w, i32_w]
           rfl
          exact norm_ (by first | (simp only [putAll, Act.put, List.setIfInBounds_toArray, List.set_cons_zero, List.set_cons_succ]; done) | (simp only [putAll, Act.put, List.setIfInBounds_toArray, List.set_cons_zero, List.set_cons_succ]; rfl)) (hJ1_3_5 (gb312) _ ⟨hHeld, (by (with_reducible repeat (first | apply Kd.R_alloc | apply Kd.R_drewN | apply Kd.R_drew)); exact HO300.out), (bl5 BK286), (bl5 BK301), (bl5 BK302), (bl5 BK312), GW312.out, GE312.out, NB286_312.out, NB312_286.out, NB301_312.out, NB312_301.out, NB302_312.out, NB312_302.out, bw5⟩)
         ·skip
          refine box_step ?hg (N := 7) ?hd (cs := #[.int .i64 0, .int .i64 0, .int .i64 0, .int .i64 0]) (t := 26) ?hr ?_; (case hd => rfl); (case hg => rfl); (case hr => first | (go_simp; done) | (go_simp; rfl))
          intro gb311 hg w27 hbox hb
          have n0_ := Aside0.mk (Kd.R_below (by (with_reducible repeat (first | apply Kd.R_alloc | apply Kd.R_drewN | apply Kd.R_drew)); exact HO300.out) hb)
          have n1_ := Aside0.mk (blk_below (bl5 BK286) hb)
          have n2_ := Aside0.mk (blk_below (bl5 BK301) hb)
          have n3_ := Aside0.mk (blk_below (bl5 BK302) hb)
          have n4_ := Aside0.mk (blk_below (bl5 BK312) hb)
          have n5_ := Aside0.mk (below_step bw5 hb)
          have n6_ := Aside0.mk (hbox)
          have n7_ := Aside0.mk ((by rw [hg]; exact (below_size bw5) : w.heap.size ≤ gb311))
          have n8_ := Aside0.mk ((by rw [hg]; exact (below_size bw5) : w.heap.size ≤ gb311))
          have n9_ := Aside0.mk ((by rw [hg]; exact Nat.ne_of_lt (blk_lt (bl5 BK286)) : gb286 ≠ gb311))
          have n10_ := Aside0.mk ((by rw [hg]; exact Nat.ne_of_gt (blk_lt (bl5 BK286)) : gb311 ≠ gb286))
          have n11_ := Aside0.mk ((by rw [hg]; exact Nat.ne_of_lt (blk_lt (bl5 BK301)) : gb301 ≠ gb311))
          have n12_ := Aside0.mk ((by rw [hg]; exact Nat.ne_of_gt (blk_lt (bl5 BK301)) : gb311 ≠ gb301))
          have n13_ := Aside0.mk ((by rw [hg]; exact Nat.ne_of_lt (blk_lt (bl5 BK302)) : gb302 ≠ gb311))
          have n14_ := Aside0.mk ((by rw [hg]; exact Nat.ne_of_gt (blk_lt (bl5 BK302)) : gb311 ≠ gb302))
          have n15_ := Aside0.mk ((by rw [hg]; exact Nat.ne_of_lt (blk_lt (bl5 BK312)) : gb312 ≠ gb311))
          have n16_ := Aside0.mk ((by rw [hg]; exact Nat.ne_of_gt (blk_lt (bl5 BK312)) : gb311 ≠ gb312))
          clear HO300
          clear BK286
          clear BK301
          clear BK302
          clear BK312
          clear HB
          have HO300 := n0_
          have BK286 := n1_
          have BK301 := n2_
          have BK302 := n3_
          have BK312 := n4_
          have HB := n5_
          have BK311 := n6_
          have GW311 := n7_
          have GE311 := n8_
          have NB286_311 := n9_
          have NB311_286 := n10_
          have NB301_311 := n11_
          have NB311_301 := n12_
          have NB302_311 := n13_
          have NB311_302 := n14_
          have NB312_311 := n15_
          have NB311_312 := n16_
          clear n0_ n1_ n2_ n3_ n4_ n5_ n6_ n7_ n8_ n9_ n10_ n11_ n12_ n13_ n14_ n15_ n16_
          clear hb hbox hg
          refine hK.out _ _ ⟨bc5 BK301 0, bc5 BK301 1, bc5 BK301 2, bc5 BK301 3, bc5 BK301 4, bc5 BK301 5, bc5 BK301 6, bc5 BK301 7, bc5 BK301 8, bc5 BK301 9, bc5 BK301 10, bc5 BK302 0, bc5 BK302 1, bc5 BK302 2, bc5 BK302 3, bc5 BK302 4, bc5 BK302 5, bc5 BK302 6, bc5 BK302 7, bc5 BK302 8, bc5 BK302 9, bc5 BK302 10⟩ (fun hHeld => ?_)
          clear hK K
          refine norm_ (a' := ?_) ?_ ?_
          rotate_left
          ·show Act.put _ (some 7) _ = _
           simp only [Act.put, List.setIfInBounds_toArray, List.set_cons_zero, List.set_cons_succ, i64_w, i32_w]
           rfl
          exact norm_ (by first | (simp only [putAll, Act.put, List.setIfInBounds_toArray, List.set_cons_zero, List.set_cons_succ]; done) | (simp only [putAll, Act.put, List.setIfInBounds_toArray, List.set_cons_zero, List.set_cons_succ]; rfl)) (hJ1_4_5 (gb311, gb312) _ ⟨hHeld, (by (with_reducible repeat (first | apply Kd.R_alloc | apply Kd.R_drewN | apply Kd.R_drew)); exact HO300.out), (bl5 BK286), (bl5 BK301), (bl5 BK302), (bl5 BK311), (bl5 BK312), GW311.out, GE311.out, NB286_311.out, NB311_286.out, NB301_311.out, NB311_301.out, NB302_311.out, NB311_302.out, NB312_311.out, NB311_312.out, GW312.out, GE312.out, NB286_312.out, NB312_286.out, NB301_312.out, NB312_301.out, NB302_312.out, NB312_302.out, bw5⟩)
       ·skip
        rintro gb311 w26 ⟨hS_, h0_, h1_, h2_, h3_, h4_, h5_, h6_, h7_, h8_, h9_, h10_, h11_, h12_, h13_⟩
        have n0_ : Aside0 (Kd.R k24 24 w26 w.heap.size (fun _ => True) (.slice Ao16 t298.length co16) t298) := ⟨h0_⟩
        have n1_ : Aside0 (w26.heap[gb286]? = some (.cells #[.int .i64 a0_0, .int .i64 a0_1, .int .i64 a0_2, .int .i64 a0_3, .int .i64 a0_4, .int .i64 a0_5, .int .i64 a0_6] 34 (0, 0))) := ⟨h1_⟩
        have n2_ : Aside0 (w26.heap[gb301]? = some (.cells #[.int .i64 t288, .int .i64 t289, .int .i64 t290, .int .i64 t291, .int .i64 t292, .int .i64 t293, .int .i64 t294, .int .i64 t295, .int .i64 t296, .int .i64 t297, .slice Ao16 t298.length co16] 39 (0, 0))) := ⟨h2_⟩
        have n3_ : Aside0 (w26.heap[gb302]? = some (.cells #[.int .i64 t288, .int .i64 t289, .int .i64 t290, .int .i64 t291, .int .i64 t292, .int .i64 (Go.bits .and .i64 (wrap64 (t293 + (wrap64 (Int.tdiv (wrap64 ((wrap64 (a1)) * 4294967296)) 4)))) 4294967295), .int .i64 t294, .int .i64 t295, .int .i64 t296, .int .i64 t297, .slice Ao16 t298.length co16] 39 (0, 0))) := ⟨h3_⟩
        have n4_ : Aside0 (w26.heap[gb311]? = some (.cells #[.int .i64 0, .int .i64 0, .int .i64 0, .int .i64 0] 26 (0, 0))) := ⟨h4_⟩
        have n5_ : Aside0 (w.heap.size ≤ gb311) := ⟨h5_⟩
        have n6_ : Aside0 (w.heap.size ≤ gb311) := ⟨h6_⟩
        have n7_ : Aside0 (gb286 ≠ gb311) := ⟨h7_⟩
        have n8_ : Aside0 (gb311 ≠ gb286) := ⟨h8_⟩
        have n9_ : Aside0 (gb301 ≠ gb311) := ⟨h9_⟩
        have n10_ : Aside0 (gb311 ≠ gb301) := ⟨h10_⟩
        have n11_ : Aside0 (gb302 ≠ gb311) := ⟨h11_⟩
        have n12_ : Aside0 (gb311 ≠ gb302) := ⟨h12_⟩
        have n13_ : Aside0 (Below w.heap.size w w26) := ⟨h13_⟩
        clear HO300
        clear BK286
        clear BK301
        clear BK302
        clear HB
        clear h0_ h1_ h2_ h3_ h4_ h5_ h6_ h7_ h8_ h9_ h10_ h11_ h12_ h13_
        have HO300 := n0_
        have BK286 := n1_
        have BK301 := n2_
        have BK302 := n3_
        have BK311 := n4_
        have GW311 := n5_
        have GE311 := n6_
        have NB286_311 := n7_
        have NB311_286 := n8_
        have NB301_311 := n9_
        have NB311_301 := n10_
        have NB302_311 := n11_
        have NB311_302 := n12_
        have HB := n13_
        clear n0_ n1_ n2_ n3_ n4_ n5_ n6_ n7_ n8_ n9_ n10_ n11_ n12_ n13_
        have hHeld : w26.cell? ⟨gb301, 0, none⟩ = some (.int .i64 t288) ∧ w26.cell? ⟨gb301, 1, none⟩ = some (.int .i64 t289) ∧ w26.cell? ⟨gb301, 2, none⟩ = some (.int .i64 t290) ∧ w26.cell? ⟨gb301, 3, none⟩ = some (.int .i64 t291) ∧ w26.cell? ⟨gb301, 4, none⟩ = some (.int .i64 t292) ∧ w26.cell? ⟨gb301, 5, none⟩ = some (.int .i64 t293) ∧ w26.cell? ⟨gb301, 6, none⟩ = some (.int .i64 t294) ∧ w26.cell? ⟨gb301, 7, none⟩ = some (.int .i64 t295) ∧ w26.cell? ⟨gb301, 8, none⟩ = some (.int .i64 t296) ∧ w26.cell? ⟨gb301, 9, none⟩ = some (.int .i64 t297) ∧ w26.cell? ⟨gb301, 10, none⟩ = some (.slice Ao16 t298.length co16) ∧ w26.cell? ⟨gb302, 0, none⟩ = some (.int .i64 t288) ∧ w26.cell? ⟨gb302, 1, none⟩ = some (.int .i64 t289) ∧ w26.cell? ⟨gb302, 2, none⟩ = some (.int .i64 t290) ∧ w26.cell? ⟨gb302, 3, none⟩ = some (.int .i64 t291) ∧ w26.cell? ⟨gb302, 4, none⟩ = some (.int .i64 t292) ∧ w26.cell? ⟨gb302, 5, none⟩ = some (.int .i64 (Go.bits .and .i64 (wrap64 (t293 + (wrap64 (Int.tdiv (wrap64 ((wrap64 (a1)) * 4294967296)) 4)))) 4294967295)) ∧ w26.cell? ⟨gb302, 6, none⟩ = some (.int .i64 t294) ∧ w26.cell? ⟨gb302, 7, none⟩ = some (.int .i64 t295) ∧ w26.cell? ⟨gb302, 8, none⟩ = some (.int .i64 t296) ∧ w26.cell? ⟨gb302, 9, none⟩ = some (.int .i64 t297) ∧ w26.cell? ⟨gb302, 10, none⟩ = some (.slice Ao16 t298.length co16) := hS_
        refine norm_ (a' := ?_) ?_ ?_
        rotate_left
        ·simp only [putAll, Act.put, List.setIfInBounds_toArray, List.set_cons_zero, List.set_cons_succ]
         rfl
        refine two_ (i := 3) (j := 5) (Ni := some 26) (Nj := some 8) #[I5,I5,I5,I5,I5,O5,O5,O5] #[I5,I5,I5,O5,I5,I5,O5,O5] rfl rfl rfl rfl (two_of HT_.out (by kernel_rfl)) (by decide) (by decide) (fun K hK => ?_) (fun K hK => ?_)
        ·skip
         refine goes_ Try.func12 (by kernel_rfl) rfl #[.agg #[.int .i64 t288, .int .i64 t289, .int .i64 t290, .int .i64 t291, .int .i64 t292, .int .i64 (Go.bits .and .i64 (wrap64 (t293 + (wrap64 (Int.tdiv (wrap64 ((wrap64 (a1)) * 4294967296)) 4)))) 4294967295), .int .i64 t294, .int .i64 t295, .int .i64 t296, .int .i64 t297, .slice Ao16 t298.length co16]] (by rfl) rfl rfl (by (try simp only [List.map_toArray, List.map_cons, List.map_nil]); first | done | rfl | (simp only [List.length_drop, List.length_take]; rfl)) ?_
         with_reducible refine (box_Of.calls k t288 t289 t290 t291 t292 (Go.bits .and .i64 (wrap64 (t293 + (wrap64 (Int.tdiv (wrap64 ((wrap64 (a1)) * 4294967296)) 4)))) 4294967295) t294 t295 t296 t297 _ _ t298 t307 t308 t309 t310 _ ?side1 ?side2 A7.out).mono ?_
         (case side1 => repeat (first | exact (Kd.R_reads' HO300.out).2.2 | (with_reducible refine Kd.C_alloc ?_ _) | (with_reducible refine Kd.C_drewN ?_ _) | (with_reducible refine Kd.C_drew ?_)))
         (case side2 => exact (Kd.R_reads' HO300.out).2.1)
         rintro e w27 ⟨rfl, hb⟩
         refine ⟨_, rfl, ?_⟩
         have n0_ := Aside0.mk (Kd.R_below (by (with_reducible repeat (first | apply Kd.R_alloc | apply Kd.R_drewN | apply Kd.R_drew)); exact HO300.out) hb)
         have n1_ := Aside0.mk (blk_below (bl5 BK286) hb)
         have n2_ := Aside0.mk (blk_below (bl5 BK301) hb)
         have n3_ := Aside0.mk (blk_below (bl5 BK302) hb)
         have n4_ := Aside0.mk (blk_below (bl5 BK311) hb)
         have n5_ := Aside0.mk (below_step bw5 hb)
         clear HO300
         clear BK286
         clear BK301
         clear BK302
         clear BK311
         clear HB
         have HO300 := n0_
         have BK286 := n1_
         have BK301 := n2_
         have BK302 := n3_
         have BK311 := n4_
         have HB := n5_
         clear n0_ n1_ n2_ n3_ n4_ n5_
         (try clear hb)
         (try clear hb2)
         (try clear hk)
         (try clear hi)
         refine hK.out _ _ ⟨bc5 BK301 0, bc5 BK301 1, bc5 BK301 2, bc5 BK301 3, bc5 BK301 4, bc5 BK301 5, bc5 BK301 6, bc5 BK301 7, bc5 BK301 8, bc5 BK301 9, bc5 BK301 10, bc5 BK302 0, bc5 BK302 1, bc5 BK302 2, bc5 BK302 3, bc5 BK302 4, bc5 BK302 5, bc5 BK302 6, bc5 BK302 7, bc5 BK302 8, bc5 BK302 9, bc5 BK302 10⟩ (fun hHeld => ?_)
         clear hK K
         refine norm_ (a' := ?_) ?_ ?_
         rotate_left
         ·show Act.put _ (some 26) _ = _
          simp only [Act.put, List.setIfInBounds_toArray, List.set_cons_zero, List.set_cons_succ, i64_w, i32_w]
          rfl
         exact norm_ (by first | (simp only [putAll, Act.put, List.setIfInBounds_toArray, List.set_cons_zero, List.set_cons_succ]; done) | (simp only [putAll, Act.put, List.setIfInBounds_toArray, List.set_cons_zero, List.set_cons_succ]; rfl)) (hJ1_3_4 (gb311) _ ⟨hHeld, (by (with_reducible repeat (first | apply Kd.R_alloc | apply Kd.R_drewN | apply Kd.R_drew)); exact HO300.out), (bl5 BK286), (bl5 BK301), (bl5 BK302), (bl5 BK311), GW311.out, GE311.out, NB286_311.out, NB311_286.out, NB301_311.out, NB311_301.out, NB302_311.out, NB311_302.out, bw5⟩)
        ·skip
         refine box_step ?hg (N := 8) ?hd (cs := #[.int .i64 0, .int .i64 0, .int .i64 0, .int .i64 0]) (t := 26) ?hr ?_; (case hd => rfl); (case hg => rfl); (case hr => first | (go_simp; done) | (go_simp; rfl))
         intro gb312 hg w27 hbox hb
         have n0_ := Aside0.mk (Kd.R_below (by (with_reducible repeat (first | apply Kd.R_alloc | apply Kd.R_drewN | apply Kd.R_drew)); exact HO300.out) hb)
         have n1_ := Aside0.mk (blk_below (bl5 BK286) hb)
         have n2_ := Aside0.mk (blk_below (bl5 BK301) hb)
         have n3_ := Aside0.mk (blk_below (bl5 BK302) hb)
         have n4_ := Aside0.mk (blk_below (bl5 BK311) hb)
         have n5_ := Aside0.mk (below_step bw5 hb)
         have n6_ := Aside0.mk (hbox)
         have n7_ := Aside0.mk ((by rw [hg]; exact (below_size bw5) : w.heap.size ≤ gb312))
         have n8_ := Aside0.mk ((by rw [hg]; exact (below_size bw5) : w.heap.size ≤ gb312))
         have n9_ := Aside0.mk ((by rw [hg]; exact Nat.ne_of_lt (blk_lt (bl5 BK286)) : gb286 ≠ gb312))
         have n10_ := Aside0.mk ((by rw [hg]; exact Nat.ne_of_gt (blk_lt (bl5 BK286)) : gb312 ≠ gb286))
         have n11_ := Aside0.mk ((by rw [hg]; exact Nat.ne_of_lt (blk_lt (bl5 BK301)) : gb301 ≠ gb312))
         have n12_ := Aside0.mk ((by rw [hg]; exact Nat.ne_of_gt (blk_lt (bl5 BK301)) : gb312 ≠ gb301))
         have n13_ := Aside0.mk ((by rw [hg]; exact Nat.ne_of_lt (blk_lt (bl5 BK302)) : gb302 ≠ gb312))
         have n14_ := Aside0.mk ((by rw [hg]; exact Nat.ne_of_gt (blk_lt (bl5 BK302)) : gb312 ≠ gb302))
         have n15_ := Aside0.mk ((by rw [hg]; exact Nat.ne_of_lt (blk_lt (bl5 BK311)) : gb311 ≠ gb312))
         have n16_ := Aside0.mk ((by rw [hg]; exact Nat.ne_of_gt (blk_lt (bl5 BK311)) : gb312 ≠ gb311))
         clear HO300
         clear BK286
         clear BK301
         clear BK302
         clear BK311
         clear HB
         have HO300 := n0_
         have BK286 := n1_
         have BK301 := n2_
         have BK302 := n3_
         have BK311 := n4_
         have HB := n5_
         have BK312 := n6_
         have GW312 := n7_
         have GE312 := n8_
         have NB286_312 := n9_
         have NB312_286 := n10_
         have NB301_312 := n11_
         have NB312_301 := n12_
         have NB302_312 := n13_
         have NB312_302 := n14_
         have NB311_312 := n15_
         have NB312_311 := n16_
         clear n0_ n1_ n2_ n3_ n4_ n5_ n6_ n7_ n8_ n9_ n10_ n11_ n12_ n13_ n14_ n15_ n16_
         clear hb hbox hg
         refine hK.out _ _ ⟨bc5 BK301 0, bc5 BK301 1, bc5 BK301 2, bc5 BK301 3, bc5 BK301 4, bc5 BK301 5, bc5 BK301 6, bc5 BK301 7, bc5 BK301 8, bc5 BK301 9, bc5 BK301 10, bc5 BK302 0, bc5 BK302 1, bc5 BK302 2, bc5 BK302 3, bc5 BK302 4, bc5 BK302 5, bc5 BK302 6, bc5 BK302 7, bc5 BK302 8, bc5 BK302 9, bc5 BK302 10⟩ (fun hHeld => ?_)
         clear hK K
         refine norm_ (a' := ?_) ?_ ?_
         rotate_left
         ·show Act.put _ (some 8) _ = _
          simp only [Act.put, List.setIfInBounds_toArray, List.set_cons_zero, List.set_cons_succ, i64_w, i32_w]
          rfl
         exact norm_ (by first | (simp only [putAll, Act.put, List.setIfInBounds_toArray, List.set_cons_zero, List.set_cons_succ]; done) | (simp only [putAll, Act.put, List.setIfInBounds_toArray, List.set_cons_zero, List.set_cons_succ]; rfl)) (hJ1_4_5 (gb311, gb312) _ ⟨hHeld, (by (with_reducible repeat (first | apply Kd.R_alloc | apply Kd.R_drewN | apply Kd.R_drew)); exact HO300.out), (bl5 BK286), (bl5 BK301), (bl5 BK302), (bl5 BK311), (bl5 BK312), GW311.out, GE311.out, NB286_311.out, NB311_286.out, NB301_311.out, NB311_301.out, NB302_311.out, NB311_302.out, NB312_311.out, NB311_312.out, GW312.out, GE312.out, NB286_312.out, NB312_286.out, NB301_312.out, NB312_301.out, NB302_312.out, NB312_302.out, bw5⟩)
      ·skip
       rintro _ w26 ⟨hS_, h0_, h1_, h2_, h3_, h4_⟩
       have n0_ : Aside0 (Kd.R k24 24 w26 w.heap.size (fun _ => True) (.slice Ao16 t298.length co16) t298) := ⟨h0_⟩
       have n1_ : Aside0 (w26.heap[gb286]? = some (.cells #[.int .i64 a0_0, .int .i64 a0_1, .int .i64 a0_2, .int .i64 a0_3, .int .i64 a0_4, .int .i64 a0_5, .int .i64 a0_6] 34 (0, 0))) := ⟨h1_⟩
       have n2_ : Aside0 (w26.heap[gb301]? = some (.cells #[.int .i64 t288, .int .i64 t289, .int .i64 t290, .int .i64 t291, .int .i64 t292, .int .i64 t293, .int .i64 t294, .int .i64 t295, .int .i64 t296, .int .i64 t297, .slice Ao16 t298.length co16] 39 (0, 0))) := ⟨h2_⟩
       have n3_ : Aside0 (w26.heap[gb302]? = some (.cells #[.int .i64 t288, .int .i64 t289, .int .i64 t290, .int .i64 t291, .int .i64 t292, .int .i64 (Go.bits .and .i64 (wrap64 (t293 + (wrap64 (Int.tdiv (wrap64 ((wrap64 (a1)) * 4294967296)) 4)))) 4294967295), .int .i64 t294, .int .i64 t295, .int .i64 t296, .int .i64 t297, .slice Ao16 t298.length co16] 39 (0, 0))) := ⟨h3_⟩
       have n4_ : Aside0 (Below w.heap.size w w26) := ⟨h4_⟩
       clear HO300
       clear BK286
       clear BK301
       clear BK302
       clear HB
       clear h0_ h1_ h2_ h3_ h4_
       have HO300 := n0_
       have BK286 := n1_
       have BK301 := n2_
       have BK302 := n3_
       have HB := n4_
       clear n0_ n1_ n2_ n3_ n4_
       have hHeld : w26.cell? ⟨gb301, 0, none⟩ = some (.int .i64 t288) ∧ w26.cell? ⟨gb301, 1, none⟩ = some (.int .i64 t289) ∧ w26.cell? ⟨gb301, 2, none⟩ = some (.int .i64 t290) ∧ w26.cell? ⟨gb301, 3, none⟩ = some (.int .i64 t291) ∧ w26.cell? ⟨gb301, 4, none⟩ = some (.int .i64 t292) ∧ w26.cell? ⟨gb301, 5, none⟩ = some (.int .i64 t293) ∧ w26.cell? ⟨gb301, 6, none⟩ = some (.int .i64 t294) ∧ w26.cell? ⟨gb301, 7, none⟩ = some (.int .i64 t295) ∧ w26.cell? ⟨gb301, 8, none⟩ = some (.int .i64 t296) ∧ w26.cell? ⟨gb301, 9, none⟩ = some (.int .i64 t297) ∧ w26.cell? ⟨gb301, 10, none⟩ = some (.slice Ao16 t298.length co16) ∧ w26.cell? ⟨gb302, 0, none⟩ = some (.int .i64 t288) ∧ w26.cell? ⟨gb302, 1, none⟩ = some (.int .i64 t289) ∧ w26.cell? ⟨gb302, 2, none⟩ = some (.int .i64 t290) ∧ w26.cell? ⟨gb302, 3, none⟩ = some (.int .i64 t291) ∧ w26.cell? ⟨gb302, 4, none⟩ = some (.int .i64 t292) ∧ w26.cell? ⟨gb302, 5, none⟩ = some (.int .i64 (Go.bits .and .i64 (wrap64 (t293 + (wrap64 (Int.tdiv (wrap64 ((wrap64 (a1)) * 4294967296)) 4)))) 4294967295)) ∧ w26.cell? ⟨gb302, 6, none⟩ = some (.int .i64 t294) ∧ w26.cell? ⟨gb302, 7, none⟩ = some (.int .i64 t295) ∧ w26.cell? ⟨gb302, 8, none⟩ = some (.int .i64 t296) ∧ w26.cell? ⟨gb302, 9, none⟩ = some (.int .i64 t297) ∧ w26.cell? ⟨gb302, 10, none⟩ = some (.slice Ao16 t298.length co16) := hS_
       refine norm_ (a' := ?_) ?_ ?_
       rotate_left
       ·simp only [putAll, Act.put, List.setIfInBounds_toArray, List.set_cons_zero, List.set_cons_succ]
        rfl
       refine two_ (i := 4) (j := 5) (Ni := some 7) (Nj := some 8) #[I5,I5,I5,I5,I5,O5,O5,O5] #[I5,I5,I5,I5,O5,I5,O5,O5] rfl rfl rfl rfl (two_of HT_.out (by kernel_rfl)) (by decide) (by decide) (fun K hK => ?_) (fun K hK => ?_)
       ·skip
        refine box_step ?hg (N := 7) ?hd (cs := #[.int .i64 0, .int .i64 0, .int .i64 0, .int .i64 0]) (t := 26) ?hr ?_; (case hd => rfl); (case hg => rfl); (case hr => first | (go_simp; done) | (go_simp; rfl))
        intro gb311 hg w27 hbox hb
        have n0_ := Aside0.mk (Kd.R_below (by (with_reducible repeat (first | apply Kd.R_alloc | apply Kd.R_drewN | apply Kd.R_drew)); exact HO300.out) hb)
        have n1_ := Aside0.mk (blk_below (bl5 BK286) hb)
        have n2_ := Aside0.mk (blk_below (bl5 BK301) hb)
        have n3_ := Aside0.mk (blk_below (bl5 BK302) hb)
        have n4_ := Aside0.mk (below_step bw5 hb)
        have n5_ := Aside0.mk (hbox)
        have n6_ := Aside0.mk ((by rw [hg]; exact (below_size bw5) : w.heap.size ≤ gb311))
        have n7_ := Aside0.mk ((by rw [hg]; exact (below_size bw5) : w.heap.size ≤ gb311))
        have n8_ := Aside0.mk ((by rw [hg]; exact Nat.ne_of_lt (blk_lt (bl5 BK286)) : gb286 ≠ gb311))
        have n9_ := Aside0.mk ((by rw [hg]; exact Nat.ne_of_gt (blk_lt (bl5 BK286)) : gb311 ≠ gb286))
        have n10_ := Aside0.mk ((by rw [hg]; exact Nat.ne_of_lt (blk_lt (bl5 BK301)) : gb301 ≠ gb311))
        have n11_ := Aside0.mk ((by rw [hg]; exact Nat.ne_of_gt (blk_lt (bl5 BK301)) : gb311 ≠ gb301))
        have n12_ := Aside0.mk ((by rw [hg]; exact Nat.ne_of_lt (blk_lt (bl5 BK302)) : gb302 ≠ gb311))
        have n13_ := Aside0.mk ((by rw [hg]; exact Nat.ne_of_gt (blk_lt (bl5 BK302)) : gb311 ≠ gb302))
        clear HO300
        clear BK286
        clear BK301
        clear BK302
        clear HB
        have HO300 := n0_
        have BK286 := n1_
        have BK301 := n2_
        have BK302 := n3_
        have HB := n4_
        have BK311 := n5_
        have GW311 := n6_
        have GE311 := n7_
        have NB286_311 := n8_
        have NB311_286 := n9_
        have NB301_311 := n10_
        have NB311_301 := n11_
        have NB302_311 := n12_
        have NB311_302 := n13_
        clear n0_ n1_ n2_ n3_ n4_ n5_ n6_ n7_ n8_ n9_ n10_ n11_ n12_ n13_
        clear hb hbox hg
        refine hK.out _ _ ⟨bc5 BK301 0, bc5 BK301 1, bc5 BK301 2, bc5 BK301 3, bc5 BK301 4, bc5 BK301 5, bc5 BK301 6, bc5 BK301 7, bc5 BK301 8, bc5 BK301 9, bc5 BK301 10, bc5 BK302 0, bc5 BK302 1, bc5 BK302 2, bc5 BK302 3, bc5 BK302 4, bc5 BK302 5, bc5 BK302 6, bc5 BK302 7, bc5 BK302 8, bc5 BK302 9, bc5 BK302 10⟩ (fun hHeld => ?_)
        clear hK K
        refine norm_ (a' := ?_) ?_ ?_
        rotate_left
        ·show Act.put _ (some 7) _ = _
         simp only [Act.put, List.setIfInBounds_toArray, List.set_cons_zero, List.set_cons_succ, i64_w, i32_w]
         rfl
        exact norm_ (by first | (simp only [putAll, Act.put, List.setIfInBounds_toArray, List.set_cons_zero, List.set_cons_succ]; done) | (simp only [putAll, Act.put, List.setIfInBounds_toArray, List.set_cons_zero, List.set_cons_succ]; rfl)) (hJ1_3_4 (gb311) _ ⟨hHeld, (by (with_reducible repeat (first | apply Kd.R_alloc | apply Kd.R_drewN | apply Kd.R_drew)); exact HO300.out), (bl5 BK286), (bl5 BK301), (bl5 BK302), (bl5 BK311), GW311.out, GE311.out, NB286_311.out, NB311_286.out, NB301_311.out, NB311_301.out, NB302_311.out, NB311_302.out, bw5⟩)
       ·skip
        refine box_step ?hg (N := 8) ?hd (cs := #[.int .i64 0, .int .i64 0, .int .i64 0, .int .i64 0]) (t := 26) ?hr ?_; (case hd => rfl); (case hg => rfl); (case hr => first | (go_simp; done) | (go_simp; rfl))
        intro gb312 hg w27 hbox hb
        have n0_ := Aside0.mk (Kd.R_below (by (with_reducible repeat (first | apply Kd.R_alloc | apply Kd.R_drewN | apply Kd.R_drew)); exact HO300.out) hb)
        have n1_ := Aside0.mk (blk_below (bl5 BK286) hb)
        have n2_ := Aside0.mk (blk_below (bl5 BK301) hb)
        have n3_ := Aside0.mk (blk_below (bl5 BK302) hb)
        have n4_ := Aside0.mk (below_step bw5 hb)
        have n5_ := Aside0.mk (hbox)
        have n6_ := Aside0.mk ((by rw [hg]; exact (below_size bw5) : w.heap.size ≤ gb312))
        have n7_ := Aside0.mk ((by rw [hg]; exact (below_size bw5) : w.heap.size ≤ gb312))
        have n8_ := Aside0.mk ((by rw [hg]; exact Nat.ne_of_lt (blk_lt (bl5 BK286)) : gb286 ≠ gb312))
        have n9_ := Aside0.mk ((by rw [hg]; exact Nat.ne_of_gt (blk_lt (bl5 BK286)) : gb312 ≠ gb286))
        have n10_ := Aside0.mk ((by rw [hg]; exact Nat.ne_of_lt (blk_lt (bl5 BK301)) : gb301 ≠ gb312))
        have n11_ := Aside0.mk ((by rw [hg]; exact Nat.ne_of_gt (blk_lt (bl5 BK301)) : gb312 ≠ gb301))
        have n12_ := Aside0.mk ((by rw [hg]; exact Nat.ne_of_lt (blk_lt (bl5 BK302)) : gb302 ≠ gb312))
        have n13_ := Aside0.mk ((by rw [hg]; exact Nat.ne_of_gt (blk_lt (bl5 BK302)) : gb312 ≠ gb302))
        clear HO300
        clear BK286
        clear BK301
        clear BK302
        clear HB
        have HO300 := n0_
        have BK286 := n1_
        have BK301 := n2_
        have BK302 := n3_
        have HB := n4_
        have BK312 := n5_
        have GW312 := n6_
        have GE312 := n7_
        have NB286_312 := n8_
        have NB312_286 := n9_
        have NB301_312 := n10_
        have NB312_301 := n11_
        have NB302_312 := n12_
        have NB312_302 := n13_
        clear n0_ n1_ n2_ n3_ n4_ n5_ n6_ n7_ n8_ n9_ n10_ n11_ n12_ n13_
        clear hb hbox hg
        refine hK.out _ _ ⟨bc5 BK301 0, bc5 BK301 1, bc5 BK301 2, bc5 BK301 3, bc5 BK301 4, bc5 BK301 5, bc5 BK301 6, bc5 BK301 7, bc5 BK301 8, bc5 BK301 9, bc5 BK301 10, bc5 BK302 0, bc5 BK302 1, bc5 BK302 2, bc5 BK302 3, bc5 BK302 4, bc5 BK302 5, bc5 BK302 6, bc5 BK302 7, bc5 BK302 8, bc5 BK302 9, bc5 BK302 10⟩ (fun hHeld => ?_)
        clear hK K
        refine norm_ (a' := ?_) ?_ ?_
        rotate_left
        ·show Act.put _ (some 8) _ = _
         simp only [Act.put, List.setIfInBounds_toArray, List.set_cons_zero, List.set_cons_succ, i64_w, i32_w]
         rfl
        exact norm_ (by first | (simp only [putAll, Act.put, List.setIfInBounds_toArray, List.set_cons_zero, List.set_cons_succ]; done) | (simp only [putAll, Act.put, List.setIfInBounds_toArray, List.set_cons_zero, List.set_cons_succ]; rfl)) (hJ1_3_5 (gb312) _ ⟨hHeld, (by (with_reducible repeat (first | apply Kd.R_alloc | apply Kd.R_drewN | apply Kd.R_drew)); exact HO300.out), (bl5 BK286), (bl5 BK301), (bl5 BK302), (bl5 BK312), GW312.out, GE312.out, NB286_312.out, NB312_286.out, NB301_312.out, NB312_301.out, NB302_312.out, NB312_302.out, bw5⟩)
     ·skip
      rintro ⟨gb311, gb312⟩ w27 ⟨hS_, h0_, h1_, h2_, h3_, h4_, h5_, h6_, h7_, h8_, h9_, h10_, h11_, h12_, h13_, h14_, h15_, h16_, h17_, h18_, h19_, h20_, h21_, h22_, h23_, h24_⟩
      have n0_ : Aside0 (Kd.R k24 24 w27 w.heap.size (fun _ => True) (.slice Ao16 t298.length co16) t298) := ⟨h0_⟩
      have n1_ : Aside0 (w27.heap[gb286]? = some (.cells #[.int .i64 a0_0, .int .i64 a0_1, .int .i64 a0_2, .int .i64 a0_3, .int .i64 a0_4, .int .i64 a0_5, .int .i64 a0_6] 34 (0, 0))) := ⟨h1_⟩
      have n2_ : Aside0 (w27.heap[gb301]? = some (.cells #[.int .i64 t288, .int .i64 t289, .int .i64 t290, .int .i64 t291, .int .i64 t292, .int .i64 t293, .int .i64 t294, .int .i64 t295, .int .i64 t296, .int .i64 t297, .slice Ao16 t298.length co16] 39 (0, 0))) := ⟨h2_⟩
      have n3_ : Aside0 (w27.heap[gb302]? = some (.cells #[.int .i64 t288, .int .i64 t289, .int .i64 t290, .int .i64 t291, .int .i64 t292, .int .i64 (Go.bits .and .i64 (wrap64 (t293 + (wrap64 (Int.tdiv (wrap64 ((wrap64 (a1)) * 4294967296)) 4)))) 4294967295), .int .i64 t294, .int .i64 t295, .int .i64 t296, .int .i64 t297, .slice Ao16 t298.length co16] 39 (0, 0))) := ⟨h3_⟩
      have n4_ : Aside0 (w27.heap[gb311]? = some (.cells #[.int .i64 0, .int .i64 0, .int .i64 0, .int .i64 0] 26 (0, 0))) := ⟨h4_⟩
      have n5_ : Aside0 (w27.heap[gb312]? = some (.cells #[.int .i64 0, .int .i64 0, .int .i64 0, .int .i64 0] 26 (0, 0))) := ⟨h5_⟩
      have n6_ : Aside0 (w.heap.size ≤ gb311) := ⟨h6_⟩
      have n7_ : Aside0 (w.heap.size ≤ gb311) := ⟨h7_⟩
      have n8_ : Aside0 (gb286 ≠ gb311) := ⟨h8_⟩
      have n9_ : Aside0 (gb311 ≠ gb286) := ⟨h9_⟩
      have n10_ : Aside0 (gb301 ≠ gb311) := ⟨h10_⟩
      have n11_ : Aside0 (gb311 ≠ gb301) := ⟨h11_⟩
      have n12_ : Aside0 (gb302 ≠ gb311) := ⟨h12_⟩
      have n13_ : Aside0 (gb311 ≠ gb302) := ⟨h13_⟩
      have n14_ : Aside0 (gb312 ≠ gb311) := ⟨h14_⟩
      have n15_ : Aside0 (gb311 ≠ gb312) := ⟨h15_⟩
      have n16_ : Aside0 (w.heap.size ≤ gb312) := ⟨h16_⟩
      have n17_ : Aside0 (w.heap.size ≤ gb312) := ⟨h17_⟩
      have n18_ : Aside0 (gb286 ≠ gb312) := ⟨h18_⟩
      have n19_ : Aside0 (gb312 ≠ gb286) := ⟨h19_⟩
      have n20_ : Aside0 (gb301 ≠ gb312) := ⟨h20_⟩
      have n21_ : Aside0 (gb312 ≠ gb301) := ⟨h21_⟩
      have n22_ : Aside0 (gb302 ≠ gb312) := ⟨h22_⟩
      have n23_ : Aside0 (gb312 ≠ gb302) := ⟨h23_⟩
      have n24_ : Aside0 (Below w.heap.size w w27) := ⟨h24_⟩
      clear HO300
      clear BK286
      clear BK301
      clear BK302
      clear HB
      clear h0_ h1_ h2_ h3_ h4_ h5_ h6_ h7_ h8_ h9_ h10_ h11_ h12_ h13_ h14_ h15_ h16_ h17_ h18_ h19_ h20_ h21_ h22_ h23_ h24_
      have HO300 := n0_
      have BK286 := n1_
      have BK301 := n2_
      have BK302 := n3_
      have BK311 := n4_
      have BK312 := n5_
      have GW311 := n6_
      have GE311 := n7_
      have NB286_311 := n8_
      have NB311_286 := n9_
      have NB301_311 := n10_
      have NB311_301 := n11_
      have NB302_311 := n12_
      have NB311_302 := n13_
      have NB312_311 := n14_
      have NB311_312 := n15_
      have GW312 := n16_
      have GE312 := n17_
      have NB286_312 := n18_
      have NB312_286 := n19_
      have NB301_312 := n20_
      have NB312_301 := n21_
      have NB302_312 := n22_
      have NB312_302 := n23_
      have HB := n24_
      clear n0_ n1_ n2_ n3_ n4_ n5_ n6_ n7_ n8_ n9_ n10_ n11_ n12_ n13_ n14_ n15_ n16_ n17_ n18_ n19_ n20_ n21_ n22_ n23_ n24_
      have hHeld : w27.cell? ⟨gb301, 0, none⟩ = some (.int .i64 t288) ∧ w27.cell? ⟨gb301, 1, none⟩ = some (.int .i64 t289) ∧ w27.cell? ⟨gb301, 2, none⟩ = some (.int .i64 t290) ∧ w27.cell? ⟨gb301, 3, none⟩ = some (.int .i64 t291) ∧ w27.cell? ⟨gb301, 4, none⟩ = some (.int .i64 t292) ∧ w27.cell? ⟨gb301, 5, none⟩ = some (.int .i64 t293) ∧ w27.cell? ⟨gb301, 6, none⟩ = some (.int .i64 t294) ∧ w27.cell? ⟨gb301, 7, none⟩ = some (.int .i64 t295) ∧ w27.cell? ⟨gb301, 8, none⟩ = some (.int .i64 t296) ∧ w27.cell? ⟨gb301, 9, none⟩ = some (.int .i64 t297) ∧ w27.cell? ⟨gb301, 10, none⟩ = some (.slice Ao16 t298.length co16) ∧ w27.cell? ⟨gb302, 0, none⟩ = some (.int .i64 t288) ∧ w27.cell? ⟨gb302, 1, none⟩ = some (.int .i64 t289) ∧ w27.cell? ⟨gb302, 2, none⟩ = some (.int .i64 t290) ∧ w27.cell? ⟨gb302, 3, none⟩ = some (.int .i64 t291) ∧ w27.cell? ⟨gb302, 4, none⟩ = some (.int .i64 t292) ∧ w27.cell? ⟨gb302, 5, none⟩ = some (.int .i64 (Go.bits .and .i64 (wrap64 (t293 + (wrap64 (Int.tdiv (wrap64 ((wrap64 (a1)) * 4294967296)) 4)))) 4294967295)) ∧ w27.cell? ⟨gb302, 6, none⟩ = some (.int .i64 t294) ∧ w27.cell? ⟨gb302, 7, none⟩ = some (.int .i64 t295) ∧ w27.cell? ⟨gb302, 8, none⟩ = some (.int .i64 t296) ∧ w27.cell? ⟨gb302, 9, none⟩ = some (.int .i64 t297) ∧ w27.cell? ⟨gb302, 10, none⟩ = some (.slice Ao16 t298.length co16) := hS_
      refine norm_ (a' := ?_) ?_ ?_
      rotate_left
      ·simp only [putAll, Act.put, List.setIfInBounds_toArray, List.set_cons_zero, List.set_cons_succ]
       rfl
      refine one_ (i := 3) (N := some 26) #[I5,I5,I5,I5,I5,I5,O5,O5] rfl rfl (one_of HT_.out (by kernel_rfl)) (by decide) (fun K hK => ?_)
      refine goes_ Try.func12 (by kernel_rfl) rfl #[.agg #[.int .i64 t288, .int .i64 t289, .int .i64 t290, .int .i64 t291, .int .i64 t292, .int .i64 (Go.bits .and .i64 (wrap64 (t293 + (wrap64 (Int.tdiv (wrap64 ((wrap64 (a1)) * 4294967296)) 4)))) 4294967295), .int .i64 t294, .int .i64 t295, .int .i64 t296, .int .i64 t297, .slice Ao16 t298.length co16]] (by rfl) rfl rfl (by (try simp only [List.map_toArray, List.map_cons, List.map_nil]); first | done | rfl | (simp only [List.length_drop, List.length_take]; rfl)) ?_
      with_reducible refine (box_Of.calls k t288 t289 t290 t291 t292 (Go.bits .and .i64 (wrap64 (t293 + (wrap64 (Int.tdiv (wrap64 ((wrap64 (a1)) * 4294967296)) 4)))) 4294967295) t294 t295 t296 t297 _ _ t298 t307 t308 t309 t310 _ ?side1 ?side2 A7.out).mono ?_
      (case side1 => repeat (first | exact (Kd.R_reads' HO300.out).2.2 | (with_reducible refine Kd.C_alloc ?_ _) | (with_reducible refine Kd.C_drewN ?_ _) | (with_reducible refine Kd.C_drew ?_)))
      (case side2 => exact (Kd.R_reads' HO300.out).2.1)
      rintro e w28 ⟨rfl, hb⟩
      refine ⟨_, rfl, ?_⟩
      have n0_ := Aside0.mk (Kd.R_below (by (with_reducible repeat (first | apply Kd.R_alloc | apply Kd.R_drewN | apply Kd.R_drew)); exact HO300.out) hb)
      have n1_ := Aside0.mk (blk_below (bl5 BK286) hb)
      have n2_ := Aside0.mk (blk_below (bl5 BK301) hb)
      have n3_ := Aside0.mk (blk_below (bl5 BK302) hb)
      have n4_ := Aside0.mk (blk_below (bl5 BK311) hb)
      have n5_ := Aside0.mk (blk_below (bl5 BK312) hb)
      have n6_ := Aside0.mk (below_step bw5 hb)
      clear HO300
      clear BK286
      clear BK301
      clear BK302
      clear BK311
      clear BK312
      clear HB
      have HO300 := n0_
      have BK286 := n1_
      have BK301 := n2_
      have BK302 := n3_
      have BK311 := n4_
      have BK312 := n5_
      have HB := n6_
      clear n0_ n1_ n2_ n3_ n4_ n5_ n6_
      (try clear hb)
      (try clear hb2)
      (try clear hk)
      (try clear hi)
      refine hK.out _ _ ⟨bc5 BK301 0, bc5 BK301 1, bc5 BK301 2, bc5 BK301 3, bc5 BK301 4, bc5 BK301 5, bc5 BK301 6, bc5 BK301 7, bc5 BK301 8, bc5 BK301 9, bc5 BK301 10, bc5 BK302 0, bc5 BK302 1, bc5 BK302 2, bc5 BK302 3, bc5 BK302 4, bc5 BK302 5, bc5 BK302 6, bc5 BK302 7, bc5 BK302 8, bc5 BK302 9, bc5 BK302 10⟩ (fun hHeld => ?_)
      clear hK K
      refine norm_ (a' := ?_) ?_ ?_
      rotate_left
      ·show Act.put _ (some 26) _ = _
       simp only [Act.put, List.setIfInBounds_toArray, List.set_cons_zero, List.set_cons_succ, i64_w, i32_w]
       rfl
      exact norm_ (by first | (simp only [putAll, Act.put, List.setIfInBounds_toArray, List.set_cons_zero, List.set_cons_succ]; done) | (simp only [putAll, Act.put, List.setIfInBounds_toArray, List.set_cons_zero, List.set_cons_succ]; rfl)) (hJ1_3_4_5 (gb311, gb312) _ ⟨hHeld, (by (with_reducible repeat (first | apply Kd.R_alloc | apply Kd.R_drewN | apply Kd.R_drew)); exact HO300.out), (bl5 BK286), (bl5 BK301), (bl5 BK302), (bl5 BK311), (bl5 BK312), GW311.out, GE311.out, NB286_311.out, NB311_286.out, NB301_311.out, NB311_301.out, NB302_311.out, NB311_302.out, NB312_311.out, NB311_312.out, GW312.out, GE312.out, NB286_312.out, NB312_286.out, NB301_312.out, NB312_301.out, NB302_312.out, NB312_302.out, bw5⟩)
    ·skip
     rintro gb312 w27 ⟨hS_, h0_, h1_, h2_, h3_, h4_, h5_, h6_, h7_, h8_, h9_, h10_, h11_, h12_, h13_⟩
     have n0_ : Aside0 (Kd.R k24 24 w27 w.heap.size (fun _ => True) (.slice Ao16 t298.length co16) t298) := ⟨h0_⟩
     have n1_ : Aside0 (w27.heap[gb286]? = some (.cells #[.int .i64 a0_0, .int .i64 a0_1, .int .i64 a0_2, .int .i64 a0_3, .int .i64 a0_4, .int .i64 a0_5, .int .i64 a0_6] 34 (0, 0))) := ⟨h1_⟩
     have n2_ : Aside0 (w27.heap[gb301]? = some (.cells #[.int .i64 t288, .int .i64 t289, .int .i64 t290, .int .i64 t291, .int .i64 t292, .int .i64 t293, .int .i64 t294, .int .i64 t295, .int .i64 t296, .int .i64 t297, .slice Ao16 t298.length co16] 39 (0, 0))) := ⟨h2_⟩
     have n3_ : Aside0 (w27.heap[gb302]? = some (.cells #[.int .i64 t288, .int .i64 t289, .int .i64 t290, .int .i64 t291, .int .i64 t292, .int .i64 (Go.bits .and .i64 (wrap64 (t293 + (wrap64 (Int.tdiv (wrap64 ((wrap64 (a1)) * 4294967296)) 4)))) 4294967295), .int .i64 t294, .int .i64 t295, .int .i64 t296, .int .i64 t297, .slice Ao16 t298.length co16] 39 (0, 0))) := ⟨h3_⟩
     have n4_ : Aside0 (w27.heap[gb312]? = some (.cells #[.int .i64 0, .int .i64 0, .int .i64 0, .int .i64 0] 26 (0, 0))) := ⟨h4_⟩
     have n5_ : Aside0 (w.heap.size ≤ gb312) := ⟨h5_⟩
     have n6_ : Aside0 (w.heap.size ≤ gb312) := ⟨h6_⟩
     have n7_ : Aside0 (gb286 ≠ gb312) := ⟨h7_⟩
     have n8_ : Aside0 (gb312 ≠ gb286) := ⟨h8_⟩
     have n9_ : Aside0 (gb301 ≠ gb312) := ⟨h9_⟩
     have n10_ : Aside0 (gb312 ≠ gb301) := ⟨h10_⟩
     have n11_ : Aside0 (gb302 ≠ gb312) := ⟨h11_⟩
     have n12_ : Aside0 (gb312 ≠ gb302) := ⟨h12_⟩
     have n13_ : Aside0 (Below w.heap.size w w27) := ⟨h13_⟩
     clear HO300
     clear BK286
     clear BK301
     clear BK302
     clear HB
     clear h0_ h1_ h2_ h3_ h4_ h5_ h6_ h7_ h8_ h9_ h10_ h11_ h12_ h13_
     have HO300 := n0_
     have BK286 := n1_
     have BK301 := n2_
     have BK302 := n3_
     have BK312 := n4_
     have GW312 := n5_
     have GE312 := n6_
     have NB286_312 := n7_
     have NB312_286 := n8_
     have NB301_312 := n9_
     have NB312_301 := n10_
     have NB302_312 := n11_
     have NB312_302 := n12_
     have HB := n13_
     clear n0_ n1_ n2_ n3_ n4_ n5_ n6_ n7_ n8_ n9_ n10_ n11_ n12_ n13_
     have hHeld : w27.cell? ⟨gb301, 0, none⟩ = some (.int .i64 t288) ∧ w27.cell? ⟨gb301, 1, none⟩ = some (.int .i64 t289) ∧ w27.cell? ⟨gb301, 2, none⟩ = some (.int .i64 t290) ∧ w27.cell? ⟨gb301, 3, none⟩ = some (.int .i64 t291) ∧ w27.cell? ⟨gb301, 4, none⟩ = some (.int .i64 t292) ∧ w27.cell? ⟨gb301, 5, none⟩ = some (.int .i64 t293) ∧ w27.cell? ⟨gb301, 6, none⟩ = some (.int .i64 t294) ∧ w27.cell? ⟨gb301, 7, none⟩ = some (.int .i64 t295) ∧ w27.cell? ⟨gb301, 8, none⟩ = some (.int .i64 t296) ∧ w27.cell? ⟨gb301, 9, none⟩ = some (.int .i64 t297) ∧ w27.cell? ⟨gb301, 10, none⟩ = some (.slice Ao16 t298.length co16) ∧ w27.cell? ⟨gb302, 0, none⟩ = some (.int .i64 t288) ∧ w27.cell? ⟨gb302, 1, none⟩ = some (.int .i64 t289) ∧ w27.cell? ⟨gb302, 2, none⟩ = some (.int .i64 t290) ∧ w27.cell? ⟨gb302, 3, none⟩ = some (.int .i64 t291) ∧ w27.cell? ⟨gb302, 4, none⟩ = some (.int .i64 t292) ∧ w27.cell? ⟨gb302, 5, none⟩ = some (.int .i64 (Go.bits .and .i64 (wrap64 (t293 + (wrap64 (Int.tdiv (wrap64 ((wrap64 (a1)) * 4294967296)) 4)))) 4294967295)) ∧ w27.cell? ⟨gb302, 6, none⟩ = some (.int .i64 t294) ∧ w27.cell? ⟨gb302, 7, none⟩ = some (.int .i64 t295) ∧ w27.cell? ⟨gb302, 8, none⟩ = some (.int .i64 t296) ∧ w27.cell? ⟨gb302, 9, none⟩ = some (.int .i64 t297) ∧ w27.cell? ⟨gb302, 10, none⟩ = some (.slice Ao16 t298.length co16) := hS_
     refine norm_ (a' := ?_) ?_ ?_
     rotate_left
     ·simp only [putAll, Act.put, List.setIfInBounds_toArray, List.set_cons_zero, List.set_cons_succ]
      rfl
     refine one_ (i := 4) (N := some 7) #[I5,I5,I5,I5,I5,I5,O5,O5] rfl rfl (one_of HT_.out (by kernel_rfl)) (by decide) (fun K hK => ?_)
     refine box_step ?hg (N := 7) ?hd (cs := #[.int .i64 0, .int .i64 0, .int .i64 0, .int .i64 0]) (t := 26) ?hr ?_; (case hd => rfl); (case hg => rfl); (case hr => first | (go_simp; done) | (go_simp; rfl))
     intro gb311 hg w28 hbox hb
     have n0_ := Aside0.mk (Kd.R_below (by (with_reducible repeat (first | apply Kd.R_alloc | apply Kd.R_drewN | apply Kd.R_drew)); exact HO300.out) hb)
     have n1_ := Aside0.mk (blk_below (bl5 BK286) hb)
     have n2_ := Aside0.mk (blk_below (bl5 BK301) hb)
     have n3_ := Aside0.mk (blk_below (bl5 BK302) hb)
     have n4_ := Aside0.mk (blk_below (bl5 BK312) hb)
     have n5_ := Aside0.mk (below_step bw5 hb)
     have n6_ := Aside0.mk (hbox)
     have n7_ := Aside0.mk ((by rw [hg]; exact (below_size bw5) : w.heap.size ≤ gb311))
     have n8_ := Aside0.mk ((by rw [hg]; exact (below_size bw5) : w.heap.size ≤ gb311))
     have n9_ := Aside0.mk ((by rw [hg]; exact Nat.ne_of_lt (blk_lt (bl5 BK286)) : gb286 ≠ gb311))
     have n10_ := Aside0.mk ((by rw [hg]; exact Nat.ne_of_gt (blk_lt (bl5 BK286)) : gb311 ≠ gb286))
     have n11_ := Aside0.mk ((by rw [hg]; exact Nat.ne_of_lt (blk_lt (bl5 BK301)) : gb301 ≠ gb311))
     have n12_ := Aside0.mk ((by rw [hg]; exact Nat.ne_of_gt (blk_lt (bl5 BK301)) : gb311 ≠ gb301))
     have n13_ := Aside0.mk ((by rw [hg]; exact Nat.ne_of_lt (blk_lt (bl5 BK302)) : gb302 ≠ gb311))
     have n14_ := Aside0.mk ((by rw [hg]; exact Nat.ne_of_gt (blk_lt (bl5 BK302)) : gb311 ≠ gb302))
     have n15_ := Aside0.mk ((by rw [hg]; exact Nat.ne_of_lt (blk_lt (bl5 BK312)) : gb312 ≠ gb311))
     have n16_ := Aside0.mk ((by rw [hg]; exact Nat.ne_of_gt (blk_lt (bl5 BK312)) : gb311 ≠ gb312))
     clear HO300
     clear BK286
     clear BK301
     clear BK302
     clear BK312
     clear HB
     have HO300 := n0_
     have BK286 := n1_
     have BK301 := n2_
     have BK302 := n3_
     have BK312 := n4_
     have HB := n5_
     have BK311 := n6_
     have GW311 := n7_
     have GE311 := n8_
     have NB286_311 := n9_
     have NB311_286 := n10_
     have NB301_311 := n11_
     have NB311_301 := n12_
     have NB302_311 := n13_
     have NB311_302 := n14_
     have NB312_311 := n15_
     have NB311_312 := n16_
     clear n0_ n1_ n2_ n3_ n4_ n5_ n6_ n7_ n8_ n9_ n10_ n11_ n12_ n13_ n14_ n15_ n16_
     clear hb hbox hg
     refine hK.out _ _ ⟨bc5 BK301 0, bc5 BK301 1, bc5 BK301 2, bc5 BK301 3, bc5 BK301 4, bc5 BK301 5, bc5 BK301 6, bc5 BK301 7, bc5 BK301 8, bc5 BK301 9, bc5 BK301 10, bc5 BK302 0, bc5 BK302 1, bc5 BK302 2, bc5 BK302 3, bc5 BK302 4, bc5 BK302 5, bc5 BK302 6, bc5 BK302 7, bc5 BK302 8, bc5 BK302 9, bc5 BK302 10⟩ (fun hHeld => ?_)
     clear hK K
     refine norm_ (a' := ?_) ?_ ?_
     rotate_left
     ·show Act.put _ (some 7) _ = _
      simp only [Act.put, List.setIfInBounds_toArray, List.set_cons_zero, List.set_cons_succ, i64_w, i32_w]
      rfl
     exact norm_ (by first | (simp only [putAll, Act.put, List.setIfInBounds_toArray, List.set_cons_zero, List.set_cons_succ]; done) | (simp only [putAll, Act.put, List.setIfInBounds_toArray, List.set_cons_zero, List.set_cons_succ]; rfl)) (hJ1_3_4_5 (gb311, gb312) _ ⟨hHeld, (by (with_reducible repeat (first | apply Kd.R_alloc | apply Kd.R_drewN | apply Kd.R_drew)); exact HO300.out), (bl5 BK286), (bl5 BK301), (bl5 BK302), (bl5 BK311), (bl5 BK312), GW311.out, GE311.out, NB286_311.out, NB311_286.out, NB301_311.out, NB311_301.out, NB302_311.out, NB311_302.out, NB312_311.out, NB311_312.out, GW312.out, GE312.out, NB286_312.out, NB312_286.out, NB301_312.out, NB312_301.out, NB302_312.out, NB312_302.out, bw5⟩)
   ·skip
    rintro gb311 w27 ⟨hS_, h0_, h1_, h2_, h3_, h4_, h5_, h6_, h7_, h8_, h9_, h10_, h11_, h12_, h13_⟩
    have n0_ : Aside0 (Kd.R k24 24 w27 w.heap.size (fun _ => True) (.slice Ao16 t298.length co16) t298) := ⟨h0_⟩
    have n1_ : Aside0 (w27.heap[gb286]? = some (.cells #[.int .i64 a0_0, .int .i64 a0_1, .int .i64 a0_2, .int .i64 a0_3, .int .i64 a0_4, .int .i64 a0_5, .int .i64 a0_6] 34 (0, 0))) := ⟨h1_⟩
    have n2_ : Aside0 (w27.heap[gb301]? = some (.cells #[.int .i64 t288, .int .i64 t289, .int .i64 t290, .int .i64 t291, .int .i64 t292, .int .i64 t293, .int .i64 t294, .int .i64 t295, .int .i64 t296, .int .i64 t297, .slice Ao16 t298.length co16] 39 (0, 0))) := ⟨h2_⟩
    have n3_ : Aside0 (w27.heap[gb302]? = some (.cells #[.int .i64 t288, .int .i64 t289, .int .i64 t290, .int .i64 t291, .int .i64 t292, .int .i64 (Go.bits .and .i64 (wrap64 (t293 + (wrap64 (Int.tdiv (wrap64 ((wrap64 (a1)) * 4294967296)) 4)))) 4294967295), .int .i64 t294, .int .i64 t295, .int .i64 t296, .int .i64 t297, .slice Ao16 t298.length co16] 39 (0, 0))) := ⟨h3_⟩
    have n4_ : Aside0 (w27.heap[gb311]? = some (.cells #[.int .i64 0, .int .i64 0, .int .i64 0, .int .i64 0] 26 (0, 0))) := ⟨h4_⟩
    have n5_ : Aside0 (w.heap.size ≤ gb311) := ⟨h5_⟩
    have n6_ : Aside0 (w.heap.size ≤ gb311) := ⟨h6_⟩
    have n7_ : Aside0 (gb286 ≠ gb311) := ⟨h7_⟩
    have n8_ : Aside0 (gb311 ≠ gb286) := ⟨h8_⟩
    have n9_ : Aside0 (gb301 ≠ gb311) := ⟨h9_⟩
    have n10_ : Aside0 (gb311 ≠ gb301) := ⟨h10_⟩
    have n11_ : Aside0 (gb302 ≠ gb311) := ⟨h11_⟩
    have n12_ : Aside0 (gb311 ≠ gb302) := ⟨h12_⟩
    have n13_ : Aside0 (Below w.heap.size w w27) := ⟨h13_⟩
    clear HO300
    clear BK286
    clear BK301
    clear BK302
    clear HB
    clear h0_ h1_ h2_ h3_ h4_ h5_ h6_ h7_ h8_ h9_ h10_ h11_ h12_ h13_
    have HO300 := n0_
    have BK286 := n1_
    have BK301 := n2_
    have BK302 := n3_
    have BK311 := n4_
    have GW311 := n5_
    have GE311 := n6_
    have NB286_311 := n7_
    have NB311_286 := n8_
    have NB301_311 := n9_
    have NB311_301 := n10_
    have NB302_311 := n11_
    have NB311_302 := n12_
    have HB := n13_
    clear n0_ n1_ n2_ n3_ n4_ n5_ n6_ n7_ n8_ n9_ n10_ n11_ n12_ n13_
    have hHeld : w27.cell? ⟨gb301, 0, none⟩ = some (.int .i64 t288) ∧ w27.cell? ⟨gb301, 1, none⟩ = some (.int .i64 t289) ∧ w27.cell? ⟨gb301, 2, none⟩ = some (.int .i64 t290) ∧ w27.cell? ⟨gb301, 3, none⟩ = some (.int .i64 t291) ∧ w27.cell? ⟨gb301, 4, none⟩ = some (.int .i64 t292) ∧ w27.cell? ⟨gb301, 5, none⟩ = some (.int .i64 t293) ∧ w27.cell? ⟨gb301, 6, none⟩ = some (.int .i64 t294) ∧ w27.cell? ⟨gb301, 7, none⟩ = some (.int .i64 t295) ∧ w27.cell? ⟨gb301, 8, none⟩ = some (.int .i64 t296) ∧ w27.cell? ⟨gb301, 9, none⟩ = some (.int .i64 t297) ∧ w27.cell? ⟨gb301, 10, none⟩ = some (.slice Ao16 t298.length co16) ∧ w27.cell? ⟨gb302, 0, none⟩ = some (.int .i64 t288) ∧ w27.cell? ⟨gb302, 1, none⟩ = some (.int .i64 t289) ∧ w27.cell? ⟨gb302, 2, none⟩ = some (.int .i64 t290) ∧ w27.cell? ⟨gb302, 3, none⟩ = some (.int .i64 t291) ∧ w27.cell? ⟨gb302, 4, none⟩ = some (.int .i64 t292) ∧ w27.cell? ⟨gb302, 5, none⟩ = some (.int .i64 (Go.bits .and .i64 (wrap64 (t293 + (wrap64 (Int.tdiv (wrap64 ((wrap64 (a1)) * 4294967296)) 4)))) 4294967295)) ∧ w27.cell? ⟨gb302, 6, none⟩ = some (.int .i64 t294) ∧ w27.cell? ⟨gb302, 7, none⟩ = some (.int .i64 t295) ∧ w27.cell? ⟨gb302, 8, none⟩ = some (.int .i64 t296) ∧ w27.cell? ⟨gb302, 9, none⟩ = some (.int .i64 t297) ∧ w27.cell? ⟨gb302, 10, none⟩ = some (.slice Ao16 t298.length co16) := hS_
    refine norm_ (a' := ?_) ?_ ?_
    rotate_left
    ·simp only [putAll, Act.put, List.setIfInBounds_toArray, List.set_cons_zero, List.set_cons_succ]
     rfl
    refine one_ (i := 5) (N := some 8) #[I5,I5,I5,I5,I5,I5,O5,O5] rfl rfl (one_of HT_.out (by kernel_rfl)) (by decide) (fun K hK => ?_)
    refine box_step ?hg (N := 8) ?hd (cs := #[.int .i64 0, .int .i64 0, .int .i64 0, .int .i64 0]) (t := 26) ?hr ?_; (case hd => rfl); (case hg => rfl); (case hr => first | (go_simp; done) | (go_simp; rfl))
    intro gb312 hg w28 hbox hb
    have n0_ := Aside0.mk (Kd.R_below (by (with_reducible repeat (first | apply Kd.R_alloc | apply Kd.R_drewN | apply Kd.R_drew)); exact HO300.out) hb)
    have n1_ := Aside0.mk (blk_below (bl5 BK286) hb)
    have n2_ := Aside0.mk (blk_below (bl5 BK301) hb)
    have n3_ := Aside0.mk (blk_below (bl5 BK302) hb)
    have n4_ := Aside0.mk (blk_below (bl5 BK311) hb)
    have n5_ := Aside0.mk (below_step bw5 hb)
    have n6_ := Aside0.mk (hbox)
    have n7_ := Aside0.mk ((by rw [hg]; exact (below_size bw5) : w.heap.size ≤ gb312))
    have n8_ := Aside0.mk ((by rw [hg]; exact (below_size bw5) : w.heap.size ≤ gb312))
    have n9_ := Aside0.mk ((by rw [hg]; exact Nat.ne_of_lt (blk_lt (bl5 BK286)) : gb286 ≠ gb312))
    have n10_ := Aside0.mk ((by rw [hg]; exact Nat.ne_of_gt (blk_lt (bl5 BK286)) : gb312 ≠ gb286))
    have n11_ := Aside0.mk ((by rw [hg]; exact Nat.ne_of_lt (blk_lt (bl5 BK301)) : gb301 ≠ gb312))
    have n12_ := Aside0.mk ((by rw [hg]; exact Nat.ne_of_gt (blk_lt (bl5 BK301)) : gb312 ≠ gb301))
    have n13_ := Aside0.mk ((by rw [hg]; exact Nat.ne_of_lt (blk_lt (bl5 BK302)) : gb302 ≠ gb312))
    have n14_ := Aside0.mk ((by rw [hg]; exact Nat.ne_of_gt (blk_lt (bl5 BK302)) : gb312 ≠ gb302))
    have n15_ := Aside0.mk ((by rw [hg]; exact Nat.ne_of_lt (blk_lt (bl5 BK311)) : gb311 ≠ gb312))
    have n16_ := Aside0.mk ((by rw [hg]; exact Nat.ne_of_gt (blk_lt (bl5 BK311)) : gb312 ≠ gb311))
    clear HO300
    clear BK286
    clear BK301
    clear BK302
    clear BK311
    clear HB
    have HO300 := n0_
    have BK286 := n1_
    have BK301 := n2_
    have BK302 := n3_
    have BK311 := n4_
    have HB := n5_
    have BK312 := n6_
    have GW312 := n7_
    have GE312 := n8_
    have NB286_312 := n9_
    have NB312_286 := n10_
    have NB301_312 := n11_
    have NB312_301 := n12_
    have NB302_312 := n13_
    have NB312_302 := n14_
    have NB311_312 := n15_
    have NB312_311 := n16_
    clear n0_ n1_ n2_ n3_ n4_ n5_ n6_ n7_ n8_ n9_ n10_ n11_ n12_ n13_ n14_ n15_ n16_
    clear hb hbox hg
    refine hK.out _ _ ⟨bc5 BK301 0, bc5 BK301 1, bc5 BK301 2, bc5 BK301 3, bc5 BK301 4, bc5 BK301 5, bc5 BK301 6, bc5 BK301 7, bc5 BK301 8, bc5 BK301 9, bc5 BK301 10, bc5 BK302 0, bc5 BK302 1, bc5 BK302 2, bc5 BK302 3, bc5 BK302 4, bc5 BK302 5, bc5 BK302 6, bc5 BK302 7, bc5 BK302 8, bc5 BK302 9, bc5 BK302 10⟩ (fun hHeld => ?_)
    clear hK K
    refine norm_ (a' := ?_) ?_ ?_
    rotate_left
    ·show Act.put _ (some 8) _ = _
     simp only [Act.put, List.setIfInBounds_toArray, List.set_cons_zero, List.set_cons_succ, i64_w, i32_w]
     rfl
    exact norm_ (by first | (simp only [putAll, Act.put, List.setIfInBounds_toArray, List.set_cons_zero, List.set_cons_succ]; done) | (simp only [putAll, Act.put, List.setIfInBounds_toArray, List.set_cons_zero, List.set_cons_succ]; rfl)) (hJ1_3_4_5 (gb311, gb312) _ ⟨hHeld, (by (with_reducible repeat (first | apply Kd.R_alloc | apply Kd.R_drewN | apply Kd.R_drew)); exact HO300.out), (bl5 BK286), (bl5 BK301), (bl5 BK302), (bl5 BK311), (bl5 BK312), GW311.out, GE311.out, NB286_311.out, NB311_286.out, NB301_311.out, NB311_301.out, NB302_311.out, NB311_302.out, NB312_311.out, NB311_312.out, GW312.out, GE312.out, NB286_312.out, NB312_286.out, NB301_312.out, NB312_301.out, NB302_312.out, NB312_302.out, bw5⟩)
  rintro ⟨gb311, gb312⟩ w28 ⟨hS_, h0_, h1_, h2_, h3_, h4_, h5_, h6_, h7_, h8_, h9_, h10_, h11_, h12_, h13_, h14_, h15_, h16_, h17_, h18_, h19_, h20_, h21_, h22_, h23_, h24_⟩
  have n0_ : Aside0 (Kd.R k24 24 w28 w.heap.size (fun _ => True) (.slice Ao16 t298.length co16) t298) := ⟨h0_⟩
  have n1_ : Aside0 (w28.heap[gb286]? = some (.cells #[.int .i64 a0_0, .int .i64 a0_1, .int .i64 a0_2, .int .i64 a0_3, .int .i64 a0_4, .int .i64 a0_5, .int .i64 a0_6] 34 (0, 0))) := ⟨h1_⟩
  have n2_ : Aside0 (w28.heap[gb301]? = some (.cells #[.int .i64 t288, .int .i64 t289, .int .i64 t290, .int .i64 t291, .int .i64 t292, .int .i64 t293, .int .i64 t294, .int .i64 t295, .int .i64 t296, .int .i64 t297, .slice Ao16 t298.length co16] 39 (0, 0))) := ⟨h2_⟩
  have n3_ : Aside0 (w28.heap[gb302]? = some (.cells #[.int .i64 t288, .int .i64 t289, .int .i64 t290, .int .i64 t291, .int .i64 t292, .int .i64 (Go.bits .and .i64 (wrap64 (t293 + (wrap64 (Int.tdiv (wrap64 ((wrap64 (a1)) * 4294967296)) 4)))) 4294967295), .int .i64 t294, .int .i64 t295, .int .i64 t296, .int .i64 t297, .slice Ao16 t298.length co16] 39 (0, 0))) := ⟨h3_⟩
  have n4_ : Aside0 (w28.heap[gb311]? = some (.cells #[.int .i64 0, .int .i64 0, .int .i64 0, .int .i64 0] 26 (0, 0))) := ⟨h4_⟩
  have n5_ : Aside0 (w28.heap[gb312]? = some (.cells #[.int .i64 0, .int .i64 0, .int .i64 0, .int .i64 0] 26 (0, 0))) := ⟨h5_⟩
  have n6_ : Aside0 (w.heap.size ≤ gb311) := ⟨h6_⟩
  have n7_ : Aside0 (w.heap.size ≤ gb311) := ⟨h7_⟩
  have n8_ : Aside0 (gb286 ≠ gb311) := ⟨h8_⟩
  have n9_ : Aside0 (gb311 ≠ gb286) := ⟨h9_⟩
  have n10_ : Aside0 (gb301 ≠ gb311) := ⟨h10_⟩
  have n11_ : Aside0 (gb311 ≠ gb301) := ⟨h11_⟩
  have n12_ : Aside0 (gb302 ≠ gb311) := ⟨h12_⟩
  have n13_ : Aside0 (gb311 ≠ gb302) := ⟨h13_⟩
  have n14_ : Aside0 (gb312 ≠ gb311) := ⟨h14_⟩
  have n15_ : Aside0 (gb311 ≠ gb312) := ⟨h15_⟩
  have n16_ : Aside0 (w.heap.size ≤ gb312) := ⟨h16_⟩
  have n17_ : Aside0 (w.heap.size ≤ gb312) := ⟨h17_⟩
  have n18_ : Aside0 (gb286 ≠ gb312) := ⟨h18_⟩
  have n19_ : Aside0 (gb312 ≠ gb286) := ⟨h19_⟩
  have n20_ : Aside0 (gb301 ≠ gb312) := ⟨h20_⟩
  have n21_ : Aside0 (gb312 ≠ gb301) := ⟨h21_⟩
  have n22_ : Aside0 (gb302 ≠ gb312) := ⟨h22_⟩
  have n23_ : Aside0 (gb312 ≠ gb302) := ⟨h23_⟩
  have n24_ : Aside0 (Below w.heap.size w w28) := ⟨h24_⟩
  clear HO300
  clear BK286
  clear BK301
  clear BK302
  clear HB
  clear h0_ h1_ h2_ h3_ h4_ h5_ h6_ h7_ h8_ h9_ h10_ h11_ h12_ h13_ h14_ h15_ h16_ h17_ h18_ h19_ h20_ h21_ h22_ h23_ h24_
  have HO300 := n0_
  have BK286 := n1_
  have BK301 := n2_
  have BK302 := n3_
  have BK311 := n4_
  have BK312 := n5_
  have GW311 := n6_
  have GE311 := n7_
  have NB286_311 := n8_
  have NB311_286 := n9_
  have NB301_311 := n10_
  have NB311_301 := n11_
  have NB302_311 := n12_
  have NB311_302 := n13_
  have NB312_311 := n14_
  have NB311_312 := n15_
  have GW312 := n16_
  have GE312 := n17_
  have NB286_312 := n18_
  have NB312_286 := n19_
  have NB301_312 := n20_
  have NB312_301 := n21_
  have NB302_312 := n22_
  have NB312_302 := n23_
  have HB := n24_
  clear n0_ n1_ n2_ n3_ n4_ n5_ n6_ n7_ n8_ n9_ n10_ n11_ n12_ n13_ n14_ n15_ n16_ n17_ n18_ n19_ n20_ n21_ n22_ n23_ n24_
  have hHeld : w28.cell? ⟨gb301, 0, none⟩ = some (.int .i64 t288) ∧ w28.cell? ⟨gb301, 1, none⟩ = some (.int .i64 t289) ∧ w28.cell? ⟨gb301, 2, none⟩ = some (.int .i64 t290) ∧ w28.cell? ⟨gb301, 3, none⟩ = some (.int .i64 t291) ∧ w28.cell? ⟨gb301, 4, none⟩ = some (.int .i64 t292) ∧ w28.cell? ⟨gb301, 5, none⟩ = some (.int .i64 t293) ∧ w28.cell? ⟨gb301, 6, none⟩ = some (.int .i64 t294) ∧ w28.cell? ⟨gb301, 7, none⟩ = some (.int .i64 t295) ∧ w28.cell? ⟨gb301, 8, none⟩ = some (.int .i64 t296) ∧ w28.cell? ⟨gb301, 9, none⟩ = some (.int .i64 t297) ∧ w28.cell? ⟨gb301, 10, none⟩ = some (.slice Ao16 t298.length co16) ∧ w28.cell? ⟨gb302, 0, none⟩ = some (.int .i64 t288) ∧ w28.cell? ⟨gb302, 1, none⟩ = some (.int .i64 t289) ∧ w28.cell? ⟨gb302, 2, none⟩ = some (.int .i64 t290) ∧ w28.cell? ⟨gb302, 3, none⟩ = some (.int .i64 t291) ∧ w28.cell? ⟨gb302, 4, none⟩ = some (.int .i64 t292) ∧ w28.cell? ⟨gb302, 5, none⟩ = some (.int .i64 (Go.bits .and .i64 (wrap64 (t293 + (wrap64 (Int.tdiv (wrap64 ((wrap64 (a1)) * 4294967296)) 4)))) 4294967295)) ∧ w28.cell? ⟨gb302, 6, none⟩ = some (.int .i64 t294) ∧ w28.cell? ⟨gb302, 7, none⟩ = some (.int .i64 t295) ∧ w28.cell? ⟨gb302, 8, none⟩ = some (.int .i64 t296) ∧ w28.cell? ⟨gb302, 9, none⟩ = some (.int .i64 t297) ∧ w28.cell? ⟨gb302, 10, none⟩ = some (.slice Ao16 t298.length co16) := hS_
  refine norm_ (a' := ?_) ?_ ?_
  rotate_left
  ·simp only [putAll, Act.put, List.setIfInBounds_toArray, List.set_cons_zero, List.set_cons_succ]
   rfl
  refine one_ (i := 6) (N := none) #[I5,I5,I5,I5,I5,I5,I5,O5] rfl rfl (one_of HT_.out (by kernel_rfl)) (by decide) (fun K hK => ?_)
  have hs29 : w28.cell? ⟨gb311, 0, none⟩ = some (.int .i64 0) := bc5 BK311 0
  have hfs29 := blk_frozen BK311.out 0
  have hns29_0 := NB286_311.out
  have hns29_1 := NB301_311.out
  have hns29_2 := NB302_311.out
  have hns29_4 := NB312_311.out
  have hms29_0 := NB311_286.out
  have hms29_1 := NB311_301.out
  have hms29_2 := NB311_302.out
  have hms29_4 := NB311_312.out
  have hs30 : w28.cell? ⟨gb311, 1, none⟩ = some (.int .i64 0) := bc5 BK311 1
  have hfs30 := blk_frozen BK311.out 1
  have hns30_0 := NB286_311.out
  have hns30_1 := NB301_311.out
  have hns30_2 := NB302_311.out
  have hns30_4 := NB312_311.out
  have hms30_0 := NB311_286.out
  have hms30_1 := NB311_301.out
  have hms30_2 := NB311_302.out
  have hms30_4 := NB311_312.out
  have hs31 : w28.cell? ⟨gb311, 2, none⟩ = some (.int .i64 0) := bc5 BK311 2
  have hfs31 := blk_frozen BK311.out 2
  have hns31_0 := NB286_311.out
  have hns31_1 := NB301_311.out
  have hns31_2 := NB302_311.out
  have hns31_4 := NB312_311.out
  have hms31_0 := NB311_286.out
  have hms31_1 := NB311_301.out
  have hms31_2 := NB311_302.out
  have hms31_4 := NB311_312.out
  have hs32 : w28.cell? ⟨gb311, 3, none⟩ = some (.int .i64 0) := bc5 BK311 3
  have hfs32 := blk_frozen BK311.out 3
  have hns32_0 := NB286_311.out
  have hns32_1 := NB301_311.out
  have hns32_2 := NB302_311.out
  have hns32_4 := NB312_311.out
  have hms32_0 := NB311_286.out
  have hms32_1 := NB311_301.out
  have hms32_2 := NB311_302.out
  have hms32_4 := NB311_312.out
  refine skip_ (w1 := ?_) (by rfl) rfl ?_ ?_
  rotate_left
  ·go_simp
   rfl
  refine hK.out _ _ ⟨((cell_far (p := ⟨gb311, _, none⟩) NB301_311.out _).trans (((cell_far (p := ⟨gb311, _, none⟩) NB301_311.out _).trans (((cell_far (p := ⟨gb311, _, none⟩) NB301_311.out _).trans (((cell_far (p := ⟨gb311, _, none⟩) NB301_311.out _).trans (hHeld.1)))))))), ((cell_far (p := ⟨gb311, _, none⟩) NB301_311.out _).trans (((cell_far (p := ⟨gb311, _, none⟩) NB301_311.out _).trans (((cell_far (p := ⟨gb311, _, none⟩) NB301_311.out _).trans (((cell_far (p := ⟨gb311, _, none⟩) NB301_311.out _).trans (hHeld.2.1)))))))), ((cell_far (p := ⟨gb311, _, none⟩) NB301_311.out _).trans (((cell_far (p := ⟨gb311, _, none⟩) NB301_311.out _).trans (((cell_far (p := ⟨gb311, _, none⟩) NB301_311.out _).trans (((cell_far (p := ⟨gb311, _, none⟩) NB301_311.out _).trans (hHeld.2.2.1)))))))), ((cell_far (p := ⟨gb311, _, none⟩) NB301_311.out _).trans (((cell_far (p := ⟨gb311, _, none⟩) NB301_311.out _).trans (((cell_far (p := ⟨gb311, _, none⟩) NB301_311.out _).trans (((cell_far (p := ⟨gb311, _, none⟩) NB301_311.out _).trans (hHeld.2.2.2.1)))))))), ((cell_far (p := ⟨gb311, _, none⟩) NB301_311.out _).trans (((cell_far (p := ⟨gb311, _, none⟩) NB301_311.out _).trans (((cell_far (p := ⟨gb311, _, none⟩) NB301_311.out _).trans (((cell_far (p := ⟨gb311, _, none⟩) NB301_311.out _).trans (hHeld.2.2.2.2.1)))))))), ((cell_far (p := ⟨gb311, _, none⟩) NB301_311.out _).trans (((cell_far (p := ⟨gb311, _, none⟩) NB301_311.out _).trans (((cell_far (p := ⟨gb311, _, none⟩) NB301_311.out _).trans (((cell_far (p := ⟨gb311, _, none⟩) NB301_311.out _).trans (hHeld.2.2.2.2.2.1)))))))), ((cell_far (p := ⟨gb311, _, none⟩) NB301_311.out _).trans (((cell_far (p := ⟨gb311, _, none⟩) NB301_311.out _).trans (((cell_far (p := ⟨gb311, _, none⟩) NB301_311.out _).trans (((cell_far (p := ⟨gb311, _, none⟩) NB301_311.out _).trans (hHeld.2.2.2.2.2.2.1)))))))), ((cell_far (p := ⟨gb311, _, none⟩) NB301_311.out _).trans (((cell_far (p := ⟨gb311, _, none⟩) NB301_311.out _).trans (((cell_far (p := ⟨gb311, _, none⟩) NB301_311.out _).trans (((cell_far (p := ⟨gb311, _, none⟩) NB301_311.out _).trans (hHeld.2.2.2.2.2.2.2.1)))))))), ((cell_far (p := ⟨gb311, _, none⟩) NB301_311.out _).trans (((cell_far (p := ⟨gb311, _, none⟩) NB301_311.out _).trans (((cell_far (p := ⟨gb311, _, none⟩) NB301_311.out _).trans (((cell_far (p := ⟨gb311, _, none⟩) NB301_311.out _).trans (hHeld.2.2.2.2.2.2.2.2.1)))))))), ((cell_far (p := ⟨gb311, _, none⟩) NB301_311.out _).trans (((cell_far (p := ⟨gb311, _, none⟩) NB301_311.out _).trans (((cell_far (p := ⟨gb311, _, none⟩) NB301_311.out _).trans (((cell_far (p := ⟨gb311, _, none⟩) NB301_311.out _).trans (hHeld.2.2.2.2.2.2.2.2.2.1)))))))), ((cell_far (p := ⟨gb311, _, none⟩) NB301_311.out _).trans (((cell_far (p := ⟨gb311, _, none⟩) NB301_311.out _).trans (((cell_far (p := ⟨gb311, _, none⟩) NB301_311.out _).trans (((cell_far (p := ⟨gb311, _, none⟩) NB301_311.out _).trans (hHeld.2.2.2.2.2.2.2.2.2.2.1)))))))), ((cell_far (p := ⟨gb311, _, none⟩) NB302_311.out _).trans (((cell_far (p := ⟨gb311, _, none⟩) NB302_311.out _).trans (((cell_far (p := ⟨gb311, _, none⟩) NB302_311.out _).trans (((cell_far (p := ⟨gb311, _, none⟩) NB302_311.out _).trans (hHeld.2.2.2.2.2.2.2.2.2.2.2.1)))))))), ((cell_far (p := ⟨gb311, _, none⟩) NB302_311.out _).trans (((cell_far (p := ⟨gb311, _, none⟩) NB302_311.out _).trans (((cell_far (p := ⟨gb311, _, none⟩) NB302_311.out _).trans (((cell_far (p := ⟨gb311, _, none⟩) NB302_311.out _).trans (hHeld.2.2.2.2.2.2.2.2.2.2.2.2.1)))))))), ((cell_far (p := ⟨gb311, _, none⟩) NB302_311.out _).trans (((cell_far (p := ⟨gb311, _, none⟩) NB302_311.out _).trans (((cell_far (p := ⟨gb311, _, none⟩) NB302_311.out _).trans (((cell_far (p := ⟨gb311, _, none⟩) NB302_311.out _).trans (hHeld.2.2.2.2.2.2.2.2.2.2.2.2.2.1)))))))), ((cell_far (p := ⟨gb311, _, none⟩) NB302_311.out _).trans (((cell_far (p := ⟨gb311, _, none⟩) NB302_311.out _).trans (((cell_far (p := ⟨gb311, _, none⟩) NB302_311.out _).trans (((cell_far (p := ⟨gb311, _, none⟩) NB302_311.out _).trans (hHeld.2.2.2.2.2.2.2.2.2.2.2.2.2.2.1)))))))), ((cell_far (p := ⟨gb311, _, none⟩) NB302_311.out _).trans (((cell_far (p := ⟨gb311, _, none⟩) NB302_311.out _).trans (((cell_far (p := ⟨gb311, _, none⟩) NB302_311.out _).trans (((cell_far (p := ⟨gb311, _, none⟩) NB302_311.out _).trans (hHeld.2.2.2.2.2.2.2.2.2.2.2.2.2.2.2.1)))))))), ((cell_far (p := ⟨gb311, _, none⟩) NB302_311.out _).trans (((cell_far (p := ⟨gb311, _, none⟩) NB302_311.out _).trans (((cell_far (p := ⟨gb311, _, none⟩) NB302_311.out _).trans (((cell_far (p := ⟨gb311, _, none⟩) NB302_311.out _).trans (hHeld.2.2.2.2.2.2.2.2.2.2.2.2.2.2.2.2.1)))))))), ((cell_far (p := ⟨gb311, _, none⟩) NB302_311.out _).trans (((cell_far (p := ⟨gb311, _, none⟩) NB302_311.out _).trans (((cell_far (p := ⟨gb311, _, none⟩) NB302_311.out _).trans (((cell_far (p := ⟨gb311, _, none⟩) NB302_311.out _).trans (hHeld.2.2.2.2.2.2.2.2.2.2.2.2.2.2.2.2.2.1)))))))), ((cell_far (p := ⟨gb311, _, none⟩) NB302_311.out _).trans (((cell_far (p := ⟨gb311, _, none⟩) NB302_311.out _).trans (((cell_far (p := ⟨gb311, _, none⟩) NB302_311.out _).trans (((cell_far (p := ⟨gb311, _, none⟩) NB302_311.out _).trans (hHeld.2.2.2.2.2.2.2.2.2.2.2.2.2.2.2.2.2.2.1)))))))), ((cell_far (p := ⟨gb311, _, none⟩) NB302_311.out _).trans (((cell_far (p := ⟨gb311, _, none⟩) NB302_311.out _).trans (((cell_far (p := ⟨gb311, _, none⟩) NB302_311.out _).trans (((cell_far (p := ⟨gb311, _, none⟩) NB302_311.out _).trans (hHeld.2.2.2.2.2.2.2.2.2.2.2.2.2.2.2.2.2.2.2.1)))))))), ((cell_far (p := ⟨gb311, _, none⟩) NB302_311.out _).trans (((cell_far (p := ⟨gb311, _, none⟩) NB302_311.out _).trans (((cell_far (p := ⟨gb311, _, none⟩) NB302_311.out _).trans (((cell_far (p := ⟨gb311, _, none⟩) NB302_311.out _).trans (hHeld.2.2.2.2.2.2.2.2.2.2.2.2.2.2.2.2.2.2.2.2.1)))))))), ((cell_far (p := ⟨gb311, _, none⟩) NB302_311.out _).trans (((cell_far (p := ⟨gb311, _, none⟩) NB302_311.out _).trans (((cell_far (p := ⟨gb311, _, none⟩) NB302_311.out _).trans (((cell_far (p := ⟨gb311, _, none⟩) NB302_311.out _).trans (hHeld.2.2.2.2.2.2.2.2.2.2.2.2.2.2.2.2.2.2.2.2.2))))))))⟩ (fun hHeld => ?_)
  clear hK K
  refine one_ (i := 7) (N := none) #[I5,I5,I5,I5,I5,I5,I5,I5] rfl rfl (one_of HT_.out (by kernel_rfl)) (by decide) (fun K hK => ?_)
  have hs33 : w28.cell? ⟨gb312, 0, none⟩ = some (.int .i64 0) := bc5 BK312 0
  have hfs33 := blk_frozen BK312.out 0
  have hns33_0 := NB286_312.out
  have hns33_1 := NB301_312.out
  have hns33_2 := NB302_312.out
  have hns33_3 := NB311_312.out
  have hms33_0 := NB312_286.out
  have hms33_1 := NB312_301.out
  have hms33_2 := NB312_302.out
  have hms33_3 := NB312_311.out
  have hs34 : w28.cell? ⟨gb312, 1, none⟩ = some (.int .i64 0) := bc5 BK312 1
  have hfs34 := blk_frozen BK312.out 1
  have hns34_0 := NB286_312.out
  have hns34_1 := NB301_312.out
  have hns34_2 := NB302_312.out
  have hns34_3 := NB311_312.out
  have hms34_0 := NB312_286.out
  have hms34_1 := NB312_301.out
  have hms34_2 := NB312_302.out
  have hms34_3 := NB312_311.out
  have hs35 : w28.cell? ⟨gb312, 2, none⟩ = some (.int .i64 0) := bc5 BK312 2
  have hfs35 := blk_frozen BK312.out 2
  have hns35_0 := NB286_312.out
  have hns35_1 := NB301_312.out
  have hns35_2 := NB302_312.out
  have hns35_3 := NB311_312.out
  have hms35_0 := NB312_286.out
  have hms35_1 := NB312_301.out
  have hms35_2 := NB312_302.out
  have hms35_3 := NB312_311.out
  have hs36 : w28.cell? ⟨gb312, 3, none⟩ = some (.int .i64 0) := bc5 BK312 3
  have hfs36 := blk_frozen BK312.out 3
  have hns36_0 := NB286_312.out
  have hns36_1 := NB301_312.out
  have hns36_2 := NB302_312.out
  have hns36_3 := NB311_312.out
  have hms36_0 := NB312_286.out
  have hms36_1 := NB312_301.out
  have hms36_2 := NB312_302.out
  have hms36_3 := NB312_311.out
  refine skip_ (w1 := ?_) (by rfl) rfl ?_ ?_
  rotate_left
  ·go_simp
   rfl
  refine hK.out _ _ ⟨((cell_far (p := ⟨gb312, _, none⟩) NB301_312.out _).trans (((cell_far (p := ⟨gb312, _, none⟩) NB301_312.out _).trans (((cell_far (p := ⟨gb312, _, none⟩) NB301_312.out _).trans (((cell_far (p := ⟨gb312, _, none⟩) NB301_312.out _).trans (hHeld.1)))))))), ((cell_far (p := ⟨gb312, _, none⟩) NB301_312.out _).trans (((cell_far (p := ⟨gb312, _, none⟩) NB301_312.out _).trans (((cell_far (p := ⟨gb312, _, none⟩) NB301_312.out _).trans (((cell_far (p := ⟨gb312, _, none⟩) NB301_312.out _).trans (hHeld.2.1)))))))), ((cell_far (p := ⟨gb312, _, none⟩) NB301_312.out _).trans (((cell_far (p := ⟨gb312, _, none⟩) NB301_312.out _).trans (((cell_far (p := ⟨gb312, _, none⟩) NB301_312.out _).trans (((cell_far (p := ⟨gb312, _, none⟩) NB301_312.out _).trans (hHeld.2.2.1)))))))), ((cell_far (p := ⟨gb312, _, none⟩) NB301_312.out _).trans (((cell_far (p := ⟨gb312, _, none⟩) NB301_312.out _).trans (((cell_far (p := ⟨gb312, _, none⟩) NB301_312.out _).trans (((cell_far (p := ⟨gb312, _, none⟩) NB301_312.out _).trans (hHeld.2.2.2.1)))))))), ((cell_far (p := ⟨gb312, _, none⟩) NB301_312.out _).trans (((cell_far (p := ⟨gb312, _, none⟩) NB301_312.out _).trans (((cell_far (p := ⟨gb312, _, none⟩) NB301_312.out _).trans (((cell_far (p := ⟨gb312, _, none⟩) NB301_312.out _).trans (hHeld.2.2.2.2.1)))))))), ((cell_far (p := ⟨gb312, _, none⟩) NB301_312.out _).trans (((cell_far (p := ⟨gb312, _, none⟩) NB301_312.out _).trans (((cell_far (p := ⟨gb312, _, none⟩) NB301_312.out _).trans (((cell_far (p := ⟨gb312, _, none⟩) NB301_312.out _).trans (hHeld.2.2.2.2.2.1)))))))), ((cell_far (p := ⟨gb312, _, none⟩) NB301_312.out _).trans (((cell_far (p := ⟨gb312, _, none⟩) NB301_312.out _).trans (((cell_far (p := ⟨gb312, _, none⟩) NB301_312.out _).trans (((cell_far (p := ⟨gb312, _, none⟩) NB301_312.out _).trans (hHeld.2.2.2.2.2.2.1)))))))), ((cell_far (p := ⟨gb312, _, none⟩) NB301_312.out _).trans (((cell_far (p := ⟨gb312, _, none⟩) NB301_312.out _).trans (((cell_far (p := ⟨gb312, _, none⟩) NB301_312.out _).trans (((cell_far (p := ⟨gb312, _, none⟩) NB301_312.out _).trans (hHeld.2.2.2.2.2.2.2.1)))))))), ((cell_far (p := ⟨gb312, _, none⟩) NB301_312.out _).trans (((cell_far (p := ⟨gb312, _, none⟩) NB301_312.out _).trans (((cell_far (p := ⟨gb312, _, none⟩) NB301_312.out _).trans (((cell_far (p := ⟨gb312, _, none⟩) NB301_312.out _).trans (hHeld.2.2.2.2.2.2.2.2.1)))))))), ((cell_far (p := ⟨gb312, _, none⟩) NB301_312.out _).trans (((cell_far (p := ⟨gb312, _, none⟩) NB301_312.out _).trans (((cell_far (p := ⟨gb312, _, none⟩) NB301_312.out _).trans (((cell_far (p := ⟨gb312, _, none⟩) NB301_312.out _).trans (hHeld.2.2.2.2.2.2.2.2.2.1)))))))), ((cell_far (p := ⟨gb312, _, none⟩) NB301_312.out _).trans (((cell_far (p := ⟨gb312, _, none⟩) NB301_312.out _).trans (((cell_far (p := ⟨gb312, _, none⟩) NB301_312.out _).trans (((cell_far (p := ⟨gb312, _, none⟩) NB301_312.out _).trans (hHeld.2.2.2.2.2.2.2.2.2.2.1)))))))), ((cell_far (p := ⟨gb312, _, none⟩) NB302_312.out _).trans (((cell_far (p := ⟨gb312, _, none⟩) NB302_312.out _).trans (((cell_far (p := ⟨gb312, _, none⟩) NB302_312.out _).trans (((cell_far (p := ⟨gb312, _, none⟩) NB302_312.out _).trans (hHeld.2.2.2.2.2.2.2.2.2.2.2.1)))))))), ((cell_far (p := ⟨gb312, _, none⟩) NB302_312.out _).trans (((cell_far (p := ⟨gb312, _, none⟩) NB302_312.out _).trans (((cell_far (p := ⟨gb312, _, none⟩) NB302_312.out _).trans (((cell_far (p := ⟨gb312, _, none⟩) NB302_312.out _).trans (hHeld.2.2.2.2.2.2.2.2.2.2.2.2.1)))))))), ((cell_far (p := ⟨gb312, _, none⟩) NB302_312.out _).trans (((cell_far (p := ⟨gb312, _, none⟩) NB302_312.out _).trans (((cell_far (p := ⟨gb312, _, none⟩) NB302_312.out _).trans (((cell_far (p := ⟨gb312, _, none⟩) NB302_312.out _).trans (hHeld.2.2.2.2.2.2.2.2.2.2.2.2.2.1)))))))), ((cell_far (p := ⟨gb312, _, none⟩) NB302_312.out _).trans (((cell_far (p := ⟨gb312, _, none⟩) NB302_312.out _).trans (((cell_far (p := ⟨gb312, _, none⟩) NB302_312.out _).trans (((cell_far (p := ⟨gb312, _, none⟩) NB302_312.out _).trans (hHeld.2.2.2.2.2.2.2.2.2.2.2.2.2.2.1)))))))), ((cell_far (p := ⟨gb312, _, none⟩) NB302_312.out _).trans (((cell_far (p := ⟨gb312, _, none⟩) NB302_312.out _).trans (((cell_far (p := ⟨gb312, _, none⟩) NB302_312.out _).trans (((cell_far (p := ⟨gb312, _, none⟩) NB302_312.out _).trans (hHeld.2.2.2.2.2.2.2.2.2.2.2.2.2.2.2.1)))))))), ((cell_far (p := ⟨gb312, _, none⟩) NB302_312.out _).trans (((cell_far (p := ⟨gb312, _, none⟩) NB302_312.out _).trans (((cell_far (p := ⟨gb312, _, none⟩) NB302_312.out _).trans (((cell_far (p := ⟨gb312, _, none⟩) NB302_312.out _).trans (hHeld.2.2.2.2.2.2.2.2.2.2.2.2.2.2.2.2.1)))))))), ((cell_far (p := ⟨gb312, _, none⟩) NB302_312.out _).trans (((cell_far (p := ⟨gb312, _, none⟩) NB302_312.out _).trans (((cell_far (p := ⟨gb312, _, none⟩) NB302_312.out _).trans (((cell_far (p := ⟨gb312, _, none⟩) NB302_312.out _).trans (hHeld.2.2.2.2.2.2.2.2.2.2.2.2.2.2.2.2.2.1)))))))), ((cell_far (p := ⟨gb312, _, none⟩) NB302_312.out _).trans (((cell_far (p := ⟨gb312, _, none⟩) NB302_312.out _).trans (((cell_far (p := ⟨gb312, _, none⟩) NB302_312.out _).trans (((cell_far (p := ⟨gb312, _, none⟩) NB302_312.out _).trans (hHeld.2.2.2.2.2.2.2.2.2.2.2.2.2.2.2.2.2.2.1)))))))), ((cell_far (p := ⟨gb312, _, none⟩) NB302_312.out _).trans (((cell_far (p := ⟨gb312, _, none⟩) NB302_312.out _).trans (((cell_far (p := ⟨gb312, _, none⟩) NB302_312.out _).trans (((cell_far (p := ⟨gb312, _, none⟩) NB302_312.out _).trans (hHeld.2.2.2.2.2.2.2.2.2.2.2.2.2.2.2.2.2.2.2.1)))))))), ((cell_far (p := ⟨gb312, _, none⟩) NB302_312.out _).trans (((cell_far (p := ⟨gb312, _, none⟩) NB302_312.out _).trans (((cell_far (p := ⟨gb312, _, none⟩) NB302_312.out _).trans (((cell_far (p := ⟨gb312, _, none⟩) NB302_312.out _).trans (hHeld.2.2.2.2.2.2.2.2.2.2.2.2.2.2.2.2.2.2.2.2.1)))))))), ((cell_far (p := ⟨gb312, _, none⟩) NB302_312.out _).trans (((cell_far (p := ⟨gb312, _, none⟩) NB302_312.out _).trans (((cell_far (p := ⟨gb312, _, none⟩) NB302_312.out _).trans (((cell_far (p := ⟨gb312, _, none⟩) NB302_312.out _).trans (hHeld.2.2.2.2.2.2.2.2.2.2.2.2.2.2.2.2.2.2.2.2.2))))))))⟩ (fun hHeld => ?_)
  clear hK K
  refine done_ (done_of HT_.out (by kernel_rfl)) ?_
  go_upto_region 7 with (fail)
  go_cut [35] (fun v35 wc => ∃ (kq : Nat) (x35_7 : Bool), v35 = .bool x35_7 ∧ Aside0 (bagatellelaw06_BoxTurns.j0 kq a1 x35_7 t288 t289 t290 t291 t292 t293 t294 t295 t296 t297 t298 t303 t304 t305 t306 t307 t308 t309 t310 = some r) ∧ Aside0 (kq ≤ k) ∧ Aside0 (Kd.R k24 24 wc w.heap.size (fun _ => True) (.slice Ao16 t298.length co16) t298) ∧ Aside0 (Kd.R k24 24 wc w.heap.size (fun _ => True) (.slice Ao16 t298.length co16) t298) ∧ Aside0 (wc.heap[gb286]? = some (.cells #[.int .i64 a0_0, .int .i64 a0_1, .int .i64 a0_2, .int .i64 a0_3, .int .i64 a0_4, .int .i64 a0_5, .int .i64 a0_6] 34 (0, 0))) ∧ Aside0 (wc.heap[gb301]? = some (.cells #[.int .i64 t288, .int .i64 t289, .int .i64 t290, .int .i64 t291, .int .i64 t292, .int .i64 t293, .int .i64 t294, .int .i64 t295, .int .i64 t296, .int .i64 t297, (.slice Ao16 t298.length co16)] 39 (0, 0))) ∧ Aside0 (wc.heap[gb302]? = some (.cells #[.int .i64 t288, .int .i64 t289, .int .i64 t290, .int .i64 t291, .int .i64 t292, .int .i64 (Go.bits .and .i64 (wrap64 (t293 + (wrap64 (Int.tdiv (wrap64 ((wrap64 (a1)) * 4294967296)) 4)))) 4294967295), .int .i64 t294, .int .i64 t295, .int .i64 t296, .int .i64 t297, (.slice Ao16 t298.length co16)] 39 (0, 0))) ∧ Aside0 (wc.heap[gb311]? = some (.cells #[.int .i64 t303, .int .i64 t304, .int .i64 t305, .int .i64 t306] 26 (0, 0))) ∧ Aside0 (wc.heap[gb312]? = some (.cells #[.int .i64 t307, .int .i64 t308, .int .i64 t309, .int .i64 t310] 26 (0, 0))) ∧ Aside0 (Below w.heap.size w wc))
  case first =>
   have H := HC8.out
   clear HC8
   by_cases c37 : t296 = 1
   ·rw [if_pos c37] at H
    have c37b0 : (t296 == 1) = true := beq_iff_eq.mpr c37
    have c37b1 : (t296 != 1) = false := bne_eq_false_iff_eq.mpr c37
    clear c37
    (first | rw [c37b0] | (simp only [i64_w, i32_w]; rw [c37b0]) | skip)
    have H' := Aside0.mk H
    clear H
    have hnb38 := NB301_286.out
    have hnc38 := NB286_301.out
    have hnb39 := NB301_302.out
    have hnc39 := NB302_301.out
    have hnb40 := NB301_311.out
    have hnc40 := NB311_301.out
    have hnb41 := NB301_312.out
    have hnc41 := NB312_301.out
    have hcz42_0 : w28.cell? ⟨gb301, 0, none⟩ = some (.int .i64 t288) := bc5 BK301 0
    have hcz42_1 : w28.cell? ⟨gb301, 1, none⟩ = some (.int .i64 t289) := bc5 BK301 1
    have hcz42_2 : w28.cell? ⟨gb301, 2, none⟩ = some (.int .i64 t290) := bc5 BK301 2
    have hcz42_3 : w28.cell? ⟨gb301, 3, none⟩ = some (.int .i64 t291) := bc5 BK301 3
    have hcz42_4 : w28.cell? ⟨gb301, 4, none⟩ = some (.int .i64 t292) := bc5 BK301 4
    have hcz42_5 : w28.cell? ⟨gb301, 5, none⟩ = some (.int .i64 t293) := bc5 BK301 5
    have hcz42_6 : w28.cell? ⟨gb301, 6, none⟩ = some (.int .i64 t294) := bc5 BK301 6
    have hcz42_7 : w28.cell? ⟨gb301, 7, none⟩ = some (.int .i64 t295) := bc5 BK301 7
    have hcz42_8 : w28.cell? ⟨gb301, 8, none⟩ = some (.int .i64 t296) := bc5 BK301 8
    have hcz42_9 : w28.cell? ⟨gb301, 9, none⟩ = some (.int .i64 t297) := bc5 BK301 9
    have hcz42_10 : w28.cell? ⟨gb301, 10, none⟩ = some (.slice Ao16 t298.length co16) := bc5 BK301 10
    have hfz42_0 := blk_frozen BK301.out 0
    have hfz42_1 := blk_frozen BK301.out 1
    have hfz42_2 := blk_frozen BK301.out 2
    have hfz42_3 := blk_frozen BK301.out 3
    have hfz42_4 := blk_frozen BK301.out 4
    have hfz42_5 := blk_frozen BK301.out 5
    have hfz42_6 := blk_frozen BK301.out 6
    have hfz42_7 := blk_frozen BK301.out 7
    have hfz42_8 := blk_frozen BK301.out 8
    have hfz42_9 := blk_frozen BK301.out 9
    have hfz42_10 := blk_frozen BK301.out 10
    go_wp2
    go_meet
    case rel => exact ⟨_, (true), (by first | rfl | (simp; done) | (simp [*]; done) | (simp [wrap64]; done) | (congr 2 <;> first | rfl | (unfold wrap64; omega))), H', ⟨by first | omega | exact Nat.le_refl _⟩, ⟨by (with_reducible repeat (first | apply Kd.R_alloc | apply Kd.R_drewN | apply Kd.R_drew)); exact Kd.R_mono (Kd.R_far (p := ⟨gb312, 3, none⟩) (Kd.R_far (p := ⟨gb312, 2, none⟩) (Kd.R_far (p := ⟨gb312, 1, none⟩) (Kd.R_far (p := ⟨gb312, 0, none⟩) (Kd.R_far (p := ⟨gb311, 3, none⟩) (Kd.R_far (p := ⟨gb311, 2, none⟩) (Kd.R_far (p := ⟨gb311, 1, none⟩) (Kd.R_far (p := ⟨gb311, 0, none⟩) (Kd.R_types (Kd.R_types HO300.out BK311.out (by decide)) BK312.out (by decide)) (fun _ hk => hk.1.2) (.int .i64 t303)) (fun _ hk => hk.1.2) (.int .i64 t304)) (fun _ hk => hk.1.2) (.int .i64 t305)) (fun _ hk => hk.1.2) (.int .i64 t306)) (fun _ hk => hk.2) (.int .i64 t307)) (fun _ hk => hk.2) (.int .i64 t308)) (fun _ hk => hk.2) (.int .i64 t309)) (fun _ hk => hk.2) (.int .i64 t310)) (fun _ hk => trivial)⟩, ⟨by (with_reducible repeat (first | apply Kd.R_alloc | apply Kd.R_drewN | apply Kd.R_drew)); exact Kd.R_mono (Kd.R_far (p := ⟨gb312, 3, none⟩) (Kd.R_far (p := ⟨gb312, 2, none⟩) (Kd.R_far (p := ⟨gb312, 1, none⟩) (Kd.R_far (p := ⟨gb312, 0, none⟩) (Kd.R_far (p := ⟨gb311, 3, none⟩) (Kd.R_far (p := ⟨gb311, 2, none⟩) (Kd.R_far (p := ⟨gb311, 1, none⟩) (Kd.R_far (p := ⟨gb311, 0, none⟩) (Kd.R_types (Kd.R_types HO300.out BK311.out (by decide)) BK312.out (by decide)) (fun _ hk => hk.1.2) (.int .i64 t303)) (fun _ hk => hk.1.2) (.int .i64 t304)) (fun _ hk => hk.1.2) (.int .i64 t305)) (fun _ hk => hk.1.2) (.int .i64 t306)) (fun _ hk => hk.2) (.int .i64 t307)) (fun _ hk => hk.2) (.int .i64 t308)) (fun _ hk => hk.2) (.int .i64 t309)) (fun _ hk => hk.2) (.int .i64 t310)) (fun _ hk => trivial)⟩, ⟨by (with_reducible repeat (first | refine blk_drewN ?_ _ | refine blk_drew ?_ | refine blk_alloc ?_ _)); refine blk_far ?_ NB286_312.out _; (with_reducible repeat (first | refine blk_drewN ?_ _ | refine blk_drew ?_ | refine blk_alloc ?_ _)); refine blk_far ?_ NB286_312.out _; (with_reducible repeat (first | refine blk_drewN ?_ _ | refine blk_drew ?_ | refine blk_alloc ?_ _)); refine blk_far ?_ NB286_312.out _; (with_reducible repeat (first | refine blk_drewN ?_ _ | refine blk_drew ?_ | refine blk_alloc ?_ _)); refine blk_far ?_ NB286_312.out _; (with_reducible repeat (first | refine blk_drewN ?_ _ | refine blk_drew ?_ | refine blk_alloc ?_ _)); refine blk_far ?_ NB286_311.out _; (with_reducible repeat (first | refine blk_drewN ?_ _ | refine blk_drew ?_ | refine blk_alloc ?_ _)); refine blk_far ?_ NB286_311.out _; (with_reducible repeat (first | refine blk_drewN ?_ _ | refine blk_drew ?_ | refine blk_alloc ?_ _)); refine blk_far ?_ NB286_311.out _; (with_reducible repeat (first | refine blk_drewN ?_ _ | refine blk_drew ?_ | refine blk_alloc ?_ _)); refine blk_far ?_ NB286_311.out _; (with_reducible repeat (first | refine blk_drewN ?_ _ | refine blk_drew ?_ | refine blk_alloc ?_ _)); exact BK286.out⟩, ⟨by (with_reducible repeat (first | refine blk_drewN ?_ _ | refine blk_drew ?_ | refine blk_alloc ?_ _)); refine blk_far ?_ NB301_312.out _; (with_reducible repeat (first | refine blk_drewN ?_ _ | refine blk_drew ?_ | refine blk_alloc ?_ _)); refine blk_far ?_ NB301_312.out _; (with_reducible repeat (first | refine blk_drewN ?_ _ | refine blk_drew ?_ | refine blk_alloc ?_ _)); refine blk_far ?_ NB301_312.out _; (with_reducible repeat (first | refine blk_drewN ?_ _ | refine blk_drew ?_ | refine blk_alloc ?_ _)); refine blk_far ?_ NB301_312.out _; (with_reducible repeat (first | refine blk_drewN ?_ _ | refine blk_drew ?_ | refine blk_alloc ?_ _)); refine blk_far ?_ NB301_311.out _; (with_reducible repeat (first | refine blk_drewN ?_ _ | refine blk_drew ?_ | refine blk_alloc ?_ _)); refine blk_far ?_ NB301_311.out _; (with_reducible repeat (first | refine blk_drewN ?_ _ | refine blk_drew ?_ | refine blk_alloc ?_ _)); refine blk_far ?_ NB301_311.out _; (with_reducible repeat (first | refine blk_drewN ?_ _ | refine blk_drew ?_ | refine blk_alloc ?_ _)); refine blk_far ?_ NB301_311.out _; (with_reducible repeat (first | refine blk_drewN ?_ _ | refine blk_drew ?_ | refine blk_alloc ?_ _)); exact BK301.out⟩, ⟨by (with_reducible repeat (first | refine blk_drewN ?_ _ | refine blk_drew ?_ | refine blk_alloc ?_ _)); refine blk_far ?_ NB302_312.out _; (with_reducible repeat (first | refine blk_drewN ?_ _ | refine blk_drew ?_ | refine blk_alloc ?_ _)); refine blk_far ?_ NB302_312.out _; (with_reducible repeat (first | refine blk_drewN ?_ _ | refine blk_drew ?_ | refine blk_alloc ?_ _)); refine blk_far ?_ NB302_312.out _; (with_reducible repeat (first | refine blk_drewN ?_ _ | refine blk_drew ?_ | refine blk_alloc ?_ _)); refine blk_far ?_ NB302_312.out _; (with_reducible repeat (first | refine blk_drewN ?_ _ | refine blk_drew ?_ | refine blk_alloc ?_ _)); refine blk_far ?_ NB302_311.out _; (with_reducible repeat (first | refine blk_drewN ?_ _ | refine blk_drew ?_ | refine blk_alloc ?_ _)); refine blk_far ?_ NB302_311.out _; (with_reducible repeat (first | refine blk_drewN ?_ _ | refine blk_drew ?_ | refine blk_alloc ?_ _)); refine blk_far ?_ NB302_311.out _; (with_reducible repeat (first | refine blk_drewN ?_ _ | refine blk_drew ?_ | refine blk_alloc ?_ _)); refine blk_far ?_ NB302_311.out _; (with_reducible repeat (first | refine blk_drewN ?_ _ | refine blk_drew ?_ | refine blk_alloc ?_ _)); exact BK302.out⟩, ⟨by (with_reducible repeat (first | refine blk_drewN ?_ _ | refine blk_drew ?_ | refine blk_alloc ?_ _)); refine blk_far ?_ NB311_312.out _; (with_reducible repeat (first | refine blk_drewN ?_ _ | refine blk_drew ?_ | refine blk_alloc ?_ _)); refine blk_far ?_ NB311_312.out _; (with_reducible repeat (first | refine blk_drewN ?_ _ | refine blk_drew ?_ | refine blk_alloc ?_ _)); refine blk_far ?_ NB311_312.out _; (with_reducible repeat (first | refine blk_drewN ?_ _ | refine blk_drew ?_ | refine blk_alloc ?_ _)); refine blk_far ?_ NB311_312.out _; (with_reducible repeat (first | refine blk_drewN ?_ _ | refine blk_drew ?_ | refine blk_alloc ?_ _)); refine blk_put (cs := #[.int .i64 t303, .int .i64 t304, .int .i64 t305, .int .i64 0]) ?_ 3 _ rfl; (with_reducible repeat (first | refine blk_drewN ?_ _ | refine blk_drew ?_ | refine blk_alloc ?_ _)); refine blk_put (cs := #[.int .i64 t303, .int .i64 t304, .int .i64 0, .int .i64 0]) ?_ 2 _ rfl; (with_reducible repeat (first | refine blk_drewN ?_ _ | refine blk_drew ?_ | refine blk_alloc ?_ _)); refine blk_put (cs := #[.int .i64 t303, .int .i64 0, .int .i64 0, .int .i64 0]) ?_ 1 _ rfl; (with_reducible repeat (first | refine blk_drewN ?_ _ | refine blk_drew ?_ | refine blk_alloc ?_ _)); refine blk_put (cs := #[.int .i64 0, .int .i64 0, .int .i64 0, .int .i64 0]) ?_ 0 _ rfl; (with_reducible repeat (first | refine blk_drewN ?_ _ | refine blk_drew ?_ | refine blk_alloc ?_ _)); exact BK311.out⟩, ⟨by (with_reducible repeat (first | refine blk_drewN ?_ _ | refine blk_drew ?_ | refine blk_alloc ?_ _)); refine blk_put (cs := #[.int .i64 t307, .int .i64 t308, .int .i64 t309, .int .i64 0]) ?_ 3 _ rfl; (with_reducible repeat (first | refine blk_drewN ?_ _ | refine blk_drew ?_ | refine blk_alloc ?_ _)); refine blk_put (cs := #[.int .i64 t307, .int .i64 t308, .int .i64 0, .int .i64 0]) ?_ 2 _ rfl; (with_reducible repeat (first | refine blk_drewN ?_ _ | refine blk_drew ?_ | refine blk_alloc ?_ _)); refine blk_put (cs := #[.int .i64 t307, .int .i64 0, .int .i64 0, .int .i64 0]) ?_ 1 _ rfl; (with_reducible repeat (first | refine blk_drewN ?_ _ | refine blk_drew ?_ | refine blk_alloc ?_ _)); refine blk_put (cs := #[.int .i64 0, .int .i64 0, .int .i64 0, .int .i64 0]) ?_ 0 _ rfl; (with_reducible repeat (first | refine blk_drewN ?_ _ | refine blk_drew ?_ | refine blk_alloc ?_ _)); refine blk_far ?_ NB312_311.out _; (with_reducible repeat (first | refine blk_drewN ?_ _ | refine blk_drew ?_ | refine blk_alloc ?_ _)); refine blk_far ?_ NB312_311.out _; (with_reducible repeat (first | refine blk_drewN ?_ _ | refine blk_drew ?_ | refine blk_alloc ?_ _)); refine blk_far ?_ NB312_311.out _; (with_reducible repeat (first | refine blk_drewN ?_ _ | refine blk_drew ?_ | refine blk_alloc ?_ _)); refine blk_far ?_ NB312_311.out _; (with_reducible repeat (first | refine blk_drewN ?_ _ | refine blk_drew ?_ | refine blk_alloc ?_ _)); exact BK312.out⟩, ⟨by repeat (first | (with_reducible first | exact HB.out | apply below_alloc | apply pw_below_drewN | apply below_drew1 | refine below_set ?_ GE286.out | refine below_set ?_ GE301.out | refine below_set ?_ GE302.out | refine below_set ?_ GE311.out | refine below_set ?_ GE312.out) | exact HB.out)⟩⟩
   ·rw [if_neg c37] at H
    have c37b0 : (t296 == 1) = false := beq_eq_false_iff_ne.mpr c37
    have c37b1 : (t296 != 1) = true := bne_iff_ne.mpr c37
    (first | rw [c37b0] | (simp only [i64_w, i32_w]; rw [c37b0]) | skip)
    have H' := Aside0.mk H
    clear H
    have hnb43 := NB301_286.out
    have hnc43 := NB286_301.out
    have hnb44 := NB301_302.out
    have hnc44 := NB302_301.out
    have hnb45 := NB301_311.out
    have hnc45 := NB311_301.out
    have hnb46 := NB301_312.out
    have hnc46 := NB312_301.out
    have hcz47_0 : w28.cell? ⟨gb301, 0, none⟩ = some (.int .i64 t288) := bc5 BK301 0
    have hcz47_1 : w28.cell? ⟨gb301, 1, none⟩ = some (.int .i64 t289) := bc5 BK301 1
    have hcz47_2 : w28.cell? ⟨gb301, 2, none⟩ = some (.int .i64 t290) := bc5 BK301 2
    have hcz47_3 : w28.cell? ⟨gb301, 3, none⟩ = some (.int .i64 t291) := bc5 BK301 3
    have hcz47_4 : w28.cell? ⟨gb301, 4, none⟩ = some (.int .i64 t292) := bc5 BK301 4
    have hcz47_5 : w28.cell? ⟨gb301, 5, none⟩ = some (.int .i64 t293) := bc5 BK301 5
    have hcz47_6 : w28.cell? ⟨gb301, 6, none⟩ = some (.int .i64 t294) := bc5 BK301 6
    have hcz47_7 : w28.cell? ⟨gb301, 7, none⟩ = some (.int .i64 t295) := bc5 BK301 7
    have hcz47_8 : w28.cell? ⟨gb301, 8, none⟩ = some (.int .i64 t296) := bc5 BK301 8
    have hcz47_9 : w28.cell? ⟨gb301, 9, none⟩ = some (.int .i64 t297) := bc5 BK301 9
    have hcz47_10 : w28.cell? ⟨gb301, 10, none⟩ = some (.slice Ao16 t298.length co16) := bc5 BK301 10
    have hfz47_0 := blk_frozen BK301.out 0
    have hfz47_1 := blk_frozen BK301.out 1
    have hfz47_2 := blk_frozen BK301.out 2
    have hfz47_3 := blk_frozen BK301.out 3
    have hfz47_4 := blk_frozen BK301.out 4
    have hfz47_5 := blk_frozen BK301.out 5
    have hfz47_6 := blk_frozen BK301.out 6
    have hfz47_7 := blk_frozen BK301.out 7
    have hfz47_8 := blk_frozen BK301.out 8
    have hfz47_9 := blk_frozen BK301.out 9
    have hfz47_10 := blk_frozen BK301.out 10
    go_wp2
    go_meet
    case rel => exact ⟨_, (((Int.tmod a1 4) == 0)), (by first | rfl | (simp; done) | (simp [*]; done) | (simp [wrap64]; done) | (congr 2 <;> first | rfl | (unfold wrap64; omega))), H', ⟨by first | omega | exact Nat.le_refl _⟩, ⟨by (with_reducible repeat (first | apply Kd.R_alloc | apply Kd.R_drewN | apply Kd.R_drew)); exact Kd.R_mono (Kd.R_far (p := ⟨gb312, 3, none⟩) (Kd.R_far (p := ⟨gb312, 2, none⟩) (Kd.R_far (p := ⟨gb312, 1, none⟩) (Kd.R_far (p := ⟨gb312, 0, none⟩) (Kd.R_far (p := ⟨gb311, 3, none⟩) (Kd.R_far (p := ⟨gb311, 2, none⟩) (Kd.R_far (p := ⟨gb311, 1, none⟩) (Kd.R_far (p := ⟨gb311, 0, none⟩) (Kd.R_types (Kd.R_types HO300.out BK311.out (by decide)) BK312.out (by decide)) (fun _ hk => hk.1.2) (.int .i64 t303)) (fun _ hk => hk.1.2) (.int .i64 t304)) (fun _ hk => hk.1.2) (.int .i64 t305)) (fun _ hk => hk.1.2) (.int .i64 t306)) (fun _ hk => hk.2) (.int .i64 t307)) (fun _ hk => hk.2) (.int .i64 t308)) (fun _ hk => hk.2) (.int .i64 t309)) (fun _ hk => hk.2) (.int .i64 t310)) (fun _ hk => trivial)⟩, ⟨by (with_reducible repeat (first | apply Kd.R_alloc | apply Kd.R_drewN | apply Kd.R_drew)); exact Kd.R_mono (Kd.R_far (p := ⟨gb312, 3, none⟩) (Kd.R_far (p := ⟨gb312, 2, none⟩) (Kd.R_far (p := ⟨gb312, 1, none⟩) (Kd.R_far (p := ⟨gb312, 0, none⟩) (Kd.R_far (p := ⟨gb311, 3, none⟩) (Kd.R_far (p := ⟨gb311, 2, none⟩) (Kd.R_far (p := ⟨gb311, 1, none⟩) (Kd.R_far (p := ⟨gb311, 0, none⟩) (Kd.R_types (Kd.R_types HO300.out BK311.out (by decide)) BK312.out (by decide)) (fun _ hk => hk.1.2) (.int .i64 t303)) (fun _ hk => hk.1.2) (.int .i64 t304)) (fun _ hk => hk.1.2) (.int .i64 t305)) (fun _ hk => hk.1.2) (.int .i64 t306)) (fun _ hk => hk.2) (.int .i64 t307)) (fun _ hk => hk.2) (.int .i64 t308)) (fun _ hk => hk.2) (.int .i64 t309)) (fun _ hk => hk.2) (.int .i64 t310)) (fun _ hk => trivial)⟩, ⟨by (with_reducible repeat (first | refine blk_drewN ?_ _ | refine blk_drew ?_ | refine blk_alloc ?_ _)); refine blk_far ?_ NB286_312.out _; (with_reducible repeat (first | refine blk_drewN ?_ _ | refine blk_drew ?_ | refine blk_alloc ?_ _)); refine blk_far ?_ NB286_312.out _; (with_reducible repeat (first | refine blk_drewN ?_ _ | refine blk_drew ?_ | refine blk_alloc ?_ _)); refine blk_far ?_ NB286_312.out _; (with_reducible repeat (first | refine blk_drewN ?_ _ | refine blk_drew ?_ | refine blk_alloc ?_ _)); refine blk_far ?_ NB286_312.out _; (with_reducible repeat (first | refine blk_drewN ?_ _ | refine blk_drew ?_ | refine blk_alloc ?_ _)); refine blk_far ?_ NB286_311.out _; (with_reducible repeat (first | refine blk_drewN ?_ _ | refine blk_drew ?_ | refine blk_alloc ?_ _)); refine blk_far ?_ NB286_311.out _; (with_reducible repeat (first | refine blk_drewN ?_ _ | refine blk_drew ?_ | refine blk_alloc ?_ _)); refine blk_far ?_ NB286_311.out _; (with_reducible repeat (first | refine blk_drewN ?_ _ | refine blk_drew ?_ | refine blk_alloc ?_ _)); refine blk_far ?_ NB286_311.out _; (with_reducible repeat (first | refine blk_drewN ?_ _ | refine blk_drew ?_ | refine blk_alloc ?_ _)); exact BK286.out⟩, ⟨by (with_reducible repeat (first | refine blk_drewN ?_ _ | refine blk_drew ?_ | refine blk_alloc ?_ _)); refine blk_far ?_ NB301_312.out _; (with_reducible repeat (first | refine blk_drewN ?_ _ | refine blk_drew ?_ | refine blk_alloc ?_ _)); refine blk_far ?_ NB301_312.out _; (with_reducible repeat (first | refine blk_drewN ?_ _ | refine blk_drew ?_ | refine blk_alloc ?_ _)); refine blk_far ?_ NB301_312.out _; (with_reducible repeat (first | refine blk_drewN ?_ _ | refine blk_drew ?_ | refine blk_alloc ?_ _)); refine blk_far ?_ NB301_312.out _; (with_reducible repeat (first | refine blk_drewN ?_ _ | refine blk_drew ?_ | refine blk_alloc ?_ _)); refine blk_far ?_ NB301_311.out _; (with_reducible repeat (first | refine blk_drewN ?_ _ | refine blk_drew ?_ | refine blk_alloc ?_ _)); refine blk_far ?_ NB301_311.out _; (with_reducible repeat (first | refine blk_drewN ?_ _ | refine blk_drew ?_ | refine blk_alloc ?_ _)); refine blk_far ?_ NB301_311.out _; (with_reducible repeat (first | refine blk_drewN ?_ _ | refine blk_drew ?_ | refine blk_alloc ?_ _)); refine blk_far ?_ NB301_311.out _; (with_reducible repeat (first | refine blk_drewN ?_ _ | refine blk_drew ?_ | refine blk_alloc ?_ _)); exact BK301.out⟩, ⟨by (with_reducible repeat (first | refine blk_drewN ?_ _ | refine blk_drew ?_ | refine blk_alloc ?_ _)); refine blk_far ?_ NB302_312.out _; (with_reducible repeat (first | refine blk_drewN ?_ _ | refine blk_drew ?_ | refine blk_alloc ?_ _)); refine blk_far ?_ NB302_312.out _; (with_reducible repeat (first | refine blk_drewN ?_ _ | refine blk_drew ?_ | refine blk_alloc ?_ _)); refine blk_far ?_ NB302_312.out _; (with_reducible repeat (first | refine blk_drewN ?_ _ | refine blk_drew ?_ | refine blk_alloc ?_ _)); refine blk_far ?_ NB302_312.out _; (with_reducible repeat (first | refine blk_drewN ?_ _ | refine blk_drew ?_ | refine blk_alloc ?_ _)); refine blk_far ?_ NB302_311.out _; (with_reducible repeat (first | refine blk_drewN ?_ _ | refine blk_drew ?_ | refine blk_alloc ?_ _)); refine blk_far ?_ NB302_311.out _; (with_reducible repeat (first | refine blk_drewN ?_ _ | refine blk_drew ?_ | refine blk_alloc ?_ _)); refine blk_far ?_ NB302_311.out _; (with_reducible repeat (first | refine blk_drewN ?_ _ | refine blk_drew ?_ | refine blk_alloc ?_ _)); refine blk_far ?_ NB302_311.out _; (with_reducible repeat (first | refine blk_drewN ?_ _ | refine blk_drew ?_ | refine blk_alloc ?_ _)); exact BK302.out⟩, ⟨by (with_reducible repeat (first | refine blk_drewN ?_ _ | refine blk_drew ?_ | refine blk_alloc ?_ _)); refine blk_far ?_ NB311_312.out _; (with_reducible repeat (first | refine blk_drewN ?_ _ | refine blk_drew ?_ | refine blk_alloc ?_ _)); refine blk_far ?_ NB311_312.out _; (with_reducible repeat (first | refine blk_drewN ?_ _ | refine blk_drew ?_ | refine blk_alloc ?_ _)); refine blk_far ?_ NB311_312.out _; (with_reducible repeat (first | refine blk_drewN ?_ _ | refine blk_drew ?_ | refine blk_alloc ?_ _)); refine blk_far ?_ NB311_312.out _; (with_reducible repeat (first | refine blk_drewN ?_ _ | refine blk_drew ?_ | refine blk_alloc ?_ _)); refine blk_put (cs := #[.int .i64 t303, .int .i64 t304, .int .i64 t305, .int .i64 0]) ?_ 3 _ rfl; (with_reducible repeat (first | refine blk_drewN ?_ _ | refine blk_drew ?_ | refine blk_alloc ?_ _)); refine blk_put (cs := #[.int .i64 t303, .int .i64 t304, .int .i64 0, .int .i64 0]) ?_ 2 _ rfl; (with_reducible repeat (first | refine blk_drewN ?_ _ | refine blk_drew ?_ | refine blk_alloc ?_ _)); refine blk_put (cs := #[.int .i64 t303, .int .i64 0, .int .i64 0, .int .i64 0]) ?_ 1 _ rfl; (with_reducible repeat (first | refine blk_drewN ?_ _ | refine blk_drew ?_ | refine blk_alloc ?_ _)); refine blk_put (cs := #[.int .i64 0, .int .i64 0, .int .i64 0, .int .i64 0]) ?_ 0 _ rfl; (with_reducible repeat (first | refine blk_drewN ?_ _ | refine blk_drew ?_ | refine blk_alloc ?_ _)); exact BK311.out⟩, ⟨by (with_reducible repeat (first | refine blk_drewN ?_ _ | refine blk_drew ?_ | refine blk_alloc ?_ _)); refine blk_put (cs := #[.int .i64 t307, .int .i64 t308, .int .i64 t309, .int .i64 0]) ?_ 3 _ rfl; (with_reducible repeat (first | refine blk_drewN ?_ _ | refine blk_drew ?_ | refine blk_alloc ?_ _)); refine blk_put (cs := #[.int .i64 t307, .int .i64 t308, .int .i64 0, .int .i64 0]) ?_ 2 _ rfl; (with_reducible repeat (first | refine blk_drewN ?_ _ | refine blk_drew ?_ | refine blk_alloc ?_ _)); refine blk_put (cs := #[.int .i64 t307, .int .i64 0, .int .i64 0, .int .i64 0]) ?_ 1 _ rfl; (with_reducible repeat (first | refine blk_drewN ?_ _ | refine blk_drew ?_ | refine blk_alloc ?_ _)); refine blk_put (cs := #[.int .i64 0, .int .i64 0, .int .i64 0, .int .i64 0]) ?_ 0 _ rfl; (with_reducible repeat (first | refine blk_drewN ?_ _ | refine blk_drew ?_ | refine blk_alloc ?_ _)); refine blk_far ?_ NB312_311.out _; (with_reducible repeat (first | refine blk_drewN ?_ _ | refine blk_drew ?_ | refine blk_alloc ?_ _)); refine blk_far ?_ NB312_311.out _; (with_reducible repeat (first | refine blk_drewN ?_ _ | refine blk_drew ?_ | refine blk_alloc ?_ _)); refine blk_far ?_ NB312_311.out _; (with_reducible repeat (first | refine blk_drewN ?_ _ | refine blk_drew ?_ | refine blk_alloc ?_ _)); refine blk_far ?_ NB312_311.out _; (with_reducible repeat (first | refine blk_drewN ?_ _ | refine blk_drew ?_ | refine blk_alloc ?_ _)); exact BK312.out⟩, ⟨by repeat (first | (with_reducible first | exact HB.out | apply below_alloc | apply pw_below_drewN | apply below_drew1 | refine below_set ?_ GE286.out | refine below_set ?_ GE301.out | refine below_set ?_ GE302.out | refine below_set ?_ GE311.out | refine below_set ?_ GE312.out) | exact HB.out)⟩⟩
  case rest =>
   clear HC8
   try clear c1
   try clear p2
   try clear c3
   try clear c4
   try clear p6
   try clear c12
   try clear c37
   try clear c37b0
   try clear c37b1
   try clear c38
   try clear c39
   try clear c40
   try clear c41
   try clear c43
   try clear c44
   try clear c45
   try clear c46
   try clear hcz42_0
   try clear hcz42_1
   try clear hcz42_10
   try clear hcz42_2
   try clear hcz42_3
   try clear hcz42_4
   try clear hcz42_5
   try clear hcz42_6
   try clear hcz42_7
   try clear hcz42_8
   try clear hcz42_9
   try clear hcz47_0
   try clear hcz47_1
   try clear hcz47_10
   try clear hcz47_2
   try clear hcz47_3
   try clear hcz47_4
   try clear hcz47_5
   try clear hcz47_6
   try clear hcz47_7
   try clear hcz47_8
   try clear hcz47_9
   try clear hfz42_0
   try clear hfz42_1
   try clear hfz42_10
   try clear hfz42_2
   try clear hfz42_3
   try clear hfz42_4
   try clear hfz42_5
   try clear hfz42_6
   try clear hfz42_7
   try clear hfz42_8
   try clear hfz42_9
   try clear hfz47_0
   try clear hfz47_1
   try clear hfz47_10
   try clear hfz47_2
   try clear hfz47_3
   try clear hfz47_4
   try clear hfz47_5
   try clear hfz47_6
   try clear hfz47_7
   try clear hfz47_8
   try clear hfz47_9
   obtain ⟨kq, x35_7, rfl, HA, HJ7, HO_302010, HO_303010, BK286, BK301, BK302, BK311, BK312, HB⟩ := hcut
   cases kq with
   | zero => exact absurd HA.out (by simp [bagatellelaw06_BoxTurns.j0])
   | succ kj7 =>
    have H := HA.out
    clear HA
    simp only [bagatellelaw06_BoxTurns.j0] at H
    by_cases c48 : x35_7 = true
    ·subst c48
     have H1 : (some ((t303 == t307 && (t304 == t308)) && ((t305 == t309 && (t306 == t310))))) = some r := by rw [if_pos rfl] at H; exact H
     clear H
     have H := H1
     clear H1
     obtain rfl := Option.some.inj H
     have hnb49 := NB311_286.out
     have hnc49 := NB286_311.out
     have hnb50 := NB311_301.out
     have hnc50 := NB301_311.out
     have hnb51 := NB311_302.out
     have hnc51 := NB302_311.out
     have hnb52 := NB311_312.out
     have hnc52 := NB312_311.out
     have hcz53_0 : wc.cell? ⟨gb311, 0, none⟩ = some (.int .i64 t303) := bc5 BK311 0
     have hcz53_1 : wc.cell? ⟨gb311, 1, none⟩ = some (.int .i64 t304) := bc5 BK311 1
     have hcz53_2 : wc.cell? ⟨gb311, 2, none⟩ = some (.int .i64 t305) := bc5 BK311 2
     have hcz53_3 : wc.cell? ⟨gb311, 3, none⟩ = some (.int .i64 t306) := bc5 BK311 3
     have hfz53_0 := blk_frozen BK311.out 0
     have hfz53_1 := blk_frozen BK311.out 1
     have hfz53_2 := blk_frozen BK311.out 2
     have hfz53_3 := blk_frozen BK311.out 3
     have hnb54 := NB312_286.out
     have hnc54 := NB286_312.out
     have hnb55 := NB312_301.out
     have hnc55 := NB301_312.out
     have hnb56 := NB312_302.out
     have hnc56 := NB302_312.out
     have hcz57_0 : wc.cell? ⟨gb312, 0, none⟩ = some (.int .i64 t307) := bc5 BK312 0
     have hcz57_1 : wc.cell? ⟨gb312, 1, none⟩ = some (.int .i64 t308) := bc5 BK312 1
     have hcz57_2 : wc.cell? ⟨gb312, 2, none⟩ = some (.int .i64 t309) := bc5 BK312 2
     have hcz57_3 : wc.cell? ⟨gb312, 3, none⟩ = some (.int .i64 t310) := bc5 BK312 3
     have hfz57_0 := blk_frozen BK312.out 0
     have hfz57_1 := blk_frozen BK312.out 1
     have hfz57_2 := blk_frozen BK312.out 2
     have hfz57_3 := blk_frozen BK312.out 3
     go_wp2
     go_ret
     exact ⟨by first | rfl | (simp [errW_none, errW_some] <;> rfl) | (simp [*, errW_none, errW_some] <;> rfl) | (simp [wrap64]; done) | (congr 2 <;> first | rfl | (unfold wrap64; omega)), by repeat (first | (with_reducible first | exact HB.out | apply below_alloc | apply pw_below_drewN | apply below_drew1 | refine below_set ?_ GE286.out | refine below_set ?_ GE301.out | refine below_set ?_ GE302.out | refine below_set ?_ GE311.out | refine below_set ?_ GE312.out) | exact HB.out)⟩
    ·replace c48 := Bool.eq_false_iff.mpr c48
     subst c48
     have H1 : (if (Int.tmod a1 4) = 2 then ((vec_Sub.f kj7 t305 t306 t289 t290).bind fun bt314 => ((vec_Sub.f kj7 t289 t290 t307 t308).bind fun bt316 => ((fix_Abs.f (wrap64 (bt314.1 - bt316.1))).bind fun t318 => (if t318 < 8 then ((vec_Sub.f kj7 t305 t306 t289 t290).bind fun bt319 => ((vec_Sub.f kj7 t289 t290 t307 t308).bind fun bt321 => ((fix_Abs.f (wrap64 (bt319.2 - bt321.2))).bind fun t323 => (some (decide (t323 < 8)))))) else (none))))) else ((box_Meet.f t303 t304 t305 t306 t307 t308 t309 t310).bind fun t313 => (some t313))) = some r := by rw [if_neg (show ¬ (false = true) by decide)] at H; exact H
     clear H
     have H := H1
     clear H1
     by_cases c58 : (Int.tmod a1 4) = 2
     ·rw [if_pos c58] at H
      have c58b0 : ((Int.tmod a1 4) == 2) = true := beq_iff_eq.mpr c58
      have c58b1 : ((Int.tmod a1 4) != 2) = false := bne_eq_false_iff_eq.mpr c58
      clear c58
      replace H := Option.bind_eq_some_iff.mp H
      obtain ⟨⟨t314, t315⟩, A590, H⟩ := H
      replace H : ((vec_Sub.f kj7 t289 t290 t307 t308).bind fun bt316 => ((fix_Abs.f (wrap64 (t314 - bt316.1))).bind fun t318 => (if t318 < 8 then ((vec_Sub.f kj7 t305 t306 t289 t290).bind fun bt319 => ((vec_Sub.f kj7 t289 t290 t307 t308).bind fun bt321 => ((fix_Abs.f (wrap64 (bt319.2 - bt321.2))).bind fun t323 => (some (decide (t323 < 8)))))) else (none)))) = some r := H
      have A59 := Aside0.mk A590
      clear A590
      replace H := Option.bind_eq_some_iff.mp H
      obtain ⟨⟨t316, t317⟩, A600, H⟩ := H
      replace H : ((fix_Abs.f (wrap64 (t314 - t316))).bind fun t318 => (if t318 < 8 then ((vec_Sub.f kj7 t305 t306 t289 t290).bind fun bt319 => ((vec_Sub.f kj7 t289 t290 t307 t308).bind fun bt321 => ((fix_Abs.f (wrap64 (bt319.2 - bt321.2))).bind fun t323 => (some (decide (t323 < 8)))))) else (none))) = some r := H
      have A60 := Aside0.mk A600
      clear A600
      replace H := Option.bind_eq_some_iff.mp H
      obtain ⟨t318, A610, H⟩ := H
      replace H : (if t318 < 8 then ((vec_Sub.f kj7 t305 t306 t289 t290).bind fun bt319 => ((vec_Sub.f kj7 t289 t290 t307 t308).bind fun bt321 => ((fix_Abs.f (wrap64 (bt319.2 - bt321.2))).bind fun t323 => (some (decide (t323 < 8)))))) else (none)) = some r := H
      have A61 := Aside0.mk A610
      clear A610
      by_cases c62 : t318 < 8
      ·rw [if_pos c62] at H
       have c62b0 : decide (t318 < 8) = true := decide_eq_true c62
       clear c62
       replace H := Option.bind_eq_some_iff.mp H
       obtain ⟨⟨t319, t320⟩, A630, H⟩ := H
       replace H : ((vec_Sub.f kj7 t289 t290 t307 t308).bind fun bt321 => ((fix_Abs.f (wrap64 (t320 - bt321.2))).bind fun t323 => (some (decide (t323 < 8))))) = some r := H
       have A63 := Aside0.mk A630
       clear A630
       replace H := Option.bind_eq_some_iff.mp H
       obtain ⟨⟨t321, t322⟩, A640, H⟩ := H
       replace H : ((fix_Abs.f (wrap64 (t320 - t322))).bind fun t323 => (some (decide (t323 < 8)))) = some r := H
       have A64 := Aside0.mk A640
       clear A640
       replace H := Option.bind_eq_some_iff.mp H
       obtain ⟨t323, A650, H⟩ := H
       replace H : (some (decide (t323 < 8))) = some r := H
       have A65 := Aside0.mk A650
       clear A650
       obtain rfl := Option.some.inj H
       try go_wp2
       have n0_ := Aside0.mk (Kd.R_drew HO_302010.out)
       have n1_ := Aside0.mk (Kd.R_drew HO_303010.out)
       have n2_ := Aside0.mk (blk_drew BK286.out)
       have n3_ := Aside0.mk (blk_drew BK301.out)
       have n4_ := Aside0.mk (blk_drew BK302.out)
       have n5_ := Aside0.mk (blk_drew BK311.out)
       have n6_ := Aside0.mk (blk_drew BK312.out)
       have n7_ := Aside0.mk (below_drew1 HB.out)
       clear HO_302010
       clear HO_303010
       clear BK286
       clear BK301
       clear BK302
       clear BK311
       clear BK312
       clear HB
       have HO_302010 := n0_
       have HO_303010 := n1_
       have BK286 := n2_
       have BK301 := n3_
       have BK302 := n4_
       have BK311 := n5_
       have BK312 := n6_
       have HB := n7_
       clear n0_ n1_ n2_ n3_ n4_ n5_ n6_ n7_
       refine start_ (n := 33) (S := fun w' => w'.cell? ⟨gb311, 0, none⟩ = some (.int .i64 t303) ∧ w'.cell? ⟨gb311, 1, none⟩ = some (.int .i64 t304) ∧ w'.cell? ⟨gb311, 2, none⟩ = some (.int .i64 t305) ∧ w'.cell? ⟨gb311, 3, none⟩ = some (.int .i64 t306) ∧ w'.cell? ⟨gb301, 0, none⟩ = some (.int .i64 t288) ∧ w'.cell? ⟨gb301, 1, none⟩ = some (.int .i64 t289) ∧ w'.cell? ⟨gb301, 2, none⟩ = some (.int .i64 t290) ∧ w'.cell? ⟨gb301, 3, none⟩ = some (.int .i64 t291) ∧ w'.cell? ⟨gb301, 4, none⟩ = some (.int .i64 t292) ∧ w'.cell? ⟨gb301, 5, none⟩ = some (.int .i64 t293) ∧ w'.cell? ⟨gb301, 6, none⟩ = some (.int .i64 t294) ∧ w'.cell? ⟨gb301, 7, none⟩ = some (.int .i64 t295) ∧ w'.cell? ⟨gb301, 8, none⟩ = some (.int .i64 t296) ∧ w'.cell? ⟨gb301, 9, none⟩ = some (.int .i64 t297) ∧ w'.cell? ⟨gb301, 10, none⟩ = some (.slice Ao16 t298.length co16) ∧ w'.cell? ⟨gb312, 0, none⟩ = some (.int .i64 t307) ∧ w'.cell? ⟨gb312, 1, none⟩ = some (.int .i64 t308) ∧ w'.cell? ⟨gb312, 2, none⟩ = some (.int .i64 t309) ∧ w'.cell? ⟨gb312, 3, none⟩ = some (.int .i64 t310)) (ds := []) #[O5,O5,O5,O5,O5,O5,O5,O5,O5,O5,O5,O5,O5,O5,O5,O5,O5,O5,O5,O5,O5,O5,O5,O5,O5,O5,O5,O5,O5,O5,O5,O5,O5] (by kernel_rfl) rfl rfl ⟨bc5 BK311 0, bc5 BK311 1, bc5 BK311 2, bc5 BK311 3, bc5 BK301 0, bc5 BK301 1, bc5 BK301 2, bc5 BK301 3, bc5 BK301 4, bc5 BK301 5, bc5 BK301 6, bc5 BK301 7, bc5 BK301 8, bc5 BK301 9, bc5 BK301 10, bc5 BK312 0, bc5 BK312 1, bc5 BK312 2, bc5 BK312 3⟩ (fun hHeld => ?_); refine with_tabW bagatellelaw06_BoxTurns.tab11 bagatellelaw06_BoxTurns.bits11 (fun HT_ HW_ => ?_)
       generalize wc.drew = w66 at HO_302010 HO_303010 BK286 BK301 BK302 BK311 BK312 HB hHeld ⊢
       refine pure_ (i := 0) (N := some 45) (v := ?_) (a' := ?_) #[I5,O5,O5,O5,O5,O5,O5,O5,O5,O5,O5,O5,O5,O5,O5,O5,O5,O5,O5,O5,O5,O5,O5,O5,O5,O5,O5,O5,O5,O5,O5,O5,O5] rfl rfl (any_of HT_.out (by kernel_rfl)) (fun _ _ _ h => h) (Or.inl ⟨by rfl, ?_⟩) ?_ ?_
       rotate_left
       ·intro w'
        go_simp
        first | with_reducible rfl | (rw [fld24 _ _ w']; rfl) | (rw [fle24 _ _ w']; rfl)
       rotate_left
       ·simp only [Act.put, List.setIfInBounds_toArray, List.set_cons_zero, List.set_cons_succ, i64_w, i32_w]
        rfl
       refine pure_ (i := 2) (N := some 47) (v := ?_) (a' := ?_) #[I5,O5,I5,O5,O5,O5,O5,O5,O5,O5,O5,O5,O5,O5,O5,O5,O5,O5,O5,O5,O5,O5,O5,O5,O5,O5,O5,O5,O5,O5,O5,O5,O5] rfl rfl (any_of HT_.out (by kernel_rfl)) (fun _ _ _ h => h) (Or.inl ⟨by rfl, ?_⟩) ?_ ?_
       rotate_left
       ·intro w'
        go_simp
        first | with_reducible rfl | (rw [fld24 _ _ w']; rfl) | (rw [fle24 _ _ w']; rfl)
       rotate_left
       ·simp only [Act.put, List.setIfInBounds_toArray, List.set_cons_zero, List.set_cons_succ, i64_w, i32_w]
        rfl
       refine pure_ (i := 6) (N := some 51) (v := ?_) (a' := ?_) #[I5,O5,I5,O5,O5,O5,I5,O5,O5,O5,O5,O5,O5,O5,O5,O5,O5,O5,O5,O5,O5,O5,O5,O5,O5,O5,O5,O5,O5,O5,O5,O5,O5] rfl rfl (any_of HT_.out (by kernel_rfl)) (fun _ _ _ h => h) (Or.inl ⟨by rfl, ?_⟩) ?_ ?_
       rotate_left
       ·intro w'
        go_simp
        first | with_reducible rfl | (rw [fld24 _ _ w']; rfl) | (rw [fle24 _ _ w']; rfl)
       rotate_left
       ·simp only [Act.put, List.setIfInBounds_toArray, List.set_cons_zero, List.set_cons_succ, i64_w, i32_w]
        rfl
       refine pure_ (i := 8) (N := some 53) (v := ?_) (a' := ?_) #[I5,O5,I5,O5,O5,O5,I5,O5,I5,O5,O5,O5,O5,O5,O5,O5,O5,O5,O5,O5,O5,O5,O5,O5,O5,O5,O5,O5,O5,O5,O5,O5,O5] rfl rfl (any_of HT_.out (by kernel_rfl)) (fun _ _ _ h => h) (Or.inl ⟨by rfl, ?_⟩) ?_ ?_
       rotate_left
       ·intro w'
        go_simp
        first | with_reducible rfl | (rw [fld24 _ _ w']; rfl) | (rw [fle24 _ _ w']; rfl)
       rotate_left
       ·simp only [Act.put, List.setIfInBounds_toArray, List.set_cons_zero, List.set_cons_succ, i64_w, i32_w]
        rfl
       refine take_ (i := 1) (N := some 46) (v := ?_) (a' := ?_) #[I5,I5,I5,O5,O5,O5,I5,O5,I5,O5,O5,O5,O5,O5,O5,O5,O5,O5,O5,O5,O5,O5,O5,O5,O5,O5,O5,O5,O5,O5,O5,O5,O5] rfl rfl (take_ofW HT_.out HW_.out (by kernel_rfl)) (fun _ _ _ h => h) (Or.inl ⟨by rfl, ?_⟩) hHeld ?_ ?_
       rotate_left
       ·rintro w' ⟨s0, s1, s2, s3, s4, s5, s6, s7, s8, s9, s10, s11, s12, s13, s14, s15, s16, s17, s18⟩
        go_simp
        first | with_reducible rfl | (rw [fld24 _ _ w']; rfl) | (rw [fle24 _ _ w']; rfl)
       rotate_left
       ·simp only [Act.put, List.setIfInBounds_toArray, List.set_cons_zero, List.set_cons_succ, i64_w, i32_w]
        rfl
       refine take_ (i := 3) (N := some 48) (v := ?_) (a' := ?_) #[I5,I5,I5,I5,O5,O5,I5,O5,I5,O5,O5,O5,O5,O5,O5,O5,O5,O5,O5,O5,O5,O5,O5,O5,O5,O5,O5,O5,O5,O5,O5,O5,O5] rfl rfl (take_ofW HT_.out HW_.out (by kernel_rfl)) (fun _ _ _ h => h) (Or.inl ⟨by rfl, ?_⟩) hHeld ?_ ?_
       rotate_left
       ·rintro w' ⟨s0, s1, s2, s3, s4, s5, s6, s7, s8, s9, s10, s11, s12, s13, s14, s15, s16, s17, s18⟩
        go_simp
        first | with_reducible rfl | (rw [fld24 _ _ w']; rfl) | (rw [fle24 _ _ w']; rfl)
       rotate_left
       ·simp only [Act.put, List.setIfInBounds_toArray, List.set_cons_zero, List.set_cons_succ, i64_w, i32_w]
        rfl
       refine take_ (i := 7) (N := some 52) (v := ?_) (a' := ?_) #[I5,I5,I5,I5,O5,O5,I5,I5,I5,O5,O5,O5,O5,O5,O5,O5,O5,O5,O5,O5,O5,O5,O5,O5,O5,O5,O5,O5,O5,O5,O5,O5,O5] rfl rfl (take_ofW HT_.out HW_.out (by kernel_rfl)) (fun _ _ _ h => h) (Or.inl ⟨by rfl, ?_⟩) hHeld ?_ ?_
       rotate_left
       ·rintro w' ⟨s0, s1, s2, s3, s4, s5, s6, s7, s8, s9, s10, s11, s12, s13, s14, s15, s16, s17, s18⟩
        go_simp
        first | with_reducible rfl | (rw [fld24 _ _ w']; rfl) | (rw [fle24 _ _ w']; rfl)
       rotate_left
       ·simp only [Act.put, List.setIfInBounds_toArray, List.set_cons_zero, List.set_cons_succ, i64_w, i32_w]
        rfl
       refine take_ (i := 9) (N := some 54) (v := ?_) (a' := ?_) #[I5,I5,I5,I5,O5,O5,I5,I5,I5,I5,O5,O5,O5,O5,O5,O5,O5,O5,O5,O5,O5,O5,O5,O5,O5,O5,O5,O5,O5,O5,O5,O5,O5] rfl rfl (take_ofW HT_.out HW_.out (by kernel_rfl)) (fun _ _ _ h => h) (Or.inl ⟨by rfl, ?_⟩) hHeld ?_ ?_
       rotate_left
       ·rintro w' ⟨s0, s1, s2, s3, s4, s5, s6, s7, s8, s9, s10, s11, s12, s13, s14, s15, s16, s17, s18⟩
        go_simp
        first | with_reducible rfl | (rw [fld24 _ _ w']; rfl) | (rw [fle24 _ _ w']; rfl)
       rotate_left
       ·simp only [Act.put, List.setIfInBounds_toArray, List.set_cons_zero, List.set_cons_succ, i64_w, i32_w]
        rfl
       refine one_ (i := 4) (N := some 49) #[I5,I5,I5,I5,I5,O5,I5,I5,I5,I5,O5,O5,O5,O5,O5,O5,O5,O5,O5,O5,O5,O5,O5,O5,O5,O5,O5,O5,O5,O5,O5,O5,O5] rfl rfl (one_of HT_.out (by kernel_rfl)) (by decide) (fun K hK => ?_)
       refine goes_ Try.func13 (by kernel_rfl) rfl #[.agg #[.int .i64 t305, .int .i64 t306], .agg #[.int .i64 t289, .int .i64 t290]] (by rfl) rfl rfl (by (try simp only [List.map_toArray, List.map_cons, List.map_nil]); first | done | rfl | (simp only [List.length_drop, List.length_take]; rfl)) ?_
       with_reducible refine (vec_Sub.calls kj7 t305 t306 t289 t290 t314 t315 _ A59.out).mono ?_
       rintro e w67 ⟨rfl, hb⟩
       refine ⟨_, rfl, ?_⟩
       have n0_ := Aside0.mk (Kd.R_below (by (with_reducible repeat (first | apply Kd.R_alloc | apply Kd.R_drewN | apply Kd.R_drew)); exact HO_302010.out) hb)
       have n1_ := Aside0.mk (Kd.R_below (by (with_reducible repeat (first | apply Kd.R_alloc | apply Kd.R_drewN | apply Kd.R_drew)); exact HO_303010.out) hb)
       have n2_ := Aside0.mk (blk_below (bl5 BK286) hb)
       have n3_ := Aside0.mk (blk_below (bl5 BK301) hb)
       have n4_ := Aside0.mk (blk_below (bl5 BK302) hb)
       have n5_ := Aside0.mk (blk_below (bl5 BK311) hb)
       have n6_ := Aside0.mk (blk_below (bl5 BK312) hb)
       have n7_ := Aside0.mk (below_step bw5 hb)
       clear HO_302010
       clear HO_303010
       clear BK286
       clear BK301
       clear BK302
       clear BK311
       clear BK312
       clear HB
       have HO_302010 := n0_
       have HO_303010 := n1_
       have BK286 := n2_
       have BK301 := n3_
       have BK302 := n4_
       have BK311 := n5_
       have BK312 := n6_
       have HB := n7_
       clear n0_ n1_ n2_ n3_ n4_ n5_ n6_ n7_
       (try clear hb)
       (try clear hb2)
       (try clear hk)
       (try clear hi)
       refine hK.out _ _ ⟨bc5 BK311 0, bc5 BK311 1, bc5 BK311 2, bc5 BK311 3, bc5 BK301 0, bc5 BK301 1, bc5 BK301 2, bc5 BK301 3, bc5 BK301 4, bc5 BK301 5, bc5 BK301 6, bc5 BK301 7, bc5 BK301 8, bc5 BK301 9, bc5 BK301 10, bc5 BK312 0, bc5 BK312 1, bc5 BK312 2, bc5 BK312 3⟩ (fun hHeld => ?_)
       clear hK K
       refine norm_ (a' := ?_) ?_ ?_
       rotate_left
       ·show Act.put _ (some 49) _ = _
        simp only [Act.put, List.setIfInBounds_toArray, List.set_cons_zero, List.set_cons_succ, i64_w, i32_w]
        rfl
       refine pure_ (i := 5) (N := some 50) (v := ?_) (a' := ?_) #[I5,I5,I5,I5,I5,I5,I5,I5,I5,I5,O5,O5,O5,O5,O5,O5,O5,O5,O5,O5,O5,O5,O5,O5,O5,O5,O5,O5,O5,O5,O5,O5,O5] rfl rfl (any_of HT_.out (by kernel_rfl)) (fun _ _ _ h => h) (Or.inl ⟨by rfl, ?_⟩) ?_ ?_
       rotate_left
       ·intro w'
        go_simp
        first | with_reducible rfl | (rw [fld24 _ _ w']; rfl) | (rw [fle24 _ _ w']; rfl)
       rotate_left
       ·simp only [Act.put, List.setIfInBounds_toArray, List.set_cons_zero, List.set_cons_succ, i64_w, i32_w]
        rfl
       refine one_ (i := 10) (N := some 55) #[I5,I5,I5,I5,I5,I5,I5,I5,I5,I5,I5,O5,O5,O5,O5,O5,O5,O5,O5,O5,O5,O5,O5,O5,O5,O5,O5,O5,O5,O5,O5,O5,O5] rfl rfl (one_of HT_.out (by kernel_rfl)) (by decide) (fun K hK => ?_)
       refine goes_ Try.func13 (by kernel_rfl) rfl #[.agg #[.int .i64 t289, .int .i64 t290], .agg #[.int .i64 t307, .int .i64 t308]] (by rfl) rfl rfl (by (try simp only [List.map_toArray, List.map_cons, List.map_nil]); first | done | rfl | (simp only [List.length_drop, List.length_take]; rfl)) ?_
       with_reducible refine (vec_Sub.calls kj7 t289 t290 t307 t308 t316 t317 _ A60.out).mono ?_
       rintro e w68 ⟨rfl, hb⟩
       refine ⟨_, rfl, ?_⟩
       have n0_ := Aside0.mk (Kd.R_below (by (with_reducible repeat (first | apply Kd.R_alloc | apply Kd.R_drewN | apply Kd.R_drew)); exact HO_302010.out) hb)
       have n1_ := Aside0.mk (Kd.R_below (by (with_reducible repeat (first | apply Kd.R_alloc | apply Kd.R_drewN | apply Kd.R_drew)); exact HO_303010.out) hb)
       have n2_ := Aside0.mk (blk_below (bl5 BK286) hb)
       have n3_ := Aside0.mk (blk_below (bl5 BK301) hb)
       have n4_ := Aside0.mk (blk_below (bl5 BK302) hb)
       have n5_ := Aside0.mk (blk_below (bl5 BK311) hb)
       have n6_ := Aside0.mk (blk_below (bl5 BK312) hb)
       have n7_ := Aside0.mk (below_step bw5 hb)
       clear HO_302010
       clear HO_303010
       clear BK286
       clear BK301
       clear BK302
       clear BK311
       clear BK312
       clear HB
       have HO_302010 := n0_
       have HO_303010 := n1_
       have BK286 := n2_
       have BK301 := n3_
       have BK302 := n4_
       have BK311 := n5_
       have BK312 := n6_
       have HB := n7_
       clear n0_ n1_ n2_ n3_ n4_ n5_ n6_ n7_
       (try clear hb)
       (try clear hb2)
       (try clear hk)
       (try clear hi)
       refine hK.out _ _ ⟨bc5 BK311 0, bc5 BK311 1, bc5 BK311 2, bc5 BK311 3, bc5 BK301 0, bc5 BK301 1, bc5 BK301 2, bc5 BK301 3, bc5 BK301 4, bc5 BK301 5, bc5 BK301 6, bc5 BK301 7, bc5 BK301 8, bc5 BK301 9, bc5 BK301 10, bc5 BK312 0, bc5 BK312 1, bc5 BK312 2, bc5 BK312 3⟩ (fun hHeld => ?_)
       clear hK K
       refine norm_ (a' := ?_) ?_ ?_
       rotate_left
       ·show Act.put _ (some 55) _ = _
        simp only [Act.put, List.setIfInBounds_toArray, List.set_cons_zero, List.set_cons_succ, i64_w, i32_w]
        rfl
       refine pure_ (i := 11) (N := some 56) (v := ?_) (a' := ?_) #[I5,I5,I5,I5,I5,I5,I5,I5,I5,I5,I5,I5,O5,O5,O5,O5,O5,O5,O5,O5,O5,O5,O5,O5,O5,O5,O5,O5,O5,O5,O5,O5,O5] rfl rfl (any_of HT_.out (by kernel_rfl)) (fun _ _ _ h => h) (Or.inl ⟨by rfl, ?_⟩) ?_ ?_
       rotate_left
       ·intro w'
        go_simp
        first | with_reducible rfl | (rw [fld24 _ _ w']; rfl) | (rw [fle24 _ _ w']; rfl)
       rotate_left
       ·simp only [Act.put, List.setIfInBounds_toArray, List.set_cons_zero, List.set_cons_succ, i64_w, i32_w]
        rfl
       refine pure_ (i := 12) (N := some 57) (v := ?_) (a' := ?_) #[I5,I5,I5,I5,I5,I5,I5,I5,I5,I5,I5,I5,I5,O5,O5,O5,O5,O5,O5,O5,O5,O5,O5,O5,O5,O5,O5,O5,O5,O5,O5,O5,O5] rfl rfl (any_of HT_.out (by kernel_rfl)) (fun _ _ _ h => h) (Or.inl ⟨by rfl, ?_⟩) ?_ ?_
       rotate_left
       ·intro w'
        go_simp
        first | with_reducible rfl | (rw [fld24 _ _ w']; rfl) | (rw [fle24 _ _ w']; rfl)
       rotate_left
       ·simp only [Act.put, List.setIfInBounds_toArray, List.set_cons_zero, List.set_cons_succ, i64_w, i32_w]
        rfl
       refine one_ (i := 13) (N := some 58) #[I5,I5,I5,I5,I5,I5,I5,I5,I5,I5,I5,I5,I5,I5,O5,O5,O5,O5,O5,O5,O5,O5,O5,O5,O5,O5,O5,O5,O5,O5,O5,O5,O5] rfl rfl (one_of HT_.out (by kernel_rfl)) (by decide) (fun K hK => ?_)
       refine goes_ Try.func18 (by kernel_rfl) rfl #[.int .i64 (wrap64 (t314 - t316))] (by rfl) rfl rfl (by (try simp only [List.map_toArray, List.map_cons, List.map_nil]); first | done | rfl | (simp only [List.length_drop, List.length_take]; rfl)) ?_
       with_reducible refine (fix_Abs.calls (wrap64 (t314 - t316)) t318 _ A61.out).mono ?_
       rintro e w69 ⟨rfl, hb⟩
       refine ⟨_, rfl, ?_⟩
       have n0_ := Aside0.mk (Kd.R_below (by (with_reducible repeat (first | apply Kd.R_alloc | apply Kd.R_drewN | apply Kd.R_drew)); exact HO_302010.out) hb)
       have n1_ := Aside0.mk (Kd.R_below (by (with_reducible repeat (first | apply Kd.R_alloc | apply Kd.R_drewN | apply Kd.R_drew)); exact HO_303010.out) hb)
       have n2_ := Aside0.mk (blk_below (bl5 BK286) hb)
       have n3_ := Aside0.mk (blk_below (bl5 BK301) hb)
       have n4_ := Aside0.mk (blk_below (bl5 BK302) hb)
       have n5_ := Aside0.mk (blk_below (bl5 BK311) hb)
       have n6_ := Aside0.mk (blk_below (bl5 BK312) hb)
       have n7_ := Aside0.mk (below_step bw5 hb)
       clear HO_302010
       clear HO_303010
       clear BK286
       clear BK301
       clear BK302
       clear BK311
       clear BK312
       clear HB
       have HO_302010 := n0_
       have HO_303010 := n1_
       have BK286 := n2_
       have BK301 := n3_
       have BK302 := n4_
       have BK311 := n5_
       have BK312 := n6_
       have HB := n7_
       clear n0_ n1_ n2_ n3_ n4_ n5_ n6_ n7_
       (try clear hb)
       (try clear hb2)
       (try clear hk)
       (try clear hi)
       refine hK.out _ _ ⟨bc5 BK311 0, bc5 BK311 1, bc5 BK311 2, bc5 BK311 3, bc5 BK301 0, bc5 BK301 1, bc5 BK301 2, bc5 BK301 3, bc5 BK301 4, bc5 BK301 5, bc5 BK301 6, bc5 BK301 7, bc5 BK301 8, bc5 BK301 9, bc5 BK301 10, bc5 BK312 0, bc5 BK312 1, bc5 BK312 2, bc5 BK312 3⟩ (fun hHeld => ?_)
       clear hK K
       refine norm_ (a' := ?_) ?_ ?_
       rotate_left
       ·show Act.put _ (some 58) _ = _
        simp only [Act.put, List.setIfInBounds_toArray, List.set_cons_zero, List.set_cons_succ, i64_w, i32_w]
        rfl
       refine pure_ (i := 14) (N := some 59) (v := ?_) (a' := ?_) #[I5,I5,I5,I5,I5,I5,I5,I5,I5,I5,I5,I5,I5,I5,I5,O5,O5,O5,O5,O5,O5,O5,O5,O5,O5,O5,O5,O5,O5,O5,O5,O5,O5] rfl rfl (any_of HT_.out (by kernel_rfl)) (fun _ _ _ h => h) (Or.inl ⟨by rfl, ?_⟩) ?_ ?_
       rotate_left
       ·intro w'
        go_simp
        first | with_reducible rfl | (rw [fld24 _ _ w']; rfl) | (rw [fle24 _ _ w']; rfl)
       rotate_left
       ·simp only [Act.put, List.setIfInBounds_toArray, List.set_cons_zero, List.set_cons_succ, i64_w, i32_w]
        rfl
       refine pure_ (i := 15) (N := some 60) (v := ?_) (a' := ?_) #[I5,I5,I5,I5,I5,I5,I5,I5,I5,I5,I5,I5,I5,I5,I5,I5,O5,O5,O5,O5,O5,O5,O5,O5,O5,O5,O5,O5,O5,O5,O5,O5,O5] rfl rfl (any_of HT_.out (by kernel_rfl)) (fun _ _ _ h => h) (Or.inl ⟨by rfl, ?_⟩) ?_ ?_
       rotate_left
       ·intro w'
        go_simp
        first | with_reducible rfl | (rw [fld24 _ _ w']; rfl) | (rw [fle24 _ _ w']; rfl)
       rotate_left
       ·simp only [Act.put, List.setIfInBounds_toArray, List.set_cons_zero, List.set_cons_succ, i64_w, i32_w]
        rfl
       refine pure_ (i := 16) (N := some 61) (v := ?_) (a' := ?_) #[I5,I5,I5,I5,I5,I5,I5,I5,I5,I5,I5,I5,I5,I5,I5,I5,I5,O5,O5,O5,O5,O5,O5,O5,O5,O5,O5,O5,O5,O5,O5,O5,O5] rfl rfl (any_of HT_.out (by kernel_rfl)) (fun _ _ _ h => h) (Or.inl ⟨by rfl, ?_⟩) ?_ ?_
       rotate_left
       ·intro w'
        go_simp
        first | with_reducible rfl | (rw [fld24 _ _ w']; rfl) | (rw [fle24 _ _ w']; rfl)
       rotate_left
       ·simp only [Act.put, List.setIfInBounds_toArray, List.set_cons_zero, List.set_cons_succ, i64_w, i32_w]
        rfl
       refine pure_ (i := 18) (N := some 63) (v := ?_) (a' := ?_) #[I5,I5,I5,I5,I5,I5,I5,I5,I5,I5,I5,I5,I5,I5,I5,I5,I5,O5,I5,O5,O5,O5,O5,O5,O5,O5,O5,O5,O5,O5,O5,O5,O5] rfl rfl (any_of HT_.out (by kernel_rfl)) (fun _ _ _ h => h) (Or.inl ⟨by rfl, ?_⟩) ?_ ?_
       rotate_left
       ·intro w'
        go_simp
        first | with_reducible rfl | (rw [fld24 _ _ w']; rfl) | (rw [fle24 _ _ w']; rfl)
       rotate_left
       ·simp only [Act.put, List.setIfInBounds_toArray, List.set_cons_zero, List.set_cons_succ, i64_w, i32_w]
        rfl
       refine pure_ (i := 22) (N := some 67) (v := ?_) (a' := ?_) #[I5,I5,I5,I5,I5,I5,I5,I5,I5,I5,I5,I5,I5,I5,I5,I5,I5,O5,I5,O5,O5,O5,I5,O5,O5,O5,O5,O5,O5,O5,O5,O5,O5] rfl rfl (any_of HT_.out (by kernel_rfl)) (fun _ _ _ h => h) (Or.inl ⟨by rfl, ?_⟩) ?_ ?_
       rotate_left
       ·intro w'
        go_simp
        first | with_reducible rfl | (rw [fld24 _ _ w']; rfl) | (rw [fle24 _ _ w']; rfl)
       rotate_left
       ·simp only [Act.put, List.setIfInBounds_toArray, List.set_cons_zero, List.set_cons_succ, i64_w, i32_w]
        rfl
       refine pure_ (i := 24) (N := some 69) (v := ?_) (a' := ?_) #[I5,I5,I5,I5,I5,I5,I5,I5,I5,I5,I5,I5,I5,I5,I5,I5,I5,O5,I5,O5,O5,O5,I5,O5,I5,O5,O5,O5,O5,O5,O5,O5,O5] rfl rfl (any_of HT_.out (by kernel_rfl)) (fun _ _ _ h => h) (Or.inl ⟨by rfl, ?_⟩) ?_ ?_
       rotate_left
       ·intro w'
        go_simp
        first | with_reducible rfl | (rw [fld24 _ _ w']; rfl) | (rw [fle24 _ _ w']; rfl)
       rotate_left
       ·simp only [Act.put, List.setIfInBounds_toArray, List.set_cons_zero, List.set_cons_succ, i64_w, i32_w]
        rfl
       refine take_ (i := 17) (N := some 62) (v := ?_) (a' := ?_) #[I5,I5,I5,I5,I5,I5,I5,I5,I5,I5,I5,I5,I5,I5,I5,I5,I5,I5,I5,O5,O5,O5,I5,O5,I5,O5,O5,O5,O5,O5,O5,O5,O5] rfl rfl (take_ofW HT_.out HW_.out (by kernel_rfl)) (fun _ _ _ h => h) (Or.inl ⟨by rfl, ?_⟩) hHeld ?_ ?_
       rotate_left
       ·rintro w' ⟨s0, s1, s2, s3, s4, s5, s6, s7, s8, s9, s10, s11, s12, s13, s14, s15, s16, s17, s18⟩
        go_simp
        first | with_reducible rfl | (rw [fld24 _ _ w']; rfl) | (rw [fle24 _ _ w']; rfl)
       rotate_left
       ·simp only [Act.put, List.setIfInBounds_toArray, List.set_cons_zero, List.set_cons_succ, i64_w, i32_w]
        rfl
       refine take_ (i := 19) (N := some 64) (v := ?_) (a' := ?_) #[I5,I5,I5,I5,I5,I5,I5,I5,I5,I5,I5,I5,I5,I5,I5,I5,I5,I5,I5,I5,O5,O5,I5,O5,I5,O5,O5,O5,O5,O5,O5,O5,O5] rfl rfl (take_ofW HT_.out HW_.out (by kernel_rfl)) (fun _ _ _ h => h) (Or.inl ⟨by rfl, ?_⟩) hHeld ?_ ?_
       rotate_left
       ·rintro w' ⟨s0, s1, s2, s3, s4, s5, s6, s7, s8, s9, s10, s11, s12, s13, s14, s15, s16, s17, s18⟩
        go_simp
        first | with_reducible rfl | (rw [fld24 _ _ w']; rfl) | (rw [fle24 _ _ w']; rfl)
       rotate_left
       ·simp only [Act.put, List.setIfInBounds_toArray, List.set_cons_zero, List.set_cons_succ, i64_w, i32_w]
        rfl
       refine take_ (i := 23) (N := some 68) (v := ?_) (a' := ?_) #[I5,I5,I5,I5,I5,I5,I5,I5,I5,I5,I5,I5,I5,I5,I5,I5,I5,I5,I5,I5,O5,O5,I5,I5,I5,O5,O5,O5,O5,O5,O5,O5,O5] rfl rfl (take_ofW HT_.out HW_.out (by kernel_rfl)) (fun _ _ _ h => h) (Or.inl ⟨by rfl, ?_⟩) hHeld ?_ ?_
       rotate_left
       ·rintro w' ⟨s0, s1, s2, s3, s4, s5, s6, s7, s8, s9, s10, s11, s12, s13, s14, s15, s16, s17, s18⟩
        go_simp
        first | with_reducible rfl | (rw [fld24 _ _ w']; rfl) | (rw [fle24 _ _ w']; rfl)
       rotate_left
       ·simp only [Act.put, List.setIfInBounds_toArray, List.set_cons_zero, List.set_cons_succ, i64_w, i32_w]
        rfl
       refine take_ (i := 25) (N := some 70) (v := ?_) (a' := ?_) #[I5,I5,I5,I5,I5,I5,I5,I5,I5,I5,I5,I5,I5,I5,I5,I5,I5,I5,I5,I5,O5,O5,I5,I5,I5,I5,O5,O5,O5,O5,O5,O5,O5] rfl rfl (take_ofW HT_.out HW_.out (by kernel_rfl)) (fun _ _ _ h => h) (Or.inl ⟨by rfl, ?_⟩) hHeld ?_ ?_
       rotate_left
       ·rintro w' ⟨s0, s1, s2, s3, s4, s5, s6, s7, s8, s9, s10, s11, s12, s13, s14, s15, s16, s17, s18⟩
        go_simp
        first | with_reducible rfl | (rw [fld24 _ _ w']; rfl) | (rw [fle24 _ _ w']; rfl)
       rotate_left
       ·simp only [Act.put, List.setIfInBounds_toArray, List.set_cons_zero, List.set_cons_succ, i64_w, i32_w]
        rfl
       refine one_ (i := 20) (N := some 65) #[I5,I5,I5,I5,I5,I5,I5,I5,I5,I5,I5,I5,I5,I5,I5,I5,I5,I5,I5,I5,I5,O5,I5,I5,I5,I5,O5,O5,O5,O5,O5,O5,O5] rfl rfl (one_of HT_.out (by kernel_rfl)) (by decide) (fun K hK => ?_)
       refine goes_ Try.func13 (by kernel_rfl) rfl #[.agg #[.int .i64 t305, .int .i64 t306], .agg #[.int .i64 t289, .int .i64 t290]] (by rfl) rfl rfl (by (try simp only [List.map_toArray, List.map_cons, List.map_nil]); first | done | rfl | (simp only [List.length_drop, List.length_take]; rfl)) ?_
       with_reducible refine (vec_Sub.calls kj7 t305 t306 t289 t290 t319 t320 _ A63.out).mono ?_
       rintro e w70 ⟨rfl, hb⟩
       refine ⟨_, rfl, ?_⟩
       have n0_ := Aside0.mk (Kd.R_below (by (with_reducible repeat (first | apply Kd.R_alloc | apply Kd.R_drewN | apply Kd.R_drew)); exact HO_302010.out) hb)
       have n1_ := Aside0.mk (Kd.R_below (by (with_reducible repeat (first | apply Kd.R_alloc | apply Kd.R_drewN | apply Kd.R_drew)); exact HO_303010.out) hb)
       have n2_ := Aside0.mk (blk_below (bl5 BK286) hb)
       have n3_ := Aside0.mk (blk_below (bl5 BK301) hb)
       have n4_ := Aside0.mk (blk_below (bl5 BK302) hb)
       have n5_ := Aside0.mk (blk_below (bl5 BK311) hb)
       have n6_ := Aside0.mk (blk_below (bl5 BK312) hb)
       have n7_ := Aside0.mk (below_step bw5 hb)
       clear HO_302010
       clear HO_303010
       clear BK286
       clear BK301
       clear BK302
       clear BK311
       clear BK312
       clear HB
       have HO_302010 := n0_
       have HO_303010 := n1_
       have BK286 := n2_
       have BK301 := n3_
       have BK302 := n4_
       have BK311 := n5_
       have BK312 := n6_
       have HB := n7_
       clear n0_ n1_ n2_ n3_ n4_ n5_ n6_ n7_
       (try clear hb)
       (try clear hb2)
       (try clear hk)
       (try clear hi)
       refine hK.out _ _ ⟨bc5 BK311 0, bc5 BK311 1, bc5 BK311 2, bc5 BK311 3, bc5 BK301 0, bc5 BK301 1, bc5 BK301 2, bc5 BK301 3, bc5 BK301 4, bc5 BK301 5, bc5 BK301 6, bc5 BK301 7, bc5 BK301 8, bc5 BK301 9, bc5 BK301 10, bc5 BK312 0, bc5 BK312 1, bc5 BK312 2, bc5 BK312 3⟩ (fun hHeld => ?_)
       clear hK K
       refine norm_ (a' := ?_) ?_ ?_
       rotate_left
       ·show Act.put _ (some 65) _ = _
        simp only [Act.put, List.setIfInBounds_toArray, List.set_cons_zero, List.set_cons_succ, i64_w, i32_w]
        rfl
       refine pure_ (i := 21) (N := some 66) (v := ?_) (a' := ?_) #[I5,I5,I5,I5,I5,I5,I5,I5,I5,I5,I5,I5,I5,I5,I5,I5,I5,I5,I5,I5,I5,I5,I5,I5,I5,I5,O5,O5,O5,O5,O5,O5,O5] rfl rfl (any_of HT_.out (by kernel_rfl)) (fun _ _ _ h => h) (Or.inl ⟨by rfl, ?_⟩) ?_ ?_
       rotate_left
       ·intro w'
        go_simp
        first | with_reducible rfl | (rw [fld24 _ _ w']; rfl) | (rw [fle24 _ _ w']; rfl)
       rotate_left
       ·simp only [Act.put, List.setIfInBounds_toArray, List.set_cons_zero, List.set_cons_succ, i64_w, i32_w]
        rfl
       refine one_ (i := 26) (N := some 71) #[I5,I5,I5,I5,I5,I5,I5,I5,I5,I5,I5,I5,I5,I5,I5,I5,I5,I5,I5,I5,I5,I5,I5,I5,I5,I5,I5,O5,O5,O5,O5,O5,O5] rfl rfl (one_of HT_.out (by kernel_rfl)) (by decide) (fun K hK => ?_)
       refine goes_ Try.func13 (by kernel_rfl) rfl #[.agg #[.int .i64 t289, .int .i64 t290], .agg #[.int .i64 t307, .int .i64 t308]] (by rfl) rfl rfl (by (try simp only [List.map_toArray, List.map_cons, List.map_nil]); first | done | rfl | (simp only [List.length_drop, List.length_take]; rfl)) ?_
       with_reducible refine (vec_Sub.calls kj7 t289 t290 t307 t308 t321 t322 _ A64.out).mono ?_
       rintro e w71 ⟨rfl, hb⟩
       refine ⟨_, rfl, ?_⟩
       have n0_ := Aside0.mk (Kd.R_below (by (with_reducible repeat (first | apply Kd.R_alloc | apply Kd.R_drewN | apply Kd.R_drew)); exact HO_302010.out) hb)
       have n1_ := Aside0.mk (Kd.R_below (by (with_reducible repeat (first | apply Kd.R_alloc | apply Kd.R_drewN | apply Kd.R_drew)); exact HO_303010.out) hb)
       have n2_ := Aside0.mk (blk_below (bl5 BK286) hb)
       have n3_ := Aside0.mk (blk_below (bl5 BK301) hb)
       have n4_ := Aside0.mk (blk_below (bl5 BK302) hb)
       have n5_ := Aside0.mk (blk_below (bl5 BK311) hb)
       have n6_ := Aside0.mk (blk_below (bl5 BK312) hb)
       have n7_ := Aside0.mk (below_step bw5 hb)
       clear HO_302010
       clear HO_303010
       clear BK286
       clear BK301
       clear BK302
       clear BK311
       clear BK312
       clear HB
       have HO_302010 := n0_
       have HO_303010 := n1_
       have BK286 := n2_
       have BK301 := n3_
       have BK302 := n4_
       have BK311 := n5_
       have BK312 := n6_
       have HB := n7_
       clear n0_ n1_ n2_ n3_ n4_ n5_ n6_ n7_
       (try clear hb)
       (try clear hb2)
       (try clear hk)
       (try clear hi)
       refine hK.out _ _ ⟨bc5 BK311 0, bc5 BK311 1, bc5 BK311 2, bc5 BK311 3, bc5 BK301 0, bc5 BK301 1, bc5 BK301 2, bc5 BK301 3, bc5 BK301 4, bc5 BK301 5, bc5 BK301 6, bc5 BK301 7, bc5 BK301 8, bc5 BK301 9, bc5 BK301 10, bc5 BK312 0, bc5 BK312 1, bc5 BK312 2, bc5 BK312 3⟩ (fun hHeld => ?_)
       clear hK K
       refine norm_ (a' := ?_) ?_ ?_
       rotate_left
       ·show Act.put _ (some 71) _ = _
        simp only [Act.put, List.setIfInBounds_toArray, List.set_cons_zero, List.set_cons_succ, i64_w, i32_w]
        rfl
       refine pure_ (i := 27) (N := some 72) (v := ?_) (a' := ?_) #[I5,I5,I5,I5,I5,I5,I5,I5,I5,I5,I5,I5,I5,I5,I5,I5,I5,I5,I5,I5,I5,I5,I5,I5,I5,I5,I5,I5,O5,O5,O5,O5,O5] rfl rfl (any_of HT_.out (by kernel_rfl)) (fun _ _ _ h => h) (Or.inl ⟨by rfl, ?_⟩) ?_ ?_
       rotate_left
       ·intro w'
        go_simp
        first | with_reducible rfl | (rw [fld24 _ _ w']; rfl) | (rw [fle24 _ _ w']; rfl)
       rotate_left
       ·simp only [Act.put, List.setIfInBounds_toArray, List.set_cons_zero, List.set_cons_succ, i64_w, i32_w]
        rfl
       refine pure_ (i := 28) (N := some 73) (v := ?_) (a' := ?_) #[I5,I5,I5,I5,I5,I5,I5,I5,I5,I5,I5,I5,I5,I5,I5,I5,I5,I5,I5,I5,I5,I5,I5,I5,I5,I5,I5,I5,I5,O5,O5,O5,O5] rfl rfl (any_of HT_.out (by kernel_rfl)) (fun _ _ _ h => h) (Or.inl ⟨by rfl, ?_⟩) ?_ ?_
       rotate_left
       ·intro w'
        go_simp
        first | with_reducible rfl | (rw [fld24 _ _ w']; rfl) | (rw [fle24 _ _ w']; rfl)
       rotate_left
       ·simp only [Act.put, List.setIfInBounds_toArray, List.set_cons_zero, List.set_cons_succ, i64_w, i32_w]
        rfl
       refine one_ (i := 29) (N := some 74) #[I5,I5,I5,I5,I5,I5,I5,I5,I5,I5,I5,I5,I5,I5,I5,I5,I5,I5,I5,I5,I5,I5,I5,I5,I5,I5,I5,I5,I5,I5,O5,O5,O5] rfl rfl (one_of HT_.out (by kernel_rfl)) (by decide) (fun K hK => ?_)
       refine goes_ Try.func18 (by kernel_rfl) rfl #[.int .i64 (wrap64 (t320 - t322))] (by rfl) rfl rfl (by (try simp only [List.map_toArray, List.map_cons, List.map_nil]); first | done | rfl | (simp only [List.length_drop, List.length_take]; rfl)) ?_
       with_reducible refine (fix_Abs.calls (wrap64 (t320 - t322)) t323 _ A65.out).mono ?_
       rintro e w72 ⟨rfl, hb⟩
       refine ⟨_, rfl, ?_⟩
       have n0_ := Aside0.mk (Kd.R_below (by (with_reducible repeat (first | apply Kd.R_alloc | apply Kd.R_drewN | apply Kd.R_drew)); exact HO_302010.out) hb)
       have n1_ := Aside0.mk (Kd.R_below (by (with_reducible repeat (first | apply Kd.R_alloc | apply Kd.R_drewN | apply Kd.R_drew)); exact HO_303010.out) hb)
       have n2_ := Aside0.mk (blk_below (bl5 BK286) hb)
       have n3_ := Aside0.mk (blk_below (bl5 BK301) hb)
       have n4_ := Aside0.mk (blk_below (bl5 BK302) hb)
       have n5_ := Aside0.mk (blk_below (bl5 BK311) hb)
       have n6_ := Aside0.mk (blk_below (bl5 BK312) hb)
       have n7_ := Aside0.mk (below_step bw5 hb)
       clear HO_302010
       clear HO_303010
       clear BK286
       clear BK301
       clear BK302
       clear BK311
       clear BK312
       clear HB
       have HO_302010 := n0_
       have HO_303010 := n1_
       have BK286 := n2_
       have BK301 := n3_
       have BK302 := n4_
       have BK311 := n5_
       have BK312 := n6_
       have HB := n7_
       clear n0_ n1_ n2_ n3_ n4_ n5_ n6_ n7_
       (try clear hb)
       (try clear hb2)
       (try clear hk)
       (try clear hi)
       refine hK.out _ _ ⟨bc5 BK311 0, bc5 BK311 1, bc5 BK311 2, bc5 BK311 3, bc5 BK301 0, bc5 BK301 1, bc5 BK301 2, bc5 BK301 3, bc5 BK301 4, bc5 BK301 5, bc5 BK301 6, bc5 BK301 7, bc5 BK301 8, bc5 BK301 9, bc5 BK301 10, bc5 BK312 0, bc5 BK312 1, bc5 BK312 2, bc5 BK312 3⟩ (fun hHeld => ?_)
       clear hK K
       refine norm_ (a' := ?_) ?_ ?_
       rotate_left
       ·show Act.put _ (some 74) _ = _
        simp only [Act.put, List.setIfInBounds_toArray, List.set_cons_zero, List.set_cons_succ, i64_w, i32_w]
        rfl
       refine pure_ (i := 30) (N := some 75) (v := ?_) (a' := ?_) #[I5,I5,I5,I5,I5,I5,I5,I5,I5,I5,I5,I5,I5,I5,I5,I5,I5,I5,I5,I5,I5,I5,I5,I5,I5,I5,I5,I5,I5,I5,I5,O5,O5] rfl rfl (any_of HT_.out (by kernel_rfl)) (fun _ _ _ h => h) (Or.inl ⟨by rfl, ?_⟩) ?_ ?_
       rotate_left
       ·intro w'
        go_simp
        first | with_reducible rfl | (rw [fld24 _ _ w']; rfl) | (rw [fle24 _ _ w']; rfl)
       rotate_left
       ·simp only [Act.put, List.setIfInBounds_toArray, List.set_cons_zero, List.set_cons_succ, i64_w, i32_w]
        rfl
       refine pure_ (i := 31) (N := some 76) (v := ?_) (a' := ?_) #[I5,I5,I5,I5,I5,I5,I5,I5,I5,I5,I5,I5,I5,I5,I5,I5,I5,I5,I5,I5,I5,I5,I5,I5,I5,I5,I5,I5,I5,I5,I5,I5,O5] rfl rfl (any_of HT_.out (by kernel_rfl)) (fun _ _ _ h => h) (Or.inl ⟨by rfl, ?_⟩) ?_ ?_
       rotate_left
       ·intro w'
        go_simp
        first | with_reducible rfl | (rw [fld24 _ _ w']; rfl) | (rw [fle24 _ _ w']; rfl)
       rotate_left
       ·simp only [Act.put, List.setIfInBounds_toArray, List.set_cons_zero, List.set_cons_succ, i64_w, i32_w]
        rfl
       refine pure_ (i := 32) (N := some 4) (v := ?_) (a' := ?_) #[I5,I5,I5,I5,I5,I5,I5,I5,I5,I5,I5,I5,I5,I5,I5,I5,I5,I5,I5,I5,I5,I5,I5,I5,I5,I5,I5,I5,I5,I5,I5,I5,I5] rfl rfl (any_of HT_.out (by kernel_rfl)) (fun _ _ _ h => h) (Or.inl ⟨by rfl, ?_⟩) ?_ ?_
       rotate_left
       ·intro w'
        go_simp
        first | with_reducible rfl | (rw [fld24 _ _ w']; rfl) | (rw [fle24 _ _ w']; rfl)
       rotate_left
       ·simp only [Act.put, List.setIfInBounds_toArray, List.set_cons_zero, List.set_cons_succ, i64_w, i32_w]
        rfl
       refine done_ (done_of HT_.out (by kernel_rfl)) ?_
       try go_wp2
       go_ret
       exact ⟨by first | rfl | (simp [errW_none, errW_some] <;> rfl) | (simp [*, errW_none, errW_some] <;> rfl) | (simp [wrap64]; done) | (congr 2 <;> first | rfl | (unfold wrap64; omega)), by repeat (first | (with_reducible first | exact HB.out | apply below_alloc | apply pw_below_drewN | apply below_drew1 | refine below_set ?_ GE286.out | refine below_set ?_ GE301.out | refine below_set ?_ GE302.out | refine below_set ?_ GE311.out | refine below_set ?_ GE312.out) | exact HB.out)⟩
      ·rw [if_neg c62] at H
       exact absurd H (by simp)
     ·rw [if_neg c58] at H
      have c58b0 : ((Int.tmod a1 4) == 2) = false := beq_eq_false_iff_ne.mpr c58
      have c58b1 : ((Int.tmod a1 4) != 2) = true := bne_iff_ne.mpr c58
      replace H := Option.bind_eq_some_iff.mp H
      obtain ⟨t313, A730, H⟩ := H
      replace H : (some t313) = some r := H
      have A73 := Aside0.mk A730
      clear A730
      obtain rfl := Option.some.inj H
      have hnb74 := NB311_286.out
      have hnc74 := NB286_311.out
      have hnb75 := NB311_301.out
      have hnc75 := NB301_311.out
      have hnb76 := NB311_302.out
      have hnc76 := NB302_311.out
      have hnb77 := NB311_312.out
      have hnc77 := NB312_311.out
      have hcz78_0 : wc.cell? ⟨gb311, 0, none⟩ = some (.int .i64 t303) := bc5 BK311 0
      have hcz78_1 : wc.cell? ⟨gb311, 1, none⟩ = some (.int .i64 t304) := bc5 BK311 1
      have hcz78_2 : wc.cell? ⟨gb311, 2, none⟩ = some (.int .i64 t305) := bc5 BK311 2
      have hcz78_3 : wc.cell? ⟨gb311, 3, none⟩ = some (.int .i64 t306) := bc5 BK311 3
      have hfz78_0 := blk_frozen BK311.out 0
      have hfz78_1 := blk_frozen BK311.out 1
      have hfz78_2 := blk_frozen BK311.out 2
      have hfz78_3 := blk_frozen BK311.out 3
      have hnb79 := NB312_286.out
      have hnc79 := NB286_312.out
      have hnb80 := NB312_301.out
      have hnc80 := NB301_312.out
      have hnb81 := NB312_302.out
      have hnc81 := NB302_312.out
      have hcz82_0 : wc.cell? ⟨gb312, 0, none⟩ = some (.int .i64 t307) := bc5 BK312 0
      have hcz82_1 : wc.cell? ⟨gb312, 1, none⟩ = some (.int .i64 t308) := bc5 BK312 1
      have hcz82_2 : wc.cell? ⟨gb312, 2, none⟩ = some (.int .i64 t309) := bc5 BK312 2
      have hcz82_3 : wc.cell? ⟨gb312, 3, none⟩ = some (.int .i64 t310) := bc5 BK312 3
      have hfz82_0 := blk_frozen BK312.out 0
      have hfz82_1 := blk_frozen BK312.out 1
      have hfz82_2 := blk_frozen BK312.out 2
      have hfz82_3 := blk_frozen BK312.out 3
      go_wp2_with (first | ((with_reducible refine gate_callee (f := 17) rfl ?_); refine goesL_ (some 44) rfl rfl Try.func17 (by kernel_rfl) rfl #[.agg #[.int .i64 t303, .int .i64 t304, .int .i64 t305, .int .i64 t306], .agg #[.int .i64 t307, .int .i64 t308, .int .i64 t309, .int .i64 t310]] rfl (by (try simp only [List.map_toArray, List.map_cons, List.map_nil]); first | done | rfl | (simp only [List.length_drop, List.length_take]; rfl)) ?_; (with_reducible refine (box_Meet.calls t303 t304 t305 t306 t307 t308 t309 t310 t313 _ A73.out).mono ?_); rintro e w83 ⟨rfl, hb⟩; refine ⟨_, rfl, ?_⟩; have n0_ := Aside0.mk (Kd.R_below (by (with_reducible repeat (first | apply Kd.R_alloc | apply Kd.R_drewN | apply Kd.R_drew)); exact HO_302010.out) hb); have n1_ := Aside0.mk (Kd.R_below (by (with_reducible repeat (first | apply Kd.R_alloc | apply Kd.R_drewN | apply Kd.R_drew)); exact HO_303010.out) hb); have n2_ := Aside0.mk (blk_below (bl5 BK286) hb); have n3_ := Aside0.mk (blk_below (bl5 BK301) hb); have n4_ := Aside0.mk (blk_below (bl5 BK302) hb); have n5_ := Aside0.mk (blk_below (bl5 BK311) hb); have n6_ := Aside0.mk (blk_below (bl5 BK312) hb); have n7_ := Aside0.mk (below_step bw5 hb); clear HO_302010; clear HO_303010; clear BK286; clear BK301; clear BK302; clear BK311; clear BK312; clear HB; have HO_302010 := n0_; have HO_303010 := n1_; have BK286 := n2_; have BK301 := n3_; have BK302 := n4_; have BK311 := n5_; have BK312 := n6_; have HB := n7_; clear n0_ n1_ n2_ n3_ n4_ n5_ n6_ n7_; (try clear hb); (try clear hb2); (try clear hk); (try clear hi)))
      go_ret
      exact ⟨by first | rfl | (simp [errW_none, errW_some] <;> rfl) | (simp [*, errW_none, errW_some] <;> rfl) | (simp [wrap64]; done) | (congr 2 <;> first | rfl | (unfold wrap64; omega)), by repeat (first | (with_reducible first | exact HB.out | apply below_alloc | apply pw_below_drewN | apply below_drew1 | refine below_set ?_ GE286.out | refine below_set ?_ GE301.out | refine below_set ?_ GE302.out | refine below_set ?_ GE311.out | refine below_set ?_ GE312.out) | exact HB.out)⟩
 ·replace c4 := Bool.eq_false_iff.mpr c4
  subst c4
  have H1 : (none) = some r := by rw [if_neg (show ¬ (false = true) by decide)] at H; exact H
  clear H
  have H := H1
  clear H1
  exact absurd H (by simp)

/-- The one pure statement of bagatellelaw06_BoxTurns. -/
def bagatellelaw06_BoxTurns.Pure : Prop := ∀ (a0_0 : Int) (a0_1 : Int) (a0_2 : Int) (a0_3 : Int) (a0_4 : Int) (a0_5 : Int) (a0_6 : Int) (a1 : Int), (Lit.int .i64 a0_0).wf = true → (Lit.int .i64 a0_1).wf = true → (Lit.int .i64 a0_2).wf = true → (Lit.int .i64 a0_3).wf = true → (Lit.int .i64 a0_4).wf = true → (Lit.int .i64 a0_5).wf = true → (Lit.int .i64 a0_6).wf = true → (Lit.int .u8 a1).wf = true → ∃ k, bagatellelaw06_BoxTurns.f k a0_0 a0_1 a0_2 a0_3 a0_4 a0_5 a0_6 a1 = some true
theorem bagatellelaw06_BoxTurns.walk (P : bagatellelaw06_BoxTurns.Pure) (a0_0 : Int) (a0_1 : Int) (a0_2 : Int) (a0_3 : Int) (a0_4 : Int) (a0_5 : Int) (a0_6 : Int) (a1 : Int) (w : World) (w0_0 : (Lit.int .i64 a0_0).wf = true) (w0_1 : (Lit.int .i64 a0_1).wf = true) (w0_2 : (Lit.int .i64 a0_2).wf = true) (w0_3 : (Lit.int .i64 a0_3).wf = true) (w0_4 : (Lit.int .i64 a0_4).wf = true) (w0_5 : (Lit.int .i64 a0_5).wf = true) (w0_6 : (Lit.int .i64 a0_6).wf = true) (w1 : (Lit.int .u8 a1).wf = true) :
  Calls Try.prog 5 #[.agg #[.int .i64 a0_0, .int .i64 a0_1, .int .i64 a0_2, .int .i64 a0_3, .int .i64 a0_4, .int .i64 a0_5, .int .i64 a0_6], .int .u8 a1] w fun e w' => e = .returned (.bool true) ∧ Below w.heap.size w w' := by
 obtain ⟨k, h⟩ := P a0_0 a0_1 a0_2 a0_3 a0_4 a0_5 a0_6 a1 w0_0 w0_1 w0_2 w0_3 w0_4 w0_5 w0_6 w1
 refine (bagatellelaw06_BoxTurns.calls k a0_0 a0_1 a0_2 a0_3 a0_4 a0_5 a0_6 a1 true w h).mono ?_
 rintro e w' ⟨rfl, hd⟩
 exact ⟨rfl, hd⟩

end Go.Proofs.Ytlbkpfcidpnhgaa.PBo
