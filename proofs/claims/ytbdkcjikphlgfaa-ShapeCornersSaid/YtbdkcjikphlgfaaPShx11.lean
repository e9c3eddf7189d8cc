-- Printed by a program of this session (wip/tools/myprint.py) out of the translation; Lean checks it.
import Derived.Test.YtbdkcjikphlgfaaPShx0
import Derived.Test.YtbdkcjikphlgfaaPShx2
import Derived.Test.YtbdkcjikphlgfaaPShx4
import Derived.Test.YtbdkcjikphlgfaaPShx9
namespace Go.Proofs.Ytbdkcjikphlgfaa.PSh
open Go.RowKit Go.Proofs.YtbdkcjikphlgfaaW.PrintWords Go.Proofs.YtbdkcjikphlgfaaW.PrintLast Go.Proofs.YtbdkcjikphlgfaaW.PrintMore
attribute [local go_sem] max2_int min2_int max_two min_two max_three min_three max_four min_four   -- for this text's walks alone
set_option linter.unusedVariables false
set_option linter.unusedSimpArgs false

/-! ### bagatellelaw04_ShapeBoxes: function 5 -/
def bagatellelaw04_ShapeBoxes.f (k : Nat) (a0 : Int) (a1 : Int) : Option (Bool) := (bagatellelaw04_fit.f k).bind fun t254 => (if t254 = true then (if (Go.bits .and .i64 a0 1099511627775) > 274877906944 then ((fix_Mul.f k (wrap64 (2 * (Go.bits .and .i64 a0 1099511627775))) (wrap64 (2 * (Go.bits .and .i64 a1 1099511627775)))).bind fun t255 => ((shape_Box.f (Go.bits .and .i64 a0 1099511627775) (Go.bits .and .i64 a1 1099511627775)).bind fun bt256 => ((shape_Right.f k bt256.1 bt256.2.1 bt256.2.2).bind fun t261 => (if (t261 == false) = true then ((shape_Box.f (wrap64 (-(Go.bits .and .i64 a0 1099511627775))) (Go.bits .and .i64 a1 1099511627775)).bind fun bt262 => ((shape_Right.f k bt262.1 bt262.2.1 bt262.2.2).bind fun t267 => (some (!t267)))) else (none))))) else ((fix_Mul.f k (wrap64 (2 * (Go.bits .and .i64 a0 1099511627775))) (wrap64 (2 * (Go.bits .and .i64 a1 1099511627775)))).bind fun t268 => ((shape_Box.f (Go.bits .and .i64 a0 1099511627775) (Go.bits .and .i64 a1 1099511627775)).bind fun bt269 => ((shape_Right.f k bt269.1 bt269.2.1 bt269.2.2).bind fun t274 => (if ((Go.bits .and .i64 a1 1099511627775) > 274877906944) then (if (t274 == false) = true then ((shape_Box.f (wrap64 (-(Go.bits .and .i64 a0 1099511627775))) (Go.bits .and .i64 a1 1099511627775)).bind fun bt275 => ((shape_Right.f k bt275.1 bt275.2.1 bt275.2.2).bind fun t280 => (some (!t280)))) else (none)) else (if (t274 == (!(t268 == 0))) = true then ((shape_Box.f (wrap64 (-(Go.bits .and .i64 a0 1099511627775))) (Go.bits .and .i64 a1 1099511627775)).bind fun bt281 => ((shape_Right.f k bt281.1 bt281.2.1 bt281.2.2).bind fun t286 => (some (!t286)))) else (none))))))) else (none))
theorem bagatellelaw04_ShapeBoxes.mono : ∀ a0 a1 k, LeO (bagatellelaw04_ShapeBoxes.f k a0 a1) (bagatellelaw04_ShapeBoxes.f (k + 1) a0 a1) := by
 intro a0 a1 k
 unfold bagatellelaw04_ShapeBoxes.f
 repeat' first
   | (with_reducible exact bagatellelaw04_fit.mono _)
   | (with_reducible exact fix_Mul.mono _ _ _)
   | (with_reducible exact shape_Right.mono _ _ _ _)
   | (with_reducible exact LeO.refl _)
   | (with_reducible exact LeO.none _)
   | (with_reducible refine LeO.ite ?_ ?_)
   | (with_reducible refine LeO.bind ?_ (fun _ => ?_))
   | exact bagatellelaw04_fit.mono _
   | exact fix_Mul.mono _ _ _
   | exact shape_Right.mono _ _ _ _
   | exact LeO.none _
   | refine LeO.ite ?_ ?_
   | refine LeO.bind ?_ (fun _ => ?_)
set_option maxHeartbeats 8000000 in
set_option maxRecDepth 100000 in
theorem bagatellelaw04_ShapeBoxes.calls (k : Nat) (a0 : Int) (a1 : Int) (r : Bool) (w : World) (h : bagatellelaw04_ShapeBoxes.f k a0 a1 = some r) :
  Calls Try.prog 5 #[.int .i64 a0, .int .i64 a1] w fun e w' => e = .returned (.bool r) ∧ Below w.heap.size w w' := by
 have HB := Aside0.mk (Below.refl w.heap.size w)
 have H : ((bagatellelaw04_fit.f k).bind fun t254 => (if t254 = true then (if (Go.bits .and .i64 a0 1099511627775) > 274877906944 then ((fix_Mul.f k (wrap64 (2 * (Go.bits .and .i64 a0 1099511627775))) (wrap64 (2 * (Go.bits .and .i64 a1 1099511627775)))).bind fun t255 => ((shape_Box.f (Go.bits .and .i64 a0 1099511627775) (Go.bits .and .i64 a1 1099511627775)).bind fun bt256 => ((shape_Right.f k bt256.1 bt256.2.1 bt256.2.2).bind fun t261 => (if (t261 == false) = true then ((shape_Box.f (wrap64 (-(Go.bits .and .i64 a0 1099511627775))) (Go.bits .and .i64 a1 1099511627775)).bind fun bt262 => ((shape_Right.f k bt262.1 bt262.2.1 bt262.2.2).bind fun t267 => (some (!t267)))) else (none))))) else ((fix_Mul.f k (wrap64 (2 * (Go.bits .and .i64 a0 1099511627775))) (wrap64 (2 * (Go.bits .and .i64 a1 1099511627775)))).bind fun t268 => ((shape_Box.f (Go.bits .and .i64 a0 1099511627775) (Go.bits .and .i64 a1 1099511627775)).bind fun bt269 => ((shape_Right.f k bt269.1 bt269.2.1 bt269.2.2).bind fun t274 => (if ((Go.bits .and .i64 a1 1099511627775) > 274877906944) then (if (t274 == false) = true then ((shape_Box.f (wrap64 (-(Go.bits .and .i64 a0 1099511627775))) (Go.bits .and .i64 a1 1099511627775)).bind fun bt275 => ((shape_Right.f k bt275.1 bt275.2.1 bt275.2.2).bind fun t280 => (some (!t280)))) else (none)) else (if (t274 == (!(t268 == 0))) = true then ((shape_Box.f (wrap64 (-(Go.bits .and .i64 a0 1099511627775))) (Go.bits .and .i64 a1 1099511627775)).bind fun bt281 => ((shape_Right.f k bt281.1 bt281.2.1 bt281.2.2).bind fun t286 => (some (!t286)))) else (none))))))) else (none))) = some r := h
 clear h
 replace H := Option.bind_eq_some_iff.mp H
 obtain ⟨t254, A30, H⟩ := H
 replace H : (if t254 = true then (if (Go.bits .and .i64 a0 1099511627775) > 274877906944 then ((fix_Mul.f k (wrap64 (2 * (Go.bits .and .i64 a0 1099511627775))) (wrap64 (2 * (Go.bits .and .i64 a1 1099511627775)))).bind fun t255 => ((shape_Box.f (Go.bits .and .i64 a0 1099511627775) (Go.bits .and .i64 a1 1099511627775)).bind fun bt256 => ((shape_Right.f k bt256.1 bt256.2.1 bt256.2.2).bind fun t261 => (if (t261 == false) = true then ((shape_Box.f (wrap64 (-(Go.bits .and .i64 a0 1099511627775))) (Go.bits .and .i64 a1 1099511627775)).bind fun bt262 => ((shape_Right.f k bt262.1 bt262.2.1 bt262.2.2).bind fun t267 => (some (!t267)))) else (none))))) else ((fix_Mul.f k (wrap64 (2 * (Go.bits .and .i64 a0 1099511627775))) (wrap64 (2 * (Go.bits .and .i64 a1 1099511627775)))).bind fun t268 => ((shape_Box.f (Go.bits .and .i64 a0 1099511627775) (Go.bits .and .i64 a1 1099511627775)).bind fun bt269 => ((shape_Right.f k bt269.1 bt269.2.1 bt269.2.2).bind fun t274 => (if ((Go.bits .and .i64 a1 1099511627775) > 274877906944) then (if (t274 == false) = true then ((shape_Box.f (wrap64 (-(Go.bits .and .i64 a0 1099511627775))) (Go.bits .and .i64 a1 1099511627775)).bind fun bt275 => ((shape_Right.f k bt275.1 bt275.2.1 bt275.2.2).bind fun t280 => (some (!t280)))) else (none)) else (if (t274 == (!(t268 == 0))) = true then ((shape_Box.f (wrap64 (-(Go.bits .and .i64 a0 1099511627775))) (Go.bits .and .i64 a1 1099511627775)).bind fun bt281 => ((shape_Right.f k bt281.1 bt281.2.1 bt281.2.2).bind fun t286 => (some (!t286)))) else (none))))))) else (none)) = some r := H
 have A3 := Aside0.mk A30
 clear A30
 by_cases c4 : t254 = true
 ·subst c4
  have H1 : (if (Go.bits .and .i64 a0 1099511627775) > 274877906944 then ((fix_Mul.f k (wrap64 (2 * (Go.bits .and .i64 a0 1099511627775))) (wrap64 (2 * (Go.bits .and .i64 a1 1099511627775)))).bind fun t255 => ((shape_Box.f (Go.bits .and .i64 a0 1099511627775) (Go.bits .and .i64 a1 1099511627775)).bind fun bt256 => ((shape_Right.f k bt256.1 bt256.2.1 bt256.2.2).bind fun t261 => (if (t261 == false) = true then ((shape_Box.f (wrap64 (-(Go.bits .and .i64 a0 1099511627775))) (Go.bits .and .i64 a1 1099511627775)).bind fun bt262 => ((shape_Right.f k bt262.1 bt262.2.1 bt262.2.2).bind fun t267 => (some (!t267)))) else (none))))) else ((fix_Mul.f k (wrap64 (2 * (Go.bits .and .i64 a0 1099511627775))) (wrap64 (2 * (Go.bits .and .i64 a1 1099511627775)))).bind fun t268 => ((shape_Box.f (Go.bits .and .i64 a0 1099511627775) (Go.bits .and .i64 a1 1099511627775)).bind fun bt269 => ((shape_Right.f k bt269.1 bt269.2.1 bt269.2.2).bind fun t274 => (if ((Go.bits .and .i64 a1 1099511627775) > 274877906944) then (if (t274 == false) = true then ((shape_Box.f (wrap64 (-(Go.bits .and .i64 a0 1099511627775))) (Go.bits .and .i64 a1 1099511627775)).bind fun bt275 => ((shape_Right.f k bt275.1 bt275.2.1 bt275.2.2).bind fun t280 => (some (!t280)))) else (none)) else (if (t274 == (!(t268 == 0))) = true then ((shape_Box.f (wrap64 (-(Go.bits .and .i64 a0 1099511627775))) (Go.bits .and .i64 a1 1099511627775)).bind fun bt281 => ((shape_Right.f k bt281.1 bt281.2.1 bt281.2.2).bind fun t286 => (some (!t286)))) else (none))))))) = some r := by rw [if_pos rfl] at H; exact H
  clear H
  have H := H1
  clear H1
  by_cases c5 : (Go.bits .and .i64 a0 1099511627775) > 274877906944
  ·rw [if_pos c5] at H
   have c5b0 : decide (274877906944 < (Go.bits .and .i64 a0 1099511627775)) = true := decide_eq_true c5
   clear c5
   replace H := Option.bind_eq_some_iff.mp H
   obtain ⟨t255, A60, H⟩ := H
   replace H : ((shape_Box.f (Go.bits .and .i64 a0 1099511627775) (Go.bits .and .i64 a1 1099511627775)).bind fun bt256 => ((shape_Right.f k bt256.1 bt256.2.1 bt256.2.2).bind fun t261 => (if (t261 == false) = true then ((shape_Box.f (wrap64 (-(Go.bits .and .i64 a0 1099511627775))) (Go.bits .and .i64 a1 1099511627775)).bind fun bt262 => ((shape_Right.f k bt262.1 bt262.2.1 bt262.2.2).bind fun t267 => (some (!t267)))) else (none)))) = some r := H
   have A6 := Aside0.mk A60
   clear A60
   replace H := Option.bind_eq_some_iff.mp H
   obtain ⟨⟨t256, t257, t258⟩, A70, H⟩ := H
   replace H : ((shape_Right.f k t256 t257 t258).bind fun t261 => (if (t261 == false) = true then ((shape_Box.f (wrap64 (-(Go.bits .and .i64 a0 1099511627775))) (Go.bits .and .i64 a1 1099511627775)).bind fun bt262 => ((shape_Right.f k bt262.1 bt262.2.1 bt262.2.2).bind fun t267 => (some (!t267)))) else (none))) = some r := H
   have A7 := Aside0.mk A70
   clear A70
   replace H := Option.bind_eq_some_iff.mp H
   obtain ⟨t261, A80, H⟩ := H
   replace H : (if (t261 == false) = true then ((shape_Box.f (wrap64 (-(Go.bits .and .i64 a0 1099511627775))) (Go.bits .and .i64 a1 1099511627775)).bind fun bt262 => ((shape_Right.f k bt262.1 bt262.2.1 bt262.2.2).bind fun t267 => (some (!t267)))) else (none)) = some r := H
   have A8 := Aside0.mk A80
   clear A80
   by_cases c9 : (t261 == false) = true
   ·rw [if_pos c9] at H
    have c9b0 : (t261 == false) = true := c9
    (try (have c9b1 : decide (t261 = false) = true := by simpa using c9))
    (try (have c9b2 : (t261 == false) = true := by simpa using c9))
    clear c9
    replace H := Option.bind_eq_some_iff.mp H
    obtain ⟨⟨t262, t263, t264⟩, A100, H⟩ := H
    replace H : ((shape_Right.f k t262 t263 t264).bind fun t267 => (some (!t267))) = some r := H
    have A10 := Aside0.mk A100
    clear A100
    replace H := Option.bind_eq_some_iff.mp H
    obtain ⟨t267, A110, H⟩ := H
    replace H : (some (!t267)) = some r := H
    have A11 := Aside0.mk A110
    clear A110
    obtain rfl := Option.some.inj H
    go_enter Try.func5, Try.ntmps5
    go_wp2_with (first | ((with_reducible refine gate_callee (f := 8) rfl ?_); refine goesL_ (some 7) rfl rfl Try.func8 (by kernel_rfl) rfl #[] rfl (by (try simp only [List.map_toArray, List.map_cons, List.map_nil]); first | done | rfl | (simp only [List.length_drop, List.length_take]; rfl)) ?_; (with_reducible refine (bagatellelaw04_fit.calls k  true _ A3.out).mono ?_); rintro e w12 ⟨rfl, hb⟩; refine ⟨_, rfl, ?_⟩; have n0_ := Aside0.mk (below_step (by repeat (first | (with_reducible first | exact HB.out | apply below_alloc | apply pw_below_drewN | apply below_drew1) | exact HB.out)) hb); clear HB; have HB := n0_; clear n0_; (try clear hb); (try clear hb2); (try clear hk); (try clear hi)) | ((with_reducible refine gate_callee (f := 16) rfl ?_); refine goesL_ (some 23) rfl rfl Try.func16 (by kernel_rfl) rfl #[.int .i64 (wrap64 (2 * (Go.bits .and .i64 a0 1099511627775))), .int .i64 (wrap64 (2 * (Go.bits .and .i64 a1 1099511627775)))] rfl (by (try simp only [List.map_toArray, List.map_cons, List.map_nil]); first | done | rfl | (simp only [List.length_drop, List.length_take]; rfl)) ?_; (with_reducible refine (fix_Mul.calls k (wrap64 (2 * (Go.bits .and .i64 a0 1099511627775))) (wrap64 (2 * (Go.bits .and .i64 a1 1099511627775))) t255 _ A6.out).mono ?_); rintro e w13 ⟨rfl, hb⟩; refine ⟨_, rfl, ?_⟩; have n0_ := Aside0.mk (below_step (by repeat (first | (with_reducible first | exact HB.out | apply below_alloc | apply pw_below_drewN | apply below_drew1) | exact HB.out)) hb); clear HB; have HB := n0_; clear n0_; (try clear hb); (try clear hb2); (try clear hk); (try clear hi)) | ((with_reducible refine gate_callee (f := 17) rfl ?_); refine goesL_ (some 27) rfl rfl Try.func17 (by kernel_rfl) rfl #[.int .i64 (Go.bits .and .i64 a0 1099511627775), .int .i64 (Go.bits .and .i64 a1 1099511627775)] rfl (by (try simp only [List.map_toArray, List.map_cons, List.map_nil]); first | done | rfl | (simp only [List.length_drop, List.length_take]; rfl)) ?_; (with_reducible refine (shape_Box.calls (Go.bits .and .i64 a0 1099511627775) (Go.bits .and .i64 a1 1099511627775) t256 t257 t258 _ A7.out).mono ?_); rintro e w14 ⟨v259, rfl, ho0, hb⟩; refine ⟨_, rfl, ?_⟩; have n0_ := Aside0.mk (Kd.R_lower ho0 (below_size (by repeat (first | (with_reducible first | exact HB.out | apply below_alloc | apply pw_below_drewN | apply below_drew1) | exact HB.out)))); have n1_ := Aside0.mk (below_step (by repeat (first | (with_reducible first | exact HB.out | apply below_alloc | apply pw_below_drewN | apply below_drew1) | exact HB.out)) hb); clear HB; have HO260 := n0_; have HB := n1_; clear n0_ n1_; (try clear hb); (try clear hb2); (try clear hk); (try clear hi); (try clear ho0); obtain ⟨Ao15, co15, eo15⟩ := Kd.R_slice HO260.out; subst eo15) | ((with_reducible refine gate_callee (f := 9) rfl ?_); refine goesL_ (some 28) rfl rfl Try.func9 (by kernel_rfl) rfl #[.agg #[.int .i64 t256, .int .i64 t257, .slice Ao15 t258.length co15]] rfl (by (try simp only [List.map_toArray, List.map_cons, List.map_nil]); first | done | rfl | (simp only [List.length_drop, List.length_take]; rfl)) ?_; (with_reducible refine (shape_Right.calls k t256 t257 _ _ t258 t261 _ ?side1 ?side2 A8.out).mono ?_); (case side1 => repeat (first | exact (Kd.R_reads' HO260.out).2.2 | (with_reducible refine Kd.C_alloc ?_ _) | (with_reducible refine Kd.C_drewN ?_ _) | (with_reducible refine Kd.C_drew ?_))); (case side2 => exact (Kd.R_reads' HO260.out).2.1); rintro e w16 ⟨rfl, hb⟩; refine ⟨_, rfl, ?_⟩; have n0_ := Aside0.mk (Kd.R_below (by (with_reducible repeat (first | apply Kd.R_alloc | apply Kd.R_drewN | apply Kd.R_drew)); exact HO260.out) hb); have n1_ := Aside0.mk (below_step (by repeat (first | (with_reducible first | exact HB.out | apply below_alloc | apply pw_below_drewN | apply below_drew1) | exact HB.out)) hb); clear HO260; clear HB; have HO260 := n0_; have HB := n1_; clear n0_ n1_; (try clear hb); (try clear hb2); (try clear hk); (try clear hi)) | (go_at_call 17; (with_reducible refine (shape_Box.calls (wrap64 (-(Go.bits .and .i64 a0 1099511627775))) (Go.bits .and .i64 a1 1099511627775) t262 t263 t264 _ A10.out).mono ?_); rintro e w17 ⟨v265, rfl, ho0, hb⟩; have n0_ := Aside0.mk (Kd.R_elder' (by (with_reducible repeat (first | apply Kd.R_alloc | apply Kd.R_drewN | apply Kd.R_drew)); exact HO260.out) (Kd.R_base ho0) hb); have n1_ := Aside0.mk (Kd.R_lower (Kd.R_new' ho0 (Kd.R_lt (by (with_reducible repeat (first | apply Kd.R_alloc | apply Kd.R_drewN | apply Kd.R_drew)); exact HO260.out))) (below_size (by repeat (first | (with_reducible first | exact HB.out | apply below_alloc | apply pw_below_drewN | apply below_drew1) | exact HB.out)))); have n2_ := Aside0.mk (below_step (by repeat (first | (with_reducible first | exact HB.out | apply below_alloc | apply pw_below_drewN | apply below_drew1) | exact HB.out)) hb); clear HO260; clear HB; have HO260 := n0_; have HO266 := n1_; have HB := n2_; clear n0_ n1_ n2_; (try clear hb); (try clear hb2); (try clear hk); (try clear hi); (try clear ho0); obtain ⟨Ao18, co18, eo18⟩ := Kd.R_slice HO266.out; subst eo18) | (go_at_call 9; (with_reducible refine (shape_Right.calls k t262 t263 _ _ t264 t267 _ ?side1 ?side2 A11.out).mono ?_); (case side1 => repeat (first | exact (Kd.R_reads' HO266.out).2.2 | (with_reducible refine Kd.C_alloc ?_ _) | (with_reducible refine Kd.C_drewN ?_ _) | (with_reducible refine Kd.C_drew ?_))); (case side2 => exact (Kd.R_reads' HO266.out).2.1); rintro e w19 ⟨rfl, hb⟩; have n0_ := Aside0.mk (Kd.R_below (by (with_reducible repeat (first | apply Kd.R_alloc | apply Kd.R_drewN | apply Kd.R_drew)); exact HO260.out) hb); have n1_ := Aside0.mk (Kd.R_below (by (with_reducible repeat (first | apply Kd.R_alloc | apply Kd.R_drewN | apply Kd.R_drew)); exact HO266.out) hb); have n2_ := Aside0.mk (below_step (by repeat (first | (with_reducible first | exact HB.out | apply below_alloc | apply pw_below_drewN | apply below_drew1) | exact HB.out)) hb); clear HO260; clear HO266; clear HB; have HO260 := n0_; have HO266 := n1_; have HB := n2_; clear n0_ n1_ n2_; (try clear hb); (try clear hb2); (try clear hk); (try clear hi)))
    go_ret
    exact ⟨by first | rfl | (simp [errW_none, errW_some] <;> rfl) | (simp [*, errW_none, errW_some] <;> rfl) | (simp [wrap64]; done) | (congr 2 <;> first | rfl | (unfold wrap64; omega)), by repeat (first | (with_reducible first | exact HB.out | apply below_alloc | apply pw_below_drewN | apply below_drew1) | exact HB.out)⟩
   ·rw [if_neg c9] at H
    exact absurd H (by simp)
  ·rw [if_neg c5] at H
   have c5b0 : decide (274877906944 < (Go.bits .and .i64 a0 1099511627775)) = false := decide_eq_false c5
   clear c5
   replace H := Option.bind_eq_some_iff.mp H
   obtain ⟨t268, A200, H⟩ := H
   replace H : ((shape_Box.f (Go.bits .and .i64 a0 1099511627775) (Go.bits .and .i64 a1 1099511627775)).bind fun bt269 => ((shape_Right.f k bt269.1 bt269.2.1 bt269.2.2).bind fun t274 => (if ((Go.bits .and .i64 a1 1099511627775) > 274877906944) then (if (t274 == false) = true then ((shape_Box.f (wrap64 (-(Go.bits .and .i64 a0 1099511627775))) (Go.bits .and .i64 a1 1099511627775)).bind fun bt275 => ((shape_Right.f k bt275.1 bt275.2.1 bt275.2.2).bind fun t280 => (some (!t280)))) else (none)) else (if (t274 == (!(t268 == 0))) = true then ((shape_Box.f (wrap64 (-(Go.bits .and .i64 a0 1099511627775))) (Go.bits .and .i64 a1 1099511627775)).bind fun bt281 => ((shape_Right.f k bt281.1 bt281.2.1 bt281.2.2).bind fun t286 => (some (!t286)))) else (none))))) = some r := H
   have A20 := Aside0.mk A200
   clear A200
   replace H := Option.bind_eq_some_iff.mp H
   obtain ⟨⟨t269, t270, t271⟩, A210, H⟩ := H
   replace H : ((shape_Right.f k t269 t270 t271).bind fun t274 => (if ((Go.bits .and .i64 a1 1099511627775) > 274877906944) then (if (t274 == false) = true then ((shape_Box.f (wrap64 (-(Go.bits .and .i64 a0 1099511627775))) (Go.bits .and .i64 a1 1099511627775)).bind fun bt275 => ((shape_Right.f k bt275.1 bt275.2.1 bt275.2.2).bind fun t280 => (some (!t280)))) else (none)) else (if (t274 == (!(t268 == 0))) = true then ((shape_Box.f (wrap64 (-(Go.bits .and .i64 a0 1099511627775))) (Go.bits .and .i64 a1 1099511627775)).bind fun bt281 => ((shape_Right.f k bt281.1 bt281.2.1 bt281.2.2).bind fun t286 => (some (!t286)))) else (none)))) = some r := H
   have A21 := Aside0.mk A210
   clear A210
   replace H := Option.bind_eq_some_iff.mp H
   obtain ⟨t274, A220, H⟩ := H
   replace H : (if ((Go.bits .and .i64 a1 1099511627775) > 274877906944) then (if (t274 == false) = true then ((shape_Box.f (wrap64 (-(Go.bits .and .i64 a0 1099511627775))) (Go.bits .and .i64 a1 1099511627775)).bind fun bt275 => ((shape_Right.f k bt275.1 bt275.2.1 bt275.2.2).bind fun t280 => (some (!t280)))) else (none)) else (if (t274 == (!(t268 == 0))) = true then ((shape_Box.f (wrap64 (-(Go.bits .and .i64 a0 1099511627775))) (Go.bits .and .i64 a1 1099511627775)).bind fun bt281 => ((shape_Right.f k bt281.1 bt281.2.1 bt281.2.2).bind fun t286 => (some (!t286)))) else (none))) = some r := H
   have A22 := Aside0.mk A220
   clear A220
   by_cases c23 : ((Go.bits .and .i64 a1 1099511627775) > 274877906944)
   ·rw [if_pos c23] at H
    have c23b0 : decide (274877906944 < (Go.bits .and .i64 a1 1099511627775)) = true := decide_eq_true c23
    clear c23
    by_cases c24 : (t274 == false) = true
    ·rw [if_pos c24] at H
     have c24b0 : (t274 == false) = true := c24
     (try (have c24b1 : decide (t274 = false) = true := by simpa using c24))
     (try (have c24b2 : (t274 == false) = true := by simpa using c24))
     clear c24
     replace H := Option.bind_eq_some_iff.mp H
     obtain ⟨⟨t275, t276, t277⟩, A250, H⟩ := H
     replace H : ((shape_Right.f k t275 t276 t277).bind fun t280 => (some (!t280))) = some r := H
     have A25 := Aside0.mk A250
     clear A250
     replace H := Option.bind_eq_some_iff.mp H
     obtain ⟨t280, A260, H⟩ := H
     replace H : (some (!t280)) = some r := H
     have A26 := Aside0.mk A260
     clear A260
     obtain rfl := Option.some.inj H
     go_enter Try.func5, Try.ntmps5
     go_wp2_with (first | ((with_reducible refine gate_callee (f := 8) rfl ?_); refine goesL_ (some 7) rfl rfl Try.func8 (by kernel_rfl) rfl #[] rfl (by (try simp only [List.map_toArray, List.map_cons, List.map_nil]); first | done | rfl | (simp only [List.length_drop, List.length_take]; rfl)) ?_; (with_reducible refine (bagatellelaw04_fit.calls k  true _ A3.out).mono ?_); rintro e w27 ⟨rfl, hb⟩; refine ⟨_, rfl, ?_⟩; have n0_ := Aside0.mk (below_step (by repeat (first | (with_reducible first | exact HB.out | apply below_alloc | apply pw_below_drewN | apply below_drew1) | exact HB.out)) hb); clear HB; have HB := n0_; clear n0_; (try clear hb); (try clear hb2); (try clear hk); (try clear hi)) | ((with_reducible refine gate_callee (f := 16) rfl ?_); refine goesL_ (some 23) rfl rfl Try.func16 (by kernel_rfl) rfl #[.int .i64 (wrap64 (2 * (Go.bits .and .i64 a0 1099511627775))), .int .i64 (wrap64 (2 * (Go.bits .and .i64 a1 1099511627775)))] rfl (by (try simp only [List.map_toArray, List.map_cons, List.map_nil]); first | done | rfl | (simp only [List.length_drop, List.length_take]; rfl)) ?_; (with_reducible refine (fix_Mul.calls k (wrap64 (2 * (Go.bits .and .i64 a0 1099511627775))) (wrap64 (2 * (Go.bits .and .i64 a1 1099511627775))) t268 _ A20.out).mono ?_); rintro e w28 ⟨rfl, hb⟩; refine ⟨_, rfl, ?_⟩; have n0_ := Aside0.mk (below_step (by repeat (first | (with_reducible first | exact HB.out | apply below_alloc | apply pw_below_drewN | apply below_drew1) | exact HB.out)) hb); clear HB; have HB := n0_; clear n0_; (try clear hb); (try clear hb2); (try clear hk); (try clear hi)) | ((with_reducible refine gate_callee (f := 17) rfl ?_); refine goesL_ (some 27) rfl rfl Try.func17 (by kernel_rfl) rfl #[.int .i64 (Go.bits .and .i64 a0 1099511627775), .int .i64 (Go.bits .and .i64 a1 1099511627775)] rfl (by (try simp only [List.map_toArray, List.map_cons, List.map_nil]); first | done | rfl | (simp only [List.length_drop, List.length_take]; rfl)) ?_; (with_reducible refine (shape_Box.calls (Go.bits .and .i64 a0 1099511627775) (Go.bits .and .i64 a1 1099511627775) t269 t270 t271 _ A21.out).mono ?_); rintro e w29 ⟨v272, rfl, ho0, hb⟩; refine ⟨_, rfl, ?_⟩; have n0_ := Aside0.mk (Kd.R_lower ho0 (below_size (by repeat (first | (with_reducible first | exact HB.out | apply below_alloc | apply pw_below_drewN | apply below_drew1) | exact HB.out)))); have n1_ := Aside0.mk (below_step (by repeat (first | (with_reducible first | exact HB.out | apply below_alloc | apply pw_below_drewN | apply below_drew1) | exact HB.out)) hb); clear HB; have HO273 := n0_; have HB := n1_; clear n0_ n1_; (try clear hb); (try clear hb2); (try clear hk); (try clear hi); (try clear ho0); obtain ⟨Ao30, co30, eo30⟩ := Kd.R_slice HO273.out; subst eo30) | ((with_reducible refine gate_callee (f := 9) rfl ?_); refine goesL_ (some 28) rfl rfl Try.func9 (by kernel_rfl) rfl #[.agg #[.int .i64 t269, .int .i64 t270, .slice Ao30 t271.length co30]] rfl (by (try simp only [List.map_toArray, List.map_cons, List.map_nil]); first | done | rfl | (simp only [List.length_drop, List.length_take]; rfl)) ?_; (with_reducible refine (shape_Right.calls k t269 t270 _ _ t271 t274 _ ?side1 ?side2 A22.out).mono ?_); (case side1 => repeat (first | exact (Kd.R_reads' HO273.out).2.2 | (with_reducible refine Kd.C_alloc ?_ _) | (with_reducible refine Kd.C_drewN ?_ _) | (with_reducible refine Kd.C_drew ?_))); (case side2 => exact (Kd.R_reads' HO273.out).2.1); rintro e w31 ⟨rfl, hb⟩; refine ⟨_, rfl, ?_⟩; have n0_ := Aside0.mk (Kd.R_below (by (with_reducible repeat (first | apply Kd.R_alloc | apply Kd.R_drewN | apply Kd.R_drew)); exact HO273.out) hb); have n1_ := Aside0.mk (below_step (by repeat (first | (with_reducible first | exact HB.out | apply below_alloc | apply pw_below_drewN | apply below_drew1) | exact HB.out)) hb); clear HO273; clear HB; have HO273 := n0_; have HB := n1_; clear n0_ n1_; (try clear hb); (try clear hb2); (try clear hk); (try clear hi)) | (go_at_call 17; (with_reducible refine (shape_Box.calls (wrap64 (-(Go.bits .and .i64 a0 1099511627775))) (Go.bits .and .i64 a1 1099511627775) t275 t276 t277 _ A25.out).mono ?_); rintro e w32 ⟨v278, rfl, ho0, hb⟩; have n0_ := Aside0.mk (Kd.R_elder' (by (with_reducible repeat (first | apply Kd.R_alloc | apply Kd.R_drewN | apply Kd.R_drew)); exact HO273.out) (Kd.R_base ho0) hb); have n1_ := Aside0.mk (Kd.R_lower (Kd.R_new' ho0 (Kd.R_lt (by (with_reducible repeat (first | apply Kd.R_alloc | apply Kd.R_drewN | apply Kd.R_drew)); exact HO273.out))) (below_size (by repeat (first | (with_reducible first | exact HB.out | apply below_alloc | apply pw_below_drewN | apply below_drew1) | exact HB.out)))); have n2_ := Aside0.mk (below_step (by repeat (first | (with_reducible first | exact HB.out | apply below_alloc | apply pw_below_drewN | apply below_drew1) | exact HB.out)) hb); clear HO273; clear HB; have HO273 := n0_; have HO279 := n1_; have HB := n2_; clear n0_ n1_ n2_; (try clear hb); (try clear hb2); (try clear hk); (try clear hi); (try clear ho0); obtain ⟨Ao33, co33, eo33⟩ := Kd.R_slice HO279.out; subst eo33) | (go_at_call 9; (with_reducible refine (shape_Right.calls k t275 t276 _ _ t277 t280 _ ?side1 ?side2 A26.out).mono ?_); (case side1 => repeat (first | exact (Kd.R_reads' HO279.out).2.2 | (with_reducible refine Kd.C_alloc ?_ _) | (with_reducible refine Kd.C_drewN ?_ _) | (with_reducible refine Kd.C_drew ?_))); (case side2 => exact (Kd.R_reads' HO279.out).2.1); rintro e w34 ⟨rfl, hb⟩; have n0_ := Aside0.mk (Kd.R_below (by (with_reducible repeat (first | apply Kd.R_alloc | apply Kd.R_drewN | apply Kd.R_drew)); exact HO273.out) hb); have n1_ := Aside0.mk (Kd.R_below (by (with_reducible repeat (first | apply Kd.R_alloc | apply Kd.R_drewN | apply Kd.R_drew)); exact HO279.out) hb); have n2_ := Aside0.mk (below_step (by repeat (first | (with_reducible first | exact HB.out | apply below_alloc | apply pw_below_drewN | apply below_drew1) | exact HB.out)) hb); clear HO273; clear HO279; clear HB; have HO273 := n0_; have HO279 := n1_; have HB := n2_; clear n0_ n1_ n2_; (try clear hb); (try clear hb2); (try clear hk); (try clear hi)))
     go_ret
     exact ⟨by first | rfl | (simp [errW_none, errW_some] <;> rfl) | (simp [*, errW_none, errW_some] <;> rfl) | (simp [wrap64]; done) | (congr 2 <;> first | rfl | (unfold wrap64; omega)), by repeat (first | (with_reducible first | exact HB.out | apply below_alloc | apply pw_below_drewN | apply below_drew1) | exact HB.out)⟩
    ·rw [if_neg c24] at H
     exact absurd H (by simp)
   ·rw [if_neg c23] at H
    have c23b0 : decide (274877906944 < (Go.bits .and .i64 a1 1099511627775)) = false := decide_eq_false c23
    clear c23
    by_cases c35 : (t274 == (!(t268 == 0))) = true
    ·rw [if_pos c35] at H
     have c35b0 : (t274 == (!(t268 == 0))) = true := c35
     (try (have c35b1 : decide (t274 = (!(t268 == 0))) = true := by simpa using c35))
     (try (have c35b2 : (t274 == (!(t268 == 0))) = true := by simpa using c35))
     clear c35
     replace H := Option.bind_eq_some_iff.mp H
     obtain ⟨⟨t281, t282, t283⟩, A360, H⟩ := H
     replace H : ((shape_Right.f k t281 t282 t283).bind fun t286 => (some (!t286))) = some r := H
     have A36 := Aside0.mk A360
     clear A360
     replace H := Option.bind_eq_some_iff.mp H
     obtain ⟨t286, A370, H⟩ := H
     replace H : (some (!t286)) = some r := H
     have A37 := Aside0.mk A370
     clear A370
     obtain rfl := Option.some.inj H
     go_enter Try.func5, Try.ntmps5
     go_wp2_with (first | ((with_reducible refine gate_callee (f := 8) rfl ?_); refine goesL_ (some 7) rfl rfl Try.func8 (by kernel_rfl) rfl #[] rfl (by (try simp only [List.map_toArray, List.map_cons, List.map_nil]); first | done | rfl | (simp only [List.length_drop, List.length_take]; rfl)) ?_; (with_reducible refine (bagatellelaw04_fit.calls k  true _ A3.out).mono ?_); rintro e w38 ⟨rfl, hb⟩; refine ⟨_, rfl, ?_⟩; have n0_ := Aside0.mk (below_step (by repeat (first | (with_reducible first | exact HB.out | apply below_alloc | apply pw_below_drewN | apply below_drew1) | exact HB.out)) hb); clear HB; have HB := n0_; clear n0_; (try clear hb); (try clear hb2); (try clear hk); (try clear hi)) | ((with_reducible refine gate_callee (f := 16) rfl ?_); refine goesL_ (some 23) rfl rfl Try.func16 (by kernel_rfl) rfl #[.int .i64 (wrap64 (2 * (Go.bits .and .i64 a0 1099511627775))), .int .i64 (wrap64 (2 * (Go.bits .and .i64 a1 1099511627775)))] rfl (by (try simp only [List.map_toArray, List.map_cons, List.map_nil]); first | done | rfl | (simp only [List.length_drop, List.length_take]; rfl)) ?_; (with_reducible refine (fix_Mul.calls k (wrap64 (2 * (Go.bits .and .i64 a0 1099511627775))) (wrap64 (2 * (Go.bits .and .i64 a1 1099511627775))) t268 _ A20.out).mono ?_); rintro e w39 ⟨rfl, hb⟩; refine ⟨_, rfl, ?_⟩; have n0_ := Aside0.mk (below_step (by repeat (first | (with_reducible first | exact HB.out | apply below_alloc | apply pw_below_drewN | apply below_drew1) | exact HB.out)) hb); clear HB; have HB := n0_; clear n0_; (try clear hb); (try clear hb2); (try clear hk); (try clear hi)) | ((with_reducible refine gate_callee (f := 17) rfl ?_); refine goesL_ (some 27) rfl rfl Try.func17 (by kernel_rfl) rfl #[.int .i64 (Go.bits .and .i64 a0 1099511627775), .int .i64 (Go.bits .and .i64 a1 1099511627775)] rfl (by (try simp only [List.map_toArray, List.map_cons, List.map_nil]); first | done | rfl | (simp only [List.length_drop, List.length_take]; rfl)) ?_; (with_reducible refine (shape_Box.calls (Go.bits .and .i64 a0 1099511627775) (Go.bits .and .i64 a1 1099511627775) t269 t270 t271 _ A21.out).mono ?_); rintro e w40 ⟨v272, rfl, ho0, hb⟩; refine ⟨_, rfl, ?_⟩; have n0_ := Aside0.mk (Kd.R_lower ho0 (below_size (by repeat (first | (with_reducible first | exact HB.out | apply below_alloc | apply pw_below_drewN | apply below_drew1) | exact HB.out)))); have n1_ := Aside0.mk (below_step (by repeat (first | (with_reducible first | exact HB.out | apply below_alloc | apply pw_below_drewN | apply below_drew1) | exact HB.out)) hb); clear HB; have HO273 := n0_; have HB := n1_; clear n0_ n1_; (try clear hb); (try clear hb2); (try clear hk); (try clear hi); (try clear ho0); obtain ⟨Ao41, co41, eo41⟩ := Kd.R_slice HO273.out; subst eo41) | ((with_reducible refine gate_callee (f := 9) rfl ?_); refine goesL_ (some 28) rfl rfl Try.func9 (by kernel_rfl) rfl #[.agg #[.int .i64 t269, .int .i64 t270, .slice Ao41 t271.length co41]] rfl (by (try simp only [List.map_toArray, List.map_cons, List.map_nil]); first | done | rfl | (simp only [List.length_drop, List.length_take]; rfl)) ?_; (with_reducible refine (shape_Right.calls k t269 t270 _ _ t271 t274 _ ?side1 ?side2 A22.out).mono ?_); (case side1 => repeat (first | exact (Kd.R_reads' HO273.out).2.2 | (with_reducible refine Kd.C_alloc ?_ _) | (with_reducible refine Kd.C_drewN ?_ _) | (with_reducible refine Kd.C_drew ?_))); (case side2 => exact (Kd.R_reads' HO273.out).2.1); rintro e w42 ⟨rfl, hb⟩; refine ⟨_, rfl, ?_⟩; have n0_ := Aside0.mk (Kd.R_below (by (with_reducible repeat (first | apply Kd.R_alloc | apply Kd.R_drewN | apply Kd.R_drew)); exact HO273.out) hb); have n1_ := Aside0.mk (below_step (by repeat (first | (with_reducible first | exact HB.out | apply below_alloc | apply pw_below_drewN | apply below_drew1) | exact HB.out)) hb); clear HO273; clear HB; have HO273 := n0_; have HB := n1_; clear n0_ n1_; (try clear hb); (try clear hb2); (try clear hk); (try clear hi)) | (go_at_call 17; (with_reducible refine (shape_Box.calls (wrap64 (-(Go.bits .and .i64 a0 1099511627775))) (Go.bits .and .i64 a1 1099511627775) t281 t282 t283 _ A36.out).mono ?_); rintro e w43 ⟨v284, rfl, ho0, hb⟩; have n0_ := Aside0.mk (Kd.R_elder' (by (with_reducible repeat (first | apply Kd.R_alloc | apply Kd.R_drewN | apply Kd.R_drew)); exact HO273.out) (Kd.R_base ho0) hb); have n1_ := Aside0.mk (Kd.R_lower (Kd.R_new' ho0 (Kd.R_lt (by (with_reducible repeat (first | apply Kd.R_alloc | apply Kd.R_drewN | apply Kd.R_drew)); exact HO273.out))) (below_size (by repeat (first | (with_reducible first | exact HB.out | apply below_alloc | apply pw_below_drewN | apply below_drew1) | exact HB.out)))); have n2_ := Aside0.mk (below_step (by repeat (first | (with_reducible first | exact HB.out | apply below_alloc | apply pw_below_drewN | apply below_drew1) | exact HB.out)) hb); clear HO273; clear HB; have HO273 := n0_; have HO285 := n1_; have HB := n2_; clear n0_ n1_ n2_; (try clear hb); (try clear hb2); (try clear hk); (try clear hi); (try clear ho0); obtain ⟨Ao44, co44, eo44⟩ := Kd.R_slice HO285.out; subst eo44) | (go_at_call 9; (with_reducible refine (shape_Right.calls k t281 t282 _ _ t283 t286 _ ?side1 ?side2 A37.out).mono ?_); (case side1 => repeat (first | exact (Kd.R_reads' HO285.out).2.2 | (with_reducible refine Kd.C_alloc ?_ _) | (with_reducible refine Kd.C_drewN ?_ _) | (with_reducible refine Kd.C_drew ?_))); (case side2 => exact (Kd.R_reads' HO285.out).2.1); rintro e w45 ⟨rfl, hb⟩; have n0_ := Aside0.mk (Kd.R_below (by (with_reducible repeat (first | apply Kd.R_alloc | apply Kd.R_drewN | apply Kd.R_drew)); exact HO273.out) hb); have n1_ := Aside0.mk (Kd.R_below (by (with_reducible repeat (first | apply Kd.R_alloc | apply Kd.R_drewN | apply Kd.R_drew)); exact HO285.out) hb); have n2_ := Aside0.mk (below_step (by repeat (first | (with_reducible first | exact HB.out | apply below_alloc | apply pw_below_drewN | apply below_drew1) | exact HB.out)) hb); clear HO273; clear HO285; clear HB; have HO273 := n0_; have HO285 := n1_; have HB := n2_; clear n0_ n1_ n2_; (try clear hb); (try clear hb2); (try clear hk); (try clear hi)))
     go_ret
     exact ⟨by first | rfl | (simp [errW_none, errW_some] <;> rfl) | (simp [*, errW_none, errW_some] <;> rfl) | (simp [wrap64]; done) | (congr 2 <;> first | rfl | (unfold wrap64; omega)), by repeat (first | (with_reducible first | exact HB.out | apply below_alloc | apply pw_below_drewN | apply below_drew1) | exact HB.out)⟩
    ·rw [if_neg c35] at H
     exact absurd H (by simp)
 ·replace c4 := Bool.eq_false_iff.mpr c4
  subst c4
  have H1 : (none) = some r := by rw [if_neg (show ¬ (false = true) by decide)] at H; exact H
  clear H
  have H := H1
  clear H1
  exact absurd H (by simp)

/-- THE ONE PURE STATEMENT of bagatellelaw04_ShapeBoxes: yours. -/
def bagatellelaw04_ShapeBoxes.Pure : Prop := ∀ (a0 : Int) (a1 : Int), (Lit.int .i64 a0).wf = true → (Lit.int .i64 a1).wf = true → ∃ k, bagatellelaw04_ShapeBoxes.f k a0 a1 = some true
theorem bagatellelaw04_ShapeBoxes.walk (P : bagatellelaw04_ShapeBoxes.Pure) (a0 : Int) (a1 : Int) (w : World) (w0 : (Lit.int .i64 a0).wf = true) (w1 : (Lit.int .i64 a1).wf = true) :
  Calls Try.prog 5 #[.int .i64 a0, .int .i64 a1] w fun e w' => e = .returned (.bool true) ∧ Below w.heap.size w w' := by
 obtain ⟨k, h⟩ := P a0 a1 w0 w1
 refine (bagatellelaw04_ShapeBoxes.calls k a0 a1 true w h).mono ?_
 rintro e w' ⟨rfl, hd⟩
 exact ⟨rfl, hd⟩

/-! ### turn_Wrap: function 40 -/
def turn_Wrap.f (a0 : Int) : Option (Int) := some (Go.bits .and .i64 a0 4294967295)
set_option maxHeartbeats 8000000 in
set_option maxRecDepth 100000 in
theorem turn_Wrap.calls (a0 : Int) (r : Int) (w : World) (h : turn_Wrap.f a0 = some r) :
    Calls Try.prog 40 #[.int .i64 a0] w fun e w' => e = .returned (.int .i64 r) ∧ Drawn0 w w' := by
  have H : (some (Go.bits .and .i64 a0 4294967295)) = some r := h
  clear h
  obtain rfl := Option.some.inj H
  go_enter Try.func40, Try.ntmps40
  go_wp2
  go_ret
  exact ⟨by first | rfl | (simp; done) | (simp [*]; done) | (simp [wrap64]; done) | (congr 2 <;> first | rfl | (unfold wrap64; omega)), by repeat (first | exact Drawn0.refl _ | apply Drawn0.step)⟩

/-! ### turn_Step: function 35 -/
def turn_Step.f (a0 : Int) : Option (Int) := (turn_Wrap.f a0).bind fun t287 => (some (t287 / 4194304))
set_option maxHeartbeats 8000000 in
set_option maxRecDepth 100000 in
theorem turn_Step.calls (a0 : Int) (r : Int) (w : World) (h : turn_Step.f a0 = some r) :
  Calls Try.prog 35 #[.int .i64 a0] w fun e w' => e = .returned (.int .i64 r) ∧ Drawn0 w w' := by
 have H : ((turn_Wrap.f a0).bind fun t287 => (some (t287 / 4194304))) = some r := h
 clear h
 replace H := Option.bind_eq_some_iff.mp H
 obtain ⟨t287, A20, H⟩ := H
 replace H : (some (t287 / 4194304)) = some r := H
 have A2 := Aside0.mk A20
 clear A20
 obtain rfl := Option.some.inj H
 go_enter Try.func35, Try.ntmps35
 go_wp2_with (first | ((with_reducible refine gate_callee (f := 40) rfl ?_); refine goesL_ (some 4) rfl rfl Try.func40 (by kernel_rfl) rfl #[.int .i64 a0] rfl (by (try simp only [List.map_toArray, List.map_cons, List.map_nil]); first | done | rfl | (simp only [List.length_drop, List.length_take]; rfl)) ?_; (with_reducible refine (turn_Wrap.calls a0 t287 _ A2.out).mono ?_); rintro e w' ⟨rfl, ⟨nd, rfl⟩⟩; refine ⟨_, rfl, ?_⟩))
 go_ret
 exact ⟨by first | rfl | (simp; done) | (simp [*]; done) | (simp [wrap64]; done) | (congr 2 <;> first | rfl | (unfold wrap64; omega)), by repeat (first | exact Drawn0.refl _ | apply Drawn0.step)⟩

/-! ### api_Sine: function 41 -/
section
variable {P : Program}
theorem wpList_alloc_to {ops : Array Oper} {rest : List Oper} {o : Oper} {a : Act} {w : World} {Q : Exit → Act → World → Prop} (hg : o.guard = none) (t : TypeId) (ho : o.op = .alloc t)
    (d : Option Tmp) (hd : o.dst = d) (z : Array Value) (hz : (zeroValue t).run P w = .ok (.agg z) w)
    (h : wpList P ops Q rest (a.put d (.pointer (some ⟨w.heap.size, 0, none⟩))) (w.alloc (.cells z t))) : wpList P ops Q (o :: rest) a w := by
  subst hd
  refine wpList_plain hg fun K hK => ?_
  unfold Oper.wp execOp
  simp only [ho, Instr.alloc, Sem.run_bind, hz, Result.andThen_ok, newVar, newRow, Value.cells]
  go_simp
  exact hK _ _ h
theorem setRow_alloc (w : World) (z c : Array Value) (t : TypeId) : (w.alloc (.cells z t)).setRow w.heap.size c = w.alloc (.cells c t) := by
  unfold World.setRow World.alloc
  simp only [World.mk.injEq, and_true]
  apply Array.ext
  · simp
  · intro i h1 h2
    simp only [Array.getElem_modify, Array.getElem_push]
    by_cases hi : i < w.heap.size
    · simp [hi, Nat.ne_of_gt hi]
    · have : i = w.heap.size := by simp at h2; omega
      subst this; simp
theorem cell_alloc_row (w : World) (c : Array Value) (t : TypeId) (j : Nat) : (w.alloc (.cells c t)).cell? ⟨w.heap.size, j, none⟩ = c[j]? :=
  cell_of_row _ _ j c t (0, 0) (heap_alloc_new w _)
end
/-- The sines of the first quarter's 256 steps. -/
def sineTab : List Int := [0, 26353424, 52705856, 79056303, 105403774, 131747276, 158085819, 184418409, 210744057, 237061769, 263370557, 289669429, 315957395, 342233465, 368496651, 394745962, 420980412, 447199012, 473400776, 499584716, 525749847, 551895183, 578019742, 604122538, 630202589, 656258914, 682290530, 708296459, 734275721, 760227338, 786150333, 812043729, 837906553, 863737830, 889536587, 915301854, 941032661, 966728038, 992387019, 1018008636, 1043591926, 1069135926, 1094639673, 1120102207, 1145522571, 1170899806, 1196232957, 1221521071, 1246763195, 1271958380, 1297105676, 1322204136, 1347252816, 1372250773, 1397197066, 1422090755, 1446930903, 1471716574, 1496446837, 1521120759, 1545737412, 1570295869, 1594795204, 1619234497, 1643612827, 1667929275, 1692182927, 1716372869, 1740498191, 1764557983, 1788551342, 1812477362, 1836335144, 1860123788, 1883842400, 1907490086, 1931065957, 1954569124, 1977998702, 2001353810, 2024633568, 2047837100, 2070963532, 2094011993, 2116981616, 2139871536, 2162680890, 2185408821, 2208054473, 2230616993, 2253095531, 2275489241, 2297797281, 2320018810, 2342152991, 2364198992, 2386155981, 2408023134, 2429799626, 2451484637, 2473077351, 2494576955, 2515982640, 2537293599, 2558509031, 2579628136, 2600650120, 2621574191, 2642399561, 2663125446, 2683751066, 2704275644, 2724698408, 2745018589, 2765235421, 2785348143, 2805355999, 2825258235, 2845054101, 2864742853, 2884323748, 2903796051, 2923159027, 2942411948, 2961554089, 2980584729, 2999503152, 3018308645, 3037000500, 3055578014, 3074040487, 3092387225, 3110617535, 3128730733, 3146726136, 3164603066, 3182360851, 3199998822, 3217516315, 3234912670, 3252187232, 3269339351, 3286368382, 3303273682, 3320054617, 3336710553, 3353240863, 3369644927, 3385922125, 3402071844, 3418093478, 3433986423, 3449750080, 3465383855, 3480887161, 3496259414, 3511500034, 3526608449, 3541584088, 3556426389, 3571134792, 3585708745, 3600147697, 3614451106, 3628618433, 3642649144, 3656542712, 3670298613, 3683916329, 3697395348, 3710735162, 3723935269, 3736995171, 3749914379, 3762692404, 3775328765, 3787822988, 3800174601, 3812383140, 3824448145, 3836369162, 3848145741, 3859777440, 3871263820, 3882604450, 3893798902, 3904846754, 3915747591, 3926501002, 3937106583, 3947563934, 3957872662, 3968032378, 3978042699, 3987903250, 3997613658, 4007173558, 4016582591, 4025840401, 4034946641, 4043900968, 4052703044, 4061352537, 4069849124, 4078192482, 4086382299, 4094418266, 4102300081, 4110027446, 4117600071, 4125017671, 4132279966, 4139386683, 4146337555, 4153132319, 4159770720, 4166252509, 4172577440, 4178745276, 4184755784, 4190608739, 4196303920, 4201841112, 4207220108, 4212440704, 4217502704, 4222405917, 4227150159, 4231735252, 4236161021, 4240427302, 4244533933, 4248480760, 4252267634, 4255894413, 4259360959, 4262667143, 4265812840, 4268797931, 4271622305, 4274285855, 4276788480, 4279130086, 4281310585, 4283329896, 4285187942, 4286884652, 4288419964, 4289793820, 4291006167, 4292056960, 4292946160, 4293673732, 4294239650, 4294643893, 4294886444, 4294967296]
def sineCells : Array Value := (sineTab.map (Value.int .i64)).toArray
theorem sine_cell (n : Int) (h0 : 0 ≤ n) (h1 : n < 257) : sineCells[n.toNat]? = some (.int .i64 (sineTab.getD n.toNat 0)) := by
  have hl : sineTab.length = 257 := by decide +kernel
  unfold sineCells
  have : n.toNat < sineTab.length := by omega
  simp [List.getD_eq_getElem?_getD, List.getElem?_eq_getElem this]
theorem sineCells_eq : (sineTab.map (Value.int .i64)).toArray = sineCells := rfl
attribute [local irreducible] sineTab sineCells
def api_Sine.f (a0 : Int) : Option (Int) := if a0 < 0 then (some 0) else (if a0 ≥ 257 then (some 0) else (some (sineTab.getD a0.toNat 0)))
set_option maxHeartbeats 400000 in
set_option maxRecDepth 100000 in
theorem api_Sine.calls (a0 : Int) (r : Int) (w : World) (h : api_Sine.f a0 = some r) :
    Calls Try.prog 41 #[.int .i64 a0] w fun e w' => e = .returned (.int .i64 r) ∧ Below w.heap.size w w' := by
  have H := Aside0.mk h
  clear h
  go_enter Try.func41, Try.ntmps41
  go_upto_region 1 with (fail)
  refine wp_region_lit ?_
  refine wpList_buildFlatArrTo rfl 67 22 257 _ rfl .i64 sineTab (some 4) rfl (by as_aux_lemma => kernel_rfl) (by as_aux_lemma => kernel_rfl) (by as_aux_lemma => kernel_rfl) (by as_aux_lemma => kernel_rfl) ?_
  rw [sineCells_eq]
  refine wpList_alloc_to rfl 67 rfl (some 3) rfl (Array.replicate 257 (.int .i64 0)) (by as_aux_lemma => kernel_rfl) ?_
  refine wpList_store_rowTo rfl 67 _ _ rfl rfl w.heap.size sineCells rfl rfl 67 (Array.replicate 257 (.int .i64 0)) (heap_alloc_new w _) (by as_aux_lemma => kernel_rfl) (by as_aux_lemma => kernel_rfl) (by as_aux_lemma => kernel_rfl) ?_
  rw [setRow_alloc]
  refine wpList_nil ?_
  by_cases h0 : a0 < 0
  · go_wp2
    go_ret
    have H := H.out
    unfold api_Sine.f at H
    rw [if_pos (by omega)] at H
    obtain rfl := Option.some.inj H
    exact ⟨rfl, (Below.refl _ _).alloc (Nat.le_refl _) _⟩
  · by_cases h1 : a0 ≥ 257
    · go_wp2
      go_ret
      have H := H.out
      unfold api_Sine.f at H
      rw [if_neg (by omega), if_pos (by omega)] at H
      obtain rfl := Option.some.inj H
      exact ⟨rfl, (Below.refl _ _).alloc (Nat.le_refl _) _⟩
    · have hi0 : 0 ≤ a0 := by omega
      have hi1 : a0 < 257 := by omega
      have hc : (w.alloc (.cells sineCells 67)).cell? ⟨w.heap.size, a0.toNat, none⟩ = some (.int .i64 (sineTab.getD a0.toNat 0)) := by rw [cell_alloc_row, sine_cell a0 hi0 hi1]
      go_wp2
      go_ret
      have H := H.out
      unfold api_Sine.f at H
      rw [if_neg (by omega), if_neg (by omega)] at H
      obtain rfl := Option.some.inj H
      exact ⟨rfl, (Below.refl _ _).alloc (Nat.le_refl _) _⟩

/-! ### turn_sine: function 36 -/
def turn_sine.f : Nat → Int → Option (Int)
 | 0, _ => none
 | k + 1, a0 => if (Go.bits .and .i64 a0 1023) ≤ 256 then ((api_Sine.f (Go.bits .and .i64 a0 1023)).bind fun t288 => (some t288)) else (if (Go.bits .and .i64 a0 1023) ≤ 512 then ((api_Sine.f (wrap64 (512 - (Go.bits .and .i64 a0 1023)))).bind fun t289 => (some t289)) else ((turn_sine.f k (wrap64 ((Go.bits .and .i64 a0 1023) - 512))).bind fun t290 => (some (wrap64 (-t290)))))
theorem turn_sine.mono_l : ∀ k, (∀ y0, LeO (turn_sine.f k y0) (turn_sine.f (k + 1) y0))
 | 0 => fun _ r h => by simp [turn_sine.f] at h
 | k + 1 => by
  have ih0 := turn_sine.mono_l k
  ·intro y0
   unfold turn_sine.f
   repeat' first
   | (with_reducible exact ih0 _)
   | (with_reducible exact LeO.refl _)
   | (with_reducible exact LeO.none _)
   | (with_reducible refine LeO.ite ?_ ?_)
   | (with_reducible refine LeO.bind ?_ (fun _ => ?_))
   | exact ih0 _
   | exact LeO.none _
   | refine LeO.ite ?_ ?_
   | refine LeO.bind ?_ (fun _ => ?_)
theorem turn_sine.mono : ∀ a0 k, LeO (turn_sine.f k a0) (turn_sine.f (k + 1) a0) := by
 intro a0 k
 have ih0 := turn_sine.mono_l k
 exact ih0 a0
set_option maxHeartbeats 8000000 in
set_option maxRecDepth 100000 in
theorem turn_sine.calls (k : Nat) : ∀ (a0 : Int) (r : Int) (w : World) (h : turn_sine.f k a0 = some r),
  Calls Try.prog 36 #[.int .i64 a0] w fun e w' => e = .returned (.int .i64 r) ∧ Below w.heap.size w w' := by
 induction k using Nat.strongRecOn with
 | _ k ih =>
 intro a0 r w h
 cases k with
 | zero => exact absurd h (by simp [turn_sine.f])
 | succ k =>
 simp only [turn_sine.f] at h
 have HB := Aside0.mk (Below.refl w.heap.size w)
 have H : (if (Go.bits .and .i64 a0 1023) ≤ 256 then ((api_Sine.f (Go.bits .and .i64 a0 1023)).bind fun t288 => (some t288)) else (if (Go.bits .and .i64 a0 1023) ≤ 512 then ((api_Sine.f (wrap64 (512 - (Go.bits .and .i64 a0 1023)))).bind fun t289 => (some t289)) else ((turn_sine.f k (wrap64 ((Go.bits .and .i64 a0 1023) - 512))).bind fun t290 => (some (wrap64 (-t290)))))) = some r := h
 clear h
 by_cases c2 : (Go.bits .and .i64 a0 1023) ≤ 256
 ·rw [if_pos c2] at H
  have c2b0 : decide ((Go.bits .and .i64 a0 1023) ≤ 256) = true := decide_eq_true c2
  clear c2
  replace H := Option.bind_eq_some_iff.mp H
  obtain ⟨t288, A30, H⟩ := H
  replace H : (some t288) = some r := H
  have A3 := Aside0.mk A30
  clear A30
  obtain rfl := Option.some.inj H
  go_enter Try.func36, Try.ntmps36
  go_wp2_with (first | ((with_reducible refine gate_callee (f := 41) rfl ?_); refine goesL_ (some 9) rfl rfl Try.func41 (by kernel_rfl) rfl #[.int .i64 (Go.bits .and .i64 a0 1023)] rfl (by (try simp only [List.map_toArray, List.map_cons, List.map_nil]); first | done | rfl | (simp only [List.length_drop, List.length_take]; rfl)) ?_; (with_reducible refine (api_Sine.calls (Go.bits .and .i64 a0 1023) t288 _ A3.out).mono ?_); rintro e w4 ⟨rfl, hb⟩; refine ⟨_, rfl, ?_⟩; have n0_ := Aside0.mk (below_step (by repeat (first | (with_reducible first | exact HB.out | apply below_alloc | apply pw_below_drewN | apply below_drew1) | exact HB.out)) hb); clear HB; have HB := n0_; clear n0_; (try clear hb); (try clear hb2); (try clear hk); (try clear hi)))
  go_ret
  exact ⟨by first | rfl | (simp [errW_none, errW_some] <;> rfl) | (simp [*, errW_none, errW_some] <;> rfl) | (simp [wrap64]; done) | (congr 2 <;> first | rfl | (unfold wrap64; omega)), by repeat (first | (with_reducible first | exact HB.out | apply below_alloc | apply pw_below_drewN | apply below_drew1) | exact HB.out)⟩
 ·rw [if_neg c2] at H
  have c2b0 : decide ((Go.bits .and .i64 a0 1023) ≤ 256) = false := decide_eq_false c2
  clear c2
  by_cases c5 : (Go.bits .and .i64 a0 1023) ≤ 512
  ·rw [if_pos c5] at H
   have c5b0 : decide ((Go.bits .and .i64 a0 1023) ≤ 512) = true := decide_eq_true c5
   clear c5
   replace H := Option.bind_eq_some_iff.mp H
   obtain ⟨t289, A60, H⟩ := H
   replace H : (some t289) = some r := H
   have A6 := Aside0.mk A60
   clear A60
   obtain rfl := Option.some.inj H
   go_enter Try.func36, Try.ntmps36
   go_wp2_with (first | ((with_reducible refine gate_callee (f := 41) rfl ?_); refine goesL_ (some 15) rfl rfl Try.func41 (by kernel_rfl) rfl #[.int .i64 (wrap64 (512 - (Go.bits .and .i64 a0 1023)))] rfl (by (try simp only [List.map_toArray, List.map_cons, List.map_nil]); first | done | rfl | (simp only [List.length_drop, List.length_take]; rfl)) ?_; (with_reducible refine (api_Sine.calls (wrap64 (512 - (Go.bits .and .i64 a0 1023))) t289 _ A6.out).mono ?_); rintro e w7 ⟨rfl, hb⟩; refine ⟨_, rfl, ?_⟩; have n0_ := Aside0.mk (below_step (by repeat (first | (with_reducible first | exact HB.out | apply below_alloc | apply pw_below_drewN | apply below_drew1) | exact HB.out)) hb); clear HB; have HB := n0_; clear n0_; (try clear hb); (try clear hb2); (try clear hk); (try clear hi)))
   go_ret
   exact ⟨by first | rfl | (simp [errW_none, errW_some] <;> rfl) | (simp [*, errW_none, errW_some] <;> rfl) | (simp [wrap64]; done) | (congr 2 <;> first | rfl | (unfold wrap64; omega)), by repeat (first | (with_reducible first | exact HB.out | apply below_alloc | apply pw_below_drewN | apply below_drew1) | exact HB.out)⟩
  ·rw [if_neg c5] at H
   have c5b0 : decide ((Go.bits .and .i64 a0 1023) ≤ 512) = false := decide_eq_false c5
   clear c5
   replace H := Option.bind_eq_some_iff.mp H
   obtain ⟨t290, A80, H⟩ := H
   replace H : (some (wrap64 (-t290))) = some r := H
   have A8 := Aside0.mk A80
   clear A80
   obtain rfl := Option.some.inj H
   go_enter Try.func36, Try.ntmps36
   go_wp2_with (first | ((with_reducible refine gate_callee (f := 36) rfl ?_); refine goesL_ (some 18) rfl rfl Try.func36 (by kernel_rfl) rfl #[.int .i64 (wrap64 ((Go.bits .and .i64 a0 1023) - 512))] rfl (by (try simp only [List.map_toArray, List.map_cons, List.map_nil]); first | done | rfl | (simp only [List.length_drop, List.length_take]; rfl)) ?_; (with_reducible refine (ih k (by omega) (wrap64 ((Go.bits .and .i64 a0 1023) - 512)) t290 _ A8.out).mono ?_); rintro e w9 ⟨rfl, hb⟩; refine ⟨_, rfl, ?_⟩; have n0_ := Aside0.mk (below_step (by repeat (first | (with_reducible first | exact HB.out | apply below_alloc | apply pw_below_drewN | apply below_drew1) | exact HB.out)) hb); clear HB; have HB := n0_; clear n0_; (try clear hb); (try clear hb2); (try clear hk); (try clear hi)))
   go_ret
   exact ⟨by first | rfl | (simp [errW_none, errW_some] <;> rfl) | (simp [*, errW_none, errW_some] <;> rfl) | (simp [wrap64]; done) | (congr 2 <;> first | rfl | (unfold wrap64; omega)), by repeat (first | (with_reducible first | exact HB.out | apply below_alloc | apply pw_below_drewN | apply below_drew1) | exact HB.out)⟩

/-! ### turn_Of: function 21 -/
def turn_Of.f (k : Nat) (a0 : Int) : Option (Int × Int) := (turn_Step.f a0).bind fun t292 => ((turn_sine.f k (wrap64 (t292 + 256))).bind fun t293 => ((turn_sine.f k t292).bind fun t294 => (some (t293, t294))))
theorem turn_Of.mono : ∀ a0 k, LeO (turn_Of.f k a0) (turn_Of.f (k + 1) a0) := by
 intro a0 k
 unfold turn_Of.f
 repeat' first
   | (with_reducible exact turn_sine.mono _ _)
   | (with_reducible exact LeO.refl _)
   | (with_reducible exact LeO.none _)
   | (with_reducible refine LeO.ite ?_ ?_)
   | (with_reducible refine LeO.bind ?_ (fun _ => ?_))
   | exact turn_sine.mono _ _
   | exact LeO.none _
   | refine LeO.ite ?_ ?_
   | refine LeO.bind ?_ (fun _ => ?_)
set_option maxHeartbeats 8000000 in
set_option maxRecDepth 100000 in
theorem turn_Of.calls (k : Nat) (a0 : Int) (r1 : Int) (r2 : Int) (w : World) (h : turn_Of.f k a0 = some (r1, r2)) :
  Calls Try.prog 21 #[.int .i64 a0] w fun e w' => e = .returned (.agg #[.int .i64 r1, .int .i64 r2]) ∧ Below w.heap.size w w' := by
 have hu48 := Try.underlying48
 have HB := Aside0.mk (Below.refl w.heap.size w)
 have H : ((turn_Step.f a0).bind fun t292 => ((turn_sine.f k (wrap64 (t292 + 256))).bind fun t293 => ((turn_sine.f k t292).bind fun t294 => (some (t293, t294))))) = some (r1, r2) := h
 clear h
 replace H := Option.bind_eq_some_iff.mp H
 obtain ⟨t292, A20, H⟩ := H
 replace H : ((turn_sine.f k (wrap64 (t292 + 256))).bind fun t293 => ((turn_sine.f k t292).bind fun t294 => (some (t293, t294)))) = some (r1, r2) := H
 have A2 := Aside0.mk A20
 clear A20
 replace H := Option.bind_eq_some_iff.mp H
 obtain ⟨t293, A30, H⟩ := H
 replace H : ((turn_sine.f k t292).bind fun t294 => (some (t293, t294))) = some (r1, r2) := H
 have A3 := Aside0.mk A30
 clear A30
 replace H := Option.bind_eq_some_iff.mp H
 obtain ⟨t294, A40, H⟩ := H
 replace H : (some (t293, t294)) = some (r1, r2) := H
 have A4 := Aside0.mk A40
 clear A40
 simp only [Option.some.injEq, Prod.mk.injEq] at H
 obtain ⟨rfl, rfl⟩ := H
 go_enter Try.func21, Try.ntmps21
 go_wp2_with (first | ((with_reducible refine gate_dst (N := 2) rfl ?_); refine box_event ?hg (N := 2) ?hd (cs := #[.int .i64 0, .int .i64 0]) (t := 48) ?hr ?_; (case hd => rfl); (case hg => rfl); (case hr => first | (go_simp; done) | (go_simp; rfl)); intro gb291 hg w5 hbox hb; have n0_ := Aside0.mk (below_step (by repeat (first | (with_reducible first | exact HB.out | apply below_alloc | apply pw_below_drewN | apply below_drew1) | exact HB.out)) hb); have n1_ := Aside0.mk (hbox); have n2_ := Aside0.mk ((by rw [hg]; exact (below_size (by repeat (first | (with_reducible first | exact HB.out | apply below_alloc | apply pw_below_drewN | apply below_drew1) | exact HB.out))) : w.heap.size ≤ gb291)); have n3_ := Aside0.mk ((by rw [hg]; exact (below_size (by repeat (first | (with_reducible first | exact HB.out | apply below_alloc | apply pw_below_drewN | apply below_drew1) | exact HB.out))) : w.heap.size ≤ gb291)); clear HB; have HB := n0_; have BK291 := n1_; have GW291 := n2_; have GE291 := n3_; clear n0_ n1_ n2_ n3_; clear hb hbox hg) | ((with_reducible refine gate_callee (f := 35) rfl ?_); refine goesL_ (some 5) rfl rfl Try.func35 (by kernel_rfl) rfl #[.int .i64 a0] rfl (by (try simp only [List.map_toArray, List.map_cons, List.map_nil]); first | done | rfl | (simp only [List.length_drop, List.length_take]; rfl)) ?_; (with_reducible refine (turn_Step.calls a0 t292 _ A2.out).mono ?_); rintro e w' ⟨rfl, ⟨nd, rfl⟩⟩; refine ⟨_, rfl, ?_⟩; (try (rw [drewN_self w5]; generalize hq_ : World.drewN w5 _ = w5; have n0_ : Aside0 (w5.heap[gb291]? = some (.cells #[.int .i64 0, .int .i64 0] 48 (0, 0))) := ⟨by rw [← hq_]; exact (by (with_reducible repeat (first | refine blk_drewN ?_ _ | refine blk_drew ?_ | refine blk_alloc ?_ _)); exact BK291.out)⟩; have n1_ : Aside0 (Below w.heap.size w w5) := ⟨by rw [← hq_]; exact (by repeat (first | (with_reducible first | exact HB.out | apply below_alloc | apply pw_below_drewN | apply below_drew1 | refine below_set ?_ GE291.out) | exact HB.out))⟩; clear BK291 HB hq_; have BK291 := n0_; have HB := n1_; clear n0_ n1_))) | ((with_reducible refine gate_callee (f := 36) rfl ?_); refine goesL_ (some 8) rfl rfl Try.func36 (by kernel_rfl) rfl #[.int .i64 (wrap64 (t292 + 256))] rfl (by (try simp only [List.map_toArray, List.map_cons, List.map_nil]); first | done | rfl | (simp only [List.length_drop, List.length_take]; rfl)) ?_; (with_reducible refine (turn_sine.calls k (wrap64 (t292 + 256)) t293 _ A3.out).mono ?_); rintro e w6 ⟨rfl, hb⟩; refine ⟨_, rfl, ?_⟩; have n0_ := Aside0.mk (blk_below (g := gb291) (o := .cells #[.int .i64 0, .int .i64 0] 48 (0, 0)) (by (with_reducible repeat (first | refine blk_drewN ?_ _ | refine blk_drew ?_ | refine blk_alloc ?_ _)); exact BK291.out) hb); have n1_ := Aside0.mk (below_step (by repeat (first | (with_reducible first | exact HB.out | apply below_alloc | apply pw_below_drewN | apply below_drew1 | refine below_set ?_ GE291.out) | exact HB.out)) hb); clear BK291; clear HB; have BK291 := n0_; have HB := n1_; clear n0_ n1_; (try clear hb); (try clear hb2); (try clear hk); (try clear hi)) | ((with_reducible refine gate_callee (f := 36) rfl ?_); refine goesL_ (some 10) rfl rfl Try.func36 (by kernel_rfl) rfl #[.int .i64 t292] rfl (by (try simp only [List.map_toArray, List.map_cons, List.map_nil]); first | done | rfl | (simp only [List.length_drop, List.length_take]; rfl)) ?_; (with_reducible refine (turn_sine.calls k t292 t294 _ A4.out).mono ?_); rintro e w7 ⟨rfl, hb⟩; refine ⟨_, rfl, ?_⟩; have n0_ := Aside0.mk (blk_below (g := gb291) (o := .cells #[.int .i64 0, .int .i64 0] 48 (0, 0)) (by (with_reducible repeat (first | refine blk_drewN ?_ _ | refine blk_drew ?_ | refine blk_alloc ?_ _)); exact BK291.out) hb); have n1_ := Aside0.mk (below_step (by repeat (first | (with_reducible first | exact HB.out | apply below_alloc | apply pw_below_drewN | apply below_drew1 | refine below_set ?_ GE291.out) | exact HB.out)) hb); clear BK291; clear HB; have BK291 := n0_; have HB := n1_; clear n0_ n1_; (try clear hb); (try clear hb2); (try clear hk); (try clear hi); have hcz8_0 : w7.cell? ⟨gb291, 0, none⟩ = some (.int .i64 0) := (blk_cell BK291.out 0).trans rfl; have hcz8_1 : w7.cell? ⟨gb291, 1, none⟩ = some (.int .i64 0) := (blk_cell BK291.out 1).trans rfl; have hfz8_0 := blk_frozen BK291.out 0; have hfz8_1 := blk_frozen BK291.out 1))
 refine bodyPost_ret (results_cell_row rfl _ _ gb291 48 #[.int .i64 t293, .int .i64 t294] (0, 0) _ rfl (by (with_reducible repeat (first | refine blk_drewN ?_ _ | refine blk_drew ?_ | refine blk_alloc ?_ _)); refine blk_put (cs := #[.int .i64 t293, .int .i64 0]) ?_ 1 _ rfl; (with_reducible repeat (first | refine blk_drewN ?_ _ | refine blk_drew ?_ | refine blk_alloc ?_ _)); refine blk_put (cs := #[.int .i64 0, .int .i64 0]) ?_ 0 _ rfl; (with_reducible repeat (first | refine blk_drewN ?_ _ | refine blk_drew ?_ | refine blk_alloc ?_ _)); exact BK291.out) Try.underlying48 rfl (by kernel_rfl)) rfl ?_
 exact ⟨by first | rfl | (simp [errW_none, errW_some] <;> rfl) | (simp [*, errW_none, errW_some] <;> rfl) | (simp [wrap64]; done) | (congr 2 <;> first | rfl | (unfold wrap64; omega)), by repeat (first | (with_reducible first | exact HB.out | apply below_alloc | apply pw_below_drewN | apply below_drew1 | refine below_set ?_ GE291.out) | exact HB.out)⟩

/-! ### vec_Add: function 22 -/
abbrev O22 : Bool := false
abbrev I22 : Bool := true
def vec_Add.f (k : Nat) (a0_0 : Int) (a0_1 : Int) (a1_0 : Int) (a1_1 : Int) : Option (Int × Int) := (fix_Add.f k a0_0 a1_0).bind fun t298 => ((fix_Add.f k a0_1 a1_1).bind fun t299 => (some (t298, t299)))
theorem vec_Add.mono : ∀ a0 a1 a2 a3 k, LeO (vec_Add.f k a0 a1 a2 a3) (vec_Add.f (k + 1) a0 a1 a2 a3) := by
 intro a0 a1 a2 a3 k
 unfold vec_Add.f
 repeat' first
   | (with_reducible exact fix_Add.mono _ _ _)
   | (with_reducible exact LeO.refl _)
   | (with_reducible exact LeO.none _)
   | (with_reducible refine LeO.ite ?_ ?_)
   | (with_reducible refine LeO.bind ?_ (fun _ => ?_))
   | exact fix_Add.mono _ _ _
   | exact LeO.none _
   | refine LeO.ite ?_ ?_
   | refine LeO.bind ?_ (fun _ => ?_)
def vec_Add.T1 : Bool × List (List Nat × List Nat) := (true, [([], []), ([0], [0]), ([], []), ([2], [2]), ([1, 3], [1, 3]), ([], []), ([5], [5]), ([], []), ([7], [7]), ([6, 8, 4], [6, 8]), ([4, 9], [4, 9]), ([10, 9, 0, 1, 2, 3, 4, 5, 6, 7, 8, 9, 10], [10])])
def vec_Add.B1 : List Nat := [0, 1, 0, 4, 15, 0, 32, 0, 128, 511, 1023, 2047]
theorem vec_Add.tab1 : rtab .any (opsOf Try.f22 1) = vec_Add.T1 := by kernel_rfl
theorem vec_Add.bits1 : waitsOk vec_Add.T1.2 vec_Add.B1 = true := by kernel_rfl
set_option maxHeartbeats 8000000 in
set_option maxRecDepth 100000 in
theorem vec_Add.calls (k : Nat) (a0_0 : Int) (a0_1 : Int) (a1_0 : Int) (a1_1 : Int) (r1 : Int) (r2 : Int) (w : World) (h : vec_Add.f k a0_0 a0_1 a1_0 a1_1 = some (r1, r2)) :
  Calls Try.prog 22 #[.agg #[.int .i64 a0_0, .int .i64 a0_1], .agg #[.int .i64 a1_0, .int .i64 a1_1]] w fun e w' => e = .returned (.agg #[.int .i64 r1, .int .i64 r2]) ∧ Below w.heap.size w w' := by
 have hu34 := Try.underlying34
 have HB := Aside0.mk (Below.refl w.heap.size w)
 have H : ((fix_Add.f k a0_0 a1_0).bind fun t298 => ((fix_Add.f k a0_1 a1_1).bind fun t299 => (some (t298, t299)))) = some (r1, r2) := h
 clear h
 replace H := Option.bind_eq_some_iff.mp H
 obtain ⟨t298, A30, H⟩ := H
 replace H : ((fix_Add.f k a0_1 a1_1).bind fun t299 => (some (t298, t299))) = some (r1, r2) := H
 have A3 := Aside0.mk A30
 clear A30
 replace H := Option.bind_eq_some_iff.mp H
 obtain ⟨t299, A40, H⟩ := H
 replace H : (some (t298, t299)) = some (r1, r2) := H
 have A4 := Aside0.mk A40
 clear A40
 simp only [Option.some.injEq, Prod.mk.injEq] at H
 obtain ⟨rfl, rfl⟩ := H
 go_enter Try.func22, Try.ntmps22
 try go_wp2_with (first | ((with_reducible refine gate_dst (N := 2) rfl ?_); refine box_event ?hg (N := 2) ?hd (cs := #[.int .i64 a0_0, .int .i64 a0_1]) (t := 34) ?hr ?_; (case hd => rfl); (case hg => rfl); (case hr => first | (go_simp; done) | (go_simp; rfl)); intro gb295 hg w5 hbox hb; have n0_ := Aside0.mk (below_step (by repeat (first | (with_reducible first | exact HB.out | apply below_alloc | apply pw_below_drewN | apply below_drew1) | exact HB.out)) hb); have n1_ := Aside0.mk (hbox); have n2_ := Aside0.mk ((by rw [hg]; exact (below_size (by repeat (first | (with_reducible first | exact HB.out | apply below_alloc | apply pw_below_drewN | apply below_drew1) | exact HB.out))) : w.heap.size ≤ gb295)); have n3_ := Aside0.mk ((by rw [hg]; exact (below_size (by repeat (first | (with_reducible first | exact HB.out | apply below_alloc | apply pw_below_drewN | apply below_drew1) | exact HB.out))) : w.heap.size ≤ gb295)); clear HB; have HB := n0_; have BK295 := n1_; have GW295 := n2_; have GE295 := n3_; clear n0_ n1_ n2_ n3_; clear hb hbox hg) | ((with_reducible refine gate_dst (N := 3) rfl ?_); refine box_event ?hg (N := 3) ?hd (cs := #[.int .i64 a1_0, .int .i64 a1_1]) (t := 34) ?hr ?_; (case hd => rfl); (case hg => rfl); (case hr => first | (go_simp; done) | (go_simp; rfl)); intro gb296 hg w6 hbox hb; have n0_ := Aside0.mk (blk_below (g := gb295) (o := .cells #[.int .i64 a0_0, .int .i64 a0_1] 34 (0, 0)) (by (with_reducible repeat (first | refine blk_drewN ?_ _ | refine blk_drew ?_ | refine blk_alloc ?_ _)); exact BK295.out) hb); have n1_ := Aside0.mk (below_step (by repeat (first | (with_reducible first | exact HB.out | apply below_alloc | apply pw_below_drewN | apply below_drew1 | refine below_set ?_ GE295.out) | exact HB.out)) hb); have n2_ := Aside0.mk (hbox); have n3_ := Aside0.mk ((by rw [hg]; exact (below_size (by repeat (first | (with_reducible first | exact HB.out | apply below_alloc | apply pw_below_drewN | apply below_drew1 | refine below_set ?_ GE295.out) | exact HB.out))) : w.heap.size ≤ gb296)); have n4_ := Aside0.mk ((by rw [hg]; exact (below_size (by repeat (first | (with_reducible first | exact HB.out | apply below_alloc | apply pw_below_drewN | apply below_drew1 | refine below_set ?_ GE295.out) | exact HB.out))) : w.heap.size ≤ gb296)); have n5_ := Aside0.mk ((by rw [hg]; exact Nat.ne_of_lt (blk_lt (g := gb295) (o := .cells #[.int .i64 a0_0, .int .i64 a0_1] 34 (0, 0)) (by (with_reducible repeat (first | refine blk_drewN ?_ _ | refine blk_drew ?_ | refine blk_alloc ?_ _)); exact BK295.out)) : gb295 ≠ gb296)); have n6_ := Aside0.mk ((by rw [hg]; exact Nat.ne_of_gt (blk_lt (g := gb295) (o := .cells #[.int .i64 a0_0, .int .i64 a0_1] 34 (0, 0)) (by (with_reducible repeat (first | refine blk_drewN ?_ _ | refine blk_drew ?_ | refine blk_alloc ?_ _)); exact BK295.out)) : gb296 ≠ gb295)); clear BK295; clear HB; have BK295 := n0_; have HB := n1_; have BK296 := n2_; have GW296 := n3_; have GE296 := n4_; have NB295_296 := n5_; have NB296_295 := n6_; clear n0_ n1_ n2_ n3_ n4_ n5_ n6_; clear hb hbox hg) | ((with_reducible refine gate_dst (N := 4) rfl ?_); refine box_event ?hg (N := 4) ?hd (cs := #[.int .i64 0, .int .i64 0]) (t := 34) ?hr ?_; (case hd => rfl); (case hg => rfl); (case hr => first | (go_simp; done) | (go_simp; rfl)); intro gb297 hg w7 hbox hb; have n0_ := Aside0.mk (blk_below (g := gb295) (o := .cells #[.int .i64 a0_0, .int .i64 a0_1] 34 (0, 0)) (by (with_reducible repeat (first | refine blk_drewN ?_ _ | refine blk_drew ?_ | refine blk_alloc ?_ _)); exact BK295.out) hb); have n1_ := Aside0.mk (blk_below (g := gb296) (o := .cells #[.int .i64 a1_0, .int .i64 a1_1] 34 (0, 0)) (by (with_reducible repeat (first | refine blk_drewN ?_ _ | refine blk_drew ?_ | refine blk_alloc ?_ _)); exact BK296.out) hb); have n2_ := Aside0.mk (below_step (by repeat (first | (with_reducible first | exact HB.out | apply below_alloc | apply pw_below_drewN | apply below_drew1 | refine below_set ?_ GE295.out | refine below_set ?_ GE296.out) | exact HB.out)) hb); have n3_ := Aside0.mk (hbox); have n4_ := Aside0.mk ((by rw [hg]; exact (below_size (by repeat (first | (with_reducible first | exact HB.out | apply below_alloc | apply pw_below_drewN | apply below_drew1 | refine below_set ?_ GE295.out | refine below_set ?_ GE296.out) | exact HB.out))) : w.heap.size ≤ gb297)); have n5_ := Aside0.mk ((by rw [hg]; exact (below_size (by repeat (first | (with_reducible first | exact HB.out | apply below_alloc | apply pw_below_drewN | apply below_drew1 | refine below_set ?_ GE295.out | refine below_set ?_ GE296.out) | exact HB.out))) : w.heap.size ≤ gb297)); have n6_ := Aside0.mk ((by rw [hg]; exact Nat.ne_of_lt (blk_lt (g := gb295) (o := .cells #[.int .i64 a0_0, .int .i64 a0_1] 34 (0, 0)) (by (with_reducible repeat (first | refine blk_drewN ?_ _ | refine blk_drew ?_ | refine blk_alloc ?_ _)); exact BK295.out)) : gb295 ≠ gb297)); have n7_ := Aside0.mk ((by rw [hg]; exact Nat.ne_of_gt (blk_lt (g := gb295) (o := .cells #[.int .i64 a0_0, .int .i64 a0_1] 34 (0, 0)) (by (with_reducible repeat (first | refine blk_drewN ?_ _ | refine blk_drew ?_ | refine blk_alloc ?_ _)); exact BK295.out)) : gb297 ≠ gb295)); have n8_ := Aside0.mk ((by rw [hg]; exact Nat.ne_of_lt (blk_lt (g := gb296) (o := .cells #[.int .i64 a1_0, .int .i64 a1_1] 34 (0, 0)) (by (with_reducible repeat (first | refine blk_drewN ?_ _ | refine blk_drew ?_ | refine blk_alloc ?_ _)); exact BK296.out)) : gb296 ≠ gb297)); have n9_ := Aside0.mk ((by rw [hg]; exact Nat.ne_of_gt (blk_lt (g := gb296) (o := .cells #[.int .i64 a1_0, .int .i64 a1_1] 34 (0, 0)) (by (with_reducible repeat (first | refine blk_drewN ?_ _ | refine blk_drew ?_ | refine blk_alloc ?_ _)); exact BK296.out)) : gb297 ≠ gb296)); clear BK295; clear BK296; clear HB; have BK295 := n0_; have BK296 := n1_; have HB := n2_; have BK297 := n3_; have GW297 := n4_; have GE297 := n5_; have NB295_297 := n6_; have NB297_295 := n7_; have NB296_297 := n8_; have NB297_296 := n9_; clear n0_ n1_ n2_ n3_ n4_ n5_ n6_ n7_ n8_ n9_; clear hb hbox hg))
 have n0_ := Aside0.mk (blk_drew BK295.out)
 have n1_ := Aside0.mk (blk_drew BK296.out)
 have n2_ := Aside0.mk (blk_drew BK297.out)
 have n3_ := Aside0.mk (below_drew1 HB.out)
 clear BK295
 clear BK296
 clear BK297
 clear HB
 have BK295 := n0_
 have BK296 := n1_
 have BK297 := n2_
 have HB := n3_
 clear n0_ n1_ n2_ n3_
 refine start_ (n := 12) (S := fun w' => w'.cell? ⟨gb295, 0, none⟩ = some (.int .i64 a0_0) ∧ w'.cell? ⟨gb295, 1, none⟩ = some (.int .i64 a0_1) ∧ w'.cell? ⟨gb296, 0, none⟩ = some (.int .i64 a1_0) ∧ w'.cell? ⟨gb296, 1, none⟩ = some (.int .i64 a1_1)) (ds := []) #[O22,O22,O22,O22,O22,O22,O22,O22,O22,O22,O22,O22] (by kernel_rfl) rfl rfl ⟨(blk_cell BK295.out 0).trans rfl, (blk_cell BK295.out 1).trans rfl, (blk_cell BK296.out 0).trans rfl, (blk_cell BK296.out 1).trans rfl⟩ (fun hHeld => ?_); refine with_tabW vec_Add.tab1 vec_Add.bits1 (fun HT_ HW_ => ?_)
 generalize w7.drew = w8 at BK295 BK296 BK297 HB hHeld ⊢
 refine pure_ (i := 0) (N := some 5) (v := ?_) (a' := ?_) #[I22,O22,O22,O22,O22,O22,O22,O22,O22,O22,O22,O22] rfl rfl (any_of HT_.out (by kernel_rfl)) (fun _ _ _ h => h) (Or.inl ⟨by rfl, ?_⟩) ?_ ?_
 rotate_left
 ·intro w'
  go_simp
  with_reducible rfl
 rotate_left
 ·simp only [Act.put, List.setIfInBounds_toArray, List.set_cons_zero, List.set_cons_succ, i64_w, i32_w]
  rfl
 refine pure_ (i := 2) (N := some 7) (v := ?_) (a' := ?_) #[I22,O22,I22,O22,O22,O22,O22,O22,O22,O22,O22,O22] rfl rfl (any_of HT_.out (by kernel_rfl)) (fun _ _ _ h => h) (Or.inl ⟨by rfl, ?_⟩) ?_ ?_
 rotate_left
 ·intro w'
  go_simp
  with_reducible rfl
 rotate_left
 ·simp only [Act.put, List.setIfInBounds_toArray, List.set_cons_zero, List.set_cons_succ, i64_w, i32_w]
  rfl
 refine pure_ (i := 5) (N := some 10) (v := ?_) (a' := ?_) #[I22,O22,I22,O22,O22,I22,O22,O22,O22,O22,O22,O22] rfl rfl (any_of HT_.out (by kernel_rfl)) (fun _ _ _ h => h) (Or.inl ⟨by rfl, ?_⟩) ?_ ?_
 rotate_left
 ·intro w'
  go_simp
  with_reducible rfl
 rotate_left
 ·simp only [Act.put, List.setIfInBounds_toArray, List.set_cons_zero, List.set_cons_succ, i64_w, i32_w]
  rfl
 refine pure_ (i := 7) (N := some 12) (v := ?_) (a' := ?_) #[I22,O22,I22,O22,O22,I22,O22,I22,O22,O22,O22,O22] rfl rfl (any_of HT_.out (by kernel_rfl)) (fun _ _ _ h => h) (Or.inl ⟨by rfl, ?_⟩) ?_ ?_
 rotate_left
 ·intro w'
  go_simp
  with_reducible rfl
 rotate_left
 ·simp only [Act.put, List.setIfInBounds_toArray, List.set_cons_zero, List.set_cons_succ, i64_w, i32_w]
  rfl
 refine take_ (i := 1) (N := some 6) (v := ?_) (a' := ?_) #[I22,I22,I22,O22,O22,I22,O22,I22,O22,O22,O22,O22] rfl rfl (take_ofW HT_.out HW_.out (by kernel_rfl)) (fun _ _ _ h => h) (Or.inl ⟨by rfl, ?_⟩) hHeld ?_ ?_
 rotate_left
 ·rintro w' ⟨s0, s1, s2, s3⟩
  go_simp
  with_reducible rfl
 rotate_left
 ·simp only [Act.put, List.setIfInBounds_toArray, List.set_cons_zero, List.set_cons_succ, i64_w, i32_w]
  rfl
 refine take_ (i := 3) (N := some 8) (v := ?_) (a' := ?_) #[I22,I22,I22,I22,O22,I22,O22,I22,O22,O22,O22,O22] rfl rfl (take_ofW HT_.out HW_.out (by kernel_rfl)) (fun _ _ _ h => h) (Or.inl ⟨by rfl, ?_⟩) hHeld ?_ ?_
 rotate_left
 ·rintro w' ⟨s0, s1, s2, s3⟩
  go_simp
  with_reducible rfl
 rotate_left
 ·simp only [Act.put, List.setIfInBounds_toArray, List.set_cons_zero, List.set_cons_succ, i64_w, i32_w]
  rfl
 refine take_ (i := 6) (N := some 11) (v := ?_) (a' := ?_) #[I22,I22,I22,I22,O22,I22,I22,I22,O22,O22,O22,O22] rfl rfl (take_ofW HT_.out HW_.out (by kernel_rfl)) (fun _ _ _ h => h) (Or.inl ⟨by rfl, ?_⟩) hHeld ?_ ?_
 rotate_left
 ·rintro w' ⟨s0, s1, s2, s3⟩
  go_simp
  with_reducible rfl
 rotate_left
 ·simp only [Act.put, List.setIfInBounds_toArray, List.set_cons_zero, List.set_cons_succ, i64_w, i32_w]
  rfl
 refine take_ (i := 8) (N := some 13) (v := ?_) (a' := ?_) #[I22,I22,I22,I22,O22,I22,I22,I22,I22,O22,O22,O22] rfl rfl (take_ofW HT_.out HW_.out (by kernel_rfl)) (fun _ _ _ h => h) (Or.inl ⟨by rfl, ?_⟩) hHeld ?_ ?_
 rotate_left
 ·rintro w' ⟨s0, s1, s2, s3⟩
  go_simp
  with_reducible rfl
 rotate_left
 ·simp only [Act.put, List.setIfInBounds_toArray, List.set_cons_zero, List.set_cons_succ, i64_w, i32_w]
  rfl
 refine one_ (i := 4) (N := some 9) #[I22,I22,I22,I22,I22,I22,I22,I22,I22,O22,O22,O22] rfl rfl (one_of HT_.out (by kernel_rfl)) (by decide) (fun K hK => ?_)
 refine goes_ Try.func31 (by kernel_rfl) rfl #[.int .i64 a0_0, .int .i64 a1_0] (by rfl) rfl rfl (by (try simp only [List.map_toArray, List.map_cons, List.map_nil]); first | done | rfl | (simp only [List.length_drop, List.length_take]; rfl)) ?_
 with_reducible refine (fix_Add.calls k a0_0 a1_0 t298 _ A3.out).mono ?_
 rintro e w9 ⟨rfl, hb⟩
 refine ⟨_, rfl, ?_⟩
 have n0_ := Aside0.mk (blk_below (g := gb295) (o := .cells #[.int .i64 a0_0, .int .i64 a0_1] 34 (0, 0)) (by (with_reducible repeat (first | refine blk_drewN ?_ _ | refine blk_drew ?_ | refine blk_alloc ?_ _)); exact BK295.out) hb)
 have n1_ := Aside0.mk (blk_below (g := gb296) (o := .cells #[.int .i64 a1_0, .int .i64 a1_1] 34 (0, 0)) (by (with_reducible repeat (first | refine blk_drewN ?_ _ | refine blk_drew ?_ | refine blk_alloc ?_ _)); exact BK296.out) hb)
 have n2_ := Aside0.mk (blk_below (g := gb297) (o := .cells #[.int .i64 0, .int .i64 0] 34 (0, 0)) (by (with_reducible repeat (first | refine blk_drewN ?_ _ | refine blk_drew ?_ | refine blk_alloc ?_ _)); exact BK297.out) hb)
 have n3_ := Aside0.mk (below_step (by repeat (first | (with_reducible first | exact HB.out | apply below_alloc | apply pw_below_drewN | apply below_drew1 | refine below_set ?_ GE295.out | refine below_set ?_ GE296.out | refine below_set ?_ GE297.out) | exact HB.out)) hb)
 clear BK295
 clear BK296
 clear BK297
 clear HB
 have BK295 := n0_
 have BK296 := n1_
 have BK297 := n2_
 have HB := n3_
 clear n0_ n1_ n2_ n3_
 (try clear hb)
 (try clear hb2)
 (try clear hk)
 (try clear hi)
 refine hK.out _ _ ⟨(blk_cell BK295.out 0).trans rfl, (blk_cell BK295.out 1).trans rfl, (blk_cell BK296.out 0).trans rfl, (blk_cell BK296.out 1).trans rfl⟩ (fun hHeld => ?_)
 clear hK K
 refine norm_ (a' := ?_) ?_ ?_
 rotate_left
 ·show Act.put _ (some 9) _ = _
  simp only [Act.put, List.setIfInBounds_toArray, List.set_cons_zero, List.set_cons_succ, i64_w, i32_w]
  rfl
 refine one_ (i := 9) (N := some 14) #[I22,I22,I22,I22,I22,I22,I22,I22,I22,I22,O22,O22] rfl rfl (one_of HT_.out (by kernel_rfl)) (by decide) (fun K hK => ?_)
 refine goes_ Try.func31 (by kernel_rfl) rfl #[.int .i64 a0_1, .int .i64 a1_1] (by rfl) rfl rfl (by (try simp only [List.map_toArray, List.map_cons, List.map_nil]); first | done | rfl | (simp only [List.length_drop, List.length_take]; rfl)) ?_
 with_reducible refine (fix_Add.calls k a0_1 a1_1 t299 _ A4.out).mono ?_
 rintro e w10 ⟨rfl, hb⟩
 refine ⟨_, rfl, ?_⟩
 have n0_ := Aside0.mk (blk_below (g := gb295) (o := .cells #[.int .i64 a0_0, .int .i64 a0_1] 34 (0, 0)) (by (with_reducible repeat (first | refine blk_drewN ?_ _ | refine blk_drew ?_ | refine blk_alloc ?_ _)); exact BK295.out) hb)
 have n1_ := Aside0.mk (blk_below (g := gb296) (o := .cells #[.int .i64 a1_0, .int .i64 a1_1] 34 (0, 0)) (by (with_reducible repeat (first | refine blk_drewN ?_ _ | refine blk_drew ?_ | refine blk_alloc ?_ _)); exact BK296.out) hb)
 have n2_ := Aside0.mk (blk_below (g := gb297) (o := .cells #[.int .i64 0, .int .i64 0] 34 (0, 0)) (by (with_reducible repeat (first | refine blk_drewN ?_ _ | refine blk_drew ?_ | refine blk_alloc ?_ _)); exact BK297.out) hb)
 have n3_ := Aside0.mk (below_step (by repeat (first | (with_reducible first | exact HB.out | apply below_alloc | apply pw_below_drewN | apply below_drew1 | refine below_set ?_ GE295.out | refine below_set ?_ GE296.out | refine below_set ?_ GE297.out) | exact HB.out)) hb)
 clear BK295
 clear BK296
 clear BK297
 clear HB
 have BK295 := n0_
 have BK296 := n1_
 have BK297 := n2_
 have HB := n3_
 clear n0_ n1_ n2_ n3_
 (try clear hb)
 (try clear hb2)
 (try clear hk)
 (try clear hi)
 refine hK.out _ _ ⟨(blk_cell BK295.out 0).trans rfl, (blk_cell BK295.out 1).trans rfl, (blk_cell BK296.out 0).trans rfl, (blk_cell BK296.out 1).trans rfl⟩ (fun hHeld => ?_)
 clear hK K
 refine norm_ (a' := ?_) ?_ ?_
 rotate_left
 ·show Act.put _ (some 14) _ = _
  simp only [Act.put, List.setIfInBounds_toArray, List.set_cons_zero, List.set_cons_succ, i64_w, i32_w]
  rfl
 refine pure_ (i := 10) (N := some 15) (v := ?_) (a' := ?_) #[I22,I22,I22,I22,I22,I22,I22,I22,I22,I22,I22,O22] rfl rfl (any_of HT_.out (by kernel_rfl)) (fun _ _ _ h => h) (Or.inl ⟨by rfl, ?_⟩) ?_ ?_
 rotate_left
 ·intro w'
  go_simp
  with_reducible rfl
 rotate_left
 ·simp only [Act.put, List.setIfInBounds_toArray, List.set_cons_zero, List.set_cons_succ, i64_w, i32_w]
  rfl
 refine one_ (i := 11) (N := none) #[I22,I22,I22,I22,I22,I22,I22,I22,I22,I22,I22,I22] rfl rfl (one_of HT_.out (by kernel_rfl)) (by decide) (fun K hK => ?_)
 have hs11 : w10.cell? ⟨gb297, 0, none⟩ = some (.int .i64 0) := (blk_cell BK297.out 0).trans rfl
 have hfs11 := blk_frozen BK297.out 0
 have hns11_0 := NB295_297.out
 have hns11_1 := NB296_297.out
 have hms11_0 := NB297_295.out
 have hms11_1 := NB297_296.out
 have hs12 : w10.cell? ⟨gb297, 1, none⟩ = some (.int .i64 0) := (blk_cell BK297.out 1).trans rfl
 have hfs12 := blk_frozen BK297.out 1
 have hns12_0 := NB295_297.out
 have hns12_1 := NB296_297.out
 have hms12_0 := NB297_295.out
 have hms12_1 := NB297_296.out
 refine skip_ (w1 := ?_) (by rfl) rfl ?_ ?_
 rotate_left
 ·go_simp
  rfl
 refine hK.out _ _ ⟨((cell_far (p := ⟨gb297, _, none⟩) NB295_297.out _).trans (((cell_far (p := ⟨gb297, _, none⟩) NB295_297.out _).trans (hHeld.1)))), ((cell_far (p := ⟨gb297, _, none⟩) NB295_297.out _).trans (((cell_far (p := ⟨gb297, _, none⟩) NB295_297.out _).trans (hHeld.2.1)))), ((cell_far (p := ⟨gb297, _, none⟩) NB296_297.out _).trans (((cell_far (p := ⟨gb297, _, none⟩) NB296_297.out _).trans (hHeld.2.2.1)))), ((cell_far (p := ⟨gb297, _, none⟩) NB296_297.out _).trans (((cell_far (p := ⟨gb297, _, none⟩) NB296_297.out _).trans (hHeld.2.2.2))))⟩ (fun hHeld => ?_)
 clear hK K
 refine done_ (done_of HT_.out (by kernel_rfl)) ?_
 try go_wp2
 refine bodyPost_ret (results_cell_row rfl _ _ gb297 34 #[.int .i64 t298, .int .i64 t299] (0, 0) _ rfl (by (with_reducible repeat (first | refine blk_drewN ?_ _ | refine blk_drew ?_ | refine blk_alloc ?_ _)); refine blk_put (cs := #[.int .i64 t298, .int .i64 0]) ?_ 1 _ rfl; (with_reducible repeat (first | refine blk_drewN ?_ _ | refine blk_drew ?_ | refine blk_alloc ?_ _)); refine blk_put (cs := #[.int .i64 0, .int .i64 0]) ?_ 0 _ rfl; (with_reducible repeat (first | refine blk_drewN ?_ _ | refine blk_drew ?_ | refine blk_alloc ?_ _)); exact BK297.out) Try.underlying34 rfl (by kernel_rfl)) rfl ?_
 exact ⟨by first | rfl | (simp [errW_none, errW_some] <;> rfl) | (simp [*, errW_none, errW_some] <;> rfl) | (simp [wrap64]; done) | (congr 2 <;> first | rfl | (unfold wrap64; omega)), by repeat (first | (with_reducible first | exact HB.out | apply below_alloc | apply pw_below_drewN | apply below_drew1 | refine below_set ?_ GE295.out | refine below_set ?_ GE296.out | refine below_set ?_ GE297.out) | exact HB.out)⟩

end Go.Proofs.Ytbdkcjikphlgfaa.PSh
