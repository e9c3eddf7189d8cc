-- Printed by a program of this session (wip/tools/myprint.py) out of the translation; Lean checks it.
import Derived.Test.YtkafbfkhgkcdnaaPFixx0
import Derived.Test.YtkafbfkhgkcdnaaPFixx1
import Derived.Test.YtkafbfkhgkcdnaaPFixx2
import Derived.Test.YtkafbfkhgkcdnaaPFixx6
namespace Go.Proofs.Ytkafbfkhgkcdnaa.PFix
open Go.RowKit Go.Proofs.YtkafbfkhgkcdnaaW.PrintWords Go.Proofs.YtkafbfkhgkcdnaaW.PrintLast Go.Proofs.YtkafbfkhgkcdnaaW.PrintMore
attribute [local go_sem] max2_int min2_int max_two min_two max_three min_three max_four min_four   -- for this text's walks alone
set_option linter.unusedVariables false
set_option linter.unusedSimpArgs false

/-! ### bagatellelaw01_FixLaws: function 9 -/
def bagatellelaw01_FixLaws.j0 : Nat → Int → Int → Bool → Option (Bool)
  | 0, _, _, _ => none
  | k + 1, x0, x1, x44 => if x44 = true then (some false) else ((fix_Mul.f k (wrap64 (-x0)) x1).bind fun t253 => ((fix_Mul.f k x0 x1).bind fun t254 => (if t253 = (wrap64 (-t254)) then ((fix_Add.f k (wrap64 (-x0)) (wrap64 (-x1))).bind fun t255 => ((fix_Add.f k x0 x1).bind fun t256 => (if t255 = (wrap64 (-t256)) then (if x0 = 0 then ((fix_Div.f k (wrap64 (-x0)) x1).bind fun t257 => ((fix_Div.f k x0 x1).bind fun t258 => (some (t257 == (wrap64 (-t258)))))) else ((fix_Div.f k x0 x0).bind fun t259 => (if t259 = 4294967296 then ((fix_Div.f k (wrap64 (-x0)) x1).bind fun t260 => ((fix_Div.f k x0 x1).bind fun t261 => (some (t260 == (wrap64 (-t261)))))) else (some false)))) else (some false)))) else (some false))))
def bagatellelaw01_FixLaws.f (k : Nat) (a0 : Int) (a1 : Int) : Option (Bool) := (bagatellelaw01_fit.f k).bind fun t246 => (if t246 = true then ((fix_Mul.f k (mx a0 (-9223372036854775807)) 4294967296).bind fun t247 => (if t247 = (mx a0 (-9223372036854775807)) then ((fix_Mul.f k (mx a0 (-9223372036854775807)) 0).bind fun t248 => (if t248 = 0 then ((fix_Mul.f k (mx a0 (-9223372036854775807)) (-4294967296)).bind fun t249 => (if t249 = (wrap64 (-(mx a0 (-9223372036854775807)))) then ((fix_Div.f k (mx a0 (-9223372036854775807)) 4294967296).bind fun t250 => (if t250 = (mx a0 (-9223372036854775807)) then ((fix_Add.f k (mx a0 (-9223372036854775807)) 0).bind fun t251 => (if t251 = (mx a0 (-9223372036854775807)) then ((fix_Sub.f k (mx a0 (-9223372036854775807)) (mx a0 (-9223372036854775807))).bind fun t252 => (bagatellelaw01_FixLaws.j0 k (mx a0 (-9223372036854775807)) (mx a1 (-9223372036854775807)) (t252 != 0))) else (bagatellelaw01_FixLaws.j0 k (mx a0 (-9223372036854775807)) (mx a1 (-9223372036854775807)) true))) else (bagatellelaw01_FixLaws.j0 k (mx a0 (-9223372036854775807)) (mx a1 (-9223372036854775807)) true))) else (bagatellelaw01_FixLaws.j0 k (mx a0 (-9223372036854775807)) (mx a1 (-9223372036854775807)) true))) else (bagatellelaw01_FixLaws.j0 k (mx a0 (-9223372036854775807)) (mx a1 (-9223372036854775807)) true))) else (bagatellelaw01_FixLaws.j0 k (mx a0 (-9223372036854775807)) (mx a1 (-9223372036854775807)) true))) else (some false))
theorem bagatellelaw01_FixLaws.mono_l : ∀ k, (∀ y0 y1 y2, LeO (bagatellelaw01_FixLaws.j0 k y0 y1 y2) (bagatellelaw01_FixLaws.j0 (k + 1) y0 y1 y2))
  | 0 => fun _ _ _ r h => by simp [bagatellelaw01_FixLaws.j0] at h
  | k + 1 => by
    have ih0 := bagatellelaw01_FixLaws.mono_l k
    · intro y0 y1 y2
      unfold bagatellelaw01_FixLaws.j0
      repeat' first
      | (with_reducible exact ih0 _ _ _)
      | (with_reducible exact bagatellelaw01_fit.mono _)
      | (with_reducible exact fix_Add.mono _ _ _)
      | (with_reducible exact fix_Div.mono _ _ _)
      | (with_reducible exact fix_Mul.mono _ _ _)
      | (with_reducible exact fix_Sub.mono _ _ _)
      | (with_reducible exact LeO.refl _)
      | (with_reducible exact LeO.none _)
      | (with_reducible refine LeO.ite ?_ ?_)
      | (with_reducible refine LeO.bind ?_ (fun _ => ?_))
      | exact ih0 _ _ _
      | exact bagatellelaw01_fit.mono _
      | exact fix_Add.mono _ _ _
      | exact fix_Div.mono _ _ _
      | exact fix_Mul.mono _ _ _
      | exact fix_Sub.mono _ _ _
      | exact LeO.none _
      | refine LeO.ite ?_ ?_
      | refine LeO.bind ?_ (fun _ => ?_)
theorem bagatellelaw01_FixLaws.mono : ∀ a0 a1 k, LeO (bagatellelaw01_FixLaws.f k a0 a1) (bagatellelaw01_FixLaws.f (k + 1) a0 a1) := by
  intro a0 a1 k
  have ih0 := bagatellelaw01_FixLaws.mono_l k
  unfold bagatellelaw01_FixLaws.f
  repeat' first
      | (with_reducible exact ih0 _ _ _)
      | (with_reducible exact bagatellelaw01_fit.mono _)
      | (with_reducible exact fix_Add.mono _ _ _)
      | (with_reducible exact fix_Div.mono _ _ _)
      | (with_reducible exact fix_Mul.mono _ _ _)
      | (with_reducible exact fix_Sub.mono _ _ _)
      | (with_reducible exact LeO.refl _)
      | (with_reducible exact LeO.none _)
      | (with_reducible refine LeO.ite ?_ ?_)
      | (with_reducible refine LeO.bind ?_ (fun _ => ?_))
      | exact ih0 _ _ _
      | exact bagatellelaw01_fit.mono _
      | exact fix_Add.mono _ _ _
      | exact fix_Div.mono _ _ _
      | exact fix_Mul.mono _ _ _
      | exact fix_Sub.mono _ _ _
      | exact LeO.none _
      | refine LeO.ite ?_ ?_
      | refine LeO.bind ?_ (fun _ => ?_)
set_option maxHeartbeats 8000000 in
set_option maxRecDepth 100000 in
theorem bagatellelaw01_FixLaws.calls (k : Nat) (a0 : Int) (a1 : Int) (r : Bool) (w : World) (h : bagatellelaw01_FixLaws.f k a0 a1 = some r) :
    Calls Try.prog 9 #[.int .i64 a0, .int .i64 a1] w fun e w' => e = .returned (.bool r) ∧ Below w.heap.size w w' := by
  have HB := Aside0.mk (Below.refl w.heap.size w)
  have H : ((bagatellelaw01_fit.f k).bind fun t246 => (if t246 = true then ((fix_Mul.f k (mx a0 (-9223372036854775807)) 4294967296).bind fun t247 => (if t247 = (mx a0 (-9223372036854775807)) then ((fix_Mul.f k (mx a0 (-9223372036854775807)) 0).bind fun t248 => (if t248 = 0 then ((fix_Mul.f k (mx a0 (-9223372036854775807)) (-4294967296)).bind fun t249 => (if t249 = (wrap64 (-(mx a0 (-9223372036854775807)))) then ((fix_Div.f k (mx a0 (-9223372036854775807)) 4294967296).bind fun t250 => (if t250 = (mx a0 (-9223372036854775807)) then ((fix_Add.f k (mx a0 (-9223372036854775807)) 0).bind fun t251 => (if t251 = (mx a0 (-9223372036854775807)) then ((fix_Sub.f k (mx a0 (-9223372036854775807)) (mx a0 (-9223372036854775807))).bind fun t252 => (bagatellelaw01_FixLaws.j0 k (mx a0 (-9223372036854775807)) (mx a1 (-9223372036854775807)) (t252 != 0))) else (bagatellelaw01_FixLaws.j0 k (mx a0 (-9223372036854775807)) (mx a1 (-9223372036854775807)) true))) else (bagatellelaw01_FixLaws.j0 k (mx a0 (-9223372036854775807)) (mx a1 (-9223372036854775807)) true))) else (bagatellelaw01_FixLaws.j0 k (mx a0 (-9223372036854775807)) (mx a1 (-9223372036854775807)) true))) else (bagatellelaw01_FixLaws.j0 k (mx a0 (-9223372036854775807)) (mx a1 (-9223372036854775807)) true))) else (bagatellelaw01_FixLaws.j0 k (mx a0 (-9223372036854775807)) (mx a1 (-9223372036854775807)) true))) else (some false))) = some r := h
  clear h
  replace H := Option.bind_eq_some_iff.mp H
  obtain ⟨t246, A30, H⟩ := H
  replace H : (if t246 = true then ((fix_Mul.f k (mx a0 (-9223372036854775807)) 4294967296).bind fun t247 => (if t247 = (mx a0 (-9223372036854775807)) then ((fix_Mul.f k (mx a0 (-9223372036854775807)) 0).bind fun t248 => (if t248 = 0 then ((fix_Mul.f k (mx a0 (-9223372036854775807)) (-4294967296)).bind fun t249 => (if t249 = (wrap64 (-(mx a0 (-9223372036854775807)))) then ((fix_Div.f k (mx a0 (-9223372036854775807)) 4294967296).bind fun t250 => (if t250 = (mx a0 (-9223372036854775807)) then ((fix_Add.f k (mx a0 (-9223372036854775807)) 0).bind fun t251 => (if t251 = (mx a0 (-9223372036854775807)) then ((fix_Sub.f k (mx a0 (-9223372036854775807)) (mx a0 (-9223372036854775807))).bind fun t252 => (bagatellelaw01_FixLaws.j0 k (mx a0 (-9223372036854775807)) (mx a1 (-9223372036854775807)) (t252 != 0))) else (bagatellelaw01_FixLaws.j0 k (mx a0 (-9223372036854775807)) (mx a1 (-9223372036854775807)) true))) else (bagatellelaw01_FixLaws.j0 k (mx a0 (-9223372036854775807)) (mx a1 (-9223372036854775807)) true))) else (bagatellelaw01_FixLaws.j0 k (mx a0 (-9223372036854775807)) (mx a1 (-9223372036854775807)) true))) else (bagatellelaw01_FixLaws.j0 k (mx a0 (-9223372036854775807)) (mx a1 (-9223372036854775807)) true))) else (bagatellelaw01_FixLaws.j0 k (mx a0 (-9223372036854775807)) (mx a1 (-9223372036854775807)) true))) else (some false)) = some r := H
  have A3 := Aside0.mk A30
  clear A30
  by_cases c4 : t246 = true
  · subst c4
    have H1 : ((fix_Mul.f k (mx a0 (-9223372036854775807)) 4294967296).bind fun t247 => (if t247 = (mx a0 (-9223372036854775807)) then ((fix_Mul.f k (mx a0 (-9223372036854775807)) 0).bind fun t248 => (if t248 = 0 then ((fix_Mul.f k (mx a0 (-9223372036854775807)) (-4294967296)).bind fun t249 => (if t249 = (wrap64 (-(mx a0 (-9223372036854775807)))) then ((fix_Div.f k (mx a0 (-9223372036854775807)) 4294967296).bind fun t250 => (if t250 = (mx a0 (-9223372036854775807)) then ((fix_Add.f k (mx a0 (-9223372036854775807)) 0).bind fun t251 => (if t251 = (mx a0 (-9223372036854775807)) then ((fix_Sub.f k (mx a0 (-9223372036854775807)) (mx a0 (-9223372036854775807))).bind fun t252 => (bagatellelaw01_FixLaws.j0 k (mx a0 (-9223372036854775807)) (mx a1 (-9223372036854775807)) (t252 != 0))) else (bagatellelaw01_FixLaws.j0 k (mx a0 (-9223372036854775807)) (mx a1 (-9223372036854775807)) true))) else (bagatellelaw01_FixLaws.j0 k (mx a0 (-9223372036854775807)) (mx a1 (-9223372036854775807)) true))) else (bagatellelaw01_FixLaws.j0 k (mx a0 (-9223372036854775807)) (mx a1 (-9223372036854775807)) true))) else (bagatellelaw01_FixLaws.j0 k (mx a0 (-9223372036854775807)) (mx a1 (-9223372036854775807)) true))) else (bagatellelaw01_FixLaws.j0 k (mx a0 (-9223372036854775807)) (mx a1 (-9223372036854775807)) true))) = some r := by rw [if_pos rfl] at H; exact H
    clear H
    have H := H1
    clear H1
    obtain ⟨ji5, hji5⟩ : ∃ j_ : Int, (mx a0 (-9223372036854775807)) = j_ := ⟨_, rfl⟩
    replace H : ((fix_Mul.f k (ji5) 4294967296).bind fun t247 => (if t247 = (ji5) then ((fix_Mul.f k (ji5) 0).bind fun t248 => (if t248 = 0 then ((fix_Mul.f k (ji5) (-4294967296)).bind fun t249 => (if t249 = (wrap64 (-(ji5))) then ((fix_Div.f k (ji5) 4294967296).bind fun t250 => (if t250 = (ji5) then ((fix_Add.f k (ji5) 0).bind fun t251 => (if t251 = (ji5) then ((fix_Sub.f k (ji5) (ji5)).bind fun t252 => (bagatellelaw01_FixLaws.j0 k ji5 (mx a1 (-9223372036854775807)) (t252 != 0))) else (bagatellelaw01_FixLaws.j0 k ji5 (mx a1 (-9223372036854775807)) true))) else (bagatellelaw01_FixLaws.j0 k ji5 (mx a1 (-9223372036854775807)) true))) else (bagatellelaw01_FixLaws.j0 k ji5 (mx a1 (-9223372036854775807)) true))) else (bagatellelaw01_FixLaws.j0 k ji5 (mx a1 (-9223372036854775807)) true))) else (bagatellelaw01_FixLaws.j0 k ji5 (mx a1 (-9223372036854775807)) true))) = some r := by first | (rw [hji5] at H; exact H) | (simp only [hji5] at H ⊢; exact H)
    (try rw [hji5] at A3)
    have hji5_ : (if a0 < (-9223372036854775807) then (-9223372036854775807) else a0) = ji5 := hji5
    obtain ⟨ji6, hji6⟩ : ∃ j_ : Int, (mx a1 (-9223372036854775807)) = j_ := ⟨_, rfl⟩
    replace H : ((fix_Mul.f k (ji5) 4294967296).bind fun t247 => (if t247 = (ji5) then ((fix_Mul.f k (ji5) 0).bind fun t248 => (if t248 = 0 then ((fix_Mul.f k (ji5) (-4294967296)).bind fun t249 => (if t249 = (wrap64 (-(ji5))) then ((fix_Div.f k (ji5) 4294967296).bind fun t250 => (if t250 = (ji5) then ((fix_Add.f k (ji5) 0).bind fun t251 => (if t251 = (ji5) then ((fix_Sub.f k (ji5) (ji5)).bind fun t252 => (bagatellelaw01_FixLaws.j0 k ji5 ji6 (t252 != 0))) else (bagatellelaw01_FixLaws.j0 k ji5 ji6 true))) else (bagatellelaw01_FixLaws.j0 k ji5 ji6 true))) else (bagatellelaw01_FixLaws.j0 k ji5 ji6 true))) else (bagatellelaw01_FixLaws.j0 k ji5 ji6 true))) else (bagatellelaw01_FixLaws.j0 k ji5 ji6 true))) = some r := by first | (rw [hji6] at H; exact H) | (simp only [hji6] at H ⊢; exact H)
    (try rw [hji6] at A3)
    have hji6_ : (if a1 < (-9223372036854775807) then (-9223372036854775807) else a1) = ji6 := hji6
    have HC7 := Aside0.mk H
    clear H
    go_enter Try.func9, Try.ntmps9
    go_upto_region 4 with (first | ((with_reducible refine gate_callee (f := 12) rfl ?_); refine goesL_ (some 5) rfl rfl Try.func12 (by kernel_rfl) rfl #[] rfl (by (try simp only [List.map_toArray, List.map_cons, List.map_nil]); first | done | rfl | (simp only [List.length_drop, List.length_take]; rfl)) ?_; (with_reducible refine (bagatellelaw01_fit.calls k  true _ A3.out).mono ?_); rintro e w8 ⟨rfl, hb⟩; refine ⟨_, rfl, ?_⟩; have n0_ := Aside0.mk (below_step (by repeat (first | (with_reducible first | exact HB.out | apply below_alloc | apply pw_below_drewN | apply below_drew1) | exact HB.out)) hb); clear HB; have HB := n0_; clear n0_; (try clear hb); (try clear hb2); (try clear hk); (try clear hi)))
    (try simp only [Act.put, List.setIfInBounds_toArray, List.set_cons_zero, List.set_cons_succ])
    go_cut [44] (fun v44 wc => ∃ (kq : Nat) (x44_6 : Bool), v44 = .bool x44_6 ∧ Aside0 (bagatellelaw01_FixLaws.j0 kq ji5 ji6 x44_6 = some r) ∧ Aside0 (kq ≤ k) ∧ Aside0 (Below w.heap.size w wc))
    case first =>
      have H := HC7.out
      clear HC7
      replace H := Option.bind_eq_some_iff.mp H
      obtain ⟨t247, A90, H⟩ := H
      replace H : (if t247 = (ji5) then ((fix_Mul.f k (ji5) 0).bind fun t248 => (if t248 = 0 then ((fix_Mul.f k (ji5) (-4294967296)).bind fun t249 => (if t249 = (wrap64 (-(ji5))) then ((fix_Div.f k (ji5) 4294967296).bind fun t250 => (if t250 = (ji5) then ((fix_Add.f k (ji5) 0).bind fun t251 => (if t251 = (ji5) then ((fix_Sub.f k (ji5) (ji5)).bind fun t252 => (bagatellelaw01_FixLaws.j0 k ji5 ji6 (t252 != 0))) else (bagatellelaw01_FixLaws.j0 k ji5 ji6 true))) else (bagatellelaw01_FixLaws.j0 k ji5 ji6 true))) else (bagatellelaw01_FixLaws.j0 k ji5 ji6 true))) else (bagatellelaw01_FixLaws.j0 k ji5 ji6 true))) else (bagatellelaw01_FixLaws.j0 k ji5 ji6 true)) = some r := H
      have A9 := Aside0.mk A90
      clear A90
      by_cases c10 : t247 = (ji5)
      · rw [if_pos c10] at H
        have c10b0 : (t247 == (ji5)) = true := beq_iff_eq.mpr c10
        have c10b1 : (t247 != (ji5)) = false := bne_eq_false_iff_eq.mpr c10
        clear c10
        (first | rw [c10b0] | (simp only [i64_w, i32_w]; rw [c10b0]) | skip)
        replace H := Option.bind_eq_some_iff.mp H
        obtain ⟨t248, A110, H⟩ := H
        replace H : (if t248 = 0 then ((fix_Mul.f k (ji5) (-4294967296)).bind fun t249 => (if t249 = (wrap64 (-(ji5))) then ((fix_Div.f k (ji5) 4294967296).bind fun t250 => (if t250 = (ji5) then ((fix_Add.f k (ji5) 0).bind fun t251 => (if t251 = (ji5) then ((fix_Sub.f k (ji5) (ji5)).bind fun t252 => (bagatellelaw01_FixLaws.j0 k ji5 ji6 (t252 != 0))) else (bagatellelaw01_FixLaws.j0 k ji5 ji6 true))) else (bagatellelaw01_FixLaws.j0 k ji5 ji6 true))) else (bagatellelaw01_FixLaws.j0 k ji5 ji6 true))) else (bagatellelaw01_FixLaws.j0 k ji5 ji6 true)) = some r := H
        have A11 := Aside0.mk A110
        clear A110
        by_cases c12 : t248 = 0
        · rw [if_pos c12] at H
          have c12b0 : (t248 == 0) = true := beq_iff_eq.mpr c12
          have c12b1 : (t248 != 0) = false := bne_eq_false_iff_eq.mpr c12
          clear c12
          replace H := Option.bind_eq_some_iff.mp H
          obtain ⟨t249, A130, H⟩ := H
          replace H : (if t249 = (wrap64 (-(ji5))) then ((fix_Div.f k (ji5) 4294967296).bind fun t250 => (if t250 = (ji5) then ((fix_Add.f k (ji5) 0).bind fun t251 => (if t251 = (ji5) then ((fix_Sub.f k (ji5) (ji5)).bind fun t252 => (bagatellelaw01_FixLaws.j0 k ji5 ji6 (t252 != 0))) else (bagatellelaw01_FixLaws.j0 k ji5 ji6 true))) else (bagatellelaw01_FixLaws.j0 k ji5 ji6 true))) else (bagatellelaw01_FixLaws.j0 k ji5 ji6 true)) = some r := H
          have A13 := Aside0.mk A130
          clear A130
          by_cases c14 : t249 = (wrap64 (-(ji5)))
          · rw [if_pos c14] at H
            have c14b0 : (t249 == (wrap64 (-(ji5)))) = true := beq_iff_eq.mpr c14
            have c14b1 : (t249 != (wrap64 (-(ji5)))) = false := bne_eq_false_iff_eq.mpr c14
            clear c14
            replace H := Option.bind_eq_some_iff.mp H
            obtain ⟨t250, A150, H⟩ := H
            replace H : (if t250 = (ji5) then ((fix_Add.f k (ji5) 0).bind fun t251 => (if t251 = (ji5) then ((fix_Sub.f k (ji5) (ji5)).bind fun t252 => (bagatellelaw01_FixLaws.j0 k ji5 ji6 (t252 != 0))) else (bagatellelaw01_FixLaws.j0 k ji5 ji6 true))) else (bagatellelaw01_FixLaws.j0 k ji5 ji6 true)) = some r := H
            have A15 := Aside0.mk A150
            clear A150
            by_cases c16 : t250 = (ji5)
            · rw [if_pos c16] at H
              have c16b0 : (t250 == (ji5)) = true := beq_iff_eq.mpr c16
              have c16b1 : (t250 != (ji5)) = false := bne_eq_false_iff_eq.mpr c16
              clear c16
              replace H := Option.bind_eq_some_iff.mp H
              obtain ⟨t251, A170, H⟩ := H
              replace H : (if t251 = (ji5) then ((fix_Sub.f k (ji5) (ji5)).bind fun t252 => (bagatellelaw01_FixLaws.j0 k ji5 ji6 (t252 != 0))) else (bagatellelaw01_FixLaws.j0 k ji5 ji6 true)) = some r := H
              have A17 := Aside0.mk A170
              clear A170
              by_cases c18 : t251 = (ji5)
              · rw [if_pos c18] at H
                have c18b0 : (t251 == (ji5)) = true := beq_iff_eq.mpr c18
                have c18b1 : (t251 != (ji5)) = false := bne_eq_false_iff_eq.mpr c18
                clear c18
                replace H := Option.bind_eq_some_iff.mp H
                obtain ⟨t252, A190, H⟩ := H
                replace H : (bagatellelaw01_FixLaws.j0 k ji5 ji6 (t252 != 0)) = some r := H
                have A19 := Aside0.mk A190
                clear A190
                have H' := Aside0.mk H
                clear H
                go_wp2_with (first | ((with_reducible refine gate_callee (f := 13) rfl ?_); refine goesL_ (some 12) rfl rfl Try.func13 (by kernel_rfl) rfl #[.int .i64 ji5, .int .i64 4294967296] rfl (by (try simp only [List.map_toArray, List.map_cons, List.map_nil]); first | done | (simp only [hji5]; rfl) | rfl | (simp only [List.length_drop, List.length_take]; rfl)) ?_; (with_reducible refine (fix_Mul.calls k ji5 4294967296 t247 _ A9.out).mono ?_); rintro e w20 ⟨rfl, hb⟩; refine ⟨_, rfl, ?_⟩; have n0_ := Aside0.mk (below_step (by repeat (first | (with_reducible first | exact HB.out | apply below_alloc | apply pw_below_drewN | apply below_drew1) | exact HB.out)) hb); clear HB; have HB := n0_; clear n0_; (try clear hb); (try clear hb2); (try clear hk); (try clear hi)) | (go_at_call 13; (with_reducible refine (fix_Mul.calls k ji5 0 t248 _ A11.out).mono ?_); rintro e w21 ⟨rfl, hb⟩; have n0_ := Aside0.mk (below_step (by repeat (first | (with_reducible first | exact HB.out | apply below_alloc | apply pw_below_drewN | apply below_drew1) | exact HB.out)) hb); clear HB; have HB := n0_; clear n0_; (try clear hb); (try clear hb2); (try clear hk); (try clear hi)) | (go_at_call 13; (with_reducible refine (fix_Mul.calls k ji5 (-4294967296) t249 _ A13.out).mono ?_); rintro e w22 ⟨rfl, hb⟩; have n0_ := Aside0.mk (below_step (by repeat (first | (with_reducible first | exact HB.out | apply below_alloc | apply pw_below_drewN | apply below_drew1) | exact HB.out)) hb); clear HB; have HB := n0_; clear n0_; (try clear hb); (try clear hb2); (try clear hk); (try clear hi)) | (go_at_call 17; (with_reducible refine (fix_Div.calls k ji5 4294967296 t250 _ A15.out).mono ?_); rintro e w23 ⟨rfl, hb⟩; have n0_ := Aside0.mk (below_step (by repeat (first | (with_reducible first | exact HB.out | apply below_alloc | apply pw_below_drewN | apply below_drew1) | exact HB.out)) hb); clear HB; have HB := n0_; clear n0_; (try clear hb); (try clear hb2); (try clear hk); (try clear hi)) | (go_at_call 20; (with_reducible refine (fix_Add.calls k ji5 0 t251 _ A17.out).mono ?_); rintro e w24 ⟨rfl, hb⟩; have n0_ := Aside0.mk (below_step (by repeat (first | (with_reducible first | exact HB.out | apply below_alloc | apply pw_below_drewN | apply below_drew1) | exact HB.out)) hb); clear HB; have HB := n0_; clear n0_; (try clear hb); (try clear hb2); (try clear hk); (try clear hi)) | (go_at_call 23; (with_reducible refine (fix_Sub.calls k ji5 ji5 t252 _ A19.out).mono ?_); rintro e w25 ⟨rfl, hb⟩; have n0_ := Aside0.mk (below_step (by repeat (first | (with_reducible first | exact HB.out | apply below_alloc | apply pw_below_drewN | apply below_drew1) | exact HB.out)) hb); clear HB; have HB := n0_; clear n0_; (try clear hb); (try clear hb2); (try clear hk); (try clear hi)))
                go_meet
                case rel => exact ⟨_, ((t252 != 0)), (by first | rfl | (simp; done) | (simp [*]; done) | (simp [wrap64]; done) | (congr 2 <;> first | rfl | (unfold wrap64; omega))), H', ⟨by first | omega | exact Nat.le_refl _⟩, ⟨by repeat (first | (with_reducible first | exact HB.out | apply below_alloc | apply pw_below_drewN | apply below_drew1) | exact HB.out)⟩⟩
              · rw [if_neg c18] at H
                have c18b0 : (t251 == (ji5)) = false := beq_eq_false_iff_ne.mpr c18
                have c18b1 : (t251 != (ji5)) = true := bne_iff_ne.mpr c18
                have H' := Aside0.mk H
                clear H
                go_wp2_with (first | ((with_reducible refine gate_callee (f := 13) rfl ?_); refine goesL_ (some 12) rfl rfl Try.func13 (by kernel_rfl) rfl #[.int .i64 ji5, .int .i64 4294967296] rfl (by (try simp only [List.map_toArray, List.map_cons, List.map_nil]); first | done | (simp only [hji5]; rfl) | rfl | (simp only [List.length_drop, List.length_take]; rfl)) ?_; (with_reducible refine (fix_Mul.calls k ji5 4294967296 t247 _ A9.out).mono ?_); rintro e w26 ⟨rfl, hb⟩; refine ⟨_, rfl, ?_⟩; have n0_ := Aside0.mk (below_step (by repeat (first | (with_reducible first | exact HB.out | apply below_alloc | apply pw_below_drewN | apply below_drew1) | exact HB.out)) hb); clear HB; have HB := n0_; clear n0_; (try clear hb); (try clear hb2); (try clear hk); (try clear hi)) | (go_at_call 13; (with_reducible refine (fix_Mul.calls k ji5 0 t248 _ A11.out).mono ?_); rintro e w27 ⟨rfl, hb⟩; have n0_ := Aside0.mk (below_step (by repeat (first | (with_reducible first | exact HB.out | apply below_alloc | apply pw_below_drewN | apply below_drew1) | exact HB.out)) hb); clear HB; have HB := n0_; clear n0_; (try clear hb); (try clear hb2); (try clear hk); (try clear hi)) | (go_at_call 13; (with_reducible refine (fix_Mul.calls k ji5 (-4294967296) t249 _ A13.out).mono ?_); rintro e w28 ⟨rfl, hb⟩; have n0_ := Aside0.mk (below_step (by repeat (first | (with_reducible first | exact HB.out | apply below_alloc | apply pw_below_drewN | apply below_drew1) | exact HB.out)) hb); clear HB; have HB := n0_; clear n0_; (try clear hb); (try clear hb2); (try clear hk); (try clear hi)) | (go_at_call 17; (with_reducible refine (fix_Div.calls k ji5 4294967296 t250 _ A15.out).mono ?_); rintro e w29 ⟨rfl, hb⟩; have n0_ := Aside0.mk (below_step (by repeat (first | (with_reducible first | exact HB.out | apply below_alloc | apply pw_below_drewN | apply below_drew1) | exact HB.out)) hb); clear HB; have HB := n0_; clear n0_; (try clear hb); (try clear hb2); (try clear hk); (try clear hi)) | (go_at_call 20; (with_reducible refine (fix_Add.calls k ji5 0 t251 _ A17.out).mono ?_); rintro e w30 ⟨rfl, hb⟩; have n0_ := Aside0.mk (below_step (by repeat (first | (with_reducible first | exact HB.out | apply below_alloc | apply pw_below_drewN | apply below_drew1) | exact HB.out)) hb); clear HB; have HB := n0_; clear n0_; (try clear hb); (try clear hb2); (try clear hk); (try clear hi)))
                go_meet
                case rel => exact ⟨_, (true), (by first | rfl | (simp; done) | (simp [*]; done) | (simp [wrap64]; done) | (congr 2 <;> first | rfl | (unfold wrap64; omega))), H', ⟨by first | omega | exact Nat.le_refl _⟩, ⟨by repeat (first | (with_reducible first | exact HB.out | apply below_alloc | apply pw_below_drewN | apply below_drew1) | exact HB.out)⟩⟩
            · rw [if_neg c16] at H
              have c16b0 : (t250 == (ji5)) = false := beq_eq_false_iff_ne.mpr c16
              have c16b1 : (t250 != (ji5)) = true := bne_iff_ne.mpr c16
              have H' := Aside0.mk H
              clear H
              go_wp2_with (first | ((with_reducible refine gate_callee (f := 13) rfl ?_); refine goesL_ (some 12) rfl rfl Try.func13 (by kernel_rfl) rfl #[.int .i64 ji5, .int .i64 4294967296] rfl (by (try simp only [List.map_toArray, List.map_cons, List.map_nil]); first | done | (simp only [hji5]; rfl) | rfl | (simp only [List.length_drop, List.length_take]; rfl)) ?_; (with_reducible refine (fix_Mul.calls k ji5 4294967296 t247 _ A9.out).mono ?_); rintro e w31 ⟨rfl, hb⟩; refine ⟨_, rfl, ?_⟩; have n0_ := Aside0.mk (below_step (by repeat (first | (with_reducible first | exact HB.out | apply below_alloc | apply pw_below_drewN | apply below_drew1) | exact HB.out)) hb); clear HB; have HB := n0_; clear n0_; (try clear hb); (try clear hb2); (try clear hk); (try clear hi)) | (go_at_call 13; (with_reducible refine (fix_Mul.calls k ji5 0 t248 _ A11.out).mono ?_); rintro e w32 ⟨rfl, hb⟩; have n0_ := Aside0.mk (below_step (by repeat (first | (with_reducible first | exact HB.out | apply below_alloc | apply pw_below_drewN | apply below_drew1) | exact HB.out)) hb); clear HB; have HB := n0_; clear n0_; (try clear hb); (try clear hb2); (try clear hk); (try clear hi)) | (go_at_call 13; (with_reducible refine (fix_Mul.calls k ji5 (-4294967296) t249 _ A13.out).mono ?_); rintro e w33 ⟨rfl, hb⟩; have n0_ := Aside0.mk (below_step (by repeat (first | (with_reducible first | exact HB.out | apply below_alloc | apply pw_below_drewN | apply below_drew1) | exact HB.out)) hb); clear HB; have HB := n0_; clear n0_; (try clear hb); (try clear hb2); (try clear hk); (try clear hi)) | (go_at_call 17; (with_reducible refine (fix_Div.calls k ji5 4294967296 t250 _ A15.out).mono ?_); rintro e w34 ⟨rfl, hb⟩; have n0_ := Aside0.mk (below_step (by repeat (first | (with_reducible first | exact HB.out | apply below_alloc | apply pw_below_drewN | apply below_drew1) | exact HB.out)) hb); clear HB; have HB := n0_; clear n0_; (try clear hb); (try clear hb2); (try clear hk); (try clear hi)))
              go_meet
              case rel => exact ⟨_, (true), (by first | rfl | (simp; done) | (simp [*]; done) | (simp [wrap64]; done) | (congr 2 <;> first | rfl | (unfold wrap64; omega))), H', ⟨by first | omega | exact Nat.le_refl _⟩, ⟨by repeat (first | (with_reducible first | exact HB.out | apply below_alloc | apply pw_below_drewN | apply below_drew1) | exact HB.out)⟩⟩
          · rw [if_neg c14] at H
            have c14b0 : (t249 == (wrap64 (-(ji5)))) = false := beq_eq_false_iff_ne.mpr c14
            have c14b1 : (t249 != (wrap64 (-(ji5)))) = true := bne_iff_ne.mpr c14
            have H' := Aside0.mk H
            clear H
            go_wp2_with (first | ((with_reducible refine gate_callee (f := 13) rfl ?_); refine goesL_ (some 12) rfl rfl Try.func13 (by kernel_rfl) rfl #[.int .i64 ji5, .int .i64 4294967296] rfl (by (try simp only [List.map_toArray, List.map_cons, List.map_nil]); first | done | (simp only [hji5]; rfl) | rfl | (simp only [List.length_drop, List.length_take]; rfl)) ?_; (with_reducible refine (fix_Mul.calls k ji5 4294967296 t247 _ A9.out).mono ?_); rintro e w35 ⟨rfl, hb⟩; refine ⟨_, rfl, ?_⟩; have n0_ := Aside0.mk (below_step (by repeat (first | (with_reducible first | exact HB.out | apply below_alloc | apply pw_below_drewN | apply below_drew1) | exact HB.out)) hb); clear HB; have HB := n0_; clear n0_; (try clear hb); (try clear hb2); (try clear hk); (try clear hi)) | (go_at_call 13; (with_reducible refine (fix_Mul.calls k ji5 0 t248 _ A11.out).mono ?_); rintro e w36 ⟨rfl, hb⟩; have n0_ := Aside0.mk (below_step (by repeat (first | (with_reducible first | exact HB.out | apply below_alloc | apply pw_below_drewN | apply below_drew1) | exact HB.out)) hb); clear HB; have HB := n0_; clear n0_; (try clear hb); (try clear hb2); (try clear hk); (try clear hi)) | (go_at_call 13; (with_reducible refine (fix_Mul.calls k ji5 (-4294967296) t249 _ A13.out).mono ?_); rintro e w37 ⟨rfl, hb⟩; have n0_ := Aside0.mk (below_step (by repeat (first | (with_reducible first | exact HB.out | apply below_alloc | apply pw_below_drewN | apply below_drew1) | exact HB.out)) hb); clear HB; have HB := n0_; clear n0_; (try clear hb); (try clear hb2); (try clear hk); (try clear hi)))
            go_meet
            case rel => exact ⟨_, (true), (by first | rfl | (simp; done) | (simp [*]; done) | (simp [wrap64]; done) | (congr 2 <;> first | rfl | (unfold wrap64; omega))), H', ⟨by first | omega | exact Nat.le_refl _⟩, ⟨by repeat (first | (with_reducible first | exact HB.out | apply below_alloc | apply pw_below_drewN | apply below_drew1) | exact HB.out)⟩⟩
        · rw [if_neg c12] at H
          have c12b0 : (t248 == 0) = false := beq_eq_false_iff_ne.mpr c12
          have c12b1 : (t248 != 0) = true := bne_iff_ne.mpr c12
          have H' := Aside0.mk H
          clear H
          go_wp2_with (first | ((with_reducible refine gate_callee (f := 13) rfl ?_); refine goesL_ (some 12) rfl rfl Try.func13 (by kernel_rfl) rfl #[.int .i64 ji5, .int .i64 4294967296] rfl (by (try simp only [List.map_toArray, List.map_cons, List.map_nil]); first | done | (simp only [hji5]; rfl) | rfl | (simp only [List.length_drop, List.length_take]; rfl)) ?_; (with_reducible refine (fix_Mul.calls k ji5 4294967296 t247 _ A9.out).mono ?_); rintro e w38 ⟨rfl, hb⟩; refine ⟨_, rfl, ?_⟩; have n0_ := Aside0.mk (below_step (by repeat (first | (with_reducible first | exact HB.out | apply below_alloc | apply pw_below_drewN | apply below_drew1) | exact HB.out)) hb); clear HB; have HB := n0_; clear n0_; (try clear hb); (try clear hb2); (try clear hk); (try clear hi)) | (go_at_call 13; (with_reducible refine (fix_Mul.calls k ji5 0 t248 _ A11.out).mono ?_); rintro e w39 ⟨rfl, hb⟩; have n0_ := Aside0.mk (below_step (by repeat (first | (with_reducible first | exact HB.out | apply below_alloc | apply pw_below_drewN | apply below_drew1) | exact HB.out)) hb); clear HB; have HB := n0_; clear n0_; (try clear hb); (try clear hb2); (try clear hk); (try clear hi)))
          go_meet
          case rel => exact ⟨_, (true), (by first | rfl | (simp; done) | (simp [*]; done) | (simp [wrap64]; done) | (congr 2 <;> first | rfl | (unfold wrap64; omega))), H', ⟨by first | omega | exact Nat.le_refl _⟩, ⟨by repeat (first | (with_reducible first | exact HB.out | apply below_alloc | apply pw_below_drewN | apply below_drew1) | exact HB.out)⟩⟩
      · rw [if_neg c10] at H
        have c10b0 : (t247 == (ji5)) = false := beq_eq_false_iff_ne.mpr c10
        have c10b1 : (t247 != (ji5)) = true := bne_iff_ne.mpr c10
        (first | rw [c10b0] | (simp only [i64_w, i32_w]; rw [c10b0]) | skip)
        have H' := Aside0.mk H
        clear H
        go_wp2_with (first | ((with_reducible refine gate_callee (f := 13) rfl ?_); refine goesL_ (some 12) rfl rfl Try.func13 (by kernel_rfl) rfl #[.int .i64 ji5, .int .i64 4294967296] rfl (by (try simp only [List.map_toArray, List.map_cons, List.map_nil]); first | done | (simp only [hji5]; rfl) | rfl | (simp only [List.length_drop, List.length_take]; rfl)) ?_; (with_reducible refine (fix_Mul.calls k ji5 4294967296 t247 _ A9.out).mono ?_); rintro e w40 ⟨rfl, hb⟩; refine ⟨_, rfl, ?_⟩; have n0_ := Aside0.mk (below_step (by repeat (first | (with_reducible first | exact HB.out | apply below_alloc | apply pw_below_drewN | apply below_drew1) | exact HB.out)) hb); clear HB; have HB := n0_; clear n0_; (try clear hb); (try clear hb2); (try clear hk); (try clear hi)))
        go_meet
        case rel => exact ⟨_, (true), (by first | rfl | (simp; done) | (simp [*]; done) | (simp [wrap64]; done) | (congr 2 <;> first | rfl | (unfold wrap64; omega))), H', ⟨by first | omega | exact Nat.le_refl _⟩, ⟨by repeat (first | (with_reducible first | exact HB.out | apply below_alloc | apply pw_below_drewN | apply below_drew1) | exact HB.out)⟩⟩
    case rest =>
      clear HC7
      try clear c1
      try clear p2
      try clear c4
      try clear p6
      try clear c9
      try clear c10
      try clear c10b0
      try clear c10b1
      try clear c12
      try clear c12b0
      try clear c12b1
      try clear c13
      try clear c14
      try clear c14b0
      try clear c14b1
      try clear c16
      try clear c16b0
      try clear c16b1
      try clear c18
      try clear c18b0
      try clear c18b1
      obtain ⟨kq, x44_6, rfl, HA, HJ6, HB⟩ := hcut
      cases kq with
      | zero => exact absurd HA.out (by simp [bagatellelaw01_FixLaws.j0])
      | succ kj6 =>
        have H := HA.out
        clear HA
        simp only [bagatellelaw01_FixLaws.j0] at H
        by_cases c41 : x44_6 = true
        · subst c41
          have H1 : (some false) = some r := by rw [if_pos rfl] at H; exact H
          clear H
          have H := H1
          clear H1
          obtain rfl := Option.some.inj H
          go_wp2
          go_ret
          exact ⟨by first | rfl | (simp [errW_none, errW_some] <;> rfl) | (simp only [← hji5, ← hji6]; first | rfl | (simp [errW_none, errW_some] <;> rfl)) | (simp [*, errW_none, errW_some] <;> rfl) | (simp [wrap64]; done) | (congr 2 <;> first | rfl | (unfold wrap64; omega)), by repeat (first | (with_reducible first | exact HB.out | apply below_alloc | apply pw_below_drewN | apply below_drew1) | exact HB.out)⟩
        · replace c41 := Bool.eq_false_iff.mpr c41
          subst c41
          have H1 : ((fix_Mul.f kj6 (wrap64 (-ji5)) ji6).bind fun t253 => ((fix_Mul.f kj6 ji5 ji6).bind fun t254 => (if t253 = (wrap64 (-t254)) then ((fix_Add.f kj6 (wrap64 (-ji5)) (wrap64 (-ji6))).bind fun t255 => ((fix_Add.f kj6 ji5 ji6).bind fun t256 => (if t255 = (wrap64 (-t256)) then (if ji5 = 0 then ((fix_Div.f kj6 (wrap64 (-ji5)) ji6).bind fun t257 => ((fix_Div.f kj6 ji5 ji6).bind fun t258 => (some (t257 == (wrap64 (-t258)))))) else ((fix_Div.f kj6 ji5 ji5).bind fun t259 => (if t259 = 4294967296 then ((fix_Div.f kj6 (wrap64 (-ji5)) ji6).bind fun t260 => ((fix_Div.f kj6 ji5 ji6).bind fun t261 => (some (t260 == (wrap64 (-t261)))))) else (some false)))) else (some false)))) else (some false)))) = some r := by rw [if_neg (show ¬ (false = true) by decide)] at H; exact H
          clear H
          have H := H1
          clear H1
          replace H := Option.bind_eq_some_iff.mp H
          obtain ⟨t253, A420, H⟩ := H
          replace H : ((fix_Mul.f kj6 ji5 ji6).bind fun t254 => (if t253 = (wrap64 (-t254)) then ((fix_Add.f kj6 (wrap64 (-ji5)) (wrap64 (-ji6))).bind fun t255 => ((fix_Add.f kj6 ji5 ji6).bind fun t256 => (if t255 = (wrap64 (-t256)) then (if ji5 = 0 then ((fix_Div.f kj6 (wrap64 (-ji5)) ji6).bind fun t257 => ((fix_Div.f kj6 ji5 ji6).bind fun t258 => (some (t257 == (wrap64 (-t258)))))) else ((fix_Div.f kj6 ji5 ji5).bind fun t259 => (if t259 = 4294967296 then ((fix_Div.f kj6 (wrap64 (-ji5)) ji6).bind fun t260 => ((fix_Div.f kj6 ji5 ji6).bind fun t261 => (some (t260 == (wrap64 (-t261)))))) else (some false)))) else (some false)))) else (some false))) = some r := H
          have A42 := Aside0.mk A420
          clear A420
          replace H := Option.bind_eq_some_iff.mp H
          obtain ⟨t254, A430, H⟩ := H
          replace H : (if t253 = (wrap64 (-t254)) then ((fix_Add.f kj6 (wrap64 (-ji5)) (wrap64 (-ji6))).bind fun t255 => ((fix_Add.f kj6 ji5 ji6).bind fun t256 => (if t255 = (wrap64 (-t256)) then (if ji5 = 0 then ((fix_Div.f kj6 (wrap64 (-ji5)) ji6).bind fun t257 => ((fix_Div.f kj6 ji5 ji6).bind fun t258 => (some (t257 == (wrap64 (-t258)))))) else ((fix_Div.f kj6 ji5 ji5).bind fun t259 => (if t259 = 4294967296 then ((fix_Div.f kj6 (wrap64 (-ji5)) ji6).bind fun t260 => ((fix_Div.f kj6 ji5 ji6).bind fun t261 => (some (t260 == (wrap64 (-t261)))))) else (some false)))) else (some false)))) else (some false)) = some r := H
          have A43 := Aside0.mk A430
          clear A430
          by_cases c44 : t253 = (wrap64 (-t254))
          · rw [if_pos c44] at H
            have c44b0 : (t253 == (wrap64 (-t254))) = true := beq_iff_eq.mpr c44
            have c44b1 : (t253 != (wrap64 (-t254))) = false := bne_eq_false_iff_eq.mpr c44
            clear c44
            replace H := Option.bind_eq_some_iff.mp H
            obtain ⟨t255, A450, H⟩ := H
            replace H : ((fix_Add.f kj6 ji5 ji6).bind fun t256 => (if t255 = (wrap64 (-t256)) then (if ji5 = 0 then ((fix_Div.f kj6 (wrap64 (-ji5)) ji6).bind fun t257 => ((fix_Div.f kj6 ji5 ji6).bind fun t258 => (some (t257 == (wrap64 (-t258)))))) else ((fix_Div.f kj6 ji5 ji5).bind fun t259 => (if t259 = 4294967296 then ((fix_Div.f kj6 (wrap64 (-ji5)) ji6).bind fun t260 => ((fix_Div.f kj6 ji5 ji6).bind fun t261 => (some (t260 == (wrap64 (-t261)))))) else (some false)))) else (some false))) = some r := H
            have A45 := Aside0.mk A450
            clear A450
            replace H := Option.bind_eq_some_iff.mp H
            obtain ⟨t256, A460, H⟩ := H
            replace H : (if t255 = (wrap64 (-t256)) then (if ji5 = 0 then ((fix_Div.f kj6 (wrap64 (-ji5)) ji6).bind fun t257 => ((fix_Div.f kj6 ji5 ji6).bind fun t258 => (some (t257 == (wrap64 (-t258)))))) else ((fix_Div.f kj6 ji5 ji5).bind fun t259 => (if t259 = 4294967296 then ((fix_Div.f kj6 (wrap64 (-ji5)) ji6).bind fun t260 => ((fix_Div.f kj6 ji5 ji6).bind fun t261 => (some (t260 == (wrap64 (-t261)))))) else (some false)))) else (some false)) = some r := H
            have A46 := Aside0.mk A460
            clear A460
            by_cases c47 : t255 = (wrap64 (-t256))
            · rw [if_pos c47] at H
              have c47b0 : (t255 == (wrap64 (-t256))) = true := beq_iff_eq.mpr c47
              have c47b1 : (t255 != (wrap64 (-t256))) = false := bne_eq_false_iff_eq.mpr c47
              clear c47
              by_cases c48 : ji5 = 0
              · rw [if_pos c48] at H
                have c48b0 : (ji5 == 0) = true := beq_iff_eq.mpr c48
                have c48b1 : (ji5 != 0) = false := bne_eq_false_iff_eq.mpr c48
                clear c48
                replace H := Option.bind_eq_some_iff.mp H
                obtain ⟨t257, A490, H⟩ := H
                replace H : ((fix_Div.f kj6 ji5 ji6).bind fun t258 => (some (t257 == (wrap64 (-t258))))) = some r := H
                have A49 := Aside0.mk A490
                clear A490
                replace H := Option.bind_eq_some_iff.mp H
                obtain ⟨t258, A500, H⟩ := H
                replace H : (some (t257 == (wrap64 (-t258)))) = some r := H
                have A50 := Aside0.mk A500
                clear A500
                obtain rfl := Option.some.inj H
                go_wp2_with (first | ((with_reducible refine gate_callee (f := 13) rfl ?_); refine goesL_ (some 48) rfl rfl Try.func13 (by kernel_rfl) rfl #[.int .i64 (wrap64 (-ji5)), .int .i64 ji6] rfl (by (try simp only [List.map_toArray, List.map_cons, List.map_nil]); first | done | (simp only [hji5, hji6]; rfl) | rfl | (simp only [List.length_drop, List.length_take]; rfl)) ?_; (with_reducible refine (fix_Mul.calls kj6 (wrap64 (-ji5)) ji6 t253 _ A42.out).mono ?_); rintro e w51 ⟨rfl, hb⟩; refine ⟨_, rfl, ?_⟩; have n0_ := Aside0.mk (below_step (by repeat (first | (with_reducible first | exact HB.out | apply below_alloc | apply pw_below_drewN | apply below_drew1) | exact HB.out)) hb); clear HB; have HB := n0_; clear n0_; (try clear hb); (try clear hb2); (try clear hk); (try clear hi)) | ((with_reducible refine gate_callee (f := 13) rfl ?_); refine goesL_ (some 51) rfl rfl Try.func13 (by kernel_rfl) rfl #[.int .i64 ji5, .int .i64 ji6] rfl (by (try simp only [List.map_toArray, List.map_cons, List.map_nil]); first | done | (simp only [hji5, hji6]; rfl) | rfl | (simp only [List.length_drop, List.length_take]; rfl)) ?_; (with_reducible refine (fix_Mul.calls kj6 ji5 ji6 t254 _ A43.out).mono ?_); rintro e w52 ⟨rfl, hb⟩; refine ⟨_, rfl, ?_⟩; have n0_ := Aside0.mk (below_step (by repeat (first | (with_reducible first | exact HB.out | apply below_alloc | apply pw_below_drewN | apply below_drew1) | exact HB.out)) hb); clear HB; have HB := n0_; clear n0_; (try clear hb); (try clear hb2); (try clear hk); (try clear hi)) | (go_at_call 20; (with_reducible refine (fix_Add.calls kj6 (wrap64 (-ji5)) (wrap64 (-ji6)) t255 _ A45.out).mono ?_); rintro e w53 ⟨rfl, hb⟩; have n0_ := Aside0.mk (below_step (by repeat (first | (with_reducible first | exact HB.out | apply below_alloc | apply pw_below_drewN | apply below_drew1) | exact HB.out)) hb); clear HB; have HB := n0_; clear n0_; (try clear hb); (try clear hb2); (try clear hk); (try clear hi)) | (go_at_call 20; (with_reducible refine (fix_Add.calls kj6 ji5 ji6 t256 _ A46.out).mono ?_); rintro e w54 ⟨rfl, hb⟩; have n0_ := Aside0.mk (below_step (by repeat (first | (with_reducible first | exact HB.out | apply below_alloc | apply pw_below_drewN | apply below_drew1) | exact HB.out)) hb); clear HB; have HB := n0_; clear n0_; (try clear hb); (try clear hb2); (try clear hk); (try clear hi)) | (go_at_call 17; (with_reducible refine (fix_Div.calls kj6 (wrap64 (-ji5)) ji6 t257 _ A49.out).mono ?_); rintro e w55 ⟨rfl, hb⟩; have n0_ := Aside0.mk (below_step (by repeat (first | (with_reducible first | exact HB.out | apply below_alloc | apply pw_below_drewN | apply below_drew1) | exact HB.out)) hb); clear HB; have HB := n0_; clear n0_; (try clear hb); (try clear hb2); (try clear hk); (try clear hi)) | (go_at_call 17; (with_reducible refine (fix_Div.calls kj6 ji5 ji6 t258 _ A50.out).mono ?_); rintro e w56 ⟨rfl, hb⟩; have n0_ := Aside0.mk (below_step (by repeat (first | (with_reducible first | exact HB.out | apply below_alloc | apply pw_below_drewN | apply below_drew1) | exact HB.out)) hb); clear HB; have HB := n0_; clear n0_; (try clear hb); (try clear hb2); (try clear hk); (try clear hi)))
                go_ret
                exact ⟨by first | rfl | (simp [errW_none, errW_some] <;> rfl) | (simp only [← hji5, ← hji6]; first | rfl | (simp [errW_none, errW_some] <;> rfl)) | (simp [*, errW_none, errW_some] <;> rfl) | (simp [wrap64]; done) | (congr 2 <;> first | rfl | (unfold wrap64; omega)), by repeat (first | (with_reducible first | exact HB.out | apply below_alloc | apply pw_below_drewN | apply below_drew1) | exact HB.out)⟩
              · rw [if_neg c48] at H
                have c48b0 : (ji5 == 0) = false := beq_eq_false_iff_ne.mpr c48
                have c48b1 : (ji5 != 0) = true := bne_iff_ne.mpr c48
                replace H := Option.bind_eq_some_iff.mp H
                obtain ⟨t259, A570, H⟩ := H
                replace H : (if t259 = 4294967296 then ((fix_Div.f kj6 (wrap64 (-ji5)) ji6).bind fun t260 => ((fix_Div.f kj6 ji5 ji6).bind fun t261 => (some (t260 == (wrap64 (-t261)))))) else (some false)) = some r := H
                have A57 := Aside0.mk A570
                clear A570
                by_cases c58 : t259 = 4294967296
                · rw [if_pos c58] at H
                  have c58b0 : (t259 == 4294967296) = true := beq_iff_eq.mpr c58
                  have c58b1 : (t259 != 4294967296) = false := bne_eq_false_iff_eq.mpr c58
                  clear c58
                  replace H := Option.bind_eq_some_iff.mp H
                  obtain ⟨t260, A590, H⟩ := H
                  replace H : ((fix_Div.f kj6 ji5 ji6).bind fun t261 => (some (t260 == (wrap64 (-t261))))) = some r := H
                  have A59 := Aside0.mk A590
                  clear A590
                  replace H := Option.bind_eq_some_iff.mp H
                  obtain ⟨t261, A600, H⟩ := H
                  replace H : (some (t260 == (wrap64 (-t261)))) = some r := H
                  have A60 := Aside0.mk A600
                  clear A600
                  obtain rfl := Option.some.inj H
                  go_wp2_with (first | ((with_reducible refine gate_callee (f := 13) rfl ?_); refine goesL_ (some 48) rfl rfl Try.func13 (by kernel_rfl) rfl #[.int .i64 (wrap64 (-ji5)), .int .i64 ji6] rfl (by (try simp only [List.map_toArray, List.map_cons, List.map_nil]); first | done | (simp only [hji5, hji6]; rfl) | rfl | (simp only [List.length_drop, List.length_take]; rfl)) ?_; (with_reducible refine (fix_Mul.calls kj6 (wrap64 (-ji5)) ji6 t253 _ A42.out).mono ?_); rintro e w61 ⟨rfl, hb⟩; refine ⟨_, rfl, ?_⟩; have n0_ := Aside0.mk (below_step (by repeat (first | (with_reducible first | exact HB.out | apply below_alloc | apply pw_below_drewN | apply below_drew1) | exact HB.out)) hb); clear HB; have HB := n0_; clear n0_; (try clear hb); (try clear hb2); (try clear hk); (try clear hi)) | ((with_reducible refine gate_callee (f := 13) rfl ?_); refine goesL_ (some 51) rfl rfl Try.func13 (by kernel_rfl) rfl #[.int .i64 ji5, .int .i64 ji6] rfl (by (try simp only [List.map_toArray, List.map_cons, List.map_nil]); first | done | (simp only [hji5, hji6]; rfl) | rfl | (simp only [List.length_drop, List.length_take]; rfl)) ?_; (with_reducible refine (fix_Mul.calls kj6 ji5 ji6 t254 _ A43.out).mono ?_); rintro e w62 ⟨rfl, hb⟩; refine ⟨_, rfl, ?_⟩; have n0_ := Aside0.mk (below_step (by repeat (first | (with_reducible first | exact HB.out | apply below_alloc | apply pw_below_drewN | apply below_drew1) | exact HB.out)) hb); clear HB; have HB := n0_; clear n0_; (try clear hb); (try clear hb2); (try clear hk); (try clear hi)) | (go_at_call 20; (with_reducible refine (fix_Add.calls kj6 (wrap64 (-ji5)) (wrap64 (-ji6)) t255 _ A45.out).mono ?_); rintro e w63 ⟨rfl, hb⟩; have n0_ := Aside0.mk (below_step (by repeat (first | (with_reducible first | exact HB.out | apply below_alloc | apply pw_below_drewN | apply below_drew1) | exact HB.out)) hb); clear HB; have HB := n0_; clear n0_; (try clear hb); (try clear hb2); (try clear hk); (try clear hi)) | (go_at_call 20; (with_reducible refine (fix_Add.calls kj6 ji5 ji6 t256 _ A46.out).mono ?_); rintro e w64 ⟨rfl, hb⟩; have n0_ := Aside0.mk (below_step (by repeat (first | (with_reducible first | exact HB.out | apply below_alloc | apply pw_below_drewN | apply below_drew1) | exact HB.out)) hb); clear HB; have HB := n0_; clear n0_; (try clear hb); (try clear hb2); (try clear hk); (try clear hi)) | (go_at_call 17; (with_reducible refine (fix_Div.calls kj6 ji5 ji5 t259 _ A57.out).mono ?_); rintro e w65 ⟨rfl, hb⟩; have n0_ := Aside0.mk (below_step (by repeat (first | (with_reducible first | exact HB.out | apply below_alloc | apply pw_below_drewN | apply below_drew1) | exact HB.out)) hb); clear HB; have HB := n0_; clear n0_; (try clear hb); (try clear hb2); (try clear hk); (try clear hi)) | (go_at_call 17; (with_reducible refine (fix_Div.calls kj6 (wrap64 (-ji5)) ji6 t260 _ A59.out).mono ?_); rintro e w66 ⟨rfl, hb⟩; have n0_ := Aside0.mk (below_step (by repeat (first | (with_reducible first | exact HB.out | apply below_alloc | apply pw_below_drewN | apply below_drew1) | exact HB.out)) hb); clear HB; have HB := n0_; clear n0_; (try clear hb); (try clear hb2); (try clear hk); (try clear hi)) | (go_at_call 17; (with_reducible refine (fix_Div.calls kj6 ji5 ji6 t261 _ A60.out).mono ?_); rintro e w67 ⟨rfl, hb⟩; have n0_ := Aside0.mk (below_step (by repeat (first | (with_reducible first | exact HB.out | apply below_alloc | apply pw_below_drewN | apply below_drew1) | exact HB.out)) hb); clear HB; have HB := n0_; clear n0_; (try clear hb); (try clear hb2); (try clear hk); (try clear hi)))
                  go_ret
                  exact ⟨by first | rfl | (simp [errW_none, errW_some] <;> rfl) | (simp only [← hji5, ← hji6]; first | rfl | (simp [errW_none, errW_some] <;> rfl)) | (simp [*, errW_none, errW_some] <;> rfl) | (simp [wrap64]; done) | (congr 2 <;> first | rfl | (unfold wrap64; omega)), by repeat (first | (with_reducible first | exact HB.out | apply below_alloc | apply pw_below_drewN | apply below_drew1) | exact HB.out)⟩
                · rw [if_neg c58] at H
                  have c58b0 : (t259 == 4294967296) = false := beq_eq_false_iff_ne.mpr c58
                  have c58b1 : (t259 != 4294967296) = true := bne_iff_ne.mpr c58
                  obtain rfl := Option.some.inj H
                  go_wp2_with (first | ((with_reducible refine gate_callee (f := 13) rfl ?_); refine goesL_ (some 48) rfl rfl Try.func13 (by kernel_rfl) rfl #[.int .i64 (wrap64 (-ji5)), .int .i64 ji6] rfl (by (try simp only [List.map_toArray, List.map_cons, List.map_nil]); first | done | (simp only [hji5, hji6]; rfl) | rfl | (simp only [List.length_drop, List.length_take]; rfl)) ?_; (with_reducible refine (fix_Mul.calls kj6 (wrap64 (-ji5)) ji6 t253 _ A42.out).mono ?_); rintro e w68 ⟨rfl, hb⟩; refine ⟨_, rfl, ?_⟩; have n0_ := Aside0.mk (below_step (by repeat (first | (with_reducible first | exact HB.out | apply below_alloc | apply pw_below_drewN | apply below_drew1) | exact HB.out)) hb); clear HB; have HB := n0_; clear n0_; (try clear hb); (try clear hb2); (try clear hk); (try clear hi)) | ((with_reducible refine gate_callee (f := 13) rfl ?_); refine goesL_ (some 51) rfl rfl Try.func13 (by kernel_rfl) rfl #[.int .i64 ji5, .int .i64 ji6] rfl (by (try simp only [List.map_toArray, List.map_cons, List.map_nil]); first | done | (simp only [hji5, hji6]; rfl) | rfl | (simp only [List.length_drop, List.length_take]; rfl)) ?_; (with_reducible refine (fix_Mul.calls kj6 ji5 ji6 t254 _ A43.out).mono ?_); rintro e w69 ⟨rfl, hb⟩; refine ⟨_, rfl, ?_⟩; have n0_ := Aside0.mk (below_step (by repeat (first | (with_reducible first | exact HB.out | apply below_alloc | apply pw_below_drewN | apply below_drew1) | exact HB.out)) hb); clear HB; have HB := n0_; clear n0_; (try clear hb); (try clear hb2); (try clear hk); (try clear hi)) | (go_at_call 20; (with_reducible refine (fix_Add.calls kj6 (wrap64 (-ji5)) (wrap64 (-ji6)) t255 _ A45.out).mono ?_); rintro e w70 ⟨rfl, hb⟩; have n0_ := Aside0.mk (below_step (by repeat (first | (with_reducible first | exact HB.out | apply below_alloc | apply pw_below_drewN | apply below_drew1) | exact HB.out)) hb); clear HB; have HB := n0_; clear n0_; (try clear hb); (try clear hb2); (try clear hk); (try clear hi)) | (go_at_call 20; (with_reducible refine (fix_Add.calls kj6 ji5 ji6 t256 _ A46.out).mono ?_); rintro e w71 ⟨rfl, hb⟩; have n0_ := Aside0.mk (below_step (by repeat (first | (with_reducible first | exact HB.out | apply below_alloc | apply pw_below_drewN | apply below_drew1) | exact HB.out)) hb); clear HB; have HB := n0_; clear n0_; (try clear hb); (try clear hb2); (try clear hk); (try clear hi)) | (go_at_call 17; (with_reducible refine (fix_Div.calls kj6 ji5 ji5 t259 _ A57.out).mono ?_); rintro e w72 ⟨rfl, hb⟩; have n0_ := Aside0.mk (below_step (by repeat (first | (with_reducible first | exact HB.out | apply below_alloc | apply pw_below_drewN | apply below_drew1) | exact HB.out)) hb); clear HB; have HB := n0_; clear n0_; (try clear hb); (try clear hb2); (try clear hk); (try clear hi)))
                  go_ret
                  exact ⟨by first | rfl | (simp [errW_none, errW_some] <;> rfl) | (simp only [← hji5, ← hji6]; first | rfl | (simp [errW_none, errW_some] <;> rfl)) | (simp [*, errW_none, errW_some] <;> rfl) | (simp [wrap64]; done) | (congr 2 <;> first | rfl | (unfold wrap64; omega)), by repeat (first | (with_reducible first | exact HB.out | apply below_alloc | apply pw_below_drewN | apply below_drew1) | exact HB.out)⟩
            · rw [if_neg c47] at H
              have c47b0 : (t255 == (wrap64 (-t256))) = false := beq_eq_false_iff_ne.mpr c47
              have c47b1 : (t255 != (wrap64 (-t256))) = true := bne_iff_ne.mpr c47
              obtain rfl := Option.some.inj H
              go_wp2_with (first | ((with_reducible refine gate_callee (f := 13) rfl ?_); refine goesL_ (some 48) rfl rfl Try.func13 (by kernel_rfl) rfl #[.int .i64 (wrap64 (-ji5)), .int .i64 ji6] rfl (by (try simp only [List.map_toArray, List.map_cons, List.map_nil]); first | done | (simp only [hji5, hji6]; rfl) | rfl | (simp only [List.length_drop, List.length_take]; rfl)) ?_; (with_reducible refine (fix_Mul.calls kj6 (wrap64 (-ji5)) ji6 t253 _ A42.out).mono ?_); rintro e w73 ⟨rfl, hb⟩; refine ⟨_, rfl, ?_⟩; have n0_ := Aside0.mk (below_step (by repeat (first | (with_reducible first | exact HB.out | apply below_alloc | apply pw_below_drewN | apply below_drew1) | exact HB.out)) hb); clear HB; have HB := n0_; clear n0_; (try clear hb); (try clear hb2); (try clear hk); (try clear hi)) | ((with_reducible refine gate_callee (f := 13) rfl ?_); refine goesL_ (some 51) rfl rfl Try.func13 (by kernel_rfl) rfl #[.int .i64 ji5, .int .i64 ji6] rfl (by (try simp only [List.map_toArray, List.map_cons, List.map_nil]); first | done | (simp only [hji5, hji6]; rfl) | rfl | (simp only [List.length_drop, List.length_take]; rfl)) ?_; (with_reducible refine (fix_Mul.calls kj6 ji5 ji6 t254 _ A43.out).mono ?_); rintro e w74 ⟨rfl, hb⟩; refine ⟨_, rfl, ?_⟩; have n0_ := Aside0.mk (below_step (by repeat (first | (with_reducible first | exact HB.out | apply below_alloc | apply pw_below_drewN | apply below_drew1) | exact HB.out)) hb); clear HB; have HB := n0_; clear n0_; (try clear hb); (try clear hb2); (try clear hk); (try clear hi)) | (go_at_call 20; (with_reducible refine (fix_Add.calls kj6 (wrap64 (-ji5)) (wrap64 (-ji6)) t255 _ A45.out).mono ?_); rintro e w75 ⟨rfl, hb⟩; have n0_ := Aside0.mk (below_step (by repeat (first | (with_reducible first | exact HB.out | apply below_alloc | apply pw_below_drewN | apply below_drew1) | exact HB.out)) hb); clear HB; have HB := n0_; clear n0_; (try clear hb); (try clear hb2); (try clear hk); (try clear hi)) | (go_at_call 20; (with_reducible refine (fix_Add.calls kj6 ji5 ji6 t256 _ A46.out).mono ?_); rintro e w76 ⟨rfl, hb⟩; have n0_ := Aside0.mk (below_step (by repeat (first | (with_reducible first | exact HB.out | apply below_alloc | apply pw_below_drewN | apply below_drew1) | exact HB.out)) hb); clear HB; have HB := n0_; clear n0_; (try clear hb); (try clear hb2); (try clear hk); (try clear hi)))
              go_ret
              exact ⟨by first | rfl | (simp [errW_none, errW_some] <;> rfl) | (simp only [← hji5, ← hji6]; first | rfl | (simp [errW_none, errW_some] <;> rfl)) | (simp [*, errW_none, errW_some] <;> rfl) | (simp [wrap64]; done) | (congr 2 <;> first | rfl | (unfold wrap64; omega)), by repeat (first | (with_reducible first | exact HB.out | apply below_alloc | apply pw_below_drewN | apply below_drew1) | exact HB.out)⟩
          · rw [if_neg c44] at H
            have c44b0 : (t253 == (wrap64 (-t254))) = false := beq_eq_false_iff_ne.mpr c44
            have c44b1 : (t253 != (wrap64 (-t254))) = true := bne_iff_ne.mpr c44
            obtain rfl := Option.some.inj H
            go_wp2_with (first | ((with_reducible refine gate_callee (f := 13) rfl ?_); refine goesL_ (some 48) rfl rfl Try.func13 (by kernel_rfl) rfl #[.int .i64 (wrap64 (-ji5)), .int .i64 ji6] rfl (by (try simp only [List.map_toArray, List.map_cons, List.map_nil]); first | done | (simp only [hji5, hji6]; rfl) | rfl | (simp only [List.length_drop, List.length_take]; rfl)) ?_; (with_reducible refine (fix_Mul.calls kj6 (wrap64 (-ji5)) ji6 t253 _ A42.out).mono ?_); rintro e w77 ⟨rfl, hb⟩; refine ⟨_, rfl, ?_⟩; have n0_ := Aside0.mk (below_step (by repeat (first | (with_reducible first | exact HB.out | apply below_alloc | apply pw_below_drewN | apply below_drew1) | exact HB.out)) hb); clear HB; have HB := n0_; clear n0_; (try clear hb); (try clear hb2); (try clear hk); (try clear hi)) | ((with_reducible refine gate_callee (f := 13) rfl ?_); refine goesL_ (some 51) rfl rfl Try.func13 (by kernel_rfl) rfl #[.int .i64 ji5, .int .i64 ji6] rfl (by (try simp only [List.map_toArray, List.map_cons, List.map_nil]); first | done | (simp only [hji5, hji6]; rfl) | rfl | (simp only [List.length_drop, List.length_take]; rfl)) ?_; (with_reducible refine (fix_Mul.calls kj6 ji5 ji6 t254 _ A43.out).mono ?_); rintro e w78 ⟨rfl, hb⟩; refine ⟨_, rfl, ?_⟩; have n0_ := Aside0.mk (below_step (by repeat (first | (with_reducible first | exact HB.out | apply below_alloc | apply pw_below_drewN | apply below_drew1) | exact HB.out)) hb); clear HB; have HB := n0_; clear n0_; (try clear hb); (try clear hb2); (try clear hk); (try clear hi)))
            go_ret
            exact ⟨by first | rfl | (simp [errW_none, errW_some] <;> rfl) | (simp only [← hji5, ← hji6]; first | rfl | (simp [errW_none, errW_some] <;> rfl)) | (simp [*, errW_none, errW_some] <;> rfl) | (simp [wrap64]; done) | (congr 2 <;> first | rfl | (unfold wrap64; omega)), by repeat (first | (with_reducible first | exact HB.out | apply below_alloc | apply pw_below_drewN | apply below_drew1) | exact HB.out)⟩
  · replace c4 := Bool.eq_false_iff.mpr c4
    subst c4
    have H1 : (some false) = some r := by rw [if_neg (show ¬ (false = true) by decide)] at H; exact H
    clear H
    have H := H1
    clear H1
    obtain rfl := Option.some.inj H
    go_enter Try.func9, Try.ntmps9
    go_wp2_with (first | ((with_reducible refine gate_callee (f := 12) rfl ?_); refine goesL_ (some 5) rfl rfl Try.func12 (by kernel_rfl) rfl #[] rfl (by (try simp only [List.map_toArray, List.map_cons, List.map_nil]); first | done | rfl | (simp only [List.length_drop, List.length_take]; rfl)) ?_; (with_reducible refine (bagatellelaw01_fit.calls k  false _ A3.out).mono ?_); rintro e w79 ⟨rfl, hb⟩; refine ⟨_, rfl, ?_⟩; have n0_ := Aside0.mk (below_step (by repeat (first | (with_reducible first | exact HB.out | apply below_alloc | apply pw_below_drewN | apply below_drew1) | exact HB.out)) hb); clear HB; have HB := n0_; clear n0_; (try clear hb); (try clear hb2); (try clear hk); (try clear hi)))
    go_ret
    exact ⟨by first | rfl | (simp [errW_none, errW_some] <;> rfl) | (simp [*, errW_none, errW_some] <;> rfl) | (simp [wrap64]; done) | (congr 2 <;> first | rfl | (unfold wrap64; omega)), by repeat (first | (with_reducible first | exact HB.out | apply below_alloc | apply pw_below_drewN | apply below_drew1) | exact HB.out)⟩

/-- THE ONE PURE STATEMENT of bagatellelaw01_FixLaws: yours. -/
def bagatellelaw01_FixLaws.Pure : Prop := ∀ (a0 : Int) (a1 : Int), (Lit.int .i64 a0).wf = true → (Lit.int .i64 a1).wf = true → ∃ k, bagatellelaw01_FixLaws.f k a0 a1 = some true
theorem bagatellelaw01_FixLaws.walk (P : bagatellelaw01_FixLaws.Pure) (a0 : Int) (a1 : Int) (w : World) (w0 : (Lit.int .i64 a0).wf = true) (w1 : (Lit.int .i64 a1).wf = true) :
    Calls Try.prog 9 #[.int .i64 a0, .int .i64 a1] w fun e w' => e = .returned (.bool true) ∧ Below w.heap.size w w' := by
  obtain ⟨k, h⟩ := P a0 a1 w0 w1
  refine (bagatellelaw01_FixLaws.calls k a0 a1 true w h).mono ?_
  rintro e w' ⟨rfl, hd⟩
  exact ⟨rfl, hd⟩

/-! ### bagatellelaw01_FixBacks: function 10 -/
def bagatellelaw01_FixBacks.f (k : Nat) (a0 : Int) (a1 : Int) : Option (Bool) := (bagatellelaw01_fit.f k).bind fun t262 => (if t262 = true then (if (Int.tmod a1 70368744177664) = 0 then (some true) else ((fix_Mul.f k (Int.tmod a0 70368744177664) (Int.tmod a1 70368744177664)).bind fun t263 => ((fix_Div.f k t263 (Int.tmod a1 70368744177664)).bind fun t264 => ((fix_Sub.f k t264 (Int.tmod a0 70368744177664)).bind fun t265 => ((fix_Abs.f t265).bind fun t266 => ((fix_Div.f k 1 (Int.tmod a1 70368744177664)).bind fun t267 => ((fix_Abs.f t267).bind fun t268 => (if t266 > (wrap64 (t268 + 1)) then (some false) else ((fix_Abs.f (Int.tmod a0 70368744177664)).bind fun t269 => ((fix_Sqrt.f k t269).bind fun t270 => ((fix_Abs.f (Int.tmod a0 70368744177664)).bind fun t271 => ((fix_Mul.f k t270 t270).bind fun t272 => ((fix_Sub.f k t271 t272).bind fun t273 => (if t273 ≥ 0 then ((fix_Div.f k (wrap64 ((wrap64 (2 * t270)) + 1)) 4294967296).bind fun t274 => ((fix_Mul.f k 2 t270).bind fun t275 => (some (decide (t273 ≤ (wrap64 ((wrap64 ((wrap64 (Int.tdiv t274 1)) + t275)) + 2))))))) else (some false))))))))))))))) else (some false))
theorem bagatellelaw01_FixBacks.mono : ∀ a0 a1 k, LeO (bagatellelaw01_FixBacks.f k a0 a1) (bagatellelaw01_FixBacks.f (k + 1) a0 a1) := by
  intro a0 a1 k
  unfold bagatellelaw01_FixBacks.f
  repeat' first
      | (with_reducible exact bagatellelaw01_fit.mono _)
      | (with_reducible exact fix_Div.mono _ _ _)
      | (with_reducible exact fix_Mul.mono _ _ _)
      | (with_reducible exact fix_Sqrt.mono _ _)
      | (with_reducible exact fix_Sub.mono _ _ _)
      | (with_reducible exact LeO.refl _)
      | (with_reducible exact LeO.none _)
      | (with_reducible refine LeO.ite ?_ ?_)
      | (with_reducible refine LeO.bind ?_ (fun _ => ?_))
      | exact bagatellelaw01_fit.mono _
      | exact fix_Div.mono _ _ _
      | exact fix_Mul.mono _ _ _
      | exact fix_Sqrt.mono _ _
      | exact fix_Sub.mono _ _ _
      | exact LeO.none _
      | refine LeO.ite ?_ ?_
      | refine LeO.bind ?_ (fun _ => ?_)
set_option maxHeartbeats 8000000 in
set_option maxRecDepth 100000 in
theorem bagatellelaw01_FixBacks.calls (k : Nat) (a0 : Int) (a1 : Int) (r : Bool) (w : World) (h : bagatellelaw01_FixBacks.f k a0 a1 = some r) :
    Calls Try.prog 10 #[.int .i64 a0, .int .i64 a1] w fun e w' => e = .returned (.bool r) ∧ Below w.heap.size w w' := by
  have HB := Aside0.mk (Below.refl w.heap.size w)
  have H : ((bagatellelaw01_fit.f k).bind fun t262 => (if t262 = true then (if (Int.tmod a1 70368744177664) = 0 then (some true) else ((fix_Mul.f k (Int.tmod a0 70368744177664) (Int.tmod a1 70368744177664)).bind fun t263 => ((fix_Div.f k t263 (Int.tmod a1 70368744177664)).bind fun t264 => ((fix_Sub.f k t264 (Int.tmod a0 70368744177664)).bind fun t265 => ((fix_Abs.f t265).bind fun t266 => ((fix_Div.f k 1 (Int.tmod a1 70368744177664)).bind fun t267 => ((fix_Abs.f t267).bind fun t268 => (if t266 > (wrap64 (t268 + 1)) then (some false) else ((fix_Abs.f (Int.tmod a0 70368744177664)).bind fun t269 => ((fix_Sqrt.f k t269).bind fun t270 => ((fix_Abs.f (Int.tmod a0 70368744177664)).bind fun t271 => ((fix_Mul.f k t270 t270).bind fun t272 => ((fix_Sub.f k t271 t272).bind fun t273 => (if t273 ≥ 0 then ((fix_Div.f k (wrap64 ((wrap64 (2 * t270)) + 1)) 4294967296).bind fun t274 => ((fix_Mul.f k 2 t270).bind fun t275 => (some (decide (t273 ≤ (wrap64 ((wrap64 ((wrap64 (Int.tdiv t274 1)) + t275)) + 2))))))) else (some false))))))))))))))) else (some false))) = some r := h
  clear h
  replace H := Option.bind_eq_some_iff.mp H
  obtain ⟨t262, A30, H⟩ := H
  replace H : (if t262 = true then (if (Int.tmod a1 70368744177664) = 0 then (some true) else ((fix_Mul.f k (Int.tmod a0 70368744177664) (Int.tmod a1 70368744177664)).bind fun t263 => ((fix_Div.f k t263 (Int.tmod a1 70368744177664)).bind fun t264 => ((fix_Sub.f k t264 (Int.tmod a0 70368744177664)).bind fun t265 => ((fix_Abs.f t265).bind fun t266 => ((fix_Div.f k 1 (Int.tmod a1 70368744177664)).bind fun t267 => ((fix_Abs.f t267).bind fun t268 => (if t266 > (wrap64 (t268 + 1)) then (some false) else ((fix_Abs.f (Int.tmod a0 70368744177664)).bind fun t269 => ((fix_Sqrt.f k t269).bind fun t270 => ((fix_Abs.f (Int.tmod a0 70368744177664)).bind fun t271 => ((fix_Mul.f k t270 t270).bind fun t272 => ((fix_Sub.f k t271 t272).bind fun t273 => (if t273 ≥ 0 then ((fix_Div.f k (wrap64 ((wrap64 (2 * t270)) + 1)) 4294967296).bind fun t274 => ((fix_Mul.f k 2 t270).bind fun t275 => (some (decide (t273 ≤ (wrap64 ((wrap64 ((wrap64 (Int.tdiv t274 1)) + t275)) + 2))))))) else (some false))))))))))))))) else (some false)) = some r := H
  have A3 := Aside0.mk A30
  clear A30
  by_cases c4 : t262 = true
  · subst c4
    have H1 : (if (Int.tmod a1 70368744177664) = 0 then (some true) else ((fix_Mul.f k (Int.tmod a0 70368744177664) (Int.tmod a1 70368744177664)).bind fun t263 => ((fix_Div.f k t263 (Int.tmod a1 70368744177664)).bind fun t264 => ((fix_Sub.f k t264 (Int.tmod a0 70368744177664)).bind fun t265 => ((fix_Abs.f t265).bind fun t266 => ((fix_Div.f k 1 (Int.tmod a1 70368744177664)).bind fun t267 => ((fix_Abs.f t267).bind fun t268 => (if t266 > (wrap64 (t268 + 1)) then (some false) else ((fix_Abs.f (Int.tmod a0 70368744177664)).bind fun t269 => ((fix_Sqrt.f k t269).bind fun t270 => ((fix_Abs.f (Int.tmod a0 70368744177664)).bind fun t271 => ((fix_Mul.f k t270 t270).bind fun t272 => ((fix_Sub.f k t271 t272).bind fun t273 => (if t273 ≥ 0 then ((fix_Div.f k (wrap64 ((wrap64 (2 * t270)) + 1)) 4294967296).bind fun t274 => ((fix_Mul.f k 2 t270).bind fun t275 => (some (decide (t273 ≤ (wrap64 ((wrap64 ((wrap64 (Int.tdiv t274 1)) + t275)) + 2))))))) else (some false))))))))))))))) = some r := by rw [if_pos rfl] at H; exact H
    clear H
    have H := H1
    clear H1
    by_cases c5 : (Int.tmod a1 70368744177664) = 0
    · rw [if_pos c5] at H
      have c5b0 : ((Int.tmod a1 70368744177664) == 0) = true := beq_iff_eq.mpr c5
      have c5b1 : ((Int.tmod a1 70368744177664) != 0) = false := bne_eq_false_iff_eq.mpr c5
      clear c5
      obtain rfl := Option.some.inj H
      go_enter Try.func10, Try.ntmps10
      go_wp2_with (first | ((with_reducible refine gate_callee (f := 12) rfl ?_); refine goesL_ (some 8) rfl rfl Try.func12 (by kernel_rfl) rfl #[] rfl (by (try simp only [List.map_toArray, List.map_cons, List.map_nil]); first | done | rfl | (simp only [List.length_drop, List.length_take]; rfl)) ?_; (with_reducible refine (bagatellelaw01_fit.calls k  true _ A3.out).mono ?_); rintro e w6 ⟨rfl, hb⟩; refine ⟨_, rfl, ?_⟩; have n0_ := Aside0.mk (below_step (by repeat (first | (with_reducible first | exact HB.out | apply below_alloc | apply pw_below_drewN | apply below_drew1) | exact HB.out)) hb); clear HB; have HB := n0_; clear n0_; (try clear hb); (try clear hb2); (try clear hk); (try clear hi)))
      go_ret
      exact ⟨by first | rfl | (simp [errW_none, errW_some] <;> rfl) | (simp [*, errW_none, errW_some] <;> rfl) | (simp [wrap64]; done) | (congr 2 <;> first | rfl | (unfold wrap64; omega)), by repeat (first | (with_reducible first | exact HB.out | apply below_alloc | apply pw_below_drewN | apply below_drew1) | exact HB.out)⟩
    · rw [if_neg c5] at H
      have c5b0 : ((Int.tmod a1 70368744177664) == 0) = false := beq_eq_false_iff_ne.mpr c5
      have c5b1 : ((Int.tmod a1 70368744177664) != 0) = true := bne_iff_ne.mpr c5
      replace H := Option.bind_eq_some_iff.mp H
      obtain ⟨t263, A70, H⟩ := H
      replace H : ((fix_Div.f k t263 (Int.tmod a1 70368744177664)).bind fun t264 => ((fix_Sub.f k t264 (Int.tmod a0 70368744177664)).bind fun t265 => ((fix_Abs.f t265).bind fun t266 => ((fix_Div.f k 1 (Int.tmod a1 70368744177664)).bind fun t267 => ((fix_Abs.f t267).bind fun t268 => (if t266 > (wrap64 (t268 + 1)) then (some false) else ((fix_Abs.f (Int.tmod a0 70368744177664)).bind fun t269 => ((fix_Sqrt.f k t269).bind fun t270 => ((fix_Abs.f (Int.tmod a0 70368744177664)).bind fun t271 => ((fix_Mul.f k t270 t270).bind fun t272 => ((fix_Sub.f k t271 t272).bind fun t273 => (if t273 ≥ 0 then ((fix_Div.f k (wrap64 ((wrap64 (2 * t270)) + 1)) 4294967296).bind fun t274 => ((fix_Mul.f k 2 t270).bind fun t275 => (some (decide (t273 ≤ (wrap64 ((wrap64 ((wrap64 (Int.tdiv t274 1)) + t275)) + 2))))))) else (some false))))))))))))) = some r := H
      have A7 := Aside0.mk A70
      clear A70
      replace H := Option.bind_eq_some_iff.mp H
      obtain ⟨t264, A80, H⟩ := H
      replace H : ((fix_Sub.f k t264 (Int.tmod a0 70368744177664)).bind fun t265 => ((fix_Abs.f t265).bind fun t266 => ((fix_Div.f k 1 (Int.tmod a1 70368744177664)).bind fun t267 => ((fix_Abs.f t267).bind fun t268 => (if t266 > (wrap64 (t268 + 1)) then (some false) else ((fix_Abs.f (Int.tmod a0 70368744177664)).bind fun t269 => ((fix_Sqrt.f k t269).bind fun t270 => ((fix_Abs.f (Int.tmod a0 70368744177664)).bind fun t271 => ((fix_Mul.f k t270 t270).bind fun t272 => ((fix_Sub.f k t271 t272).bind fun t273 => (if t273 ≥ 0 then ((fix_Div.f k (wrap64 ((wrap64 (2 * t270)) + 1)) 4294967296).bind fun t274 => ((fix_Mul.f k 2 t270).bind fun t275 => (some (decide (t273 ≤ (wrap64 ((wrap64 ((wrap64 (Int.tdiv t274 1)) + t275)) + 2))))))) else (some false)))))))))))) = some r := H
      have A8 := Aside0.mk A80
      clear A80
      replace H := Option.bind_eq_some_iff.mp H
      obtain ⟨t265, A90, H⟩ := H
      replace H : ((fix_Abs.f t265).bind fun t266 => ((fix_Div.f k 1 (Int.tmod a1 70368744177664)).bind fun t267 => ((fix_Abs.f t267).bind fun t268 => (if t266 > (wrap64 (t268 + 1)) then (some false) else ((fix_Abs.f (Int.tmod a0 70368744177664)).bind fun t269 => ((fix_Sqrt.f k t269).bind fun t270 => ((fix_Abs.f (Int.tmod a0 70368744177664)).bind fun t271 => ((fix_Mul.f k t270 t270).bind fun t272 => ((fix_Sub.f k t271 t272).bind fun t273 => (if t273 ≥ 0 then ((fix_Div.f k (wrap64 ((wrap64 (2 * t270)) + 1)) 4294967296).bind fun t274 => ((fix_Mul.f k 2 t270).bind fun t275 => (some (decide (t273 ≤ (wrap64 ((wrap64 ((wrap64 (Int.tdiv t274 1)) + t275)) + 2))))))) else (some false))))))))))) = some r := H
      have A9 := Aside0.mk A90
      clear A90
      replace H := Option.bind_eq_some_iff.mp H
      obtain ⟨t266, A100, H⟩ := H
      replace H : ((fix_Div.f k 1 (Int.tmod a1 70368744177664)).bind fun t267 => ((fix_Abs.f t267).bind fun t268 => (if t266 > (wrap64 (t268 + 1)) then (some false) else ((fix_Abs.f (Int.tmod a0 70368744177664)).bind fun t269 => ((fix_Sqrt.f k t269).bind fun t270 => ((fix_Abs.f (Int.tmod a0 70368744177664)).bind fun t271 => ((fix_Mul.f k t270 t270).bind fun t272 => ((fix_Sub.f k t271 t272).bind fun t273 => (if t273 ≥ 0 then ((fix_Div.f k (wrap64 ((wrap64 (2 * t270)) + 1)) 4294967296).bind fun t274 => ((fix_Mul.f k 2 t270).bind fun t275 => (some (decide (t273 ≤ (wrap64 ((wrap64 ((wrap64 (Int.tdiv t274 1)) + t275)) + 2))))))) else (some false)))))))))) = some r := H
      have A10 := Aside0.mk A100
      clear A100
      replace H := Option.bind_eq_some_iff.mp H
      obtain ⟨t267, A110, H⟩ := H
      replace H : ((fix_Abs.f t267).bind fun t268 => (if t266 > (wrap64 (t268 + 1)) then (some false) else ((fix_Abs.f (Int.tmod a0 70368744177664)).bind fun t269 => ((fix_Sqrt.f k t269).bind fun t270 => ((fix_Abs.f (Int.tmod a0 70368744177664)).bind fun t271 => ((fix_Mul.f k t270 t270).bind fun t272 => ((fix_Sub.f k t271 t272).bind fun t273 => (if t273 ≥ 0 then ((fix_Div.f k (wrap64 ((wrap64 (2 * t270)) + 1)) 4294967296).bind fun t274 => ((fix_Mul.f k 2 t270).bind fun t275 => (some (decide (t273 ≤ (wrap64 ((wrap64 ((wrap64 (Int.tdiv t274 1)) + t275)) + 2))))))) else (some false))))))))) = some r := H
      have A11 := Aside0.mk A110
      clear A110
      replace H := Option.bind_eq_some_iff.mp H
      obtain ⟨t268, A120, H⟩ := H
      replace H : (if t266 > (wrap64 (t268 + 1)) then (some false) else ((fix_Abs.f (Int.tmod a0 70368744177664)).bind fun t269 => ((fix_Sqrt.f k t269).bind fun t270 => ((fix_Abs.f (Int.tmod a0 70368744177664)).bind fun t271 => ((fix_Mul.f k t270 t270).bind fun t272 => ((fix_Sub.f k t271 t272).bind fun t273 => (if t273 ≥ 0 then ((fix_Div.f k (wrap64 ((wrap64 (2 * t270)) + 1)) 4294967296).bind fun t274 => ((fix_Mul.f k 2 t270).bind fun t275 => (some (decide (t273 ≤ (wrap64 ((wrap64 ((wrap64 (Int.tdiv t274 1)) + t275)) + 2))))))) else (some false)))))))) = some r := H
      have A12 := Aside0.mk A120
      clear A120
      by_cases c13 : t266 > (wrap64 (t268 + 1))
      · rw [if_pos c13] at H
        have c13b0 : decide ((wrap64 (t268 + 1)) < t266) = true := decide_eq_true c13
        clear c13
        obtain rfl := Option.some.inj H
        go_enter Try.func10, Try.ntmps10
        go_wp2_with (first | ((with_reducible refine gate_callee (f := 12) rfl ?_); refine goesL_ (some 8) rfl rfl Try.func12 (by kernel_rfl) rfl #[] rfl (by (try simp only [List.map_toArray, List.map_cons, List.map_nil]); first | done | rfl | (simp only [List.length_drop, List.length_take]; rfl)) ?_; (with_reducible refine (bagatellelaw01_fit.calls k  true _ A3.out).mono ?_); rintro e w14 ⟨rfl, hb⟩; refine ⟨_, rfl, ?_⟩; have n0_ := Aside0.mk (below_step (by repeat (first | (with_reducible first | exact HB.out | apply below_alloc | apply pw_below_drewN | apply below_drew1) | exact HB.out)) hb); clear HB; have HB := n0_; clear n0_; (try clear hb); (try clear hb2); (try clear hk); (try clear hi)) | ((with_reducible refine gate_callee (f := 13) rfl ?_); refine goesL_ (some 18) rfl rfl Try.func13 (by kernel_rfl) rfl #[.int .i64 (Int.tmod a0 70368744177664), .int .i64 (Int.tmod a1 70368744177664)] rfl (by (try simp only [List.map_toArray, List.map_cons, List.map_nil]); first | done | rfl | (simp only [List.length_drop, List.length_take]; rfl)) ?_; (with_reducible refine (fix_Mul.calls k (Int.tmod a0 70368744177664) (Int.tmod a1 70368744177664) t263 _ A7.out).mono ?_); rintro e w15 ⟨rfl, hb⟩; refine ⟨_, rfl, ?_⟩; have n0_ := Aside0.mk (below_step (by repeat (first | (with_reducible first | exact HB.out | apply below_alloc | apply pw_below_drewN | apply below_drew1) | exact HB.out)) hb); clear HB; have HB := n0_; clear n0_; (try clear hb); (try clear hb2); (try clear hk); (try clear hi)) | ((with_reducible refine gate_callee (f := 17) rfl ?_); refine goesL_ (some 20) rfl rfl Try.func17 (by kernel_rfl) rfl #[.int .i64 t263, .int .i64 (Int.tmod a1 70368744177664)] rfl (by (try simp only [List.map_toArray, List.map_cons, List.map_nil]); first | done | rfl | (simp only [List.length_drop, List.length_take]; rfl)) ?_; (with_reducible refine (fix_Div.calls k t263 (Int.tmod a1 70368744177664) t264 _ A8.out).mono ?_); rintro e w16 ⟨rfl, hb⟩; refine ⟨_, rfl, ?_⟩; have n0_ := Aside0.mk (below_step (by repeat (first | (with_reducible first | exact HB.out | apply below_alloc | apply pw_below_drewN | apply below_drew1) | exact HB.out)) hb); clear HB; have HB := n0_; clear n0_; (try clear hb); (try clear hb2); (try clear hk); (try clear hi)) | ((with_reducible refine gate_callee (f := 23) rfl ?_); refine goesL_ (some 22) rfl rfl Try.func23 (by kernel_rfl) rfl #[.int .i64 t264, .int .i64 (Int.tmod a0 70368744177664)] rfl (by (try simp only [List.map_toArray, List.map_cons, List.map_nil]); first | done | rfl | (simp only [List.length_drop, List.length_take]; rfl)) ?_; (with_reducible refine (fix_Sub.calls k t264 (Int.tmod a0 70368744177664) t265 _ A9.out).mono ?_); rintro e w17 ⟨rfl, hb⟩; refine ⟨_, rfl, ?_⟩; have n0_ := Aside0.mk (below_step (by repeat (first | (with_reducible first | exact HB.out | apply below_alloc | apply pw_below_drewN | apply below_drew1) | exact HB.out)) hb); clear HB; have HB := n0_; clear n0_; (try clear hb); (try clear hb2); (try clear hk); (try clear hi)) | ((with_reducible refine gate_callee (f := 19) rfl ?_); refine goesL_ (some 23) rfl rfl Try.func19 (by kernel_rfl) rfl #[.int .i64 t265] rfl (by (try simp only [List.map_toArray, List.map_cons, List.map_nil]); first | done | rfl | (simp only [List.length_drop, List.length_take]; rfl)) ?_; (with_reducible refine (fix_Abs.calls t265 t266 _ A10.out).mono ?_); rintro e w18 ⟨rfl, hb⟩; refine ⟨_, rfl, ?_⟩; have n0_ := Aside0.mk (below_step (by repeat (first | (with_reducible first | exact HB.out | apply below_alloc | apply pw_below_drewN | apply below_drew1) | exact HB.out)) hb); clear HB; have HB := n0_; clear n0_; (try clear hb); (try clear hb2); (try clear hk); (try clear hi)) | ((with_reducible refine gate_callee (f := 17) rfl ?_); refine goesL_ (some 26) rfl rfl Try.func17 (by kernel_rfl) rfl #[.int .i64 1, .int .i64 (Int.tmod a1 70368744177664)] rfl (by (try simp only [List.map_toArray, List.map_cons, List.map_nil]); first | done | rfl | (simp only [List.length_drop, List.length_take]; rfl)) ?_; (with_reducible refine (fix_Div.calls k 1 (Int.tmod a1 70368744177664) t267 _ A11.out).mono ?_); rintro e w19 ⟨rfl, hb⟩; refine ⟨_, rfl, ?_⟩; have n0_ := Aside0.mk (below_step (by repeat (first | (with_reducible first | exact HB.out | apply below_alloc | apply pw_below_drewN | apply below_drew1) | exact HB.out)) hb); clear HB; have HB := n0_; clear n0_; (try clear hb); (try clear hb2); (try clear hk); (try clear hi)) | ((with_reducible refine gate_callee (f := 19) rfl ?_); refine goesL_ (some 27) rfl rfl Try.func19 (by kernel_rfl) rfl #[.int .i64 t267] rfl (by (try simp only [List.map_toArray, List.map_cons, List.map_nil]); first | done | rfl | (simp only [List.length_drop, List.length_take]; rfl)) ?_; (with_reducible refine (fix_Abs.calls t267 t268 _ A12.out).mono ?_); rintro e w20 ⟨rfl, hb⟩; refine ⟨_, rfl, ?_⟩; have n0_ := Aside0.mk (below_step (by repeat (first | (with_reducible first | exact HB.out | apply below_alloc | apply pw_below_drewN | apply below_drew1) | exact HB.out)) hb); clear HB; have HB := n0_; clear n0_; (try clear hb); (try clear hb2); (try clear hk); (try clear hi)))
        go_ret
        exact ⟨by first | rfl | (simp [errW_none, errW_some] <;> rfl) | (simp [*, errW_none, errW_some] <;> rfl) | (simp [wrap64]; done) | (congr 2 <;> first | rfl | (unfold wrap64; omega)), by repeat (first | (with_reducible first | exact HB.out | apply below_alloc | apply pw_below_drewN | apply below_drew1) | exact HB.out)⟩
      · rw [if_neg c13] at H
        have c13b0 : decide ((wrap64 (t268 + 1)) < t266) = false := decide_eq_false c13
        clear c13
        replace H := Option.bind_eq_some_iff.mp H
        obtain ⟨t269, A210, H⟩ := H
        replace H : ((fix_Sqrt.f k t269).bind fun t270 => ((fix_Abs.f (Int.tmod a0 70368744177664)).bind fun t271 => ((fix_Mul.f k t270 t270).bind fun t272 => ((fix_Sub.f k t271 t272).bind fun t273 => (if t273 ≥ 0 then ((fix_Div.f k (wrap64 ((wrap64 (2 * t270)) + 1)) 4294967296).bind fun t274 => ((fix_Mul.f k 2 t270).bind fun t275 => (some (decide (t273 ≤ (wrap64 ((wrap64 ((wrap64 (Int.tdiv t274 1)) + t275)) + 2))))))) else (some false)))))) = some r := H
        have A21 := Aside0.mk A210
        clear A210
        replace H := Option.bind_eq_some_iff.mp H
        obtain ⟨t270, A220, H⟩ := H
        replace H : ((fix_Abs.f (Int.tmod a0 70368744177664)).bind fun t271 => ((fix_Mul.f k t270 t270).bind fun t272 => ((fix_Sub.f k t271 t272).bind fun t273 => (if t273 ≥ 0 then ((fix_Div.f k (wrap64 ((wrap64 (2 * t270)) + 1)) 4294967296).bind fun t274 => ((fix_Mul.f k 2 t270).bind fun t275 => (some (decide (t273 ≤ (wrap64 ((wrap64 ((wrap64 (Int.tdiv t274 1)) + t275)) + 2))))))) else (some false))))) = some r := H
        have A22 := Aside0.mk A220
        clear A220
        replace H := Option.bind_eq_some_iff.mp H
        obtain ⟨t271, A230, H⟩ := H
        replace H : ((fix_Mul.f k t270 t270).bind fun t272 => ((fix_Sub.f k t271 t272).bind fun t273 => (if t273 ≥ 0 then ((fix_Div.f k (wrap64 ((wrap64 (2 * t270)) + 1)) 4294967296).bind fun t274 => ((fix_Mul.f k 2 t270).bind fun t275 => (some (decide (t273 ≤ (wrap64 ((wrap64 ((wrap64 (Int.tdiv t274 1)) + t275)) + 2))))))) else (some false)))) = some r := H
        have A23 := Aside0.mk A230
        clear A230
        replace H := Option.bind_eq_some_iff.mp H
        obtain ⟨t272, A240, H⟩ := H
        replace H : ((fix_Sub.f k t271 t272).bind fun t273 => (if t273 ≥ 0 then ((fix_Div.f k (wrap64 ((wrap64 (2 * t270)) + 1)) 4294967296).bind fun t274 => ((fix_Mul.f k 2 t270).bind fun t275 => (some (decide (t273 ≤ (wrap64 ((wrap64 ((wrap64 (Int.tdiv t274 1)) + t275)) + 2))))))) else (some false))) = some r := H
        have A24 := Aside0.mk A240
        clear A240
        replace H := Option.bind_eq_some_iff.mp H
        obtain ⟨t273, A250, H⟩ := H
        replace H : (if t273 ≥ 0 then ((fix_Div.f k (wrap64 ((wrap64 (2 * t270)) + 1)) 4294967296).bind fun t274 => ((fix_Mul.f k 2 t270).bind fun t275 => (some (decide (t273 ≤ (wrap64 ((wrap64 ((wrap64 (Int.tdiv t274 1)) + t275)) + 2))))))) else (some false)) = some r := H
        have A25 := Aside0.mk A250
        clear A250
        by_cases c26 : t273 ≥ 0
        · rw [if_pos c26] at H
          have c26b0 : decide (0 ≤ t273) = true := decide_eq_true c26
          clear c26
          replace H := Option.bind_eq_some_iff.mp H
          obtain ⟨t274, A270, H⟩ := H
          replace H : ((fix_Mul.f k 2 t270).bind fun t275 => (some (decide (t273 ≤ (wrap64 ((wrap64 ((wrap64 (Int.tdiv t274 1)) + t275)) + 2)))))) = some r := H
          have A27 := Aside0.mk A270
          clear A270
          replace H := Option.bind_eq_some_iff.mp H
          obtain ⟨t275, A280, H⟩ := H
          replace H : (some (decide (t273 ≤ (wrap64 ((wrap64 ((wrap64 (Int.tdiv t274 1)) + t275)) + 2))))) = some r := H
          have A28 := Aside0.mk A280
          clear A280
          obtain rfl := Option.some.inj H
          go_enter Try.func10, Try.ntmps10
          go_wp2_with (first | ((with_reducible refine gate_callee (f := 12) rfl ?_); refine goesL_ (some 8) rfl rfl Try.func12 (by kernel_rfl) rfl #[] rfl (by (try simp only [List.map_toArray, List.map_cons, List.map_nil]); first | done | rfl | (simp only [List.length_drop, List.length_take]; rfl)) ?_; (with_reducible refine (bagatellelaw01_fit.calls k  true _ A3.out).mono ?_); rintro e w29 ⟨rfl, hb⟩; refine ⟨_, rfl, ?_⟩; have n0_ := Aside0.mk (below_step (by repeat (first | (with_reducible first | exact HB.out | apply below_alloc | apply pw_below_drewN | apply below_drew1) | exact HB.out)) hb); clear HB; have HB := n0_; clear n0_; (try clear hb); (try clear hb2); (try clear hk); (try clear hi)) | ((with_reducible refine gate_callee (f := 13) rfl ?_); refine goesL_ (some 18) rfl rfl Try.func13 (by kernel_rfl) rfl #[.int .i64 (Int.tmod a0 70368744177664), .int .i64 (Int.tmod a1 70368744177664)] rfl (by (try simp only [List.map_toArray, List.map_cons, List.map_nil]); first | done | rfl | (simp only [List.length_drop, List.length_take]; rfl)) ?_; (with_reducible refine (fix_Mul.calls k (Int.tmod a0 70368744177664) (Int.tmod a1 70368744177664) t263 _ A7.out).mono ?_); rintro e w30 ⟨rfl, hb⟩; refine ⟨_, rfl, ?_⟩; have n0_ := Aside0.mk (below_step (by repeat (first | (with_reducible first | exact HB.out | apply below_alloc | apply pw_below_drewN | apply below_drew1) | exact HB.out)) hb); clear HB; have HB := n0_; clear n0_; (try clear hb); (try clear hb2); (try clear hk); (try clear hi)) | ((with_reducible refine gate_callee (f := 17) rfl ?_); refine goesL_ (some 20) rfl rfl Try.func17 (by kernel_rfl) rfl #[.int .i64 t263, .int .i64 (Int.tmod a1 70368744177664)] rfl (by (try simp only [List.map_toArray, List.map_cons, List.map_nil]); first | done | rfl | (simp only [List.length_drop, List.length_take]; rfl)) ?_; (with_reducible refine (fix_Div.calls k t263 (Int.tmod a1 70368744177664) t264 _ A8.out).mono ?_); rintro e w31 ⟨rfl, hb⟩; refine ⟨_, rfl, ?_⟩; have n0_ := Aside0.mk (below_step (by repeat (first | (with_reducible first | exact HB.out | apply below_alloc | apply pw_below_drewN | apply below_drew1) | exact HB.out)) hb); clear HB; have HB := n0_; clear n0_; (try clear hb); (try clear hb2); (try clear hk); (try clear hi)) | ((with_reducible refine gate_callee (f := 23) rfl ?_); refine goesL_ (some 22) rfl rfl Try.func23 (by kernel_rfl) rfl #[.int .i64 t264, .int .i64 (Int.tmod a0 70368744177664)] rfl (by (try simp only [List.map_toArray, List.map_cons, List.map_nil]); first | done | rfl | (simp only [List.length_drop, List.length_take]; rfl)) ?_; (with_reducible refine (fix_Sub.calls k t264 (Int.tmod a0 70368744177664) t265 _ A9.out).mono ?_); rintro e w32 ⟨rfl, hb⟩; refine ⟨_, rfl, ?_⟩; have n0_ := Aside0.mk (below_step (by repeat (first | (with_reducible first | exact HB.out | apply below_alloc | apply pw_below_drewN | apply below_drew1) | exact HB.out)) hb); clear HB; have HB := n0_; clear n0_; (try clear hb); (try clear hb2); (try clear hk); (try clear hi)) | ((with_reducible refine gate_callee (f := 19) rfl ?_); refine goesL_ (some 23) rfl rfl Try.func19 (by kernel_rfl) rfl #[.int .i64 t265] rfl (by (try simp only [List.map_toArray, List.map_cons, List.map_nil]); first | done | rfl | (simp only [List.length_drop, List.length_take]; rfl)) ?_; (with_reducible refine (fix_Abs.calls t265 t266 _ A10.out).mono ?_); rintro e w33 ⟨rfl, hb⟩; refine ⟨_, rfl, ?_⟩; have n0_ := Aside0.mk (below_step (by repeat (first | (with_reducible first | exact HB.out | apply below_alloc | apply pw_below_drewN | apply below_drew1) | exact HB.out)) hb); clear HB; have HB := n0_; clear n0_; (try clear hb); (try clear hb2); (try clear hk); (try clear hi)) | ((with_reducible refine gate_callee (f := 17) rfl ?_); refine goesL_ (some 26) rfl rfl Try.func17 (by kernel_rfl) rfl #[.int .i64 1, .int .i64 (Int.tmod a1 70368744177664)] rfl (by (try simp only [List.map_toArray, List.map_cons, List.map_nil]); first | done | rfl | (simp only [List.length_drop, List.length_take]; rfl)) ?_; (with_reducible refine (fix_Div.calls k 1 (Int.tmod a1 70368744177664) t267 _ A11.out).mono ?_); rintro e w34 ⟨rfl, hb⟩; refine ⟨_, rfl, ?_⟩; have n0_ := Aside0.mk (below_step (by repeat (first | (with_reducible first | exact HB.out | apply below_alloc | apply pw_below_drewN | apply below_drew1) | exact HB.out)) hb); clear HB; have HB := n0_; clear n0_; (try clear hb); (try clear hb2); (try clear hk); (try clear hi)) | ((with_reducible refine gate_callee (f := 19) rfl ?_); refine goesL_ (some 27) rfl rfl Try.func19 (by kernel_rfl) rfl #[.int .i64 t267] rfl (by (try simp only [List.map_toArray, List.map_cons, List.map_nil]); first | done | rfl | (simp only [List.length_drop, List.length_take]; rfl)) ?_; (with_reducible refine (fix_Abs.calls t267 t268 _ A12.out).mono ?_); rintro e w35 ⟨rfl, hb⟩; refine ⟨_, rfl, ?_⟩; have n0_ := Aside0.mk (below_step (by repeat (first | (with_reducible first | exact HB.out | apply below_alloc | apply pw_below_drewN | apply below_drew1) | exact HB.out)) hb); clear HB; have HB := n0_; clear n0_; (try clear hb); (try clear hb2); (try clear hk); (try clear hi)) | ((with_reducible refine gate_callee (f := 19) rfl ?_); refine goesL_ (some 31) rfl rfl Try.func19 (by kernel_rfl) rfl #[.int .i64 (Int.tmod a0 70368744177664)] rfl (by (try simp only [List.map_toArray, List.map_cons, List.map_nil]); first | done | rfl | (simp only [List.length_drop, List.length_take]; rfl)) ?_; (with_reducible refine (fix_Abs.calls (Int.tmod a0 70368744177664) t269 _ A21.out).mono ?_); rintro e w36 ⟨rfl, hb⟩; refine ⟨_, rfl, ?_⟩; have n0_ := Aside0.mk (below_step (by repeat (first | (with_reducible first | exact HB.out | apply below_alloc | apply pw_below_drewN | apply below_drew1) | exact HB.out)) hb); clear HB; have HB := n0_; clear n0_; (try clear hb); (try clear hb2); (try clear hk); (try clear hi)) | ((with_reducible refine gate_callee (f := 18) rfl ?_); refine goesL_ (some 32) rfl rfl Try.func18 (by kernel_rfl) rfl #[.int .i64 t269] rfl (by (try simp only [List.map_toArray, List.map_cons, List.map_nil]); first | done | rfl | (simp only [List.length_drop, List.length_take]; rfl)) ?_; (with_reducible refine (fix_Sqrt.calls k t269 t270 _ A22.out).mono ?_); rintro e w' ⟨rfl, ⟨nd, rfl⟩⟩; refine ⟨_, rfl, ?_⟩) | ((with_reducible refine gate_callee (f := 19) rfl ?_); refine goesL_ (some 34) rfl rfl Try.func19 (by kernel_rfl) rfl #[.int .i64 (Int.tmod a0 70368744177664)] rfl (by (try simp only [List.map_toArray, List.map_cons, List.map_nil]); first | done | rfl | (simp only [List.length_drop, List.length_take]; rfl)) ?_; (with_reducible refine (fix_Abs.calls (Int.tmod a0 70368744177664) t271 _ A23.out).mono ?_); rintro e w37 ⟨rfl, hb⟩; refine ⟨_, rfl, ?_⟩; have n0_ := Aside0.mk (below_step (by repeat (first | (with_reducible first | exact HB.out | apply below_alloc | apply pw_below_drewN | apply below_drew1) | exact HB.out)) hb); clear HB; have HB := n0_; clear n0_; (try clear hb); (try clear hb2); (try clear hk); (try clear hi)) | ((with_reducible refine gate_callee (f := 13) rfl ?_); refine goesL_ (some 37) rfl rfl Try.func13 (by kernel_rfl) rfl #[.int .i64 t270, .int .i64 t270] rfl (by (try simp only [List.map_toArray, List.map_cons, List.map_nil]); first | done | rfl | (simp only [List.length_drop, List.length_take]; rfl)) ?_; (with_reducible refine (fix_Mul.calls k t270 t270 t272 _ A24.out).mono ?_); rintro e w38 ⟨rfl, hb⟩; refine ⟨_, rfl, ?_⟩; have n0_ := Aside0.mk (below_step (by repeat (first | (with_reducible first | exact HB.out | apply below_alloc | apply pw_below_drewN | apply below_drew1) | exact HB.out)) hb); clear HB; have HB := n0_; clear n0_; (try clear hb); (try clear hb2); (try clear hk); (try clear hi)) | ((with_reducible refine gate_callee (f := 23) rfl ?_); refine goesL_ (some 38) rfl rfl Try.func23 (by kernel_rfl) rfl #[.int .i64 t271, .int .i64 t272] rfl (by (try simp only [List.map_toArray, List.map_cons, List.map_nil]); first | done | rfl | (simp only [List.length_drop, List.length_take]; rfl)) ?_; (with_reducible refine (fix_Sub.calls k t271 t272 t273 _ A25.out).mono ?_); rintro e w39 ⟨rfl, hb⟩; refine ⟨_, rfl, ?_⟩; have n0_ := Aside0.mk (below_step (by repeat (first | (with_reducible first | exact HB.out | apply below_alloc | apply pw_below_drewN | apply below_drew1) | exact HB.out)) hb); clear HB; have HB := n0_; clear n0_; (try clear hb); (try clear hb2); (try clear hk); (try clear hi)) | (go_at_call 17; (with_reducible refine (fix_Div.calls k (wrap64 ((wrap64 (2 * t270)) + 1)) 4294967296 t274 _ A27.out).mono ?_); rintro e w40 ⟨rfl, hb⟩; have n0_ := Aside0.mk (below_step (by repeat (first | (with_reducible first | exact HB.out | apply below_alloc | apply pw_below_drewN | apply below_drew1) | exact HB.out)) hb); clear HB; have HB := n0_; clear n0_; (try clear hb); (try clear hb2); (try clear hk); (try clear hi)) | (go_at_call 13; (with_reducible refine (fix_Mul.calls k 2 t270 t275 _ A28.out).mono ?_); rintro e w41 ⟨rfl, hb⟩; have n0_ := Aside0.mk (below_step (by repeat (first | (with_reducible first | exact HB.out | apply below_alloc | apply pw_below_drewN | apply below_drew1) | exact HB.out)) hb); clear HB; have HB := n0_; clear n0_; (try clear hb); (try clear hb2); (try clear hk); (try clear hi)))
          go_ret
          exact ⟨by first | rfl | (simp [errW_none, errW_some] <;> rfl) | (simp [*, errW_none, errW_some] <;> rfl) | (simp [wrap64]; done) | (congr 2 <;> first | rfl | (unfold wrap64; omega)), by repeat (first | (with_reducible first | exact HB.out | apply below_alloc | apply pw_below_drewN | apply below_drew1) | exact HB.out)⟩
        · rw [if_neg c26] at H
          have c26b0 : decide (0 ≤ t273) = false := decide_eq_false c26
          clear c26
          obtain rfl := Option.some.inj H
          go_enter Try.func10, Try.ntmps10
          go_wp2_with (first | ((with_reducible refine gate_callee (f := 12) rfl ?_); refine goesL_ (some 8) rfl rfl Try.func12 (by kernel_rfl) rfl #[] rfl (by (try simp only [List.map_toArray, List.map_cons, List.map_nil]); first | done | rfl | (simp only [List.length_drop, List.length_take]; rfl)) ?_; (with_reducible refine (bagatellelaw01_fit.calls k  true _ A3.out).mono ?_); rintro e w42 ⟨rfl, hb⟩; refine ⟨_, rfl, ?_⟩; have n0_ := Aside0.mk (below_step (by repeat (first | (with_reducible first | exact HB.out | apply below_alloc | apply pw_below_drewN | apply below_drew1) | exact HB.out)) hb); clear HB; have HB := n0_; clear n0_; (try clear hb); (try clear hb2); (try clear hk); (try clear hi)) | ((with_reducible refine gate_callee (f := 13) rfl ?_); refine goesL_ (some 18) rfl rfl Try.func13 (by kernel_rfl) rfl #[.int .i64 (Int.tmod a0 70368744177664), .int .i64 (Int.tmod a1 70368744177664)] rfl (by (try simp only [List.map_toArray, List.map_cons, List.map_nil]); first | done | rfl | (simp only [List.length_drop, List.length_take]; rfl)) ?_; (with_reducible refine (fix_Mul.calls k (Int.tmod a0 70368744177664) (Int.tmod a1 70368744177664) t263 _ A7.out).mono ?_); rintro e w43 ⟨rfl, hb⟩; refine ⟨_, rfl, ?_⟩; have n0_ := Aside0.mk (below_step (by repeat (first | (with_reducible first | exact HB.out | apply below_alloc | apply pw_below_drewN | apply below_drew1) | exact HB.out)) hb); clear HB; have HB := n0_; clear n0_; (try clear hb); (try clear hb2); (try clear hk); (try clear hi)) | ((with_reducible refine gate_callee (f := 17) rfl ?_); refine goesL_ (some 20) rfl rfl Try.func17 (by kernel_rfl) rfl #[.int .i64 t263, .int .i64 (Int.tmod a1 70368744177664)] rfl (by (try simp only [List.map_toArray, List.map_cons, List.map_nil]); first | done | rfl | (simp only [List.length_drop, List.length_take]; rfl)) ?_; (with_reducible refine (fix_Div.calls k t263 (Int.tmod a1 70368744177664) t264 _ A8.out).mono ?_); rintro e w44 ⟨rfl, hb⟩; refine ⟨_, rfl, ?_⟩; have n0_ := Aside0.mk (below_step (by repeat (first | (with_reducible first | exact HB.out | apply below_alloc | apply pw_below_drewN | apply below_drew1) | exact HB.out)) hb); clear HB; have HB := n0_; clear n0_; (try clear hb); (try clear hb2); (try clear hk); (try clear hi)) | ((with_reducible refine gate_callee (f := 23) rfl ?_); refine goesL_ (some 22) rfl rfl Try.func23 (by kernel_rfl) rfl #[.int .i64 t264, .int .i64 (Int.tmod a0 70368744177664)] rfl (by (try simp only [List.map_toArray, List.map_cons, List.map_nil]); first | done | rfl | (simp only [List.length_drop, List.length_take]; rfl)) ?_; (with_reducible refine (fix_Sub.calls k t264 (Int.tmod a0 70368744177664) t265 _ A9.out).mono ?_); rintro e w45 ⟨rfl, hb⟩; refine ⟨_, rfl, ?_⟩; have n0_ := Aside0.mk (below_step (by repeat (first | (with_reducible first | exact HB.out | apply below_alloc | apply pw_below_drewN | apply below_drew1) | exact HB.out)) hb); clear HB; have HB := n0_; clear n0_; (try clear hb); (try clear hb2); (try clear hk); (try clear hi)) | ((with_reducible refine gate_callee (f := 19) rfl ?_); refine goesL_ (some 23) rfl rfl Try.func19 (by kernel_rfl) rfl #[.int .i64 t265] rfl (by (try simp only [List.map_toArray, List.map_cons, List.map_nil]); first | done | rfl | (simp only [List.length_drop, List.length_take]; rfl)) ?_; (with_reducible refine (fix_Abs.calls t265 t266 _ A10.out).mono ?_); rintro e w46 ⟨rfl, hb⟩; refine ⟨_, rfl, ?_⟩; have n0_ := Aside0.mk (below_step (by repeat (first | (with_reducible first | exact HB.out | apply below_alloc | apply pw_below_drewN | apply below_drew1) | exact HB.out)) hb); clear HB; have HB := n0_; clear n0_; (try clear hb); (try clear hb2); (try clear hk); (try clear hi)) | ((with_reducible refine gate_callee (f := 17) rfl ?_); refine goesL_ (some 26) rfl rfl Try.func17 (by kernel_rfl) rfl #[.int .i64 1, .int .i64 (Int.tmod a1 70368744177664)] rfl (by (try simp only [List.map_toArray, List.map_cons, List.map_nil]); first | done | rfl | (simp only [List.length_drop, List.length_take]; rfl)) ?_; (with_reducible refine (fix_Div.calls k 1 (Int.tmod a1 70368744177664) t267 _ A11.out).mono ?_); rintro e w47 ⟨rfl, hb⟩; refine ⟨_, rfl, ?_⟩; have n0_ := Aside0.mk (below_step (by repeat (first | (with_reducible first | exact HB.out | apply below_alloc | apply pw_below_drewN | apply below_drew1) | exact HB.out)) hb); clear HB; have HB := n0_; clear n0_; (try clear hb); (try clear hb2); (try clear hk); (try clear hi)) | ((with_reducible refine gate_callee (f := 19) rfl ?_); refine goesL_ (some 27) rfl rfl Try.func19 (by kernel_rfl) rfl #[.int .i64 t267] rfl (by (try simp only [List.map_toArray, List.map_cons, List.map_nil]); first | done | rfl | (simp only [List.length_drop, List.length_take]; rfl)) ?_; (with_reducible refine (fix_Abs.calls t267 t268 _ A12.out).mono ?_); rintro e w48 ⟨rfl, hb⟩; refine ⟨_, rfl, ?_⟩; have n0_ := Aside0.mk (below_step (by repeat (first | (with_reducible first | exact HB.out | apply below_alloc | apply pw_below_drewN | apply below_drew1) | exact HB.out)) hb); clear HB; have HB := n0_; clear n0_; (try clear hb); (try clear hb2); (try clear hk); (try clear hi)) | ((with_reducible refine gate_callee (f := 19) rfl ?_); refine goesL_ (some 31) rfl rfl Try.func19 (by kernel_rfl) rfl #[.int .i64 (Int.tmod a0 70368744177664)] rfl (by (try simp only [List.map_toArray, List.map_cons, List.map_nil]); first | done | rfl | (simp only [List.length_drop, List.length_take]; rfl)) ?_; (with_reducible refine (fix_Abs.calls (Int.tmod a0 70368744177664) t269 _ A21.out).mono ?_); rintro e w49 ⟨rfl, hb⟩; refine ⟨_, rfl, ?_⟩; have n0_ := Aside0.mk (below_step (by repeat (first | (with_reducible first | exact HB.out | apply below_alloc | apply pw_below_drewN | apply below_drew1) | exact HB.out)) hb); clear HB; have HB := n0_; clear n0_; (try clear hb); (try clear hb2); (try clear hk); (try clear hi)) | ((with_reducible refine gate_callee (f := 18) rfl ?_); refine goesL_ (some 32) rfl rfl Try.func18 (by kernel_rfl) rfl #[.int .i64 t269] rfl (by (try simp only [List.map_toArray, List.map_cons, List.map_nil]); first | done | rfl | (simp only [List.length_drop, List.length_take]; rfl)) ?_; (with_reducible refine (fix_Sqrt.calls k t269 t270 _ A22.out).mono ?_); rintro e w' ⟨rfl, ⟨nd, rfl⟩⟩; refine ⟨_, rfl, ?_⟩) | ((with_reducible refine gate_callee (f := 19) rfl ?_); refine goesL_ (some 34) rfl rfl Try.func19 (by kernel_rfl) rfl #[.int .i64 (Int.tmod a0 70368744177664)] rfl (by (try simp only [List.map_toArray, List.map_cons, List.map_nil]); first | done | rfl | (simp only [List.length_drop, List.length_take]; rfl)) ?_; (with_reducible refine (fix_Abs.calls (Int.tmod a0 70368744177664) t271 _ A23.out).mono ?_); rintro e w50 ⟨rfl, hb⟩; refine ⟨_, rfl, ?_⟩; have n0_ := Aside0.mk (below_step (by repeat (first | (with_reducible first | exact HB.out | apply below_alloc | apply pw_below_drewN | apply below_drew1) | exact HB.out)) hb); clear HB; have HB := n0_; clear n0_; (try clear hb); (try clear hb2); (try clear hk); (try clear hi)) | ((with_reducible refine gate_callee (f := 13) rfl ?_); refine goesL_ (some 37) rfl rfl Try.func13 (by kernel_rfl) rfl #[.int .i64 t270, .int .i64 t270] rfl (by (try simp only [List.map_toArray, List.map_cons, List.map_nil]); first | done | rfl | (simp only [List.length_drop, List.length_take]; rfl)) ?_; (with_reducible refine (fix_Mul.calls k t270 t270 t272 _ A24.out).mono ?_); rintro e w51 ⟨rfl, hb⟩; refine ⟨_, rfl, ?_⟩; have n0_ := Aside0.mk (below_step (by repeat (first | (with_reducible first | exact HB.out | apply below_alloc | apply pw_below_drewN | apply below_drew1) | exact HB.out)) hb); clear HB; have HB := n0_; clear n0_; (try clear hb); (try clear hb2); (try clear hk); (try clear hi)) | ((with_reducible refine gate_callee (f := 23) rfl ?_); refine goesL_ (some 38) rfl rfl Try.func23 (by kernel_rfl) rfl #[.int .i64 t271, .int .i64 t272] rfl (by (try simp only [List.map_toArray, List.map_cons, List.map_nil]); first | done | rfl | (simp only [List.length_drop, List.length_take]; rfl)) ?_; (with_reducible refine (fix_Sub.calls k t271 t272 t273 _ A25.out).mono ?_); rintro e w52 ⟨rfl, hb⟩; refine ⟨_, rfl, ?_⟩; have n0_ := Aside0.mk (below_step (by repeat (first | (with_reducible first | exact HB.out | apply below_alloc | apply pw_below_drewN | apply below_drew1) | exact HB.out)) hb); clear HB; have HB := n0_; clear n0_; (try clear hb); (try clear hb2); (try clear hk); (try clear hi)))
          go_ret
          exact ⟨by first | rfl | (simp [errW_none, errW_some] <;> rfl) | (simp [*, errW_none, errW_some] <;> rfl) | (simp [wrap64]; done) | (congr 2 <;> first | rfl | (unfold wrap64; omega)), by repeat (first | (with_reducible first | exact HB.out | apply below_alloc | apply pw_below_drewN | apply below_drew1) | exact HB.out)⟩
  · replace c4 := Bool.eq_false_iff.mpr c4
    subst c4
    have H1 : (some false) = some r := by rw [if_neg (show ¬ (false = true) by decide)] at H; exact H
    clear H
    have H := H1
    clear H1
    obtain rfl := Option.some.inj H
    go_enter Try.func10, Try.ntmps10
    go_wp2_with (first | ((with_reducible refine gate_callee (f := 12) rfl ?_); refine goesL_ (some 8) rfl rfl Try.func12 (by kernel_rfl) rfl #[] rfl (by (try simp only [List.map_toArray, List.map_cons, List.map_nil]); first | done | rfl | (simp only [List.length_drop, List.length_take]; rfl)) ?_; (with_reducible refine (bagatellelaw01_fit.calls k  false _ A3.out).mono ?_); rintro e w53 ⟨rfl, hb⟩; refine ⟨_, rfl, ?_⟩; have n0_ := Aside0.mk (below_step (by repeat (first | (with_reducible first | exact HB.out | apply below_alloc | apply pw_below_drewN | apply below_drew1) | exact HB.out)) hb); clear HB; have HB := n0_; clear n0_; (try clear hb); (try clear hb2); (try clear hk); (try clear hi)))
    go_ret
    exact ⟨by first | rfl | (simp [errW_none, errW_some] <;> rfl) | (simp [*, errW_none, errW_some] <;> rfl) | (simp [wrap64]; done) | (congr 2 <;> first | rfl | (unfold wrap64; omega)), by repeat (first | (with_reducible first | exact HB.out | apply below_alloc | apply pw_below_drewN | apply below_drew1) | exact HB.out)⟩

/-- THE ONE PURE STATEMENT of bagatellelaw01_FixBacks: yours. -/
def bagatellelaw01_FixBacks.Pure : Prop := ∀ (a0 : Int) (a1 : Int), (Lit.int .i64 a0).wf = true → (Lit.int .i64 a1).wf = true → ∃ k, bagatellelaw01_FixBacks.f k a0 a1 = some true
theorem bagatellelaw01_FixBacks.walk (P : bagatellelaw01_FixBacks.Pure) (a0 : Int) (a1 : Int) (w : World) (w0 : (Lit.int .i64 a0).wf = true) (w1 : (Lit.int .i64 a1).wf = true) :
    Calls Try.prog 10 #[.int .i64 a0, .int .i64 a1] w fun e w' => e = .returned (.bool true) ∧ Below w.heap.size w w' := by
  obtain ⟨k, h⟩ := P a0 a1 w0 w1
  refine (bagatellelaw01_FixBacks.calls k a0 a1 true w h).mono ?_
  rintro e w' ⟨rfl, hd⟩
  exact ⟨rfl, hd⟩

/-! ### fix_Sum: function 27 -/
def fix_Sum.l0 : Nat → Int → List Int → Int → Int → Option (Int)
  | 0, _, _, _, _ => none
  | k + 1, x3, x6, x7, x8 => if x8 < x7 then (if 0 ≤ x8 then (if x8 < (x6.length : Int) then ((fix_Add.f k x3 (rd x6 x8)).bind fun t277 => (fix_Sum.l0 k t277 x6 x7 (wrap64 (x8 + 1)))) else (none)) else (none)) else (some x3)
def fix_Sum.f (k : Nat) (l0 : List Int) : Option (Int) := fix_Sum.l0 k 0 l0 (l0.length : Int) 0
theorem fix_Sum.mono_l : ∀ k, (∀ y0 y1 y2 y3, LeO (fix_Sum.l0 k y0 y1 y2 y3) (fix_Sum.l0 (k + 1) y0 y1 y2 y3))
  | 0 => fun _ _ _ _ r h => by simp [fix_Sum.l0] at h
  | k + 1 => by
    have ih0 := fix_Sum.mono_l k
    · intro y0 y1 y2 y3
      unfold fix_Sum.l0
      repeat' first
      | (with_reducible exact ih0 _ _ _ _)
      | (with_reducible exact fix_Add.mono _ _ _)
      | (with_reducible exact LeO.refl _)
      | (with_reducible exact LeO.none _)
      | (with_reducible refine LeO.ite ?_ ?_)
      | (with_reducible refine LeO.bind ?_ (fun _ => ?_))
      | exact ih0 _ _ _ _
      | exact fix_Add.mono _ _ _
      | exact LeO.none _
      | refine LeO.ite ?_ ?_
      | refine LeO.bind ?_ (fun _ => ?_)
theorem fix_Sum.mono : ∀ a0 k, LeO (fix_Sum.f k a0) (fix_Sum.f (k + 1) a0) := by
  intro a0 k
  have ih0 := fix_Sum.mono_l k
  unfold fix_Sum.f
  repeat' first
      | (with_reducible exact ih0 _ _ _ _)
      | (with_reducible exact fix_Add.mono _ _ _)
      | (with_reducible exact LeO.refl _)
      | (with_reducible exact LeO.none _)
      | (with_reducible refine LeO.ite ?_ ?_)
      | (with_reducible refine LeO.bind ?_ (fun _ => ?_))
      | exact ih0 _ _ _ _
      | exact fix_Add.mono _ _ _
      | exact LeO.none _
      | refine LeO.ite ?_ ?_
      | refine LeO.bind ?_ (fun _ => ?_)
set_option maxHeartbeats 8000000 in
set_option maxRecDepth 100000 in
theorem fix_Sum.calls (k : Nat) (A0 : Option Addr) (c0 : Nat) (l0 : List Int) (r : Int) (w : World) (hr0 : Kd.C (Kd.int .i64) w A0 l0.length l0) (hc0 : l0.length ≤ c0) (h : fix_Sum.f k l0 = some r) :
    Calls Try.prog 27 #[.slice A0 l0.length c0] w fun e w' => e = .returned (.int .i64 r) ∧ Below w.heap.size w w' := by
  have HR0 := Aside0.mk hr0
  have HC0 := Aside0.mk hc0
  clear hr0 hc0
  have HB := Aside0.mk (Below.refl w.heap.size w)
  have H : (fix_Sum.l0 k 0 l0 (l0.length : Int) 0) = some r := h
  clear h
  have H' := Aside0.mk H
  clear H
  go_enter Try.func27, Try.ntmps27
  go_wp2
  go_loopg [3, 8] k (fun kq v3 v8 w' => ∃ (x3_1 : Int) (x8_1 : Int), v3 = .int .i64 x3_1 ∧ v8 = .int .i64 x8_1 ∧ Aside0 (fix_Sum.l0 kq x3_1 l0 (l0.length : Int) x8_1 = some r) ∧ Aside0 (kq ≤ k) ∧ Aside0 (Below w.heap.size w w'))
  case atStart => exact ⟨(0), (0), (by first | rfl | (simp; done) | (simp [*]; done) | (simp [wrap64]; done) | (congr 2 <;> first | rfl | (unfold wrap64; omega))), (by first | rfl | (simp; done) | (simp [*]; done) | (simp [wrap64]; done) | (congr 2 <;> first | rfl | (unfold wrap64; omega))), H', ⟨Nat.le_refl _⟩, ⟨by repeat (first | (with_reducible first | exact HB.out | apply below_alloc | apply pw_below_drewN | apply below_drew1) | exact HB.out)⟩⟩
  case round =>
    clear H'
    obtain ⟨x3_1, x8_1, rfl, rfl, HA, HK1, HB⟩ := hrel
    cases gk with
    | zero => exact absurd HA.out (by simp [fix_Sum.l0])
    | succ k1 =>
      have H := HA.out
      clear HA
      simp only [fix_Sum.l0] at H
      by_cases c2 : x8_1 < (l0.length : Int)
      · rw [if_pos c2] at H
        have c2b0 : decide (x8_1 < (l0.length : Int)) = true := decide_eq_true c2
        clear c2
        by_cases c3 : 0 ≤ x8_1
        · rw [if_pos c3] at H
          have c3b0 : decide (0 ≤ x8_1) = true := decide_eq_true c3
          clear c3
          by_cases c4 : x8_1 < (l0.length : Int)
          · rw [if_pos c4] at H
            have c4b0 : decide (x8_1 < (l0.length : Int)) = true := decide_eq_true c4
            clear c4
            replace H := Option.bind_eq_some_iff.mp H
            obtain ⟨t277, A50, H⟩ := H
            replace H : (fix_Sum.l0 k1 t277 l0 (l0.length : Int) (wrap64 (x8_1 + 1))) = some r := H
            have A5 := Aside0.mk A50
            clear A50
            have H' := Aside0.mk H
            clear H
            have p276 : 0 ≤ (x8_1 : Int) := of_decide_eq_true (by first | (with_reducible assumption) | assumption)
            have q276 : x8_1 < (l0.length : Int) := of_decide_eq_true (by first | (with_reducible assumption) | assumption)
            obtain ⟨ad276, e276, hx276_0⟩ := Kd.at_int HR0.out x8_1 p276 q276
            cases e276
            replace hx276_0 := (HB.out.cell (World.block_lt_of_cell? w _ hx276_0)).trans hx276_0
            replace p276 := eq_true p276
            replace q276 := eq_true q276
            go_wp2_with (first | ((with_reducible refine gate_callee (f := 20) rfl ?_); refine goesL_ (some 14) rfl rfl Try.func20 (by kernel_rfl) rfl #[.int .i64 x3_1, .int .i64 (rd l0 x8_1)] rfl (by (try simp only [List.map_toArray, List.map_cons, List.map_nil]); first | done | rfl | (simp only [List.length_drop, List.length_take]; rfl)) ?_; (with_reducible refine (fix_Add.calls k1 x3_1 (rd l0 x8_1) t277 _ A5.out).mono ?_); rintro e w6 ⟨rfl, hb⟩; refine ⟨_, rfl, ?_⟩; have n0_ := Aside0.mk (below_step (by repeat (first | (with_reducible first | exact HB.out | apply below_alloc | apply pw_below_drewN | apply below_drew1) | exact HB.out)) hb); clear HB; have HB := n0_; clear n0_; (try clear hb); (try clear hb2); (try clear hk); (try clear hi)))
            go_roundg k1
            case measure => have := HK1.out; omega
            case rel => exact ⟨(t277), (wrap64 (x8_1 + 1)), (by first | rfl | (simp; done) | (simp [*]; done) | (simp [wrap64]; done) | (congr 2 <;> first | rfl | (unfold wrap64; omega))), (by first | rfl | (simp; done) | (simp [*]; done) | (simp [wrap64]; done) | (congr 2 <;> first | rfl | (unfold wrap64; omega))), H', ⟨by have := HK1.out; omega⟩, ⟨by repeat (first | (with_reducible first | exact HB.out | apply below_alloc | apply pw_below_drewN | apply below_drew1) | exact HB.out)⟩⟩
          · rw [if_neg c4] at H
            exact absurd H (by simp)
        · rw [if_neg c3] at H
          exact absurd H (by simp)
      · rw [if_neg c2] at H
        have c2b0 : decide (x8_1 < (l0.length : Int)) = false := decide_eq_false c2
        clear c2
        obtain rfl := Option.some.inj H
        go_wp2
        go_ret
        exact ⟨by first | rfl | (simp [errW_none, errW_some] <;> rfl) | (simp [*, errW_none, errW_some] <;> rfl) | (simp [wrap64]; done) | (congr 2 <;> first | rfl | (unfold wrap64; omega)), by repeat (first | (with_reducible first | exact HB.out | apply below_alloc | apply pw_below_drewN | apply below_drew1) | exact HB.out)⟩

/-! ### bagatellelaw01_FixSums: function 11 -/
def bagatellelaw01_FixSums.l0 : Nat → List Int → Int → List Int → Int → Int → Option (Bool)
  | 0, _, _, _, _, _ => none
  | k + 1, x0, x3, x11, x12, x13 => if x13 < x12 then (if 0 ≤ x13 then (if x13 < (x11.length : Int) then ((bagatellelaw01_sum.f k x3 (mx (rd x11 x13) (-9223372036854775807))).bind fun t280 => (bagatellelaw01_FixSums.l0 k x0 t280 x11 x12 (wrap64 (x13 + 1)))) else (none)) else (none)) else ((fix_Sum.f k x0).bind fun t281 => (some (t281 == x3)))
def bagatellelaw01_FixSums.f (k : Nat) (l0 : List Int) : Option (Bool) := (bagatellelaw01_fit.f k).bind fun t278 => (if t278 = true then (if (l0.length : Int) > 30 then (some true) else (bagatellelaw01_FixSums.l0 k l0 0 l0 (l0.length : Int) 0)) else (some false))
theorem bagatellelaw01_FixSums.mono_l : ∀ k, (∀ y0 y1 y2 y3 y4, LeO (bagatellelaw01_FixSums.l0 k y0 y1 y2 y3 y4) (bagatellelaw01_FixSums.l0 (k + 1) y0 y1 y2 y3 y4))
  | 0 => fun _ _ _ _ _ r h => by simp [bagatellelaw01_FixSums.l0] at h
  | k + 1 => by
    have ih0 := bagatellelaw01_FixSums.mono_l k
    · intro y0 y1 y2 y3 y4
      unfold bagatellelaw01_FixSums.l0
      repeat' first
      | (with_reducible exact ih0 _ _ _ _ _)
      | (with_reducible exact bagatellelaw01_fit.mono _)
      | (with_reducible exact bagatellelaw01_sum.mono _ _ _)
      | (with_reducible exact fix_Sum.mono _ _)
      | (with_reducible exact LeO.refl _)
      | (with_reducible exact LeO.none _)
      | (with_reducible refine LeO.ite ?_ ?_)
      | (with_reducible refine LeO.bind ?_ (fun _ => ?_))
      | exact ih0 _ _ _ _ _
      | exact bagatellelaw01_fit.mono _
      | exact bagatellelaw01_sum.mono _ _ _
      | exact fix_Sum.mono _ _
      | exact LeO.none _
      | refine LeO.ite ?_ ?_
      | refine LeO.bind ?_ (fun _ => ?_)
theorem bagatellelaw01_FixSums.mono : ∀ a0 k, LeO (bagatellelaw01_FixSums.f k a0) (bagatellelaw01_FixSums.f (k + 1) a0) := by
  intro a0 k
  have ih0 := bagatellelaw01_FixSums.mono_l k
  unfold bagatellelaw01_FixSums.f
  repeat' first
      | (with_reducible exact ih0 _ _ _ _ _)
      | (with_reducible exact bagatellelaw01_fit.mono _)
      | (with_reducible exact bagatellelaw01_sum.mono _ _ _)
      | (with_reducible exact fix_Sum.mono _ _)
      | (with_reducible exact LeO.refl _)
      | (with_reducible exact LeO.none _)
      | (with_reducible refine LeO.ite ?_ ?_)
      | (with_reducible refine LeO.bind ?_ (fun _ => ?_))
      | exact ih0 _ _ _ _ _
      | exact bagatellelaw01_fit.mono _
      | exact bagatellelaw01_sum.mono _ _ _
      | exact fix_Sum.mono _ _
      | exact LeO.none _
      | refine LeO.ite ?_ ?_
      | refine LeO.bind ?_ (fun _ => ?_)
set_option maxHeartbeats 8000000 in
set_option maxRecDepth 100000 in
theorem bagatellelaw01_FixSums.calls (k : Nat) (A0 : Option Addr) (c0 : Nat) (l0 : List Int) (r : Bool) (w : World) (hr0 : Kd.C (Kd.int .i64) w A0 l0.length l0) (hc0 : l0.length ≤ c0) (h : bagatellelaw01_FixSums.f k l0 = some r) :
    Calls Try.prog 11 #[.slice A0 l0.length c0] w fun e w' => e = .returned (.bool r) ∧ Below w.heap.size w w' := by
  have HR0 := Aside0.mk hr0
  have HC0 := Aside0.mk hc0
  clear hr0 hc0
  have HB := Aside0.mk (Below.refl w.heap.size w)
  have H : ((bagatellelaw01_fit.f k).bind fun t278 => (if t278 = true then (if (l0.length : Int) > 30 then (some true) else (bagatellelaw01_FixSums.l0 k l0 0 l0 (l0.length : Int) 0)) else (some false))) = some r := h
  clear h
  replace H := Option.bind_eq_some_iff.mp H
  obtain ⟨t278, A20, H⟩ := H
  replace H : (if t278 = true then (if (l0.length : Int) > 30 then (some true) else (bagatellelaw01_FixSums.l0 k l0 0 l0 (l0.length : Int) 0)) else (some false)) = some r := H
  have A2 := Aside0.mk A20
  clear A20
  by_cases c3 : t278 = true
  · subst c3
    have H1 : (if (l0.length : Int) > 30 then (some true) else (bagatellelaw01_FixSums.l0 k l0 0 l0 (l0.length : Int) 0)) = some r := by rw [if_pos rfl] at H; exact H
    clear H
    have H := H1
    clear H1
    by_cases c4 : (l0.length : Int) > 30
    · rw [if_pos c4] at H
      have c4b0 : decide (30 < (l0.length : Int)) = true := decide_eq_true c4
      have c4b1 : decide (30 < l0.length) = true := decide_eq_true (by omega)
      clear c4
      obtain rfl := Option.some.inj H
      go_enter Try.func11, Try.ntmps11
      go_wp2_with (first | ((with_reducible refine gate_callee (f := 12) rfl ?_); refine goesL_ (some 6) rfl rfl Try.func12 (by kernel_rfl) rfl #[] rfl (by (try simp only [List.map_toArray, List.map_cons, List.map_nil]); first | done | rfl | (simp only [List.length_drop, List.length_take]; rfl)) ?_; (with_reducible refine (bagatellelaw01_fit.calls k  true _ A2.out).mono ?_); rintro e w5 ⟨rfl, hb⟩; refine ⟨_, rfl, ?_⟩; have n0_ := Aside0.mk (below_step (by repeat (first | (with_reducible first | exact HB.out | apply below_alloc | apply pw_below_drewN | apply below_drew1) | exact HB.out)) hb); clear HB; have HB := n0_; clear n0_; (try clear hb); (try clear hb2); (try clear hk); (try clear hi)))
      go_ret
      exact ⟨by first | rfl | (simp [errW_none, errW_some] <;> rfl) | (simp [*, errW_none, errW_some] <;> rfl) | (simp [wrap64]; done) | (congr 2 <;> first | rfl | (unfold wrap64; omega)), by repeat (first | (with_reducible first | exact HB.out | apply below_alloc | apply pw_below_drewN | apply below_drew1) | exact HB.out)⟩
    · rw [if_neg c4] at H
      have c4b0 : decide (30 < (l0.length : Int)) = false := decide_eq_false c4
      have c4b1 : decide (30 < l0.length) = false := decide_eq_false (by omega)
      clear c4
      have H' := Aside0.mk H
      clear H
      go_enter Try.func11, Try.ntmps11
      go_wp2_with (first | ((with_reducible refine gate_callee (f := 12) rfl ?_); refine goesL_ (some 6) rfl rfl Try.func12 (by kernel_rfl) rfl #[] rfl (by (try simp only [List.map_toArray, List.map_cons, List.map_nil]); first | done | rfl | (simp only [List.length_drop, List.length_take]; rfl)) ?_; (with_reducible refine (bagatellelaw01_fit.calls k  true _ A2.out).mono ?_); rintro e w6 ⟨rfl, hb⟩; refine ⟨_, rfl, ?_⟩; have n0_ := Aside0.mk (below_step (by repeat (first | (with_reducible first | exact HB.out | apply below_alloc | apply pw_below_drewN | apply below_drew1) | exact HB.out)) hb); clear HB; have HB := n0_; clear n0_; (try clear hb); (try clear hb2); (try clear hk); (try clear hi)))
      go_loopg [3, 13] k (fun kq v3 v13 w' => ∃ (x3_1 : Int) (x13_1 : Int), v3 = .int .i64 x3_1 ∧ v13 = .int .i64 x13_1 ∧ Aside0 (bagatellelaw01_FixSums.l0 kq l0 x3_1 l0 (l0.length : Int) x13_1 = some r) ∧ Aside0 (kq ≤ k) ∧ Aside0 (Below w.heap.size w w'))
      case atStart => exact ⟨(0), (0), (by first | rfl | (simp; done) | (simp [*]; done) | (simp [wrap64]; done) | (congr 2 <;> first | rfl | (unfold wrap64; omega))), (by first | rfl | (simp; done) | (simp [*]; done) | (simp [wrap64]; done) | (congr 2 <;> first | rfl | (unfold wrap64; omega))), H', ⟨Nat.le_refl _⟩, ⟨by repeat (first | (with_reducible first | exact HB.out | apply below_alloc | apply pw_below_drewN | apply below_drew1) | exact HB.out)⟩⟩
      case round =>
        clear H'
        try clear c1
        try clear p2
        try clear c3
        try clear c4
        try clear c4b0
        try clear c4b1
        try clear p6
        obtain ⟨x3_1, x13_1, rfl, rfl, HA, HK1, HB⟩ := hrel
        cases gk with
        | zero => exact absurd HA.out (by simp [bagatellelaw01_FixSums.l0])
        | succ k1 =>
          have H := HA.out
          clear HA
          simp only [bagatellelaw01_FixSums.l0] at H
          by_cases c7 : x13_1 < (l0.length : Int)
          · rw [if_pos c7] at H
            have c7b0 : decide (x13_1 < (l0.length : Int)) = true := decide_eq_true c7
            clear c7
            by_cases c8 : 0 ≤ x13_1
            · rw [if_pos c8] at H
              have c8b0 : decide (0 ≤ x13_1) = true := decide_eq_true c8
              clear c8
              by_cases c9 : x13_1 < (l0.length : Int)
              · rw [if_pos c9] at H
                have c9b0 : decide (x13_1 < (l0.length : Int)) = true := decide_eq_true c9
                clear c9
                obtain ⟨ji10, hji10⟩ : ∃ j_ : Int, (mx (rd l0 x13_1) (-9223372036854775807)) = j_ := ⟨_, rfl⟩
                replace H : ((bagatellelaw01_sum.f k1 x3_1 (ji10)).bind fun t280 => (bagatellelaw01_FixSums.l0 k1 l0 t280 l0 (l0.length : Int) (wrap64 (x13_1 + 1)))) = some r := by first | (rw [hji10] at H; exact H) | (simp only [hji10] at H ⊢; exact H)
                have hji10_ : (if (rd l0 x13_1) < (-9223372036854775807) then (-9223372036854775807) else (rd l0 x13_1)) = ji10 := hji10
                replace H := Option.bind_eq_some_iff.mp H
                obtain ⟨t280, A110, H⟩ := H
                replace H : (bagatellelaw01_FixSums.l0 k1 l0 t280 l0 (l0.length : Int) (wrap64 (x13_1 + 1))) = some r := H
                have A11 := Aside0.mk A110
                clear A110
                have H' := Aside0.mk H
                clear H
                have p279 : 0 ≤ (x13_1 : Int) := of_decide_eq_true (by first | (with_reducible assumption) | assumption)
                have q279 : x13_1 < (l0.length : Int) := of_decide_eq_true (by first | (with_reducible assumption) | assumption)
                obtain ⟨ad279, e279, hx279_0⟩ := Kd.at_int HR0.out x13_1 p279 q279
                cases e279
                replace hx279_0 := (HB.out.cell (World.block_lt_of_cell? w _ hx279_0)).trans hx279_0
                replace p279 := eq_true p279
                replace q279 := eq_true q279
                go_wp2_with (first | ((with_reducible refine gate_callee (f := 22) rfl ?_); refine goesL_ (some 20) rfl rfl Try.func22 (by kernel_rfl) rfl #[.int .i64 x3_1, .int .i64 ji10] rfl (by (try simp only [List.map_toArray, List.map_cons, List.map_nil]); first | done | (simp only [hji10]; rfl) | rfl | (simp only [List.length_drop, List.length_take]; rfl)) ?_; (with_reducible refine (bagatellelaw01_sum.calls k1 x3_1 ji10 t280 _ A11.out).mono ?_); rintro e w12 ⟨rfl, hb⟩; refine ⟨_, rfl, ?_⟩; have n0_ := Aside0.mk (below_step (by repeat (first | (with_reducible first | exact HB.out | apply below_alloc | apply pw_below_drewN | apply below_drew1) | exact HB.out)) hb); clear HB; have HB := n0_; clear n0_; (try clear hb); (try clear hb2); (try clear hk); (try clear hi)))
                go_roundg k1
                case measure => have := HK1.out; omega
                case rel => exact ⟨(t280), (wrap64 (x13_1 + 1)), (by first | rfl | (simp; done) | (simp [*]; done) | (simp [wrap64]; done) | (congr 2 <;> first | rfl | (unfold wrap64; omega))), (by first | rfl | (simp; done) | (simp [*]; done) | (simp [wrap64]; done) | (congr 2 <;> first | rfl | (unfold wrap64; omega))), H', ⟨by have := HK1.out; omega⟩, ⟨by repeat (first | (with_reducible first | exact HB.out | apply below_alloc | apply pw_below_drewN | apply below_drew1) | exact HB.out)⟩⟩
              · rw [if_neg c9] at H
                exact absurd H (by simp)
            · rw [if_neg c8] at H
              exact absurd H (by simp)
          · rw [if_neg c7] at H
            have c7b0 : decide (x13_1 < (l0.length : Int)) = false := decide_eq_false c7
            clear c7
            replace H := Option.bind_eq_some_iff.mp H
            obtain ⟨t281, A130, H⟩ := H
            replace H : (some (t281 == x3_1)) = some r := H
            have A13 := Aside0.mk A130
            clear A130
            obtain rfl := Option.some.inj H
            go_wp2_with (first | ((with_reducible refine gate_callee (f := 27) rfl ?_); refine goesL_ (some 23) rfl rfl Try.func27 (by kernel_rfl) rfl #[.slice A0 l0.length c0] rfl (by (try simp only [List.map_toArray, List.map_cons, List.map_nil]); first | done | rfl | (simp only [List.length_drop, List.length_take]; rfl)) ?_; (with_reducible refine (fix_Sum.calls k1 _ _ l0 t281 _ ?side1 ?side2 A13.out).mono ?_); (case side1 => repeat (first | exact (Kd.C_below HR0.out HB.out) | (with_reducible refine Kd.C_alloc ?_ _) | (with_reducible refine Kd.C_drewN ?_ _) | (with_reducible refine Kd.C_drew ?_))); (case side2 => exact HC0.out); rintro e w14 ⟨rfl, hb⟩; refine ⟨_, rfl, ?_⟩; have n0_ := Aside0.mk (below_step (by repeat (first | (with_reducible first | exact HB.out | apply below_alloc | apply pw_below_drewN | apply below_drew1) | exact HB.out)) hb); clear HB; have HB := n0_; clear n0_; (try clear hb); (try clear hb2); (try clear hk); (try clear hi)))
            go_ret
            exact ⟨by first | rfl | (simp [errW_none, errW_some] <;> rfl) | (simp [*, errW_none, errW_some] <;> rfl) | (simp [wrap64]; done) | (congr 2 <;> first | rfl | (unfold wrap64; omega)), by repeat (first | (with_reducible first | exact HB.out | apply below_alloc | apply pw_below_drewN | apply below_drew1) | exact HB.out)⟩
  · replace c3 := Bool.eq_false_iff.mpr c3
    subst c3
    have H1 : (some false) = some r := by rw [if_neg (show ¬ (false = true) by decide)] at H; exact H
    clear H
    have H := H1
    clear H1
    obtain rfl := Option.some.inj H
    go_enter Try.func11, Try.ntmps11
    go_wp2_with (first | ((with_reducible refine gate_callee (f := 12) rfl ?_); refine goesL_ (some 6) rfl rfl Try.func12 (by kernel_rfl) rfl #[] rfl (by (try simp only [List.map_toArray, List.map_cons, List.map_nil]); first | done | rfl | (simp only [List.length_drop, List.length_take]; rfl)) ?_; (with_reducible refine (bagatellelaw01_fit.calls k  false _ A2.out).mono ?_); rintro e w15 ⟨rfl, hb⟩; refine ⟨_, rfl, ?_⟩; have n0_ := Aside0.mk (below_step (by repeat (first | (with_reducible first | exact HB.out | apply below_alloc | apply pw_below_drewN | apply below_drew1) | exact HB.out)) hb); clear HB; have HB := n0_; clear n0_; (try clear hb); (try clear hb2); (try clear hk); (try clear hi)))
    go_ret
    exact ⟨by first | rfl | (simp [errW_none, errW_some] <;> rfl) | (simp [*, errW_none, errW_some] <;> rfl) | (simp [wrap64]; done) | (congr 2 <;> first | rfl | (unfold wrap64; omega)), by repeat (first | (with_reducible first | exact HB.out | apply below_alloc | apply pw_below_drewN | apply below_drew1) | exact HB.out)⟩

/-- THE ONE PURE STATEMENT of bagatellelaw01_FixSums: yours. -/
def bagatellelaw01_FixSums.Pure : Prop := ∀ (l0 : List Int), l0.length ≤ maxLen → l0.length * 8 ≤ 140737488351232 → (∀ x ∈ l0, (Lit.int .i64 x).wf = true) → ∃ k, bagatellelaw01_FixSums.f k l0 = some true
theorem bagatellelaw01_FixSums.walk (P : bagatellelaw01_FixSums.Pure) (a0 : Option Addr) (len0 cap0 : Nat) (z0 : List Int) (w : World) (w0 : (a0 = none ∧ len0 = 0 ∧ cap0 = 0 ∧ z0 = []) ∨ ∃ x, a0 = some x ∧ len0 ≤ cap0 ∧ cap0 ≤ maxLen ∧ z0.length = cap0 ∧ (∀ i, i < z0.length → w.cell? (x.add i) = some (.int .i64 (z0.getD i 0))) ∧ ∀ n ∈ z0, (Lit.int .i64 n).wf = true) (y0 : len0 * 8 ≤ 140737488351232) :
    Calls Try.prog 11 #[.slice a0 len0 cap0] w fun e w' => e = .returned (.bool true) ∧ Below w.heap.size w w' := by
  obtain ⟨l0, rfl, hr0, hm0, hw0, hc0⟩ := ReadsInt.ofRowC w0
  obtain ⟨k, h⟩ := P l0 hm0 y0 hw0
  refine (bagatellelaw01_FixSums.calls k _ _ l0 true w (Kd.C_of_reads (d := (0 : Int)) (h1 := fun _ => rfl) hr0) hc0 h).mono ?_
  rintro e w' ⟨rfl, hd⟩
  exact ⟨rfl, hd⟩

end Go.Proofs.Ytkafbfkhgkcdnaa.PFix
