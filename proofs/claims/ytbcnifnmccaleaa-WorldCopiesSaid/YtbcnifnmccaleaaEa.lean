import Derived.Test.YtbcnifnmccaleaaFw1
import Derived.Test.YtbcnifnmccaleaaProg
namespace Go.Proofs.Ytbcnifnmccaleaa.E
open Go Go.Proofs Go.Proofs.Ytbcnifnmccaleaa Go.Proofs.Ytbcnifnmccaleaa.Fw Go.RowKit
set_option maxRecDepth 100000
set_option linter.unusedVariables false
def Rii : TyL (Int × Int) := (tCons (tI .i64) (tOne (tI .i64)))
theorem Rii_ok : Rii.Ok := (tCons_ok (tI_ok _) (tOne_ok (tI_ok _)))
theorem Rii_ren (f : Nat → Option Nat) (x : (Int × Int)) : renL f (Rii.enc x) = Rii.enc x := by kernel_rfl
theorem Rii_clo (x : (Int × Int)) : cloL (Rii.enc x) = Rii.enc x := by kernel_rfl
theorem Rii_dec (x : (Int × Int)) : Rii.dec (Rii.enc x) = some x := by kernel_rfl
def RiiiiiiiiiiL2 : TyL (Int × Int × Int × Int × Int × Int × Int × Int × Int × Int × (Nat × (Nat → List AV))) := (tCons (tI .i64) (tCons (tI .i64) (tCons (tI .i64) (tCons (tI .i64) (tCons (tI .i64) (tCons (tI .i64) (tCons (tI .i64) (tCons (tI .i64) (tCons (tI .i64) (tCons (tI .i64) (tOne (tLz 2 (Rii.enc (0, 0))))))))))))))
theorem RiiiiiiiiiiL2_ok : RiiiiiiiiiiL2.Ok := (tCons_ok (tI_ok _) (tCons_ok (tI_ok _) (tCons_ok (tI_ok _) (tCons_ok (tI_ok _) (tCons_ok (tI_ok _) (tCons_ok (tI_ok _) (tCons_ok (tI_ok _) (tCons_ok (tI_ok _) (tCons_ok (tI_ok _) (tCons_ok (tI_ok _) (tOne_ok (tLz_ok _ _))))))))))))
theorem RiiiiiiiiiiL2_ren (f : Nat → Option Nat) (x : (Int × Int × Int × Int × Int × Int × Int × Int × Int × Int × (Nat × (Nat → List AV)))) : renL f (RiiiiiiiiiiL2.enc x) = RiiiiiiiiiiL2.enc x := by kernel_rfl
theorem RiiiiiiiiiiL2_clo (x : (Int × Int × Int × Int × Int × Int × Int × Int × Int × Int × (Nat × (Nat → List AV)))) : cloL (RiiiiiiiiiiL2.enc x) = RiiiiiiiiiiL2.enc x := by kernel_rfl
theorem RiiiiiiiiiiL2_dec (x : (Int × Int × Int × Int × Int × Int × Int × Int × Int × Int × (Nat × (Nat → List AV)))) : RiiiiiiiiiiL2.dec (RiiiiiiiiiiL2.enc x) = some x := by kernel_rfl
def Riiiiiiii : TyL (Int × Int × Int × Int × Int × Int × Int × Int) := (tCons (tI .i64) (tCons (tI .i64) (tCons (tI .i64) (tCons (tI .i64) (tCons (tI .i64) (tCons (tI .i64) (tCons (tI .i64) (tOne (tI .i64)))))))))
theorem Riiiiiiii_ok : Riiiiiiii.Ok := (tCons_ok (tI_ok _) (tCons_ok (tI_ok _) (tCons_ok (tI_ok _) (tCons_ok (tI_ok _) (tCons_ok (tI_ok _) (tCons_ok (tI_ok _) (tCons_ok (tI_ok _) (tOne_ok (tI_ok _)))))))))
theorem Riiiiiiii_ren (f : Nat → Option Nat) (x : (Int × Int × Int × Int × Int × Int × Int × Int)) : renL f (Riiiiiiii.enc x) = Riiiiiiii.enc x := by kernel_rfl
theorem Riiiiiiii_clo (x : (Int × Int × Int × Int × Int × Int × Int × Int)) : cloL (Riiiiiiii.enc x) = Riiiiiiii.enc x := by kernel_rfl
theorem Riiiiiiii_dec (x : (Int × Int × Int × Int × Int × Int × Int × Int)) : Riiiiiiii.dec (Riiiiiiii.enc x) = some x := by kernel_rfl
def Riiiii : TyL (Int × Int × Int × Int × Int) := (tCons (tI .i64) (tCons (tI .i64) (tCons (tI .i64) (tCons (tI .i64) (tOne (tI .i64))))))
theorem Riiiii_ok : Riiiii.Ok := (tCons_ok (tI_ok _) (tCons_ok (tI_ok _) (tCons_ok (tI_ok _) (tCons_ok (tI_ok _) (tOne_ok (tI_ok _))))))
theorem Riiiii_ren (f : Nat → Option Nat) (x : (Int × Int × Int × Int × Int)) : renL f (Riiiii.enc x) = Riiiii.enc x := by kernel_rfl
theorem Riiiii_clo (x : (Int × Int × Int × Int × Int)) : cloL (Riiiii.enc x) = Riiiii.enc x := by kernel_rfl
theorem Riiiii_dec (x : (Int × Int × Int × Int × Int)) : Riiiii.dec (Riiiii.enc x) = some x := by kernel_rfl
def Ri : TyL Int := (tOne (tI .i64))
theorem Ri_ok : Ri.Ok := (tOne_ok (tI_ok _))
theorem Ri_ren (f : Nat → Option Nat) (x : Int) : renL f (Ri.enc x) = Ri.enc x := by kernel_rfl
theorem Ri_clo (x : Int) : cloL (Ri.enc x) = Ri.enc x := by kernel_rfl
theorem Ri_dec (x : Int) : Ri.dec (Ri.enc x) = some x := by kernel_rfl
def RiiiiiiiiiiiiiiiiiiiiiiiiiiiiiL2 : TyL (Int × Int × Int × Int × Int × Int × Int × Int × Int × Int × Int × Int × Int × Int × Int × Int × Int × Int × Int × Int × Int × Int × Int × Int × Int × Int × Int × Int × Int × (Nat × (Nat → List AV))) := (tCons (tI .i64) (tCons (tI .i64) (tCons (tI .i64) (tCons (tI .i64) (tCons (tI .i64) (tCons (tI .i64) (tCons (tI .i64) (tCons (tI .i64) (tCons (tI .i64) (tCons (tI .i64) (tCons (tI .i64) (tCons (tI .i64) (tCons (tI .i64) (tCons (tI .i64) (tCons (tI .i64) (tCons (tI .i64) (tCons (tI .i64) (tCons (tI .i64) (tCons (tI .i64) (tCons (tI .i64) (tCons (tI .i64) (tCons (tI .i64) (tCons (tI .i64) (tCons (tI .i64) (tCons (tI .i64) (tCons (tI .i64) (tCons (tI .i64) (tCons (tI .i64) (tCons (tI .i64) (tOne (tLz 2 (Rii.enc (0, 0)))))))))))))))))))))))))))))))))
theorem RiiiiiiiiiiiiiiiiiiiiiiiiiiiiiL2_ok : RiiiiiiiiiiiiiiiiiiiiiiiiiiiiiL2.Ok := (tCons_ok (tI_ok _) (tCons_ok (tI_ok _) (tCons_ok (tI_ok _) (tCons_ok (tI_ok _) (tCons_ok (tI_ok _) (tCons_ok (tI_ok _) (tCons_ok (tI_ok _) (tCons_ok (tI_ok _) (tCons_ok (tI_ok _) (tCons_ok (tI_ok _) (tCons_ok (tI_ok _) (tCons_ok (tI_ok _) (tCons_ok (tI_ok _) (tCons_ok (tI_ok _) (tCons_ok (tI_ok _) (tCons_ok (tI_ok _) (tCons_ok (tI_ok _) (tCons_ok (tI_ok _) (tCons_ok (tI_ok _) (tCons_ok (tI_ok _) (tCons_ok (tI_ok _) (tCons_ok (tI_ok _) (tCons_ok (tI_ok _) (tCons_ok (tI_ok _) (tCons_ok (tI_ok _) (tCons_ok (tI_ok _) (tCons_ok (tI_ok _) (tCons_ok (tI_ok _) (tCons_ok (tI_ok _) (tOne_ok (tLz_ok _ _)))))))))))))))))))))))))))))))
theorem RiiiiiiiiiiiiiiiiiiiiiiiiiiiiiL2_ren (f : Nat → Option Nat) (x : (Int × Int × Int × Int × Int × Int × Int × Int × Int × Int × Int × Int × Int × Int × Int × Int × Int × Int × Int × Int × Int × Int × Int × Int × Int × Int × Int × Int × Int × (Nat × (Nat → List AV)))) : renL f (RiiiiiiiiiiiiiiiiiiiiiiiiiiiiiL2.enc x) = RiiiiiiiiiiiiiiiiiiiiiiiiiiiiiL2.enc x := by kernel_rfl
theorem RiiiiiiiiiiiiiiiiiiiiiiiiiiiiiL2_clo (x : (Int × Int × Int × Int × Int × Int × Int × Int × Int × Int × Int × Int × Int × Int × Int × Int × Int × Int × Int × Int × Int × Int × Int × Int × Int × Int × Int × Int × Int × (Nat × (Nat → List AV)))) : cloL (RiiiiiiiiiiiiiiiiiiiiiiiiiiiiiL2.enc x) = RiiiiiiiiiiiiiiiiiiiiiiiiiiiiiL2.enc x := by kernel_rfl
theorem RiiiiiiiiiiiiiiiiiiiiiiiiiiiiiL2_dec (x : (Int × Int × Int × Int × Int × Int × Int × Int × Int × Int × Int × Int × Int × Int × Int × Int × Int × Int × Int × Int × Int × Int × Int × Int × Int × Int × Int × Int × Int × (Nat × (Nat → List AV)))) : RiiiiiiiiiiiiiiiiiiiiiiiiiiiiiL2.dec (RiiiiiiiiiiiiiiiiiiiiiiiiiiiiiL2.enc x) = some x := by kernel_rfl
def Riiiiiiiiii : TyL (Int × Int × Int × Int × Int × Int × Int × Int × Int × Int) := (tCons (tI .i64) (tCons (tI .i64) (tCons (tI .i64) (tCons (tI .i64) (tCons (tI .i64) (tCons (tI .i64) (tCons (tI .i64) (tCons (tI .i64) (tCons (tI .i64) (tOne (tI .i64)))))))))))
theorem Riiiiiiiiii_ok : Riiiiiiiiii.Ok := (tCons_ok (tI_ok _) (tCons_ok (tI_ok _) (tCons_ok (tI_ok _) (tCons_ok (tI_ok _) (tCons_ok (tI_ok _) (tCons_ok (tI_ok _) (tCons_ok (tI_ok _) (tCons_ok (tI_ok _) (tCons_ok (tI_ok _) (tOne_ok (tI_ok _)))))))))))
theorem Riiiiiiiiii_ren (f : Nat → Option Nat) (x : (Int × Int × Int × Int × Int × Int × Int × Int × Int × Int)) : renL f (Riiiiiiiiii.enc x) = Riiiiiiiiii.enc x := by kernel_rfl
theorem Riiiiiiiiii_clo (x : (Int × Int × Int × Int × Int × Int × Int × Int × Int × Int)) : cloL (Riiiiiiiiii.enc x) = Riiiiiiiiii.enc x := by kernel_rfl
theorem Riiiiiiiiii_dec (x : (Int × Int × Int × Int × Int × Int × Int × Int × Int × Int)) : Riiiiiiiiii.dec (Riiiiiiiiii.enc x) = some x := by kernel_rfl
/-! ### bagatelle/world.New -/
noncomputable def world.New.cs : List (Nat × Fw.Summ) := []
theorem world.New.cs_ok : SumsOk Try.prog world.New.cs := .nil
def world.New.hs : List (Nat × LHint) := []
noncomputable def world.New.G : Ctx := ⟨Try.prog, sumAt world.New.cs, lookH world.New.hs, true⟩
noncomputable def world.New.f (x : Unit) : Option (Int × Int × Int × Int × Int × (Nat × (Nat → (Int × Int × Int × Int × Int × Int × Int × Int × Int × Int × (Nat × (Nat → List AV))))) × (Nat × (Nat → (Int × Int × Int × Int × Int × Int × Int × Int))) × (Nat × (Nat → (Int × Int × Int × Int × Int)))) := evF world.New.G 0 Try.f9 (tNil.enc x) (tG (tCons (tI .i64) (tCons (tI .i64) (tCons (tI .i64) (tCons (tI .i64) (tCons (tI .i64) (tCons (tTL RiiiiiiiiiiL2 11 (0, 0, 0, 0, 0, 0, 0, 0, 0, 0, (0, fun _ => []))) (tCons (tTL Riiiiiiii 8 (0, 0, 0, 0, 0, 0, 0, 0)) (tOne (tTL Riiiii 5 (0, 0, 0, 0, 0))))))))))).dec
noncomputable def world.New.s : Fw.Summ := .mk' tNil (tG (tCons (tI .i64) (tCons (tI .i64) (tCons (tI .i64) (tCons (tI .i64) (tCons (tI .i64) (tCons (tTL RiiiiiiiiiiL2 11 (0, 0, 0, 0, 0, 0, 0, 0, 0, 0, (0, fun _ => []))) (tCons (tTL Riiiiiiii 8 (0, 0, 0, 0, 0, 0, 0, 0)) (tOne (tTL Riiiii 5 (0, 0, 0, 0, 0))))))))))) world.New.f
theorem world.New.ok : world.New.s.Ok Try.prog 9 :=
  summ_ok (hint := lookH world.New.hs) (fn := Try.f9) (fun x => 0) world.New.cs_ok (by kernel_rfl) (by kernel_rfl) (by kernel_rfl) (by kernel_rfl) tNil_ok (tG_ok (tCons_ok (tI_ok _) (tCons_ok (tI_ok _) (tCons_ok (tI_ok _) (tCons_ok (tI_ok _) (tCons_ok (tI_ok _) (tCons_ok (tTL_ok RiiiiiiiiiiL2_ok _ _) (tCons_ok (tTL_ok Riiiiiiii_ok _ _) (tOne_ok (tTL_ok Riiiii_ok _ _)))))))))) (fun _ => rfl)
theorem world.New.eq  : world.New.f () =
  (tG (tCons (tI .i64) (tCons (tI .i64) (tCons (tI .i64) (tCons (tI .i64) (tCons (tI .i64) (tCons (tTL RiiiiiiiiiiL2 11 (0, 0, 0, 0, 0, 0, 0, 0, 0, 0, (0, fun _ => []))) (tCons (tTL Riiiiiiii 8 (0, 0, 0, 0, 0, 0, 0, 0)) (tOne (tTL Riiiii 5 (0, 0, 0, 0, 0))))))))))).dec (.agg [.val (.int .i64 0), .val (.int .i64 1), .val (.int .i64 1), .val (.int .i64 0), .val (.int .i64 0), .val (.slice none 0 0), .val (.slice none 0 0), .val (.slice none 0 0)]) := by kernel_rfl
/-! ### bagatelle/fix.whole -/
noncomputable def fix.whole.cs : List (Nat × Fw.Summ) := []
theorem fix.whole.cs_ok : SumsOk Try.prog fix.whole.cs := .nil
def fix.whole.hs : List (Nat × LHint) := []
noncomputable def fix.whole.G : Ctx := ⟨Try.prog, sumAt fix.whole.cs, lookH fix.whole.hs, true⟩
noncomputable def fix.whole.f (x : Int) : Option Int := evF fix.whole.G 0 Try.f67 ((tOne (tI .i64)).enc x) (tI .i64).dec
noncomputable def fix.whole.s : Fw.Summ := .mk' (tOne (tI .i64)) (tI .i64) fix.whole.f
theorem fix.whole.ok : fix.whole.s.Ok Try.prog 67 :=
  summ_ok (hint := lookH fix.whole.hs) (fn := Try.f67) (fun x => 0) fix.whole.cs_ok (by kernel_rfl) (by kernel_rfl) (by kernel_rfl) (by kernel_rfl) (tOne_ok (tI_ok _)) (tI_ok _) (fun _ => rfl)
theorem fix.whole.eq (p0 : Int) : fix.whole.f p0 =
  some (if (-9223372036854775807) > p0 then (-9223372036854775807) else p0) := by kernel_rfl
/-! ### bagatelle/fix.Neg -/
noncomputable def fix.Neg.cs : List (Nat × Fw.Summ) := [(67, fix.whole.s)]
theorem fix.Neg.cs_ok : SumsOk Try.prog fix.Neg.cs := .cons fix.whole.ok (.nil)
def fix.Neg.hs : List (Nat × LHint) := []
noncomputable def fix.Neg.G : Ctx := ⟨Try.prog, sumAt fix.Neg.cs, lookH fix.Neg.hs, true⟩
noncomputable def fix.Neg.f (x : Int) : Option Int := evF fix.Neg.G 0 Try.f77 ((tOne (tI .i64)).enc x) (tI .i64).dec
noncomputable def fix.Neg.s : Fw.Summ := .mk' (tOne (tI .i64)) (tI .i64) fix.Neg.f
theorem fix.Neg.ok : fix.Neg.s.Ok Try.prog 77 :=
  summ_ok (hint := lookH fix.Neg.hs) (fn := Try.f77) (fun x => 0) fix.Neg.cs_ok (by kernel_rfl) (by kernel_rfl) (by kernel_rfl) (by kernel_rfl) (tOne_ok (tI_ok _)) (tI_ok _) (fun _ => rfl)
theorem fix.Neg.eq (p0 : Int) : fix.Neg.f p0 =
  (fix.whole.f p0).bind fun r1 =>
  some (IntKind.i64.wrap (0 - r1)) := by kernel_rfl
/-! ### bagatelle/fix.Abs -/
noncomputable def fix.Abs.cs : List (Nat × Fw.Summ) := [(77, fix.Neg.s)]
theorem fix.Abs.cs_ok : SumsOk Try.prog fix.Abs.cs := .cons fix.Neg.ok (.nil)
def fix.Abs.hs : List (Nat × LHint) := []
noncomputable def fix.Abs.G : Ctx := ⟨Try.prog, sumAt fix.Abs.cs, lookH fix.Abs.hs, true⟩
noncomputable def fix.Abs.f (x : Int) : Option Int := evF fix.Abs.G 0 Try.f53 ((tOne (tI .i64)).enc x) (tI .i64).dec
noncomputable def fix.Abs.s : Fw.Summ := .mk' (tOne (tI .i64)) (tI .i64) fix.Abs.f
theorem fix.Abs.ok : fix.Abs.s.Ok Try.prog 53 :=
  summ_ok (hint := lookH fix.Abs.hs) (fn := Try.f53) (fun x => 0) fix.Abs.cs_ok (by kernel_rfl) (by kernel_rfl) (by kernel_rfl) (by kernel_rfl) (tOne_ok (tI_ok _)) (tI_ok _) (fun _ => rfl)
theorem fix.Abs.eq (p0 : Int) : fix.Abs.f p0 =
  bif (decide (p0 < 0)) then
    (fix.Neg.f p0).bind fun r1 =>
    some r1
  else
  some p0 := by kernel_rfl
/-! ### bagatelle/shape.within -/
noncomputable def shape.within.cs : List (Nat × Fw.Summ) := [(53, fix.Abs.s)]
theorem shape.within.cs_ok : SumsOk Try.prog shape.within.cs := .cons fix.Abs.ok (.nil)
def shape.within.hs : List (Nat × LHint) := []
noncomputable def shape.within.G : Ctx := ⟨Try.prog, sumAt shape.within.cs, lookH shape.within.hs, true⟩
noncomputable def shape.within.f (x : (Int × Int)) : Option Bool := evF shape.within.G 0 Try.f63 ((tOne (tG (tCons (tI .i64) (tOne (tI .i64))))).enc x) tB.dec
noncomputable def shape.within.s : Fw.Summ := .mk' (tOne (tG (tCons (tI .i64) (tOne (tI .i64))))) tB shape.within.f
theorem shape.within.ok : shape.within.s.Ok Try.prog 63 :=
  summ_ok (hint := lookH shape.within.hs) (fn := Try.f63) (fun x => 0) shape.within.cs_ok (by kernel_rfl) (by kernel_rfl) (by kernel_rfl) (by kernel_rfl) (tOne_ok (tG_ok (tCons_ok (tI_ok _) (tOne_ok (tI_ok _))))) tB_ok (fun _ => rfl)
theorem shape.within.eq (p0_0 : Int) (p0_1 : Int) : shape.within.f (p0_0, p0_1) =
  (fix.Abs.f p0_0).bind fun r1 =>
  bif (decide (r1 ≤ 274877906944)) then
    (fix.Abs.f p0_1).bind fun r2 =>
    some (decide (r2 ≤ 274877906944))
  else
  some false := by kernel_rfl
/-! ### bagatelle/fix.Add -/
noncomputable def fix.Add.cs : List (Nat × Fw.Summ) := [(67, fix.whole.s)]
theorem fix.Add.cs_ok : SumsOk Try.prog fix.Add.cs := .cons fix.whole.ok (.nil)
def fix.Add.hs : List (Nat × LHint) := []
noncomputable def fix.Add.G : Ctx := ⟨Try.prog, sumAt fix.Add.cs, lookH fix.Add.hs, true⟩
noncomputable def fix.Add.f (x : (Int × Int)) : Option Int := evF fix.Add.G 0 Try.f88 ((tCons (tI .i64) (tOne (tI .i64))).enc x) (tI .i64).dec
noncomputable def fix.Add.s : Fw.Summ := .mk' (tCons (tI .i64) (tOne (tI .i64))) (tI .i64) fix.Add.f
theorem fix.Add.ok : fix.Add.s.Ok Try.prog 88 :=
  summ_ok (hint := lookH fix.Add.hs) (fn := Try.f88) (fun x => 0) fix.Add.cs_ok (by kernel_rfl) (by kernel_rfl) (by kernel_rfl) (by kernel_rfl) (tCons_ok (tI_ok _) (tOne_ok (tI_ok _))) (tI_ok _) (fun _ => rfl)
theorem fix.Add.eq (p0 : Int) (p1 : Int) : fix.Add.f (p0, p1) =
  (fix.whole.f p0).bind fun r1 =>
  (fix.whole.f p1).bind fun r2 =>
  bif (decide (r1 > 0)) then
    bif (decide (r2 > 0)) then
      bif (decide ((IntKind.i64.wrap (r1 + r2)) < 0)) then
        some 9223372036854775807
      else
      bif (decide (r1 < 0)) then
        bif (decide (r2 < 0)) then
          bif (decide ((IntKind.i64.wrap (r1 + r2)) ≥ 0)) then
            some (-9223372036854775807)
          else
          (fix.whole.f (IntKind.i64.wrap (r1 + r2))).bind fun r3 =>
          some r3
        else
        (fix.whole.f (IntKind.i64.wrap (r1 + r2))).bind fun r4 =>
        some r4
      else
      (fix.whole.f (IntKind.i64.wrap (r1 + r2))).bind fun r5 =>
      some r5
    else
    bif (decide (r1 < 0)) then
      bif (decide (r2 < 0)) then
        bif (decide ((IntKind.i64.wrap (r1 + r2)) ≥ 0)) then
          some (-9223372036854775807)
        else
        (fix.whole.f (IntKind.i64.wrap (r1 + r2))).bind fun r6 =>
        some r6
      else
      (fix.whole.f (IntKind.i64.wrap (r1 + r2))).bind fun r7 =>
      some r7
    else
    (fix.whole.f (IntKind.i64.wrap (r1 + r2))).bind fun r8 =>
    some r8
  else
  bif (decide (r1 < 0)) then
    bif (decide (r2 < 0)) then
      bif (decide ((IntKind.i64.wrap (r1 + r2)) ≥ 0)) then
        some (-9223372036854775807)
      else
      (fix.whole.f (IntKind.i64.wrap (r1 + r2))).bind fun r9 =>
      some r9
    else
    (fix.whole.f (IntKind.i64.wrap (r1 + r2))).bind fun r10 =>
    some r10
  else
  (fix.whole.f (IntKind.i64.wrap (r1 + r2))).bind fun r11 =>
  some r11 := by kernel_rfl
/-! ### bagatelle/fix.Sub -/
noncomputable def fix.Sub.cs : List (Nat × Fw.Summ) := [(77, fix.Neg.s), (88, fix.Add.s)]
theorem fix.Sub.cs_ok : SumsOk Try.prog fix.Sub.cs := .cons fix.Neg.ok (.cons fix.Add.ok (.nil))
def fix.Sub.hs : List (Nat × LHint) := []
noncomputable def fix.Sub.G : Ctx := ⟨Try.prog, sumAt fix.Sub.cs, lookH fix.Sub.hs, true⟩
noncomputable def fix.Sub.f (x : (Int × Int)) : Option Int := evF fix.Sub.G 0 Try.f79 ((tCons (tI .i64) (tOne (tI .i64))).enc x) (tI .i64).dec
noncomputable def fix.Sub.s : Fw.Summ := .mk' (tCons (tI .i64) (tOne (tI .i64))) (tI .i64) fix.Sub.f
theorem fix.Sub.ok : fix.Sub.s.Ok Try.prog 79 :=
  summ_ok (hint := lookH fix.Sub.hs) (fn := Try.f79) (fun x => 0) fix.Sub.cs_ok (by kernel_rfl) (by kernel_rfl) (by kernel_rfl) (by kernel_rfl) (tCons_ok (tI_ok _) (tOne_ok (tI_ok _))) (tI_ok _) (fun _ => rfl)
theorem fix.Sub.eq (p0 : Int) (p1 : Int) : fix.Sub.f (p0, p1) =
  (fix.Neg.f p1).bind fun r1 =>
  (fix.Add.f (p0, r1)).bind fun r2 =>
  some r2 := by kernel_rfl
/-! ### bagatelle/vec.Sub -/
noncomputable def vec.Sub.cs : List (Nat × Fw.Summ) := [(79, fix.Sub.s)]
theorem vec.Sub.cs_ok : SumsOk Try.prog vec.Sub.cs := .cons fix.Sub.ok (.nil)
def vec.Sub.hs : List (Nat × LHint) := []
noncomputable def vec.Sub.G : Ctx := ⟨Try.prog, sumAt vec.Sub.cs, lookH vec.Sub.hs, true⟩
noncomputable def vec.Sub.f (x : ((Int × Int) × (Int × Int))) : Option (Int × Int) := evF vec.Sub.G 0 Try.f65 ((tCons (tG (tCons (tI .i64) (tOne (tI .i64)))) (tOne (tG (tCons (tI .i64) (tOne (tI .i64)))))).enc x) (tG (tCons (tI .i64) (tOne (tI .i64)))).dec
noncomputable def vec.Sub.s : Fw.Summ := .mk' (tCons (tG (tCons (tI .i64) (tOne (tI .i64)))) (tOne (tG (tCons (tI .i64) (tOne (tI .i64)))))) (tG (tCons (tI .i64) (tOne (tI .i64)))) vec.Sub.f
theorem vec.Sub.ok : vec.Sub.s.Ok Try.prog 65 :=
  summ_ok (hint := lookH vec.Sub.hs) (fn := Try.f65) (fun x => 0) vec.Sub.cs_ok (by kernel_rfl) (by kernel_rfl) (by kernel_rfl) (by kernel_rfl) (tCons_ok (tG_ok (tCons_ok (tI_ok _) (tOne_ok (tI_ok _)))) (tOne_ok (tG_ok (tCons_ok (tI_ok _) (tOne_ok (tI_ok _)))))) (tG_ok (tCons_ok (tI_ok _) (tOne_ok (tI_ok _)))) (fun _ => rfl)
theorem vec.Sub.eq (p0_0 : Int) (p0_1 : Int) (p1_0 : Int) (p1_1 : Int) : vec.Sub.f ((p0_0, p0_1), (p1_0, p1_1)) =
  (fix.Sub.f (p0_0, p1_0)).bind fun r1 =>
  (fix.Sub.f (p0_1, p1_1)).bind fun r2 =>
  some (r1, r2) := by kernel_rfl
/-! ### math/bits.Mul64 -/
noncomputable def bits.Mul64.cs : List (Nat × Fw.Summ) := []
theorem bits.Mul64.cs_ok : SumsOk Try.prog bits.Mul64.cs := .nil
def bits.Mul64.hs : List (Nat × LHint) := []
noncomputable def bits.Mul64.G : Ctx := ⟨Try.prog, sumAt bits.Mul64.cs, lookH bits.Mul64.hs, true⟩
noncomputable def bits.Mul64.f (x : (Int × Int)) : Option (Int × Int) := evF bits.Mul64.G 0 Try.f89 ((tCons (tI .u64) (tOne (tI .u64))).enc x) (tT (tCons (tI .u64) (tOne (tI .u64)))).dec
noncomputable def bits.Mul64.s : Fw.Summ := .mk' (tCons (tI .u64) (tOne (tI .u64))) (tT (tCons (tI .u64) (tOne (tI .u64)))) bits.Mul64.f
theorem bits.Mul64.ok : bits.Mul64.s.Ok Try.prog 89 :=
  summ_ok (hint := lookH bits.Mul64.hs) (fn := Try.f89) (fun x => 0) bits.Mul64.cs_ok (by kernel_rfl) (by kernel_rfl) (by kernel_rfl) (by kernel_rfl) (tCons_ok (tI_ok _) (tOne_ok (tI_ok _))) (tT_ok (tCons_ok (tI_ok _) (tOne_ok (tI_ok _)))) (fun _ => rfl)
theorem bits.Mul64.eq (p0 : Int) (p1 : Int) : bits.Mul64.f (p0, p1) =
  some ((IntKind.u64.wrap ((IntKind.u64.wrap ((IntKind.u64.wrap ((Int.fdiv p0 (2 ^ 32)) * (Int.fdiv p1 (2 ^ 32)))) + (Int.fdiv (IntKind.u64.wrap ((IntKind.u64.wrap ((Int.fdiv p0 (2 ^ 32)) * (Go.bits .and .u64 p1 4294967295))) + (Int.fdiv (IntKind.u64.wrap ((Go.bits .and .u64 p0 4294967295) * (Go.bits .and .u64 p1 4294967295))) (2 ^ 32)))) (2 ^ 32)))) + (Int.fdiv (IntKind.u64.wrap ((Go.bits .and .u64 (IntKind.u64.wrap ((IntKind.u64.wrap ((Int.fdiv p0 (2 ^ 32)) * (Go.bits .and .u64 p1 4294967295))) + (Int.fdiv (IntKind.u64.wrap ((Go.bits .and .u64 p0 4294967295) * (Go.bits .and .u64 p1 4294967295))) (2 ^ 32)))) 4294967295) + (IntKind.u64.wrap ((Go.bits .and .u64 p0 4294967295) * (Int.fdiv p1 (2 ^ 32)))))) (2 ^ 32)))), (IntKind.u64.wrap (p0 * p1))) := by kernel_rfl
/-! ### bagatelle/fix.signed -/
noncomputable def fix.signed.cs : List (Nat × Fw.Summ) := []
theorem fix.signed.cs_ok : SumsOk Try.prog fix.signed.cs := .nil
def fix.signed.hs : List (Nat × LHint) := []
noncomputable def fix.signed.G : Ctx := ⟨Try.prog, sumAt fix.signed.cs, lookH fix.signed.hs, true⟩
noncomputable def fix.signed.f (x : (Int × Int × Bool)) : Option Int := evF fix.signed.G 0 Try.f90 ((tCons (tI .u64) (tCons (tI .u64) (tOne tB))).enc x) (tI .i64).dec
noncomputable def fix.signed.s : Fw.Summ := .mk' (tCons (tI .u64) (tCons (tI .u64) (tOne tB))) (tI .i64) fix.signed.f
theorem fix.signed.ok : fix.signed.s.Ok Try.prog 90 :=
  summ_ok (hint := lookH fix.signed.hs) (fn := Try.f90) (fun x => 0) fix.signed.cs_ok (by kernel_rfl) (by kernel_rfl) (by kernel_rfl) (by kernel_rfl) (tCons_ok (tI_ok _) (tCons_ok (tI_ok _) (tOne_ok tB_ok))) (tI_ok _) (fun _ => rfl)
theorem fix.signed.eq (p0 : Int) (p1 : Int) (p2 : Bool) : fix.signed.f (p0, p1, p2) =
  bif (p0 == 0) then
    bif (decide (p1 < 9223372036854775808)) then
      bif p2 then
        some (IntKind.i64.wrap (0 - (IntKind.i64.wrap p1)))
      else
      some (IntKind.i64.wrap p1)
    else
    bif p2 then
      some (-9223372036854775807)
    else
    some 9223372036854775807
  else
  bif p2 then
    some (-9223372036854775807)
  else
  some 9223372036854775807 := by kernel_rfl
/-! ### bagatelle/fix.Mul -/
noncomputable def fix.Mul.cs : List (Nat × Fw.Summ) := [(53, fix.Abs.s), (89, bits.Mul64.s), (90, fix.signed.s)]
theorem fix.Mul.cs_ok : SumsOk Try.prog fix.Mul.cs := .cons fix.Abs.ok (.cons bits.Mul64.ok (.cons fix.signed.ok (.nil)))
def fix.Mul.hs : List (Nat × LHint) := []
noncomputable def fix.Mul.G : Ctx := ⟨Try.prog, sumAt fix.Mul.cs, lookH fix.Mul.hs, true⟩
noncomputable def fix.Mul.f (x : (Int × Int)) : Option Int := evF fix.Mul.G 0 Try.f80 ((tCons (tI .i64) (tOne (tI .i64))).enc x) (tI .i64).dec
noncomputable def fix.Mul.s : Fw.Summ := .mk' (tCons (tI .i64) (tOne (tI .i64))) (tI .i64) fix.Mul.f
theorem fix.Mul.ok : fix.Mul.s.Ok Try.prog 80 :=
  summ_ok (hint := lookH fix.Mul.hs) (fn := Try.f80) (fun x => 0) fix.Mul.cs_ok (by kernel_rfl) (by kernel_rfl) (by kernel_rfl) (by kernel_rfl) (tCons_ok (tI_ok _) (tOne_ok (tI_ok _))) (tI_ok _) (fun _ => rfl)
theorem fix.Mul.eq (p0 : Int) (p1 : Int) : fix.Mul.f (p0, p1) =
  (fix.Abs.f p0).bind fun r1 =>
  (fix.Abs.f p1).bind fun r2 =>
  (bits.Mul64.f ((IntKind.u64.wrap r1), (IntKind.u64.wrap r2))).bind fun r3 =>
  (fix.signed.f ((Int.fdiv r3.1 (2 ^ 32)), (Go.bits .or .u64 (IntKind.u64.wrap (r3.1 * 2 ^ 32)) (Int.fdiv r3.2 (2 ^ 32))), (!((decide (p0 < 0)) == (decide (p1 < 0)))))).bind fun r4 =>
  some r4 := by kernel_rfl
/-! ### bagatelle/vec.Cross -/
noncomputable def vec.Cross.cs : List (Nat × Fw.Summ) := [(80, fix.Mul.s), (79, fix.Sub.s)]
theorem vec.Cross.cs_ok : SumsOk Try.prog vec.Cross.cs := .cons fix.Mul.ok (.cons fix.Sub.ok (.nil))
def vec.Cross.hs : List (Nat × LHint) := []
noncomputable def vec.Cross.G : Ctx := ⟨Try.prog, sumAt vec.Cross.cs, lookH vec.Cross.hs, true⟩
noncomputable def vec.Cross.f (x : ((Int × Int) × (Int × Int))) : Option Int := evF vec.Cross.G 0 Try.f64 ((tCons (tG (tCons (tI .i64) (tOne (tI .i64)))) (tOne (tG (tCons (tI .i64) (tOne (tI .i64)))))).enc x) (tI .i64).dec
noncomputable def vec.Cross.s : Fw.Summ := .mk' (tCons (tG (tCons (tI .i64) (tOne (tI .i64)))) (tOne (tG (tCons (tI .i64) (tOne (tI .i64)))))) (tI .i64) vec.Cross.f
theorem vec.Cross.ok : vec.Cross.s.Ok Try.prog 64 :=
  summ_ok (hint := lookH vec.Cross.hs) (fn := Try.f64) (fun x => 0) vec.Cross.cs_ok (by kernel_rfl) (by kernel_rfl) (by kernel_rfl) (by kernel_rfl) (tCons_ok (tG_ok (tCons_ok (tI_ok _) (tOne_ok (tI_ok _)))) (tOne_ok (tG_ok (tCons_ok (tI_ok _) (tOne_ok (tI_ok _)))))) (tI_ok _) (fun _ => rfl)
theorem vec.Cross.eq (p0_0 : Int) (p0_1 : Int) (p1_0 : Int) (p1_1 : Int) : vec.Cross.f ((p0_0, p0_1), (p1_0, p1_1)) =
  (fix.Mul.f (p0_0, p1_1)).bind fun r1 =>
  (fix.Mul.f (p0_1, p1_0)).bind fun r2 =>
  (fix.Sub.f (r1, r2)).bind fun r3 =>
  some r3 := by kernel_rfl
/-! ### bagatelle/shape.Right -/
noncomputable def shape.Right.cs : List (Nat × Fw.Summ) := [(63, shape.within.s), (65, vec.Sub.s), (64, vec.Cross.s)]
theorem shape.Right.cs_ok : SumsOk Try.prog shape.Right.cs := .cons shape.within.ok (.cons vec.Sub.ok (.cons vec.Cross.ok (.nil)))
def shape.Right.hs : List (Nat × LHint) := [(1, { mat := [], live := [1, 3, 48, 49, 50], ren := [] }), (3, { mat := [], live := [1, 3, 59, 60, 61], ren := [] }), (5, { mat := [], live := [1, 3, 6, 7, 8, 59, 60, 61, 71, 72, 73], ren := [] })]
noncomputable def shape.Right.G : Ctx := ⟨Try.prog, sumAt shape.Right.cs, lookH shape.Right.hs, true⟩
noncomputable def shape.Right.g (k0 : Nat) (x : (Int × Int × (Nat × (Nat → List AV)))) : Option Bool := evF shape.Right.G k0 Try.f30 ((tOne (tG (tCons (tI .i64) (tCons (tI .i64) (tOne (tLz 2 (Rii.enc (0, 0)))))))).enc x) tB.dec
noncomputable def shape.Right.f (x : (Int × Int × (Nat × (Nat → List AV)))) : Option Bool := shape.Right.g (1000000) x
noncomputable def shape.Right.s : Fw.Summ := .mk' (tOne (tG (tCons (tI .i64) (tCons (tI .i64) (tOne (tLz 2 (Rii.enc (0, 0)))))))) tB shape.Right.f
theorem shape.Right.ok : shape.Right.s.Ok Try.prog 30 :=
  summ_ok (hint := lookH shape.Right.hs) (fn := Try.f30) (fun x => 1000000) shape.Right.cs_ok (by kernel_rfl) (by kernel_rfl) (by kernel_rfl) (by kernel_rfl) (tOne_ok (tG_ok (tCons_ok (tI_ok _) (tCons_ok (tI_ok _) (tOne_ok (tLz_ok _ _)))))) tB_ok (fun _ => rfl)
noncomputable def shape.Right.l2 (k0 k1 k2 : Nat) (v1 : Int) (v2 : Int) (v3 : Nat) (v4 : Nat → List AV) (v5 : Int) (v6 : Int) (v7 : Int) (v8 : Int) (v9 : Int) (v10 : Nat) (v11 : Nat → List AV) (v12 : Int) (v13 : Int) (v14 : Int) : Option Bool :=
  evLoop (lookH shape.Right.hs 5) 2 (ev shape.Right.G k0 (codeAt [1, 0, 1, 1, 1, 1, 0, 1, 0, 0, 1, 1, 0, 0, 1, 1, 1, 0, 0] (bodyOf Try.f30)) 5) k2
  ⟨[.top, .ptr 0 0 0, .top, .val (.int .i64 v7), .top, .top, .val (.int .i64 v8), .ptr 1 0 0, .val (.int .i64 v9), .top, .top, .top, .top, .top, .top, .top, .top, .top, .top, .top, .top, .top, .top, .top, .top, .top, .top, .top, .top, .top, .top, .top, .top, .top, .top, .top, .top, .top, .top, .top, .top, .top, .top, .top, .top, .top, .top, .top, .top, .top, .top, .top, .top, .top, .top, .top, .top, .top, .top, .lst 2 v10 none v11, .val (.int .i64 v12), .val (.int .i64 v8), .top, .top, .top, .top, .top, .top, .top, .top, .top, .lst 2 v3 none v4, .val (.int .i64 v13), .val (.int .i64 v14), .top, .top, .top, .top, .top, .top, .top, .top, .top, .top, .top, .top, .top, .top, .top, .top, .top, .top, .top, .top, .top, .top, .top, .top, .top, .top, .top, .top], [.live ⟨false, 41, 3, 1, fun _ => [.val (.int .i64 v1), .val (.int .i64 v2), .lst 2 v3 none v4], none⟩, .live ⟨false, 26, 2, 1, fun _ => [.val (.int .i64 v5), .val (.int .i64 v6)], none⟩]⟩
  (kBlock shape.Right.G 5 (kBlock shape.Right.G 4 (kSeq shape.Right.G k0 (codeAt [1, 0, 1, 1, 1, 1, 0, 1, 0, 0, 1, 1, 1] (bodyOf Try.f30)) 3 (kLoop (lookH shape.Right.hs 3) 1 (ev shape.Right.G k0 (codeAt [1, 0, 1, 1, 1, 1, 0, 1, 0, 0] (bodyOf Try.f30)) 3) k1 (kBlock shape.Right.G 3 (kSeq shape.Right.G k0 (codeAt [1, 0, 1, 1, 1, 1, 1] (bodyOf Try.f30)) 0 (kFin shape.Right.G Try.f30 tB.dec)))))))
noncomputable def shape.Right.l1 (k0 k1 : Nat) (v1 : Int) (v2 : Int) (v3 : Nat) (v4 : Nat → List AV) (v5 : Int) (v6 : Nat) (v7 : Nat → List AV) (v8 : Int) (v9 : Int) : Option Bool :=
  evLoop (lookH shape.Right.hs 3) 1 (ev shape.Right.G k0 (codeAt [1, 0, 1, 1, 1, 1, 0, 1, 0, 0] (bodyOf Try.f30)) 3) k1
  ⟨[.top, .ptr 0 0 0, .top, .val (.int .i64 v5), .top, .top, .top, .top, .top, .top, .top, .top, .top, .top, .top, .top, .top, .top, .top, .top, .top, .top, .top, .top, .top, .top, .top, .top, .top, .top, .top, .top, .top, .top, .top, .top, .top, .top, .top, .top, .top, .top, .top, .top, .top, .top, .top, .top, .top, .top, .top, .top, .top, .top, .top, .top, .top, .top, .top, .lst 2 v6 none v7, .val (.int .i64 v8), .val (.int .i64 v9), .top, .top, .top, .top, .top, .top, .top, .top, .top, .top, .top, .top, .top, .top, .top, .top, .top, .top, .top, .top, .top, .top, .top, .top, .top, .top, .top, .top, .top, .top, .top, .top, .top, .top, .top, .top, .top, .top, .top, .top], [.live ⟨false, 41, 3, 1, fun _ => [.val (.int .i64 v1), .val (.int .i64 v2), .lst 2 v3 none v4], none⟩]⟩
  (kBlock shape.Right.G 3 (kSeq shape.Right.G k0 (codeAt [1, 0, 1, 1, 1, 1, 1] (bodyOf Try.f30)) 0 (kFin shape.Right.G Try.f30 tB.dec)))
noncomputable def shape.Right.l0 (k0 k1 : Nat) (v1 : Int) (v2 : Int) (v3 : Nat) (v4 : Nat → List AV) (v5 : Int) (v6 : Int) : Option Bool :=
  evLoop (lookH shape.Right.hs 1) 1 (ev shape.Right.G k0 (codeAt [1, 0, 1, 1, 0, 1, 0, 0] (bodyOf Try.f30)) 1) k1
  ⟨[.top, .ptr 0 0 0, .top, .val (.int .i64 v5), .top, .top, .top, .top, .top, .top, .top, .top, .top, .top, .top, .top, .top, .top, .top, .top, .top, .top, .top, .top, .top, .top, .top, .top, .top, .top, .top, .top, .top, .top, .top, .top, .top, .top, .top, .top, .top, .top, .top, .top, .top, .top, .top, .top, .lst 2 v3 none v4, .val (.int .i64 v5), .val (.int .i64 v6), .top, .top, .top, .top, .top, .top, .top, .top, .top, .top, .top, .top, .top, .top, .top, .top, .top, .top, .top, .top, .top, .top, .top, .top, .top, .top, .top, .top, .top, .top, .top, .top, .top, .top, .top, .top, .top, .top, .top, .top, .top, .top, .top, .top, .top, .top, .top, .top, .top, .top, .top], [.live ⟨false, 41, 3, 1, fun _ => [.val (.int .i64 v1), .val (.int .i64 v2), .lst 2 v3 none v4], none⟩]⟩
  (kBlock shape.Right.G 1 (kSeq shape.Right.G k0 (codeAt [1, 0, 1, 1, 1] (bodyOf Try.f30)) 0 (kFin shape.Right.G Try.f30 tB.dec)))
theorem shape.Right.l2_eq (k0 k1 k2 : Nat) (v1 : Int) (v2 : Int) (v3 : Nat) (v4 : Nat → (Int × Int)) (v5 : Int) (v6 : Int) (v7 : Int) (v8 : Int) (v9 : Int) (v10 : Nat) (v11 : Nat → (Int × Int)) (v12 : Int) (v13 : Int) (v14 : Int) : shape.Right.l2 k0 k1 (k2 + 1) v1 v2 v3 (fun i => Rii.enc (v4 i)) v5 v6 v7 v8 v9 v10 (fun i => Rii.enc (v11 i)) v12 v13 v14 =
  bif (decide (v14 < v13)) then
    bif ((decide (0 ≤ v14)) && (decide (v14 < ((v3 : Nat) : Int)))) then
    bif (v14 == v8) then
      shape.Right.l2 k0 k1 k2 v1 v2 v3 (fun i => Rii.enc (v4 i)) v5 v6 v7 v8 v9 v10 (fun i => Rii.enc (v11 i)) v12 v13 (IntKind.i64.wrap (v14 + 1))
    else
    bif (v14 == v9) then
      shape.Right.l2 k0 k1 k2 v1 v2 v3 (fun i => Rii.enc (v4 i)) v5 v6 v7 v8 v9 v10 (fun i => Rii.enc (v11 i)) v12 v13 (IntKind.i64.wrap (v14 + 1))
    else
    bif ((decide (0 ≤ v9)) && (decide (v9 < ((v3 : Nat) : Int)))) then
    (vec.Sub.f (((v4 (Int.toNat v9)).1, (v4 (Int.toNat v9)).2), (v5, v6))).bind fun r2 =>
    (vec.Sub.f (((v4 (Int.toNat v14)).1, (v4 (Int.toNat v14)).2), (v5, v6))).bind fun r3 =>
    (vec.Cross.f ((r2.1, r2.2), (r3.1, r3.2))).bind fun r4 =>
    bif (decide (r4 ≤ 0)) then
      some false
    else
    bif (v7 == 3) then
      shape.Right.l1 k0 k1 v1 v2 v3 (fun i => Rii.enc (v4 i)) v7 v10 (fun i => Rii.enc (v11 i)) v12 (IntKind.i64.wrap (v8 + 1))
    else
    shape.Right.l2 k0 k1 k2 v1 v2 v3 (fun i => Rii.enc (v4 i)) v5 v6 v7 v8 v9 v10 (fun i => Rii.enc (v11 i)) v12 v13 (IntKind.i64.wrap (v14 + 1))
    else none
    else none
  else
  shape.Right.l1 k0 k1 v1 v2 v3 (fun i => Rii.enc (v4 i)) v7 v10 (fun i => Rii.enc (v11 i)) v12 (IntKind.i64.wrap (v8 + 1)) := by kernel_rfl
theorem shape.Right.l1_eq (k0 k1 : Nat) (v1 : Int) (v2 : Int) (v3 : Nat) (v4 : Nat → (Int × Int)) (v5 : Int) (v6 : Nat) (v7 : Nat → (Int × Int)) (v8 : Int) (v9 : Int) : shape.Right.l1 k0 (k1 + 1) v1 v2 v3 (fun i => Rii.enc (v4 i)) v5 v6 (fun i => Rii.enc (v7 i)) v8 v9 =
  bif (decide (v9 < v8)) then
    bif ((decide (0 ≤ v9)) && (decide (v9 < ((v6 : Nat) : Int)))) then
    bif (decide (v5 ≠ 0)) then
    shape.Right.l2 k0 k1 k0 v1 v2 v3 (fun i => Rii.enc (v4 i)) (v7 (Int.toNat v9)).1 (v7 (Int.toNat v9)).2 v5 v9 (Int.tmod (IntKind.i64.wrap (v9 + 1)) v5) v6 (fun i => Rii.enc (v7 i)) v8 ((v3 : Nat) : Int) 0
    else none
    else none
  else
  some true := by kernel_rfl
theorem shape.Right.l0_eq (k0 k1 : Nat) (v1 : Int) (v2 : Int) (v3 : Nat) (v4 : Nat → (Int × Int)) (v5 : Int) (v6 : Int) : shape.Right.l0 k0 (k1 + 1) v1 v2 v3 (fun i => Rii.enc (v4 i)) v5 v6 =
  bif (decide (v6 < v5)) then
    bif ((decide (0 ≤ v6)) && (decide (v6 < ((v3 : Nat) : Int)))) then
    (shape.within.f ((v4 (Int.toNat v6)).1, (v4 (Int.toNat v6)).2)).bind fun r1 =>
    bif (!r1) then
      some false
    else
    shape.Right.l0 k0 k1 v1 v2 v3 (fun i => Rii.enc (v4 i)) v5 (IntKind.i64.wrap (v6 + 1))
    else none
  else
  shape.Right.l1 k0 k0 v1 v2 v3 (fun i => Rii.enc (v4 i)) v5 v3 (fun i => Rii.enc (v4 i)) ((v3 : Nat) : Int) 0 := by kernel_rfl
theorem shape.Right.eq (k0 : Nat) (p0_0 : Int) (p0_1 : Int) (p0_2_n : Nat) (p0_2_g : Nat → (Int × Int)) : shape.Right.g k0 (p0_0, p0_1, (p0_2_n, (fun i => Rii.enc (p0_2_g i)))) =
  bif (p0_0 == 1) then
    bif (((p0_2_n : Nat) : Int) == 0) then
      bif (decide (p0_1 ≥ 16777216)) then
        some (decide (p0_1 ≤ 274877906944))
      else
      some false
    else
    some false
  else
  bif (p0_0 != 2) then
    some false
  else
  bif (p0_1 != 0) then
    some false
  else
  bif (decide (((p0_2_n : Nat) : Int) < 3)) then
    some false
  else
  bif (decide (((p0_2_n : Nat) : Int) > 8)) then
    some false
  else
  shape.Right.l0 k0 k0 p0_0 p0_1 p0_2_n (fun i => Rii.enc (p0_2_g i)) ((p0_2_n : Nat) : Int) 0 := by kernel_rfl
/-! ### bagatelle/world.within -/
noncomputable def world.within.cs : List (Nat × Fw.Summ) := [(53, fix.Abs.s)]
theorem world.within.cs_ok : SumsOk Try.prog world.within.cs := .cons fix.Abs.ok (.nil)
def world.within.hs : List (Nat × LHint) := []
noncomputable def world.within.G : Ctx := ⟨Try.prog, sumAt world.within.cs, lookH world.within.hs, true⟩
noncomputable def world.within.f (x : ((Int × Int) × Int)) : Option Bool := evF world.within.G 0 Try.f33 ((tCons (tG (tCons (tI .i64) (tOne (tI .i64)))) (tOne (tI .i64))).enc x) tB.dec
noncomputable def world.within.s : Fw.Summ := .mk' (tCons (tG (tCons (tI .i64) (tOne (tI .i64)))) (tOne (tI .i64))) tB world.within.f
theorem world.within.ok : world.within.s.Ok Try.prog 33 :=
  summ_ok (hint := lookH world.within.hs) (fn := Try.f33) (fun x => 0) world.within.cs_ok (by kernel_rfl) (by kernel_rfl) (by kernel_rfl) (by kernel_rfl) (tCons_ok (tG_ok (tCons_ok (tI_ok _) (tOne_ok (tI_ok _)))) (tOne_ok (tI_ok _))) tB_ok (fun _ => rfl)
theorem world.within.eq (p0_0 : Int) (p0_1 : Int) (p1 : Int) : world.within.f ((p0_0, p0_1), p1) =
  (fix.Abs.f p0_0).bind fun r1 =>
  bif (decide (r1 ≤ p1)) then
    (fix.Abs.f p0_1).bind fun r2 =>
    some (decide (r2 ≤ p1))
  else
  some false := by kernel_rfl
/-! ### bagatelle/world.RightBody -/
noncomputable def world.RightBody.cs : List (Nat × Fw.Summ) := [(30, shape.Right.s), (33, world.within.s), (53, fix.Abs.s)]
theorem world.RightBody.cs_ok : SumsOk Try.prog world.RightBody.cs := .cons shape.Right.ok (.cons world.within.ok (.cons fix.Abs.ok (.nil)))
def world.RightBody.hs : List (Nat × LHint) := []
noncomputable def world.RightBody.G : Ctx := ⟨Try.prog, sumAt world.RightBody.cs, lookH world.RightBody.hs, true⟩
noncomputable def world.RightBody.f (x : (Int × Int × Int × Int × Int × Int × Int × Int × Int × Int × (Nat × (Nat → List AV)))) : Option Bool := evF world.RightBody.G 0 Try.f22 ((tOne (tG (tCons (tI .i64) (tCons (tI .i64) (tCons (tI .i64) (tCons (tI .i64) (tCons (tI .i64) (tCons (tI .i64) (tCons (tI .i64) (tCons (tI .i64) (tCons (tI .i64) (tCons (tI .i64) (tOne (tLz 2 (Rii.enc (0, 0)))))))))))))))).enc x) tB.dec
noncomputable def world.RightBody.s : Fw.Summ := .mk' (tOne (tG (tCons (tI .i64) (tCons (tI .i64) (tCons (tI .i64) (tCons (tI .i64) (tCons (tI .i64) (tCons (tI .i64) (tCons (tI .i64) (tCons (tI .i64) (tCons (tI .i64) (tCons (tI .i64) (tOne (tLz 2 (Rii.enc (0, 0)))))))))))))))) tB world.RightBody.f
theorem world.RightBody.ok : world.RightBody.s.Ok Try.prog 22 :=
  summ_ok (hint := lookH world.RightBody.hs) (fn := Try.f22) (fun x => 0) world.RightBody.cs_ok (by kernel_rfl) (by kernel_rfl) (by kernel_rfl) (by kernel_rfl) (tOne_ok (tG_ok (tCons_ok (tI_ok _) (tCons_ok (tI_ok _) (tCons_ok (tI_ok _) (tCons_ok (tI_ok _) (tCons_ok (tI_ok _) (tCons_ok (tI_ok _) (tCons_ok (tI_ok _) (tCons_ok (tI_ok _) (tCons_ok (tI_ok _) (tCons_ok (tI_ok _) (tOne_ok (tLz_ok _ _)))))))))))))) tB_ok (fun _ => rfl)
theorem world.RightBody.eq (p0_0 : Int) (p0_1 : Int) (p0_2 : Int) (p0_3 : Int) (p0_4 : Int) (p0_5 : Int) (p0_6 : Int) (p0_7 : Int) (p0_8 : Int) (p0_9 : Int) (p0_10_n : Nat) (p0_10_g : Nat → (Int × Int)) : world.RightBody.f (p0_0, p0_1, p0_2, p0_3, p0_4, p0_5, p0_6, p0_7, p0_8, p0_9, (p0_10_n, (fun i => Rii.enc (p0_10_g i)))) =
  (shape.Right.f (p0_8, p0_9, (p0_10_n, (fun i => Rii.enc (p0_10_g i))))).bind fun r1 =>
  bif (!r1) then
    some false
  else
  (world.within.f ((p0_1, p0_2), 4503599627370496)).bind fun r2 =>
  bif (!r2) then
    some false
  else
  (world.within.f ((p0_3, p0_4), 17592186044416)).bind fun r3 =>
  bif (!r3) then
    some false
  else
  (fix.Abs.f p0_6).bind fun r4 =>
  bif (decide (r4 > 1099511627776)) then
    some false
  else
  bif (decide (p0_5 < 0)) then
    some false
  else
  bif (decide (p0_5 ≥ 4294967296)) then
    some false
  else
  bif (decide (p0_7 < 0)) then
    some false
  else
  bif (decide (p0_7 > 4398046511104)) then
    some false
  else
  bif (decide (p0_7 > 0)) then
    some true
  else
  bif ((p0_3 == 0) && ((p0_4 == 0) && true)) then
    some (p0_6 == 0)
  else
  some false := by kernel_rfl
/-! ### bagatelle/shape.Copy -/
noncomputable def shape.Copy.cs : List (Nat × Fw.Summ) := []
theorem shape.Copy.cs_ok : SumsOk Try.prog shape.Copy.cs := .nil
def shape.Copy.hs : List (Nat × LHint) := []
noncomputable def shape.Copy.G : Ctx := ⟨Try.prog, sumAt shape.Copy.cs, lookH shape.Copy.hs, true⟩
noncomputable def shape.Copy.f (x : (Int × Int × (Nat × (Nat → List AV)))) : Option (Int × Int × (Nat × (Nat → (Int × Int)))) := evF shape.Copy.G 0 Try.f50 ((tOne (tG (tCons (tI .i64) (tCons (tI .i64) (tOne (tLz 2 (Rii.enc (0, 0)))))))).enc x) (tG (tCons (tI .i64) (tCons (tI .i64) (tOne (tTL Rii 2 (0, 0)))))).dec
noncomputable def shape.Copy.s : Fw.Summ := .mk' (tOne (tG (tCons (tI .i64) (tCons (tI .i64) (tOne (tLz 2 (Rii.enc (0, 0)))))))) (tG (tCons (tI .i64) (tCons (tI .i64) (tOne (tTL Rii 2 (0, 0)))))) shape.Copy.f
theorem shape.Copy.ok : shape.Copy.s.Ok Try.prog 50 :=
  summ_ok (hint := lookH shape.Copy.hs) (fn := Try.f50) (fun x => 0) shape.Copy.cs_ok (by kernel_rfl) (by kernel_rfl) (by kernel_rfl) (by kernel_rfl) (tOne_ok (tG_ok (tCons_ok (tI_ok _) (tCons_ok (tI_ok _) (tOne_ok (tLz_ok _ _)))))) (tG_ok (tCons_ok (tI_ok _) (tCons_ok (tI_ok _) (tOne_ok (tTL_ok Rii_ok _ _))))) (fun _ => rfl)
theorem shape.Copy.eq (p0_0 : Int) (p0_1 : Int) (p0_2_n : Nat) (p0_2_g : Nat → (Int × Int)) : shape.Copy.f (p0_0, p0_1, (p0_2_n, (fun i => Rii.enc (p0_2_g i)))) =
  bif (decide (p0_2_n * 16 ≤ 140737488355328)) then
  (tG (tCons (tI .i64) (tCons (tI .i64) (tOne (tTL Rii 2 (0, 0)))))).dec (.agg [.val (.int .i64 p0_0), .val (.int .i64 p0_1), .lst 2 p0_2_n none (fun i => cloL (if i < 0 then (fun _ => Rii.enc (0, 0)) i else (fun i => Rii.enc (p0_2_g i)) (i - 0)))])
  else none := by kernel_rfl
/-! ### slices.Clip[[]bagatelle/api.Body,bagatelle/api.Body] -/
noncomputable def slices.Clip_lBody_Body.cs : List (Nat × Fw.Summ) := []
theorem slices.Clip_lBody_Body.cs_ok : SumsOk Try.prog slices.Clip_lBody_Body.cs := .nil
def slices.Clip_lBody_Body.hs : List (Nat × LHint) := []
noncomputable def slices.Clip_lBody_Body.G : Ctx := ⟨Try.prog, sumAt slices.Clip_lBody_Body.cs, lookH slices.Clip_lBody_Body.hs, true⟩
noncomputable def slices.Clip_lBody_Body.f (x : (Nat × (Nat → List AV))) : Option (Nat × (Nat → (Int × Int × Int × Int × Int × Int × Int × Int × Int × Int × (Nat × (Nat → List AV))))) := evF slices.Clip_lBody_Body.G 0 Try.f51 ((tOne (tLz 11 (RiiiiiiiiiiL2.enc (0, 0, 0, 0, 0, 0, 0, 0, 0, 0, (0, fun _ => []))))).enc x) (tTC RiiiiiiiiiiL2 11 (0, 0, 0, 0, 0, 0, 0, 0, 0, 0, (0, fun _ => []))).dec
noncomputable def slices.Clip_lBody_Body.s : Fw.Summ := .mk' (tOne (tLz 11 (RiiiiiiiiiiL2.enc (0, 0, 0, 0, 0, 0, 0, 0, 0, 0, (0, fun _ => []))))) (tTC RiiiiiiiiiiL2 11 (0, 0, 0, 0, 0, 0, 0, 0, 0, 0, (0, fun _ => []))) slices.Clip_lBody_Body.f
theorem slices.Clip_lBody_Body.ok : slices.Clip_lBody_Body.s.Ok Try.prog 51 :=
  summ_ok (hint := lookH slices.Clip_lBody_Body.hs) (fn := Try.f51) (fun x => 0) slices.Clip_lBody_Body.cs_ok (by kernel_rfl) (by kernel_rfl) (by kernel_rfl) (by kernel_rfl) (tOne_ok (tLz_ok _ _)) (tTC_ok RiiiiiiiiiiL2_ok _ _) (fun _ => rfl)
theorem slices.Clip_lBody_Body.eq (p0_n : Nat) (p0_g : Nat → (Int × Int × Int × Int × Int × Int × Int × Int × Int × Int × (Nat × (Nat → List AV)))) : slices.Clip_lBody_Body.f (p0_n, (fun i => RiiiiiiiiiiL2.enc (p0_g i))) =
  bif (((decide (0 ≤ ((p0_n : Nat) : Int))) && (decide (((p0_n : Nat) : Int) ≤ ((p0_n : Nat) : Int)))) && (decide (((p0_n : Nat) : Int) ≤ ((p0_n : Nat) : Int)))) then
  (tTC RiiiiiiiiiiL2 11 (0, 0, 0, 0, 0, 0, 0, 0, 0, 0, (0, fun _ => []))).dec (.lst 11 (Int.toNat ((p0_n : Nat) : Int)) (some (Int.toNat ((p0_n : Nat) : Int))) (fun i => RiiiiiiiiiiL2.enc (p0_g i)))
  else none := by kernel_rfl
/-! ### bagatelle/world.AddBody -/
noncomputable def world.AddBody.cs : List (Nat × Fw.Summ) := [(22, world.RightBody.s), (50, shape.Copy.s), (51, slices.Clip_lBody_Body.s)]
theorem world.AddBody.cs_ok : SumsOk Try.prog world.AddBody.cs := .cons world.RightBody.ok (.cons shape.Copy.ok (.cons slices.Clip_lBody_Body.ok (.nil)))
noncomputable def world.AddBody.G : Ctx := ⟨Try.prog, sumAt world.AddBody.cs, fun _ => { unroll := true }, true⟩
noncomputable def world.AddBody.f (x : (Int × Int × Int × Int × Int × (Nat × (Nat → List AV)) × (Nat × (Nat → List AV)) × (Nat × (Nat → List AV))) × (Int × Int × Int × Int × Int × Int × Int × Int × Int × Int × (Nat × (Nat → List AV)))) : Option ((Int × Int) × (Int × Int × Int × Int × Int × (Nat × (Nat → (Int × Int × Int × Int × Int × Int × Int × Int × Int × Int × (Nat × (Nat → List AV))))) × (Nat × (Nat → (Int × Int × Int × Int × Int × Int × Int × Int))) × (Nat × (Nat → (Int × Int × Int × Int × Int))))) := evG world.AddBody.G Try.f20 31 ((tCons (tI .i64) (tCons (tI .i64) (tCons (tI .i64) (tCons (tI .i64) (tCons (tI .i64) (tCons (tLz 11 (RiiiiiiiiiiL2.enc (0, 0, 0, 0, 0, 0, 0, 0, 0, 0, (0, fun _ => [])))) (tCons (tLz 8 (Riiiiiiii.enc (0, 0, 0, 0, 0, 0, 0, 0))) (tOne (tLz 5 (Riiiii.enc (0, 0, 0, 0, 0))))))))))).enc x.1) ((tOne (tG (tCons (tI .i64) (tCons (tI .i64) (tCons (tI .i64) (tCons (tI .i64) (tCons (tI .i64) (tCons (tI .i64) (tCons (tI .i64) (tCons (tI .i64) (tCons (tI .i64) (tCons (tI .i64) (tOne (tLz 2 (Rii.enc (0, 0)))))))))))))))).enc x.2) (outD (tT (tCons (tI .i64) (tOne (tI .i64)))) (tCons (tI .i64) (tCons (tI .i64) (tCons (tI .i64) (tCons (tI .i64) (tCons (tI .i64) (tCons (tTL RiiiiiiiiiiL2 11 (0, 0, 0, 0, 0, 0, 0, 0, 0, 0, (0, fun _ => []))) (tCons (tTL Riiiiiiii 8 (0, 0, 0, 0, 0, 0, 0, 0)) (tOne (tTL Riiiii 5 (0, 0, 0, 0, 0)))))))))))
noncomputable def world.AddBody.s : Fw.Summ := .mkO2 31 (tCons (tI .i64) (tCons (tI .i64) (tCons (tI .i64) (tCons (tI .i64) (tCons (tI .i64) (tCons (tLz 11 (RiiiiiiiiiiL2.enc (0, 0, 0, 0, 0, 0, 0, 0, 0, 0, (0, fun _ => [])))) (tCons (tLz 8 (Riiiiiiii.enc (0, 0, 0, 0, 0, 0, 0, 0))) (tOne (tLz 5 (Riiiii.enc (0, 0, 0, 0, 0))))))))))) (tCons (tI .i64) (tCons (tI .i64) (tCons (tI .i64) (tCons (tI .i64) (tCons (tI .i64) (tCons (tTL RiiiiiiiiiiL2 11 (0, 0, 0, 0, 0, 0, 0, 0, 0, 0, (0, fun _ => []))) (tCons (tTL Riiiiiiii 8 (0, 0, 0, 0, 0, 0, 0, 0)) (tOne (tTL Riiiii 5 (0, 0, 0, 0, 0)))))))))) (tOne (tG (tCons (tI .i64) (tCons (tI .i64) (tCons (tI .i64) (tCons (tI .i64) (tCons (tI .i64) (tCons (tI .i64) (tCons (tI .i64) (tCons (tI .i64) (tCons (tI .i64) (tCons (tI .i64) (tOne (tLz 2 (Rii.enc (0, 0)))))))))))))))) (tT (tCons (tI .i64) (tOne (tI .i64)))) world.AddBody.f
theorem world.AddBody.ok : world.AddBody.s.Ok Try.prog 20 :=
  osumm2_ok (fn := Try.f20) world.AddBody.cs_ok (by kernel_rfl) (by kernel_rfl) (by kernel_rfl) (by kernel_rfl) (tCons_ok (tI_ok _) (tCons_ok (tI_ok _) (tCons_ok (tI_ok _) (tCons_ok (tI_ok _) (tCons_ok (tI_ok _) (tCons_ok (tLz_ok _ _) (tCons_ok (tLz_ok _ _) (tOne_ok (tLz_ok _ _))))))))) (tCons_ok (tI_ok _) (tCons_ok (tI_ok _) (tCons_ok (tI_ok _) (tCons_ok (tI_ok _) (tCons_ok (tI_ok _) (tCons_ok (tTL_ok RiiiiiiiiiiL2_ok _ _) (tCons_ok (tTL_ok Riiiiiiii_ok _ _) (tOne_ok (tTL_ok Riiiii_ok _ _))))))))) (tOne_ok (tG_ok (tCons_ok (tI_ok _) (tCons_ok (tI_ok _) (tCons_ok (tI_ok _) (tCons_ok (tI_ok _) (tCons_ok (tI_ok _) (tCons_ok (tI_ok _) (tCons_ok (tI_ok _) (tCons_ok (tI_ok _) (tCons_ok (tI_ok _) (tCons_ok (tI_ok _) (tOne_ok (tLz_ok _ _)))))))))))))) (tT_ok (tCons_ok (tI_ok _) (tOne_ok (tI_ok _)))) (fun _ => rfl)
theorem world.AddBody.eq (o_0 : Int) (o_1 : Int) (o_2 : Int) (o_3 : Int) (o_4 : Int) (o_5_n : Nat) (o_5_g : Nat → (Int × Int × Int × Int × Int × Int × Int × Int × Int × Int × (Nat × (Nat → List AV)))) (o_6_n : Nat) (o_6_g : Nat → (Int × Int × Int × Int × Int × Int × Int × Int)) (o_7_n : Nat) (o_7_g : Nat → (Int × Int × Int × Int × Int)) (p0_0 : Int) (p0_1 : Int) (p0_2 : Int) (p0_3 : Int) (p0_4 : Int) (p0_5 : Int) (p0_6 : Int) (p0_7 : Int) (p0_8 : Int) (p0_9 : Int) (p0_10_n : Nat) (p0_10_g : Nat → (Int × Int)) : world.AddBody.f ((o_0, o_1, o_2, o_3, o_4, (o_5_n, (fun i => RiiiiiiiiiiL2.enc (o_5_g i))), (o_6_n, (fun i => Riiiiiiii.enc (o_6_g i))), (o_7_n, (fun i => Riiiii.enc (o_7_g i)))), (p0_0, p0_1, p0_2, p0_3, p0_4, p0_5, p0_6, p0_7, p0_8, p0_9, (p0_10_n, (fun i => Rii.enc (p0_10_g i))))) =
  (world.RightBody.f (p0_0, p0_1, p0_2, p0_3, p0_4, p0_5, p0_6, p0_7, p0_8, p0_9, (p0_10_n, (fun i => Rii.enc (p0_10_g i))))).bind fun r1 =>
  bif (!r1) then
    outD (tT (tCons (tI .i64) (tOne (tI .i64)))) (tCons (tI .i64) (tCons (tI .i64) (tCons (tI .i64) (tCons (tI .i64) (tCons (tI .i64) (tCons (tTL RiiiiiiiiiiL2 11 (0, 0, 0, 0, 0, 0, 0, 0, 0, 0, (0, fun _ => []))) (tCons (tTL Riiiiiiii 8 (0, 0, 0, 0, 0, 0, 0, 0)) (tOne (tTL Riiiii 5 (0, 0, 0, 0, 0)))))))))) (.tup [.val (.int .i64 0), .val (.int .i64 2)]) [.val (.int .i64 o_0), .val (.int .i64 o_1), .val (.int .i64 o_2), .val (.int .i64 o_3), .val (.int .i64 o_4), .lst 11 o_5_n none (fun i => RiiiiiiiiiiL2.enc (o_5_g i)), .lst 8 o_6_n none (fun i => Riiiiiiii.enc (o_6_g i)), .lst 5 o_7_n none (fun i => Riiiii.enc (o_7_g i))]
  else
  bif (decide (((o_5_n : Nat) : Int) ≥ 1024)) then
    outD (tT (tCons (tI .i64) (tOne (tI .i64)))) (tCons (tI .i64) (tCons (tI .i64) (tCons (tI .i64) (tCons (tI .i64) (tCons (tI .i64) (tCons (tTL RiiiiiiiiiiL2 11 (0, 0, 0, 0, 0, 0, 0, 0, 0, 0, (0, fun _ => []))) (tCons (tTL Riiiiiiii 8 (0, 0, 0, 0, 0, 0, 0, 0)) (tOne (tTL Riiiii 5 (0, 0, 0, 0, 0)))))))))) (.tup [.val (.int .i64 0), .val (.int .i64 3)]) [.val (.int .i64 o_0), .val (.int .i64 o_1), .val (.int .i64 o_2), .val (.int .i64 o_3), .val (.int .i64 o_4), .lst 11 o_5_n none (fun i => RiiiiiiiiiiL2.enc (o_5_g i)), .lst 8 o_6_n none (fun i => Riiiiiiii.enc (o_6_g i)), .lst 5 o_7_n none (fun i => Riiiii.enc (o_7_g i))]
  else
  bif (decide (o_1 ≥ 4611686018427387904)) then
    outD (tT (tCons (tI .i64) (tOne (tI .i64)))) (tCons (tI .i64) (tCons (tI .i64) (tCons (tI .i64) (tCons (tI .i64) (tCons (tI .i64) (tCons (tTL RiiiiiiiiiiL2 11 (0, 0, 0, 0, 0, 0, 0, 0, 0, 0, (0, fun _ => []))) (tCons (tTL Riiiiiiii 8 (0, 0, 0, 0, 0, 0, 0, 0)) (tOne (tTL Riiiii 5 (0, 0, 0, 0, 0)))))))))) (.tup [.val (.int .i64 0), .val (.int .i64 3)]) [.val (.int .i64 o_0), .val (.int .i64 o_1), .val (.int .i64 o_2), .val (.int .i64 o_3), .val (.int .i64 o_4), .lst 11 o_5_n none (fun i => RiiiiiiiiiiL2.enc (o_5_g i)), .lst 8 o_6_n none (fun i => Riiiiiiii.enc (o_6_g i)), .lst 5 o_7_n none (fun i => Riiiii.enc (o_7_g i))]
  else
  (shape.Copy.f (p0_8, p0_9, (p0_10_n, (fun i => Rii.enc (p0_10_g i))))).bind fun r2 =>
  (slices.Clip_lBody_Body.f (o_5_n, (fun i => RiiiiiiiiiiL2.enc (o_5_g i)))).bind fun r3 =>
  bif ((decide (r3.1 ≤ r3.1)) && (decide ((r3.1 + 1) * 104 ≤ 140737488355328))) then
  outD (tT (tCons (tI .i64) (tOne (tI .i64)))) (tCons (tI .i64) (tCons (tI .i64) (tCons (tI .i64) (tCons (tI .i64) (tCons (tI .i64) (tCons (tTL RiiiiiiiiiiL2 11 (0, 0, 0, 0, 0, 0, 0, 0, 0, 0, (0, fun _ => []))) (tCons (tTL Riiiiiiii 8 (0, 0, 0, 0, 0, 0, 0, 0)) (tOne (tTL Riiiii 5 (0, 0, 0, 0, 0)))))))))) (.tup [.val (.int .i64 o_1), .val (.int .i64 0)]) [.val (.int .i64 o_0), .val (.int .i64 (IntKind.i64.wrap (o_1 + 1))), .val (.int .i64 o_2), .val (.int .i64 o_3), .val (.int .i64 o_4), .lst 11 (r3.1 + 1) none (fun i => cloL (if i = r3.1 then RiiiiiiiiiiL2.enc (o_1, p0_1, p0_2, p0_3, p0_4, p0_5, p0_6, p0_7, r2.1, r2.2.1, (r2.2.2.1, (fun i => Rii.enc (r2.2.2.2 i)))) else RiiiiiiiiiiL2.enc (r3.2 i))), .lst 8 o_6_n none (fun i => Riiiiiiii.enc (o_6_g i)), .lst 5 o_7_n none (fun i => Riiiii.enc (o_7_g i))]
  else none := by kernel_rfl
/-! ### bagatelle/world.Right$1 -/
noncomputable def world.Right_1.cs : List (Nat × Fw.Summ) := []
theorem world.Right_1.cs_ok : SumsOk Try.prog world.Right_1.cs := .nil
def world.Right_1.hs : List (Nat × LHint) := []
noncomputable def world.Right_1.G : Ctx := ⟨Try.prog, sumAt world.Right_1.cs, lookH world.Right_1.hs, true⟩
noncomputable def world.Right_1.f (x : (Int × Int × Int × Int × Int × Int × Int × Int × Int × Int × (Nat × (Nat → List AV)))) : Option Int := evF world.Right_1.G 0 Try.f35 ((tOne (tG (tCons (tI .i64) (tCons (tI .i64) (tCons (tI .i64) (tCons (tI .i64) (tCons (tI .i64) (tCons (tI .i64) (tCons (tI .i64) (tCons (tI .i64) (tCons (tI .i64) (tCons (tI .i64) (tOne (tLz 2 (Rii.enc (0, 0)))))))))))))))).enc x) (tI .i64).dec
noncomputable def world.Right_1.s : Fw.Summ := .mk' (tOne (tG (tCons (tI .i64) (tCons (tI .i64) (tCons (tI .i64) (tCons (tI .i64) (tCons (tI .i64) (tCons (tI .i64) (tCons (tI .i64) (tCons (tI .i64) (tCons (tI .i64) (tCons (tI .i64) (tOne (tLz 2 (Rii.enc (0, 0)))))))))))))))) (tI .i64) world.Right_1.f
theorem world.Right_1.ok : world.Right_1.s.Ok Try.prog 35 :=
  summ_ok (hint := lookH world.Right_1.hs) (fn := Try.f35) (fun x => 0) world.Right_1.cs_ok (by kernel_rfl) (by kernel_rfl) (by kernel_rfl) (by kernel_rfl) (tOne_ok (tG_ok (tCons_ok (tI_ok _) (tCons_ok (tI_ok _) (tCons_ok (tI_ok _) (tCons_ok (tI_ok _) (tCons_ok (tI_ok _) (tCons_ok (tI_ok _) (tCons_ok (tI_ok _) (tCons_ok (tI_ok _) (tCons_ok (tI_ok _) (tCons_ok (tI_ok _) (tOne_ok (tLz_ok _ _)))))))))))))) (tI_ok _) (fun _ => rfl)
theorem world.Right_1.eq (p0_0 : Int) (p0_1 : Int) (p0_2 : Int) (p0_3 : Int) (p0_4 : Int) (p0_5 : Int) (p0_6 : Int) (p0_7 : Int) (p0_8 : Int) (p0_9 : Int) (p0_10_n : Nat) (p0_10_g : Nat → (Int × Int)) : world.Right_1.f (p0_0, p0_1, p0_2, p0_3, p0_4, p0_5, p0_6, p0_7, p0_8, p0_9, (p0_10_n, (fun i => Rii.enc (p0_10_g i)))) =
  some p0_0 := by kernel_rfl
/-! ### bagatelle/world.Right$2 -/
noncomputable def world.Right_2.cs : List (Nat × Fw.Summ) := []
theorem world.Right_2.cs_ok : SumsOk Try.prog world.Right_2.cs := .nil
def world.Right_2.hs : List (Nat × LHint) := []
noncomputable def world.Right_2.G : Ctx := ⟨Try.prog, sumAt world.Right_2.cs, lookH world.Right_2.hs, true⟩
noncomputable def world.Right_2.f (x : (Int × Int × Int × Int × Int × Int × Int × Int)) : Option Int := evF world.Right_2.G 0 Try.f37 ((tOne (tG (tCons (tI .i64) (tCons (tI .i64) (tCons (tI .i64) (tCons (tI .i64) (tCons (tI .i64) (tCons (tI .i64) (tCons (tI .i64) (tOne (tI .i64))))))))))).enc x) (tI .i64).dec
noncomputable def world.Right_2.s : Fw.Summ := .mk' (tOne (tG (tCons (tI .i64) (tCons (tI .i64) (tCons (tI .i64) (tCons (tI .i64) (tCons (tI .i64) (tCons (tI .i64) (tCons (tI .i64) (tOne (tI .i64))))))))))) (tI .i64) world.Right_2.f
theorem world.Right_2.ok : world.Right_2.s.Ok Try.prog 37 :=
  summ_ok (hint := lookH world.Right_2.hs) (fn := Try.f37) (fun x => 0) world.Right_2.cs_ok (by kernel_rfl) (by kernel_rfl) (by kernel_rfl) (by kernel_rfl) (tOne_ok (tG_ok (tCons_ok (tI_ok _) (tCons_ok (tI_ok _) (tCons_ok (tI_ok _) (tCons_ok (tI_ok _) (tCons_ok (tI_ok _) (tCons_ok (tI_ok _) (tCons_ok (tI_ok _) (tOne_ok (tI_ok _))))))))))) (tI_ok _) (fun _ => rfl)
theorem world.Right_2.eq (p0_0 : Int) (p0_1 : Int) (p0_2 : Int) (p0_3 : Int) (p0_4 : Int) (p0_5 : Int) (p0_6 : Int) (p0_7 : Int) : world.Right_2.f (p0_0, p0_1, p0_2, p0_3, p0_4, p0_5, p0_6, p0_7) =
  some p0_0 := by kernel_rfl
/-! ### cmp.isNaN[int] -/
noncomputable def cmp.isNaN_int.cs : List (Nat × Fw.Summ) := []
theorem cmp.isNaN_int.cs_ok : SumsOk Try.prog cmp.isNaN_int.cs := .nil
def cmp.isNaN_int.hs : List (Nat × LHint) := []
noncomputable def cmp.isNaN_int.G : Ctx := ⟨Try.prog, sumAt cmp.isNaN_int.cs, lookH cmp.isNaN_int.hs, true⟩
noncomputable def cmp.isNaN_int.f (x : Int) : Option Bool := evF cmp.isNaN_int.G 0 Try.f83 ((tOne (tI .i64)).enc x) tB.dec
noncomputable def cmp.isNaN_int.s : Fw.Summ := .mk' (tOne (tI .i64)) tB cmp.isNaN_int.f
theorem cmp.isNaN_int.ok : cmp.isNaN_int.s.Ok Try.prog 83 :=
  summ_ok (hint := lookH cmp.isNaN_int.hs) (fn := Try.f83) (fun x => 0) cmp.isNaN_int.cs_ok (by kernel_rfl) (by kernel_rfl) (by kernel_rfl) (by kernel_rfl) (tOne_ok (tI_ok _)) tB_ok (fun _ => rfl)
theorem cmp.isNaN_int.eq (p0 : Int) : cmp.isNaN_int.f p0 =
  some (p0 != p0) := by kernel_rfl
/-! ### cmp.Compare[int] -/
noncomputable def cmp.Compare_int.cs : List (Nat × Fw.Summ) := [(83, cmp.isNaN_int.s)]
theorem cmp.Compare_int.cs_ok : SumsOk Try.prog cmp.Compare_int.cs := .cons cmp.isNaN_int.ok (.nil)
def cmp.Compare_int.hs : List (Nat × LHint) := []
noncomputable def cmp.Compare_int.G : Ctx := ⟨Try.prog, sumAt cmp.Compare_int.cs, lookH cmp.Compare_int.hs, true⟩
noncomputable def cmp.Compare_int.f (x : (Int × Int)) : Option Int := evF cmp.Compare_int.G 0 Try.f69 ((tCons (tI .i64) (tOne (tI .i64))).enc x) (tI .i64).dec
noncomputable def cmp.Compare_int.s : Fw.Summ := .mk' (tCons (tI .i64) (tOne (tI .i64))) (tI .i64) cmp.Compare_int.f
theorem cmp.Compare_int.ok : cmp.Compare_int.s.Ok Try.prog 69 :=
  summ_ok (hint := lookH cmp.Compare_int.hs) (fn := Try.f69) (fun x => 0) cmp.Compare_int.cs_ok (by kernel_rfl) (by kernel_rfl) (by kernel_rfl) (by kernel_rfl) (tCons_ok (tI_ok _) (tOne_ok (tI_ok _))) (tI_ok _) (fun _ => rfl)
theorem cmp.Compare_int.eq (p0 : Int) (p1 : Int) : cmp.Compare_int.f (p0, p1) =
  (cmp.isNaN_int.f p0).bind fun r1 =>
  (cmp.isNaN_int.f p1).bind fun r2 =>
  bif r1 then
    bif r2 then
      some 0
    else
    some (-1)
  else
  bif r2 then
    some 1
  else
  bif (decide (p0 < p1)) then
    some (-1)
  else
  bif (decide (p0 > p1)) then
    some 1
  else
  some 0 := by kernel_rfl
/-! ### bagatelle/world.Body$1 -/
noncomputable def world.Body_1.cs : List (Nat × Fw.Summ) := []
theorem world.Body_1.cs_ok : SumsOk Try.prog world.Body_1.cs := .nil
def world.Body_1.hs : List (Nat × LHint) := []
noncomputable def world.Body_1.G : Ctx := ⟨Try.prog, sumAt world.Body_1.cs, lookH world.Body_1.hs, true⟩
noncomputable def world.Body_1.f (x : (Int × Int × Int × Int × Int × Int × Int × Int × Int × Int × (Nat × (Nat → List AV)))) : Option Int := evF world.Body_1.G 0 Try.f41 ((tOne (tG (tCons (tI .i64) (tCons (tI .i64) (tCons (tI .i64) (tCons (tI .i64) (tCons (tI .i64) (tCons (tI .i64) (tCons (tI .i64) (tCons (tI .i64) (tCons (tI .i64) (tCons (tI .i64) (tOne (tLz 2 (Rii.enc (0, 0)))))))))))))))).enc x) (tI .i64).dec
noncomputable def world.Body_1.s : Fw.Summ := .mk' (tOne (tG (tCons (tI .i64) (tCons (tI .i64) (tCons (tI .i64) (tCons (tI .i64) (tCons (tI .i64) (tCons (tI .i64) (tCons (tI .i64) (tCons (tI .i64) (tCons (tI .i64) (tCons (tI .i64) (tOne (tLz 2 (Rii.enc (0, 0)))))))))))))))) (tI .i64) world.Body_1.f
theorem world.Body_1.ok : world.Body_1.s.Ok Try.prog 41 :=
  summ_ok (hint := lookH world.Body_1.hs) (fn := Try.f41) (fun x => 0) world.Body_1.cs_ok (by kernel_rfl) (by kernel_rfl) (by kernel_rfl) (by kernel_rfl) (tOne_ok (tG_ok (tCons_ok (tI_ok _) (tCons_ok (tI_ok _) (tCons_ok (tI_ok _) (tCons_ok (tI_ok _) (tCons_ok (tI_ok _) (tCons_ok (tI_ok _) (tCons_ok (tI_ok _) (tCons_ok (tI_ok _) (tCons_ok (tI_ok _) (tCons_ok (tI_ok _) (tOne_ok (tLz_ok _ _)))))))))))))) (tI_ok _) (fun _ => rfl)
theorem world.Body_1.eq (p0_0 : Int) (p0_1 : Int) (p0_2 : Int) (p0_3 : Int) (p0_4 : Int) (p0_5 : Int) (p0_6 : Int) (p0_7 : Int) (p0_8 : Int) (p0_9 : Int) (p0_10_n : Nat) (p0_10_g : Nat → (Int × Int)) : world.Body_1.f (p0_0, p0_1, p0_2, p0_3, p0_4, p0_5, p0_6, p0_7, p0_8, p0_9, (p0_10_n, (fun i => Rii.enc (p0_10_g i)))) =
  some p0_0 := by kernel_rfl
/-! ### bagatelle/world.find[bagatelle/api.Body]$1 -/
noncomputable def world.find_Body_1.cs : List (Nat × Fw.Summ) := [(41, world.Body_1.s), (69, cmp.Compare_int.s)]
theorem world.find_Body_1.cs_ok : SumsOk Try.prog world.find_Body_1.cs := .cons world.Body_1.ok (.cons cmp.Compare_int.ok (.nil))
def world.find_Body_1.hs : List (Nat × LHint) := []
noncomputable def world.find_Body_1.G : Ctx := ⟨Try.prog, sumAt world.find_Body_1.cs, lookH world.find_Body_1.hs, true⟩
noncomputable def world.find_Body_1.f (x : ((Int × Int × Int × Int × Int × Int × Int × Int × Int × Int × (Nat × (Nat → List AV))) × Int × Unit)) : Option Int := evF world.find_Body_1.G 0 Try.f71 ((tCons (tG (tCons (tI .i64) (tCons (tI .i64) (tCons (tI .i64) (tCons (tI .i64) (tCons (tI .i64) (tCons (tI .i64) (tCons (tI .i64) (tCons (tI .i64) (tCons (tI .i64) (tCons (tI .i64) (tOne (tLz 2 (Rii.enc (0, 0))))))))))))))) (tCons (tI .i64) (tOne (tP (tOne (tF 41 tNil)))))).enc x) (tI .i64).dec
noncomputable def world.find_Body_1.s : Fw.Summ := .mk' (tCons (tG (tCons (tI .i64) (tCons (tI .i64) (tCons (tI .i64) (tCons (tI .i64) (tCons (tI .i64) (tCons (tI .i64) (tCons (tI .i64) (tCons (tI .i64) (tCons (tI .i64) (tCons (tI .i64) (tOne (tLz 2 (Rii.enc (0, 0))))))))))))))) (tCons (tI .i64) (tOne (tP (tOne (tF 41 tNil)))))) (tI .i64) world.find_Body_1.f
theorem world.find_Body_1.ok : world.find_Body_1.s.Ok Try.prog 71 :=
  summ_ok (hint := lookH world.find_Body_1.hs) (fn := Try.f71) (fun x => 0) world.find_Body_1.cs_ok (by kernel_rfl) (by kernel_rfl) (by kernel_rfl) (by kernel_rfl) (tCons_ok (tG_ok (tCons_ok (tI_ok _) (tCons_ok (tI_ok _) (tCons_ok (tI_ok _) (tCons_ok (tI_ok _) (tCons_ok (tI_ok _) (tCons_ok (tI_ok _) (tCons_ok (tI_ok _) (tCons_ok (tI_ok _) (tCons_ok (tI_ok _) (tCons_ok (tI_ok _) (tOne_ok (tLz_ok _ _))))))))))))) (tCons_ok (tI_ok _) (tOne_ok (tP_ok (tOne_ok (tF_ok _ tNil_ok)))))) (tI_ok _) (fun _ => rfl)
theorem world.find_Body_1.eq (p0_0 : Int) (p0_1 : Int) (p0_2 : Int) (p0_3 : Int) (p0_4 : Int) (p0_5 : Int) (p0_6 : Int) (p0_7 : Int) (p0_8 : Int) (p0_9 : Int) (p0_10_n : Nat) (p0_10_g : Nat → (Int × Int)) (p1 : Int) : world.find_Body_1.f ((p0_0, p0_1, p0_2, p0_3, p0_4, p0_5, p0_6, p0_7, p0_8, p0_9, (p0_10_n, (fun i => Rii.enc (p0_10_g i)))), p1, ()) =
  (world.Body_1.f (p0_0, p0_1, p0_2, p0_3, p0_4, p0_5, p0_6, p0_7, p0_8, p0_9, (p0_10_n, (fun i => Rii.enc (p0_10_g i))))).bind fun r1 =>
  (cmp.Compare_int.f (r1, p1)).bind fun r2 =>
  some r2 := by kernel_rfl
/-! ### slices.BinarySearchFunc[[]bagatelle/api.Body,bagatelle/api.Body,int] -/
noncomputable def slices.BinarySearchFunc_lBody_Body_int.cs : List (Nat × Fw.Summ) := [(71, world.find_Body_1.s)]
theorem slices.BinarySearchFunc_lBody_Body_int.cs_ok : SumsOk Try.prog slices.BinarySearchFunc_lBody_Body_int.cs := .cons world.find_Body_1.ok (.nil)
def slices.BinarySearchFunc_lBody_Body_int.hs : List (Nat × LHint) := [(0, { mat := [], live := [0, 1, 2, 8, 9, 10], ren := [] })]
noncomputable def slices.BinarySearchFunc_lBody_Body_int.G : Ctx := ⟨Try.prog, sumAt slices.BinarySearchFunc_lBody_Body_int.cs, lookH slices.BinarySearchFunc_lBody_Body_int.hs, true⟩
noncomputable def slices.BinarySearchFunc_lBody_Body_int.g (k0 : Nat) (x : ((Nat × (Nat → List AV)) × Int × Unit)) : Option (Int × Bool) := evF slices.BinarySearchFunc_lBody_Body_int.G k0 Try.f70 ((tCons (tLz 11 (RiiiiiiiiiiL2.enc (0, 0, 0, 0, 0, 0, 0, 0, 0, 0, (0, fun _ => [])))) (tCons (tI .i64) (tOne (tF 71 (tOne (tP (tOne (tF 41 tNil)))))))).enc x) (tT (tCons (tI .i64) (tOne tB))).dec
noncomputable def slices.BinarySearchFunc_lBody_Body_int.f (x : ((Nat × (Nat → List AV)) × Int × Unit)) : Option (Int × Bool) := slices.BinarySearchFunc_lBody_Body_int.g (1000000) x
noncomputable def slices.BinarySearchFunc_lBody_Body_int.s : Fw.Summ := .mk' (tCons (tLz 11 (RiiiiiiiiiiL2.enc (0, 0, 0, 0, 0, 0, 0, 0, 0, 0, (0, fun _ => [])))) (tCons (tI .i64) (tOne (tF 71 (tOne (tP (tOne (tF 41 tNil)))))))) (tT (tCons (tI .i64) (tOne tB))) slices.BinarySearchFunc_lBody_Body_int.f
theorem slices.BinarySearchFunc_lBody_Body_int.ok : slices.BinarySearchFunc_lBody_Body_int.s.Ok Try.prog 70 :=
  summ_ok (hint := lookH slices.BinarySearchFunc_lBody_Body_int.hs) (fn := Try.f70) (fun x => 1000000) slices.BinarySearchFunc_lBody_Body_int.cs_ok (by kernel_rfl) (by kernel_rfl) (by kernel_rfl) (by kernel_rfl) (tCons_ok (tLz_ok _ _) (tCons_ok (tI_ok _) (tOne_ok (tF_ok _ (tOne_ok (tP_ok (tOne_ok (tF_ok _ tNil_ok)))))))) (tT_ok (tCons_ok (tI_ok _) (tOne_ok tB_ok))) (fun _ => rfl)
noncomputable def slices.BinarySearchFunc_lBody_Body_int.l0 (k0 k1 : Nat) (v1 : Nat) (v2 : Nat → List AV) (v3 : Int) (v4 : Int) (v5 : Int) (v6 : Int) : Option (Int × Bool) :=
  evLoop (lookH slices.BinarySearchFunc_lBody_Body_int.hs 0) 0 (ev slices.BinarySearchFunc_lBody_Body_int.G k0 (codeAt [1, 1, 1, 0, 0, 0] (bodyOf Try.f70)) 0) k1
  ⟨[.lst 11 v1 none v2, .val (.int .i64 v3), .fn 71 [.rp [.fn 41 []] 0], .top, .top, .top, .top, .top, .val (.int .i64 v4), .val (.int .i64 v5), .val (.int .i64 v6), .top, .top, .top, .top, .top, .top, .top, .top, .top, .top, .top, .top, .top, .top, .top, .top, .top, .top, .top, .top, .top, .top, .top, .top, .top, .top, .top, .top, .top, .top, .top, .top, .top, .top, .top, .top, .top, .top], []⟩
  (kBlock slices.BinarySearchFunc_lBody_Body_int.G 0 (kSeq slices.BinarySearchFunc_lBody_Body_int.G k0 (codeAt [1, 1, 1, 1] (bodyOf Try.f70)) 0 (kFin slices.BinarySearchFunc_lBody_Body_int.G Try.f70 (tT (tCons (tI .i64) (tOne tB))).dec)))
theorem slices.BinarySearchFunc_lBody_Body_int.l0_eq (k0 k1 : Nat) (v1 : Nat) (v2 : Nat → (Int × Int × Int × Int × Int × Int × Int × Int × Int × Int × (Nat × (Nat → List AV)))) (v3 : Int) (v4 : Int) (v5 : Int) (v6 : Int) : slices.BinarySearchFunc_lBody_Body_int.l0 k0 (k1 + 1) v1 (fun i => RiiiiiiiiiiL2.enc (v2 i)) v3 v4 v5 v6 =
  bif (decide (v5 < v6)) then
    bif ((decide (0 ≤ (IntKind.i64.wrap (Int.fdiv (IntKind.u64.wrap (IntKind.i64.wrap (v5 + v6))) (2 ^ 1))))) && (decide ((IntKind.i64.wrap (Int.fdiv (IntKind.u64.wrap (IntKind.i64.wrap (v5 + v6))) (2 ^ 1))) < ((v1 : Nat) : Int)))) then
    (world.find_Body_1.f (((v2 (Int.toNat (IntKind.i64.wrap (Int.fdiv (IntKind.u64.wrap (IntKind.i64.wrap (v5 + v6))) (2 ^ 1))))).1, (v2 (Int.toNat (IntKind.i64.wrap (Int.fdiv (IntKind.u64.wrap (IntKind.i64.wrap (v5 + v6))) (2 ^ 1))))).2.1, (v2 (Int.toNat (IntKind.i64.wrap (Int.fdiv (IntKind.u64.wrap (IntKind.i64.wrap (v5 + v6))) (2 ^ 1))))).2.2.1, (v2 (Int.toNat (IntKind.i64.wrap (Int.fdiv (IntKind.u64.wrap (IntKind.i64.wrap (v5 + v6))) (2 ^ 1))))).2.2.2.1, (v2 (Int.toNat (IntKind.i64.wrap (Int.fdiv (IntKind.u64.wrap (IntKind.i64.wrap (v5 + v6))) (2 ^ 1))))).2.2.2.2.1, (v2 (Int.toNat (IntKind.i64.wrap (Int.fdiv (IntKind.u64.wrap (IntKind.i64.wrap (v5 + v6))) (2 ^ 1))))).2.2.2.2.2.1, (v2 (Int.toNat (IntKind.i64.wrap (Int.fdiv (IntKind.u64.wrap (IntKind.i64.wrap (v5 + v6))) (2 ^ 1))))).2.2.2.2.2.2.1, (v2 (Int.toNat (IntKind.i64.wrap (Int.fdiv (IntKind.u64.wrap (IntKind.i64.wrap (v5 + v6))) (2 ^ 1))))).2.2.2.2.2.2.2.1, (v2 (Int.toNat (IntKind.i64.wrap (Int.fdiv (IntKind.u64.wrap (IntKind.i64.wrap (v5 + v6))) (2 ^ 1))))).2.2.2.2.2.2.2.2.1, (v2 (Int.toNat (IntKind.i64.wrap (Int.fdiv (IntKind.u64.wrap (IntKind.i64.wrap (v5 + v6))) (2 ^ 1))))).2.2.2.2.2.2.2.2.2.1, ((v2 (Int.toNat (IntKind.i64.wrap (Int.fdiv (IntKind.u64.wrap (IntKind.i64.wrap (v5 + v6))) (2 ^ 1))))).2.2.2.2.2.2.2.2.2.2.1, (v2 (Int.toNat (IntKind.i64.wrap (Int.fdiv (IntKind.u64.wrap (IntKind.i64.wrap (v5 + v6))) (2 ^ 1))))).2.2.2.2.2.2.2.2.2.2.2)), v3, ())).bind fun r1 =>
    bif (decide (r1 < 0)) then
      slices.BinarySearchFunc_lBody_Body_int.l0 k0 k1 v1 (fun i => RiiiiiiiiiiL2.enc (v2 i)) v3 v4 (IntKind.i64.wrap ((IntKind.i64.wrap (Int.fdiv (IntKind.u64.wrap (IntKind.i64.wrap (v5 + v6))) (2 ^ 1))) + 1)) v6
    else
    slices.BinarySearchFunc_lBody_Body_int.l0 k0 k1 v1 (fun i => RiiiiiiiiiiL2.enc (v2 i)) v3 v4 v5 (IntKind.i64.wrap (Int.fdiv (IntKind.u64.wrap (IntKind.i64.wrap (v5 + v6))) (2 ^ 1)))
    else none
  else
  bif (decide (v5 < v4)) then
    bif ((decide (0 ≤ v5)) && (decide (v5 < ((v1 : Nat) : Int)))) then
    (world.find_Body_1.f (((v2 (Int.toNat v5)).1, (v2 (Int.toNat v5)).2.1, (v2 (Int.toNat v5)).2.2.1, (v2 (Int.toNat v5)).2.2.2.1, (v2 (Int.toNat v5)).2.2.2.2.1, (v2 (Int.toNat v5)).2.2.2.2.2.1, (v2 (Int.toNat v5)).2.2.2.2.2.2.1, (v2 (Int.toNat v5)).2.2.2.2.2.2.2.1, (v2 (Int.toNat v5)).2.2.2.2.2.2.2.2.1, (v2 (Int.toNat v5)).2.2.2.2.2.2.2.2.2.1, ((v2 (Int.toNat v5)).2.2.2.2.2.2.2.2.2.2.1, (v2 (Int.toNat v5)).2.2.2.2.2.2.2.2.2.2.2)), v3, ())).bind fun r2 =>
    some (v5, (r2 == 0))
    else none
  else
  some (v5, false) := by kernel_rfl
theorem slices.BinarySearchFunc_lBody_Body_int.eq (k0 : Nat) (p0_n : Nat) (p0_g : Nat → (Int × Int × Int × Int × Int × Int × Int × Int × Int × Int × (Nat × (Nat → List AV)))) (p1 : Int) : slices.BinarySearchFunc_lBody_Body_int.g k0 ((p0_n, (fun i => RiiiiiiiiiiL2.enc (p0_g i))), p1, ()) =
  slices.BinarySearchFunc_lBody_Body_int.l0 k0 k0 p0_n (fun i => RiiiiiiiiiiL2.enc (p0_g i)) p1 ((p0_n : Nat) : Int) 0 ((p0_n : Nat) : Int) := by kernel_rfl
/-! ### bagatelle/world.find[bagatelle/api.Body] -/
noncomputable def world.find_Body.cs : List (Nat × Fw.Summ) := [(70, slices.BinarySearchFunc_lBody_Body_int.s)]
theorem world.find_Body.cs_ok : SumsOk Try.prog world.find_Body.cs := .cons slices.BinarySearchFunc_lBody_Body_int.ok (.nil)
def world.find_Body.hs : List (Nat × LHint) := []
noncomputable def world.find_Body.G : Ctx := ⟨Try.prog, sumAt world.find_Body.cs, lookH world.find_Body.hs, true⟩
noncomputable def world.find_Body.f (x : ((Nat × (Nat → List AV)) × Int × Unit)) : Option (Int × Bool) := evF world.find_Body.G 0 Try.f40 ((tCons (tLz 11 (RiiiiiiiiiiL2.enc (0, 0, 0, 0, 0, 0, 0, 0, 0, 0, (0, fun _ => [])))) (tCons (tI .i64) (tOne (tF 41 tNil)))).enc x) (tT (tCons (tI .i64) (tOne tB))).dec
noncomputable def world.find_Body.s : Fw.Summ := .mk' (tCons (tLz 11 (RiiiiiiiiiiL2.enc (0, 0, 0, 0, 0, 0, 0, 0, 0, 0, (0, fun _ => [])))) (tCons (tI .i64) (tOne (tF 41 tNil)))) (tT (tCons (tI .i64) (tOne tB))) world.find_Body.f
theorem world.find_Body.ok : world.find_Body.s.Ok Try.prog 40 :=
  summ_ok (hint := lookH world.find_Body.hs) (fn := Try.f40) (fun x => 0) world.find_Body.cs_ok (by kernel_rfl) (by kernel_rfl) (by kernel_rfl) (by kernel_rfl) (tCons_ok (tLz_ok _ _) (tCons_ok (tI_ok _) (tOne_ok (tF_ok _ tNil_ok)))) (tT_ok (tCons_ok (tI_ok _) (tOne_ok tB_ok))) (fun _ => rfl)
theorem world.find_Body.eq (p0_n : Nat) (p0_g : Nat → (Int × Int × Int × Int × Int × Int × Int × Int × Int × Int × (Nat × (Nat → List AV)))) (p1 : Int) : world.find_Body.f ((p0_n, (fun i => RiiiiiiiiiiL2.enc (p0_g i))), p1, ()) =
  (slices.BinarySearchFunc_lBody_Body_int.f ((p0_n, (fun i => RiiiiiiiiiiL2.enc (p0_g i))), p1, ())).bind fun r1 =>
  bif (!r1.2) then
    some (0, false)
  else
  some (r1.1, true) := by kernel_rfl
/-! ### bagatelle/world.Body -/
noncomputable def world.Body.cs : List (Nat × Fw.Summ) := [(40, world.find_Body.s)]
theorem world.Body.cs_ok : SumsOk Try.prog world.Body.cs := .cons world.find_Body.ok (.nil)
def world.Body.hs : List (Nat × LHint) := []
noncomputable def world.Body.G : Ctx := ⟨Try.prog, sumAt world.Body.cs, lookH world.Body.hs, true⟩
noncomputable def world.Body.f (x : ((Int × Int × Int × Int × Int × (Nat × (Nat → List AV)) × (Nat × (Nat → List AV)) × (Nat × (Nat → List AV))) × Int)) : Option (Int × Bool) := evF world.Body.G 0 Try.f16 ((tCons (tG (tCons (tI .i64) (tCons (tI .i64) (tCons (tI .i64) (tCons (tI .i64) (tCons (tI .i64) (tCons (tLz 11 (RiiiiiiiiiiL2.enc (0, 0, 0, 0, 0, 0, 0, 0, 0, 0, (0, fun _ => [])))) (tCons (tLz 8 (Riiiiiiii.enc (0, 0, 0, 0, 0, 0, 0, 0))) (tOne (tLz 5 (Riiiii.enc (0, 0, 0, 0, 0)))))))))))) (tOne (tI .i64))).enc x) (tT (tCons (tI .i64) (tOne tB))).dec
noncomputable def world.Body.s : Fw.Summ := .mk' (tCons (tG (tCons (tI .i64) (tCons (tI .i64) (tCons (tI .i64) (tCons (tI .i64) (tCons (tI .i64) (tCons (tLz 11 (RiiiiiiiiiiL2.enc (0, 0, 0, 0, 0, 0, 0, 0, 0, 0, (0, fun _ => [])))) (tCons (tLz 8 (Riiiiiiii.enc (0, 0, 0, 0, 0, 0, 0, 0))) (tOne (tLz 5 (Riiiii.enc (0, 0, 0, 0, 0)))))))))))) (tOne (tI .i64))) (tT (tCons (tI .i64) (tOne tB))) world.Body.f
theorem world.Body.ok : world.Body.s.Ok Try.prog 16 :=
  summ_ok (hint := lookH world.Body.hs) (fn := Try.f16) (fun x => 0) world.Body.cs_ok (by kernel_rfl) (by kernel_rfl) (by kernel_rfl) (by kernel_rfl) (tCons_ok (tG_ok (tCons_ok (tI_ok _) (tCons_ok (tI_ok _) (tCons_ok (tI_ok _) (tCons_ok (tI_ok _) (tCons_ok (tI_ok _) (tCons_ok (tLz_ok _ _) (tCons_ok (tLz_ok _ _) (tOne_ok (tLz_ok _ _)))))))))) (tOne_ok (tI_ok _))) (tT_ok (tCons_ok (tI_ok _) (tOne_ok tB_ok))) (fun _ => rfl)
theorem world.Body.eq (p0_0 : Int) (p0_1 : Int) (p0_2 : Int) (p0_3 : Int) (p0_4 : Int) (p0_5_n : Nat) (p0_5_g : Nat → (Int × Int × Int × Int × Int × Int × Int × Int × Int × Int × (Nat × (Nat → List AV)))) (p0_6_n : Nat) (p0_6_g : Nat → (Int × Int × Int × Int × Int × Int × Int × Int)) (p0_7_n : Nat) (p0_7_g : Nat → (Int × Int × Int × Int × Int)) (p1 : Int) : world.Body.f ((p0_0, p0_1, p0_2, p0_3, p0_4, (p0_5_n, (fun i => RiiiiiiiiiiL2.enc (p0_5_g i))), (p0_6_n, (fun i => Riiiiiiii.enc (p0_6_g i))), (p0_7_n, (fun i => Riiiii.enc (p0_7_g i)))), p1) =
  (world.find_Body.f ((p0_5_n, (fun i => RiiiiiiiiiiL2.enc (p0_5_g i))), p1, ())).bind fun r1 =>
  some (r1.1, r1.2) := by kernel_rfl
/-! ### bagatelle/world.RightJoint -/
noncomputable def world.RightJoint.cs : List (Nat × Fw.Summ) := [(33, world.within.s)]
theorem world.RightJoint.cs_ok : SumsOk Try.prog world.RightJoint.cs := .cons world.within.ok (.nil)
def world.RightJoint.hs : List (Nat × LHint) := []
noncomputable def world.RightJoint.G : Ctx := ⟨Try.prog, sumAt world.RightJoint.cs, lookH world.RightJoint.hs, true⟩
noncomputable def world.RightJoint.f (x : (Int × Int × Int × Int × Int × Int × Int × Int)) : Option Bool := evF world.RightJoint.G 0 Try.f23 ((tOne (tG (tCons (tI .i64) (tCons (tI .i64) (tCons (tI .i64) (tCons (tI .i64) (tCons (tI .i64) (tCons (tI .i64) (tCons (tI .i64) (tOne (tI .i64))))))))))).enc x) tB.dec
noncomputable def world.RightJoint.s : Fw.Summ := .mk' (tOne (tG (tCons (tI .i64) (tCons (tI .i64) (tCons (tI .i64) (tCons (tI .i64) (tCons (tI .i64) (tCons (tI .i64) (tCons (tI .i64) (tOne (tI .i64))))))))))) tB world.RightJoint.f
theorem world.RightJoint.ok : world.RightJoint.s.Ok Try.prog 23 :=
  summ_ok (hint := lookH world.RightJoint.hs) (fn := Try.f23) (fun x => 0) world.RightJoint.cs_ok (by kernel_rfl) (by kernel_rfl) (by kernel_rfl) (by kernel_rfl) (tOne_ok (tG_ok (tCons_ok (tI_ok _) (tCons_ok (tI_ok _) (tCons_ok (tI_ok _) (tCons_ok (tI_ok _) (tCons_ok (tI_ok _) (tCons_ok (tI_ok _) (tCons_ok (tI_ok _) (tOne_ok (tI_ok _))))))))))) tB_ok (fun _ => rfl)
theorem world.RightJoint.eq (p0_0 : Int) (p0_1 : Int) (p0_2 : Int) (p0_3 : Int) (p0_4 : Int) (p0_5 : Int) (p0_6 : Int) (p0_7 : Int) : world.RightJoint.f (p0_0, p0_1, p0_2, p0_3, p0_4, p0_5, p0_6, p0_7) =
  (world.within.f ((p0_3, p0_4), 274877906944)).bind fun r1 =>
  bif r1 then
    (world.within.f ((p0_5, p0_6), 274877906944)).bind fun r2 =>
    bif r2 then
      bif (decide (p0_7 ≥ 0)) then
        bif (decide (p0_7 ≤ 4503599627370496)) then
          bif (decide (p0_1 ≥ 1)) then
            bif (decide (p0_2 ≥ 1)) then
              some (p0_1 != p0_2)
            else
            some false
          else
          some false
        else
        some false
      else
      some false
    else
    some false
  else
  some false := by kernel_rfl
/-! ### cmp.Or[int] -/
noncomputable def cmp.Or_int.cs : List (Nat × Fw.Summ) := []
theorem cmp.Or_int.cs_ok : SumsOk Try.prog cmp.Or_int.cs := .nil
def cmp.Or_int.hs : List (Nat × LHint) := [(0, { mat := [], live := [3, 6, 7, 8], ren := [] })]
noncomputable def cmp.Or_int.G : Ctx := ⟨Try.prog, sumAt cmp.Or_int.cs, lookH cmp.Or_int.hs, true⟩
noncomputable def cmp.Or_int.g (k0 : Nat) (x : (Nat × (Nat → List AV))) : Option Int := evF cmp.Or_int.G k0 Try.f68 ((tOne (tLz 1 (Ri.enc 0))).enc x) (tI .i64).dec
noncomputable def cmp.Or_int.f (x : (Nat × (Nat → List AV))) : Option Int := cmp.Or_int.g (1000000) x
noncomputable def cmp.Or_int.s : Fw.Summ := .mk' (tOne (tLz 1 (Ri.enc 0))) (tI .i64) cmp.Or_int.f
theorem cmp.Or_int.ok : cmp.Or_int.s.Ok Try.prog 68 :=
  summ_ok (hint := lookH cmp.Or_int.hs) (fn := Try.f68) (fun x => 1000000) cmp.Or_int.cs_ok (by kernel_rfl) (by kernel_rfl) (by kernel_rfl) (by kernel_rfl) (tOne_ok (tLz_ok _ _)) (tI_ok _) (fun _ => rfl)
noncomputable def cmp.Or_int.l0 (k0 k1 : Nat) (v1 : Nat) (v2 : Nat → List AV) (v3 : Int) (v4 : Int) : Option Int :=
  evLoop (lookH cmp.Or_int.hs 0) 0 (ev cmp.Or_int.G k0 (codeAt [1, 1, 0, 1, 0, 0] (bodyOf Try.f68)) 0) k1
  ⟨[.top, .top, .top, .val (.int .i64 0), .top, .top, .lst 1 v1 none v2, .val (.int .i64 v3), .val (.int .i64 v4), .top, .top, .top, .top, .top, .top, .top, .top, .top], []⟩
  (kBlock cmp.Or_int.G 0 (kSeq cmp.Or_int.G k0 (codeAt [1, 1, 1] (bodyOf Try.f68)) 0 (kFin cmp.Or_int.G Try.f68 (tI .i64).dec)))
theorem cmp.Or_int.l0_eq (k0 k1 : Nat) (v1 : Nat) (v2 : Nat → Int) (v3 : Int) (v4 : Int) : cmp.Or_int.l0 k0 (k1 + 1) v1 (fun i => Ri.enc (v2 i)) v3 v4 =
  bif (decide (v4 < v3)) then
    bif ((decide (0 ≤ v4)) && (decide (v4 < ((v1 : Nat) : Int)))) then
    bif ((v2 (Int.toNat v4)) != 0) then
      some (v2 (Int.toNat v4))
    else
    cmp.Or_int.l0 k0 k1 v1 (fun i => Ri.enc (v2 i)) v3 (IntKind.i64.wrap (v4 + 1))
    else none
  else
  some 0 := by kernel_rfl
theorem cmp.Or_int.eq (k0 : Nat) (p0_n : Nat) (p0_g : Nat → Int) : cmp.Or_int.g k0 (p0_n, (fun i => Ri.enc (p0_g i))) =
  cmp.Or_int.l0 k0 k0 p0_n (fun i => Ri.enc (p0_g i)) ((p0_n : Nat) : Int) 0 := by kernel_rfl
/-! ### bagatelle/world.order -/
noncomputable def world.order.cs : List (Nat × Fw.Summ) := [(69, cmp.Compare_int.s), (68, cmp.Or_int.s)]
theorem world.order.cs_ok : SumsOk Try.prog world.order.cs := .cons cmp.Compare_int.ok (.cons cmp.Or_int.ok (.nil))
def world.order.hs : List (Nat × LHint) := []
noncomputable def world.order.G : Ctx := ⟨Try.prog, sumAt world.order.cs, lookH world.order.hs, true⟩
noncomputable def world.order.f (x : ((Int × Int × Int × Int × Int) × (Int × Int × Int × Int × Int))) : Option Int := evF world.order.G 0 Try.f39 ((tCons (tG (tCons (tI .i64) (tCons (tI .i64) (tCons (tI .i64) (tCons (tI .i64) (tOne (tI .i64))))))) (tOne (tG (tCons (tI .i64) (tCons (tI .i64) (tCons (tI .i64) (tCons (tI .i64) (tOne (tI .i64))))))))).enc x) (tI .i64).dec
noncomputable def world.order.s : Fw.Summ := .mk' (tCons (tG (tCons (tI .i64) (tCons (tI .i64) (tCons (tI .i64) (tCons (tI .i64) (tOne (tI .i64))))))) (tOne (tG (tCons (tI .i64) (tCons (tI .i64) (tCons (tI .i64) (tCons (tI .i64) (tOne (tI .i64))))))))) (tI .i64) world.order.f
theorem world.order.ok : world.order.s.Ok Try.prog 39 :=
  summ_ok (hint := lookH world.order.hs) (fn := Try.f39) (fun x => 0) world.order.cs_ok (by kernel_rfl) (by kernel_rfl) (by kernel_rfl) (by kernel_rfl) (tCons_ok (tG_ok (tCons_ok (tI_ok _) (tCons_ok (tI_ok _) (tCons_ok (tI_ok _) (tCons_ok (tI_ok _) (tOne_ok (tI_ok _))))))) (tOne_ok (tG_ok (tCons_ok (tI_ok _) (tCons_ok (tI_ok _) (tCons_ok (tI_ok _) (tCons_ok (tI_ok _) (tOne_ok (tI_ok _))))))))) (tI_ok _) (fun _ => rfl)
theorem world.order.eq (p0_0 : Int) (p0_1 : Int) (p0_2 : Int) (p0_3 : Int) (p0_4 : Int) (p1_0 : Int) (p1_1 : Int) (p1_2 : Int) (p1_3 : Int) (p1_4 : Int) : world.order.f ((p0_0, p0_1, p0_2, p0_3, p0_4), (p1_0, p1_1, p1_2, p1_3, p1_4)) =
  (cmp.Compare_int.f (p0_0, p1_0)).bind fun r1 =>
  (cmp.Compare_int.f (p0_1, p1_1)).bind fun r2 =>
  (cmp.Compare_int.f (p0_2, p1_2)).bind fun r3 =>
  (cmp.Or_int.f (3, (fun i => cloL (List.getD (List.map Ri.enc [r1, r2, r3]) i (Ri.enc 0))))).bind fun r4 =>
  some r4 := by kernel_rfl
/-! ### bagatelle/world.rising[bagatelle/api.Body] -/
noncomputable def world.rising_Body.cs : List (Nat × Fw.Summ) := [(35, world.Right_1.s)]
theorem world.rising_Body.cs_ok : SumsOk Try.prog world.rising_Body.cs := .cons world.Right_1.ok (.nil)
def world.rising_Body.hs : List (Nat × LHint) := [(0, { mat := [], live := [1, 2, 7, 10, 11, 12], ren := [] })]
noncomputable def world.rising_Body.G : Ctx := ⟨Try.prog, sumAt world.rising_Body.cs, lookH world.rising_Body.hs, true⟩
noncomputable def world.rising_Body.g (k0 : Nat) (x : ((Nat × (Nat → List AV)) × Int × Unit)) : Option Bool := evF world.rising_Body.G k0 Try.f34 ((tCons (tLz 11 (RiiiiiiiiiiL2.enc (0, 0, 0, 0, 0, 0, 0, 0, 0, 0, (0, fun _ => [])))) (tCons (tI .i64) (tOne (tF 35 tNil)))).enc x) tB.dec
noncomputable def world.rising_Body.f (x : ((Nat × (Nat → List AV)) × Int × Unit)) : Option Bool := world.rising_Body.g (1000000) x
noncomputable def world.rising_Body.s : Fw.Summ := .mk' (tCons (tLz 11 (RiiiiiiiiiiL2.enc (0, 0, 0, 0, 0, 0, 0, 0, 0, 0, (0, fun _ => [])))) (tCons (tI .i64) (tOne (tF 35 tNil)))) tB world.rising_Body.f
theorem world.rising_Body.ok : world.rising_Body.s.Ok Try.prog 34 :=
  summ_ok (hint := lookH world.rising_Body.hs) (fn := Try.f34) (fun x => 1000000) world.rising_Body.cs_ok (by kernel_rfl) (by kernel_rfl) (by kernel_rfl) (by kernel_rfl) (tCons_ok (tLz_ok _ _) (tCons_ok (tI_ok _) (tOne_ok (tF_ok _ tNil_ok)))) tB_ok (fun _ => rfl)
noncomputable def world.rising_Body.l0 (k0 k1 : Nat) (v1 : Int) (v2 : Int) (v3 : Nat) (v4 : Nat → List AV) (v5 : Int) (v6 : Int) : Option Bool :=
  evLoop (lookH world.rising_Body.hs 0) 0 (ev world.rising_Body.G k0 (codeAt [1, 1, 0, 1, 0, 0] (bodyOf Try.f34)) 0) k1
  ⟨[.top, .val (.int .i64 v1), .fn 35 [], .top, .top, .top, .top, .val (.int .i64 v2), .top, .top, .lst 11 v3 none v4, .val (.int .i64 v5), .val (.int .i64 v6), .top, .top, .top, .top, .top, .top, .top, .top, .top, .top, .top, .top, .top, .top, .top, .top, .top, .top, .top, .top, .top], []⟩
  (kBlock world.rising_Body.G 0 (kSeq world.rising_Body.G k0 (codeAt [1, 1, 1] (bodyOf Try.f34)) 0 (kFin world.rising_Body.G Try.f34 tB.dec)))
theorem world.rising_Body.l0_eq (k0 k1 : Nat) (v1 : Int) (v2 : Int) (v3 : Nat) (v4 : Nat → (Int × Int × Int × Int × Int × Int × Int × Int × Int × Int × (Nat × (Nat → List AV)))) (v5 : Int) (v6 : Int) : world.rising_Body.l0 k0 (k1 + 1) v1 v2 v3 (fun i => RiiiiiiiiiiL2.enc (v4 i)) v5 v6 =
  bif (decide (v6 < v5)) then
    bif ((decide (0 ≤ v6)) && (decide (v6 < ((v3 : Nat) : Int)))) then
    (world.Right_1.f ((v4 (Int.toNat v6)).1, (v4 (Int.toNat v6)).2.1, (v4 (Int.toNat v6)).2.2.1, (v4 (Int.toNat v6)).2.2.2.1, (v4 (Int.toNat v6)).2.2.2.2.1, (v4 (Int.toNat v6)).2.2.2.2.2.1, (v4 (Int.toNat v6)).2.2.2.2.2.2.1, (v4 (Int.toNat v6)).2.2.2.2.2.2.2.1, (v4 (Int.toNat v6)).2.2.2.2.2.2.2.2.1, (v4 (Int.toNat v6)).2.2.2.2.2.2.2.2.2.1, ((v4 (Int.toNat v6)).2.2.2.2.2.2.2.2.2.2.1, (v4 (Int.toNat v6)).2.2.2.2.2.2.2.2.2.2.2))).bind fun r1 =>
    bif (decide (r1 ≤ v2)) then
      some false
    else
    (world.Right_1.f ((v4 (Int.toNat v6)).1, (v4 (Int.toNat v6)).2.1, (v4 (Int.toNat v6)).2.2.1, (v4 (Int.toNat v6)).2.2.2.1, (v4 (Int.toNat v6)).2.2.2.2.1, (v4 (Int.toNat v6)).2.2.2.2.2.1, (v4 (Int.toNat v6)).2.2.2.2.2.2.1, (v4 (Int.toNat v6)).2.2.2.2.2.2.2.1, (v4 (Int.toNat v6)).2.2.2.2.2.2.2.2.1, (v4 (Int.toNat v6)).2.2.2.2.2.2.2.2.2.1, ((v4 (Int.toNat v6)).2.2.2.2.2.2.2.2.2.2.1, (v4 (Int.toNat v6)).2.2.2.2.2.2.2.2.2.2.2))).bind fun r2 =>
    bif (decide (r2 ≥ v1)) then
      some false
    else
    (world.Right_1.f ((v4 (Int.toNat v6)).1, (v4 (Int.toNat v6)).2.1, (v4 (Int.toNat v6)).2.2.1, (v4 (Int.toNat v6)).2.2.2.1, (v4 (Int.toNat v6)).2.2.2.2.1, (v4 (Int.toNat v6)).2.2.2.2.2.1, (v4 (Int.toNat v6)).2.2.2.2.2.2.1, (v4 (Int.toNat v6)).2.2.2.2.2.2.2.1, (v4 (Int.toNat v6)).2.2.2.2.2.2.2.2.1, (v4 (Int.toNat v6)).2.2.2.2.2.2.2.2.2.1, ((v4 (Int.toNat v6)).2.2.2.2.2.2.2.2.2.2.1, (v4 (Int.toNat v6)).2.2.2.2.2.2.2.2.2.2.2))).bind fun r3 =>
    world.rising_Body.l0 k0 k1 v1 r3 v3 (fun i => RiiiiiiiiiiL2.enc (v4 i)) v5 (IntKind.i64.wrap (v6 + 1))
    else none
  else
  some (decide (v1 ≥ 1)) := by kernel_rfl
theorem world.rising_Body.eq (k0 : Nat) (p0_n : Nat) (p0_g : Nat → (Int × Int × Int × Int × Int × Int × Int × Int × Int × Int × (Nat × (Nat → List AV)))) (p1 : Int) : world.rising_Body.g k0 ((p0_n, (fun i => RiiiiiiiiiiL2.enc (p0_g i))), p1, ()) =
  world.rising_Body.l0 k0 k0 p1 0 p0_n (fun i => RiiiiiiiiiiL2.enc (p0_g i)) ((p0_n : Nat) : Int) 0 := by kernel_rfl
/-! ### bagatelle/world.rising[bagatelle/api.Joint] -/
noncomputable def world.rising_Joint.cs : List (Nat × Fw.Summ) := [(37, world.Right_2.s)]
theorem world.rising_Joint.cs_ok : SumsOk Try.prog world.rising_Joint.cs := .cons world.Right_2.ok (.nil)
def world.rising_Joint.hs : List (Nat × LHint) := [(0, { mat := [], live := [1, 2, 7, 10, 11, 12], ren := [] })]
noncomputable def world.rising_Joint.G : Ctx := ⟨Try.prog, sumAt world.rising_Joint.cs, lookH world.rising_Joint.hs, true⟩
noncomputable def world.rising_Joint.g (k0 : Nat) (x : ((Nat × (Nat → List AV)) × Int × Unit)) : Option Bool := evF world.rising_Joint.G k0 Try.f36 ((tCons (tLz 8 (Riiiiiiii.enc (0, 0, 0, 0, 0, 0, 0, 0))) (tCons (tI .i64) (tOne (tF 37 tNil)))).enc x) tB.dec
noncomputable def world.rising_Joint.f (x : ((Nat × (Nat → List AV)) × Int × Unit)) : Option Bool := world.rising_Joint.g (1000000) x
noncomputable def world.rising_Joint.s : Fw.Summ := .mk' (tCons (tLz 8 (Riiiiiiii.enc (0, 0, 0, 0, 0, 0, 0, 0))) (tCons (tI .i64) (tOne (tF 37 tNil)))) tB world.rising_Joint.f
theorem world.rising_Joint.ok : world.rising_Joint.s.Ok Try.prog 36 :=
  summ_ok (hint := lookH world.rising_Joint.hs) (fn := Try.f36) (fun x => 1000000) world.rising_Joint.cs_ok (by kernel_rfl) (by kernel_rfl) (by kernel_rfl) (by kernel_rfl) (tCons_ok (tLz_ok _ _) (tCons_ok (tI_ok _) (tOne_ok (tF_ok _ tNil_ok)))) tB_ok (fun _ => rfl)
noncomputable def world.rising_Joint.l0 (k0 k1 : Nat) (v1 : Int) (v2 : Int) (v3 : Nat) (v4 : Nat → List AV) (v5 : Int) (v6 : Int) : Option Bool :=
  evLoop (lookH world.rising_Joint.hs 0) 0 (ev world.rising_Joint.G k0 (codeAt [1, 1, 0, 1, 0, 0] (bodyOf Try.f36)) 0) k1
  ⟨[.top, .val (.int .i64 v1), .fn 37 [], .top, .top, .top, .top, .val (.int .i64 v2), .top, .top, .lst 8 v3 none v4, .val (.int .i64 v5), .val (.int .i64 v6), .top, .top, .top, .top, .top, .top, .top, .top, .top, .top, .top, .top, .top, .top, .top, .top, .top, .top, .top, .top, .top], []⟩
  (kBlock world.rising_Joint.G 0 (kSeq world.rising_Joint.G k0 (codeAt [1, 1, 1] (bodyOf Try.f36)) 0 (kFin world.rising_Joint.G Try.f36 tB.dec)))
theorem world.rising_Joint.l0_eq (k0 k1 : Nat) (v1 : Int) (v2 : Int) (v3 : Nat) (v4 : Nat → (Int × Int × Int × Int × Int × Int × Int × Int)) (v5 : Int) (v6 : Int) : world.rising_Joint.l0 k0 (k1 + 1) v1 v2 v3 (fun i => Riiiiiiii.enc (v4 i)) v5 v6 =
  bif (decide (v6 < v5)) then
    bif ((decide (0 ≤ v6)) && (decide (v6 < ((v3 : Nat) : Int)))) then
    (world.Right_2.f ((v4 (Int.toNat v6)).1, (v4 (Int.toNat v6)).2.1, (v4 (Int.toNat v6)).2.2.1, (v4 (Int.toNat v6)).2.2.2.1, (v4 (Int.toNat v6)).2.2.2.2.1, (v4 (Int.toNat v6)).2.2.2.2.2.1, (v4 (Int.toNat v6)).2.2.2.2.2.2.1, (v4 (Int.toNat v6)).2.2.2.2.2.2.2)).bind fun r1 =>
    bif (decide (r1 ≤ v2)) then
      some false
    else
    (world.Right_2.f ((v4 (Int.toNat v6)).1, (v4 (Int.toNat v6)).2.1, (v4 (Int.toNat v6)).2.2.1, (v4 (Int.toNat v6)).2.2.2.1, (v4 (Int.toNat v6)).2.2.2.2.1, (v4 (Int.toNat v6)).2.2.2.2.2.1, (v4 (Int.toNat v6)).2.2.2.2.2.2.1, (v4 (Int.toNat v6)).2.2.2.2.2.2.2)).bind fun r2 =>
    bif (decide (r2 ≥ v1)) then
      some false
    else
    (world.Right_2.f ((v4 (Int.toNat v6)).1, (v4 (Int.toNat v6)).2.1, (v4 (Int.toNat v6)).2.2.1, (v4 (Int.toNat v6)).2.2.2.1, (v4 (Int.toNat v6)).2.2.2.2.1, (v4 (Int.toNat v6)).2.2.2.2.2.1, (v4 (Int.toNat v6)).2.2.2.2.2.2.1, (v4 (Int.toNat v6)).2.2.2.2.2.2.2)).bind fun r3 =>
    world.rising_Joint.l0 k0 k1 v1 r3 v3 (fun i => Riiiiiiii.enc (v4 i)) v5 (IntKind.i64.wrap (v6 + 1))
    else none
  else
  some (decide (v1 ≥ 1)) := by kernel_rfl
theorem world.rising_Joint.eq (k0 : Nat) (p0_n : Nat) (p0_g : Nat → (Int × Int × Int × Int × Int × Int × Int × Int)) (p1 : Int) : world.rising_Joint.g k0 ((p0_n, (fun i => Riiiiiiii.enc (p0_g i))), p1, ()) =
  world.rising_Joint.l0 k0 k0 p1 0 p0_n (fun i => Riiiiiiii.enc (p0_g i)) ((p0_n : Nat) : Int) 0 := by kernel_rfl
/-! ### bagatelle/world.Right$3 -/
noncomputable def world.Right_3.cs : List (Nat × Fw.Summ) := [(16, world.Body.s)]
theorem world.Right_3.cs_ok : SumsOk Try.prog world.Right_3.cs := .cons world.Body.ok (.nil)
def world.Right_3.hs : List (Nat × LHint) := []
noncomputable def world.Right_3.G : Ctx := ⟨Try.prog, sumAt world.Right_3.cs, lookH world.Right_3.hs, true⟩
noncomputable def world.Right_3.f (x : (Int × Int × (Int × Int × Int × Int × Int × (Nat × (Nat → List AV)) × (Nat × (Nat → List AV)) × (Nat × (Nat → List AV))))) : Option Bool := evF world.Right_3.G 0 Try.f38 ((tCons (tI .i64) (tCons (tI .i64) (tOne (tP (tCons (tI .i64) (tCons (tI .i64) (tCons (tI .i64) (tCons (tI .i64) (tCons (tI .i64) (tCons (tLz 11 (RiiiiiiiiiiL2.enc (0, 0, 0, 0, 0, 0, 0, 0, 0, 0, (0, fun _ => [])))) (tCons (tLz 8 (Riiiiiiii.enc (0, 0, 0, 0, 0, 0, 0, 0))) (tOne (tLz 5 (Riiiii.enc (0, 0, 0, 0, 0))))))))))))))).enc x) tB.dec
noncomputable def world.Right_3.s : Fw.Summ := .mk' (tCons (tI .i64) (tCons (tI .i64) (tOne (tP (tCons (tI .i64) (tCons (tI .i64) (tCons (tI .i64) (tCons (tI .i64) (tCons (tI .i64) (tCons (tLz 11 (RiiiiiiiiiiL2.enc (0, 0, 0, 0, 0, 0, 0, 0, 0, 0, (0, fun _ => [])))) (tCons (tLz 8 (Riiiiiiii.enc (0, 0, 0, 0, 0, 0, 0, 0))) (tOne (tLz 5 (Riiiii.enc (0, 0, 0, 0, 0))))))))))))))) tB world.Right_3.f
theorem world.Right_3.ok : world.Right_3.s.Ok Try.prog 38 :=
  summ_ok (hint := lookH world.Right_3.hs) (fn := Try.f38) (fun x => 0) world.Right_3.cs_ok (by kernel_rfl) (by kernel_rfl) (by kernel_rfl) (by kernel_rfl) (tCons_ok (tI_ok _) (tCons_ok (tI_ok _) (tOne_ok (tP_ok (tCons_ok (tI_ok _) (tCons_ok (tI_ok _) (tCons_ok (tI_ok _) (tCons_ok (tI_ok _) (tCons_ok (tI_ok _) (tCons_ok (tLz_ok _ _) (tCons_ok (tLz_ok _ _) (tOne_ok (tLz_ok _ _))))))))))))) tB_ok (fun _ => rfl)
theorem world.Right_3.eq (p0 : Int) (p1 : Int) (p2_0 : Int) (p2_1 : Int) (p2_2 : Int) (p2_3 : Int) (p2_4 : Int) (p2_5_n : Nat) (p2_5_g : Nat → (Int × Int × Int × Int × Int × Int × Int × Int × Int × Int × (Nat × (Nat → List AV)))) (p2_6_n : Nat) (p2_6_g : Nat → (Int × Int × Int × Int × Int × Int × Int × Int)) (p2_7_n : Nat) (p2_7_g : Nat → (Int × Int × Int × Int × Int)) : world.Right_3.f (p0, p1, (p2_0, p2_1, p2_2, p2_3, p2_4, (p2_5_n, (fun i => RiiiiiiiiiiL2.enc (p2_5_g i))), (p2_6_n, (fun i => Riiiiiiii.enc (p2_6_g i))), (p2_7_n, (fun i => Riiiii.enc (p2_7_g i))))) =
  (world.Body.f ((p2_0, p2_1, p2_2, p2_3, p2_4, (p2_5_n, (fun i => RiiiiiiiiiiL2.enc (p2_5_g i))), (p2_6_n, (fun i => Riiiiiiii.enc (p2_6_g i))), (p2_7_n, (fun i => Riiiii.enc (p2_7_g i)))), p0)).bind fun r1 =>
  (world.Body.f ((p2_0, p2_1, p2_2, p2_3, p2_4, (p2_5_n, (fun i => RiiiiiiiiiiL2.enc (p2_5_g i))), (p2_6_n, (fun i => Riiiiiiii.enc (p2_6_g i))), (p2_7_n, (fun i => Riiiii.enc (p2_7_g i)))), p1)).bind fun r2 =>
  bif r1.2 then
    some r2.2
  else
  some false := by kernel_rfl
/-! ### bagatelle/world.Right -/
noncomputable def world.Right.cs : List (Nat × Fw.Summ) := [(33, world.within.s), (34, world.rising_Body.s), (36, world.rising_Joint.s), (22, world.RightBody.s), (23, world.RightJoint.s), (38, world.Right_3.s), (39, world.order.s)]
theorem world.Right.cs_ok : SumsOk Try.prog world.Right.cs := .cons world.within.ok (.cons world.rising_Body.ok (.cons world.rising_Joint.ok (.cons world.RightBody.ok (.cons world.RightJoint.ok (.cons world.Right_3.ok (.cons world.order.ok (.nil)))))))
def world.Right.hs : List (Nat × LHint) := [(0, { mat := [], live := [1, 3, 62, 63, 64], ren := [], frz := [0] }), (2, { mat := [], live := [1, 3, 73, 74, 75], ren := [] }), (4, { mat := [], live := [1, 3, 93, 94, 95], ren := [] })]
noncomputable def world.Right.G : Ctx := ⟨Try.prog, sumAt world.Right.cs, lookH world.Right.hs, true⟩
noncomputable def world.Right.g (k0 : Nat) (x : (Int × Int × Int × Int × Int × (Nat × (Nat → List AV)) × (Nat × (Nat → List AV)) × (Nat × (Nat → List AV)))) : Option Bool := evF world.Right.G k0 Try.f15 ((tOne (tG (tCons (tI .i64) (tCons (tI .i64) (tCons (tI .i64) (tCons (tI .i64) (tCons (tI .i64) (tCons (tLz 11 (RiiiiiiiiiiL2.enc (0, 0, 0, 0, 0, 0, 0, 0, 0, 0, (0, fun _ => [])))) (tCons (tLz 8 (Riiiiiiii.enc (0, 0, 0, 0, 0, 0, 0, 0))) (tOne (tLz 5 (Riiiii.enc (0, 0, 0, 0, 0))))))))))))).enc x) tB.dec
noncomputable def world.Right.f (x : (Int × Int × Int × Int × Int × (Nat × (Nat → List AV)) × (Nat × (Nat → List AV)) × (Nat × (Nat → List AV)))) : Option Bool := world.Right.g (1000000) x
noncomputable def world.Right.s : Fw.Summ := .mk' (tOne (tG (tCons (tI .i64) (tCons (tI .i64) (tCons (tI .i64) (tCons (tI .i64) (tCons (tI .i64) (tCons (tLz 11 (RiiiiiiiiiiL2.enc (0, 0, 0, 0, 0, 0, 0, 0, 0, 0, (0, fun _ => [])))) (tCons (tLz 8 (Riiiiiiii.enc (0, 0, 0, 0, 0, 0, 0, 0))) (tOne (tLz 5 (Riiiii.enc (0, 0, 0, 0, 0))))))))))))) tB world.Right.f
theorem world.Right.ok : world.Right.s.Ok Try.prog 15 :=
  summ_ok (hint := lookH world.Right.hs) (fn := Try.f15) (fun x => 1000000) world.Right.cs_ok (by kernel_rfl) (by kernel_rfl) (by kernel_rfl) (by kernel_rfl) (tOne_ok (tG_ok (tCons_ok (tI_ok _) (tCons_ok (tI_ok _) (tCons_ok (tI_ok _) (tCons_ok (tI_ok _) (tCons_ok (tI_ok _) (tCons_ok (tLz_ok _ _) (tCons_ok (tLz_ok _ _) (tOne_ok (tLz_ok _ _))))))))))) tB_ok (fun _ => rfl)
noncomputable def world.Right.l2 (k0 k1 : Nat) (v1 : Int) (v2 : Int) (v3 : Int) (v4 : Int) (v5 : Int) (v6 : Nat) (v7 : Nat → List AV) (v8 : Nat) (v9 : Nat → List AV) (v10 : Nat) (v11 : Nat → List AV) (v12 : Int) (v13 : Int) : Option Bool :=
  evLoop (lookH world.Right.hs 4) 1 (ev world.Right.G k0 (codeAt [1, 1, 1, 1, 1, 1, 0, 1, 0, 0] (bodyOf Try.f15)) 4) k1
  ⟨[.top, .rp [.val (.int .i64 v1), .val (.int .i64 v2), .val (.int .i64 v3), .val (.int .i64 v4), .val (.int .i64 v5), .lst 11 v6 none v7, .lst 8 v8 none v9, .lst 5 v10 none v11] 0, .top, .fn 38 [.rp [.val (.int .i64 v1), .val (.int .i64 v2), .val (.int .i64 v3), .val (.int .i64 v4), .val (.int .i64 v5), .lst 11 v6 none v7, .lst 8 v8 none v9, .lst 5 v10 none v11] 0], .top, .top, .top, .top, .top, .top, .top, .top, .top, .top, .top, .top, .top, .top, .top, .top, .top, .top, .top, .top, .top, .top, .top, .top, .top, .top, .top, .top, .top, .top, .top, .top, .top, .top, .top, .top, .top, .top, .top, .top, .top, .top, .top, .top, .top, .top, .top, .top, .top, .top, .top, .top, .top, .top, .top, .top, .top, .top, .top, .top, .top, .top, .top, .top, .top, .top, .top, .top, .top, .top, .top, .top, .top, .top, .top, .top, .top, .top, .top, .top, .top, .top, .top, .top, .top, .top, .top, .top, .top, .lst 5 v10 none v11, .val (.int .i64 v12), .val (.int .i64 v13), .top, .top, .top, .top, .top, .top, .top, .top, .top, .top, .top, .top, .top, .top, .top, .top, .top, .top, .top, .top, .top, .top, .top, .top, .top, .top, .top, .top, .top, .top, .top, .top, .top, .top, .top, .top, .top, .top, .top, .top, .top, .top, .top, .top], [.dead]⟩
  (kBlock world.Right.G 4 (kSeq world.Right.G k0 (codeAt [1, 1, 1, 1, 1, 1, 1] (bodyOf Try.f15)) 0 (kFin world.Right.G Try.f15 tB.dec)))
noncomputable def world.Right.l1 (k0 k1 : Nat) (v1 : Int) (v2 : Int) (v3 : Int) (v4 : Int) (v5 : Int) (v6 : Nat) (v7 : Nat → List AV) (v8 : Nat) (v9 : Nat → List AV) (v10 : Nat) (v11 : Nat → List AV) (v12 : Int) (v13 : Int) : Option Bool :=
  evLoop (lookH world.Right.hs 2) 1 (ev world.Right.G k0 (codeAt [1, 1, 1, 1, 1, 0, 1, 0, 0] (bodyOf Try.f15)) 2) k1
  ⟨[.top, .rp [.val (.int .i64 v1), .val (.int .i64 v2), .val (.int .i64 v3), .val (.int .i64 v4), .val (.int .i64 v5), .lst 11 v6 none v7, .lst 8 v8 none v9, .lst 5 v10 none v11] 0, .top, .fn 38 [.rp [.val (.int .i64 v1), .val (.int .i64 v2), .val (.int .i64 v3), .val (.int .i64 v4), .val (.int .i64 v5), .lst 11 v6 none v7, .lst 8 v8 none v9, .lst 5 v10 none v11] 0], .top, .top, .top, .top, .top, .top, .top, .top, .top, .top, .top, .top, .top, .top, .top, .top, .top, .top, .top, .top, .top, .top, .top, .top, .top, .top, .top, .top, .top, .top, .top, .top, .top, .top, .top, .top, .top, .top, .top, .top, .top, .top, .top, .top, .top, .top, .top, .top, .top, .top, .top, .top, .top, .top, .top, .top, .top, .top, .top, .top, .top, .top, .top, .top, .top, .top, .top, .top, .top, .lst 8 v8 none v9, .val (.int .i64 v12), .val (.int .i64 v13), .top, .top, .top, .top, .top, .top, .top, .top, .top, .top, .top, .top, .top, .top, .top, .top, .top, .top, .top, .top, .top, .top, .top, .top, .top, .top, .top, .top, .top, .top, .top, .top, .top, .top, .top, .top, .top, .top, .top, .top, .top, .top, .top, .top, .top, .top, .top, .top, .top, .top, .top, .top, .top, .top, .top, .top, .top, .top, .top, .top, .top, .top, .top, .top], [.dead]⟩
  (kBlock world.Right.G 2 (kSeq world.Right.G k0 (codeAt [1, 1, 1, 1, 1, 1] (bodyOf Try.f15)) 0 (kFin world.Right.G Try.f15 tB.dec)))
noncomputable def world.Right.l0 (k0 k1 : Nat) (v1 : Int) (v2 : Int) (v3 : Int) (v4 : Int) (v5 : Int) (v6 : Nat) (v7 : Nat → List AV) (v8 : Nat) (v9 : Nat → List AV) (v10 : Nat) (v11 : Nat → List AV) (v12 : Int) (v13 : Int) : Option Bool :=
  evLoop (lookH world.Right.hs 0) 1 (ev world.Right.G k0 (codeAt [1, 1, 1, 1, 0, 1, 0, 0] (bodyOf Try.f15)) 0) k1
  ⟨[.top, .rp [.val (.int .i64 v1), .val (.int .i64 v2), .val (.int .i64 v3), .val (.int .i64 v4), .val (.int .i64 v5), .lst 11 v6 none v7, .lst 8 v8 none v9, .lst 5 v10 none v11] 0, .top, .fn 38 [.rp [.val (.int .i64 v1), .val (.int .i64 v2), .val (.int .i64 v3), .val (.int .i64 v4), .val (.int .i64 v5), .lst 11 v6 none v7, .lst 8 v8 none v9, .lst 5 v10 none v11] 0], .top, .top, .top, .top, .top, .top, .top, .top, .top, .top, .top, .top, .top, .top, .top, .top, .top, .top, .top, .top, .top, .top, .top, .top, .top, .top, .top, .top, .top, .top, .top, .top, .top, .top, .top, .top, .top, .top, .top, .top, .top, .top, .top, .top, .top, .top, .top, .top, .top, .top, .top, .top, .top, .top, .top, .top, .top, .top, .lst 11 v6 none v7, .val (.int .i64 v12), .val (.int .i64 v13), .top, .top, .top, .top, .top, .top, .top, .top, .top, .top, .top, .top, .top, .top, .top, .top, .top, .top, .top, .top, .top, .top, .top, .top, .top, .top, .top, .top, .top, .top, .top, .top, .top, .top, .top, .top, .top, .top, .top, .top, .top, .top, .top, .top, .top, .top, .top, .top, .top, .top, .top, .top, .top, .top, .top, .top, .top, .top, .top, .top, .top, .top, .top, .top, .top, .top, .top, .top, .top, .top, .top, .top, .top, .top, .top], [.dead]⟩
  (kBlock world.Right.G 0 (kSeq world.Right.G k0 (codeAt [1, 1, 1, 1, 1] (bodyOf Try.f15)) 0 (kFin world.Right.G Try.f15 tB.dec)))
theorem world.Right.l2_eq (k0 k1 : Nat) (v1 : Int) (v2 : Int) (v3 : Int) (v4 : Int) (v5 : Int) (v6 : Nat) (v7 : Nat → (Int × Int × Int × Int × Int × Int × Int × Int × Int × Int × (Nat × (Nat → List AV)))) (v8 : Nat) (v9 : Nat → (Int × Int × Int × Int × Int × Int × Int × Int)) (v10 : Nat) (v11 : Nat → (Int × Int × Int × Int × Int)) (v12 : Int) (v13 : Int) : world.Right.l2 k0 (k1 + 1) v1 v2 v3 v4 v5 v6 (fun i => RiiiiiiiiiiL2.enc (v7 i)) v8 (fun i => Riiiiiiii.enc (v9 i)) v10 (fun i => Riiiii.enc (v11 i)) v12 v13 =
  bif (decide (v13 < v12)) then
    bif ((decide (0 ≤ v13)) && (decide (v13 < ((v10 : Nat) : Int)))) then
    bif (decide ((v11 (Int.toNat v13)).1 ≥ (v11 (Int.toNat v13)).2.1)) then
      some false
    else
    bif (decide ((v11 (Int.toNat v13)).2.2.1 < 0)) then
      some false
    else
    bif (decide ((v11 (Int.toNat v13)).2.2.2.1 < 0)) then
      some false
    else
    (world.Right_3.f ((v11 (Int.toNat v13)).1, (v11 (Int.toNat v13)).2.1, (v1, v2, v3, v4, v5, (v6, (fun i => RiiiiiiiiiiL2.enc (v7 i))), (v8, (fun i => Riiiiiiii.enc (v9 i))), (v10, (fun i => Riiiii.enc (v11 i)))))).bind fun r7 =>
    bif (!r7) then
      some false
    else
    bif (decide (v13 > 0)) then
      bif ((decide (0 ≤ (IntKind.i64.wrap (v13 - 1)))) && (decide ((IntKind.i64.wrap (v13 - 1)) < ((v10 : Nat) : Int)))) then
      (world.order.f (((v11 (Int.toNat (IntKind.i64.wrap (v13 - 1)))).1, (v11 (Int.toNat (IntKind.i64.wrap (v13 - 1)))).2.1, (v11 (Int.toNat (IntKind.i64.wrap (v13 - 1)))).2.2.1, (v11 (Int.toNat (IntKind.i64.wrap (v13 - 1)))).2.2.2.1, (v11 (Int.toNat (IntKind.i64.wrap (v13 - 1)))).2.2.2.2), ((v11 (Int.toNat v13)).1, (v11 (Int.toNat v13)).2.1, (v11 (Int.toNat v13)).2.2.1, (v11 (Int.toNat v13)).2.2.2.1, (v11 (Int.toNat v13)).2.2.2.2))).bind fun r8 =>
      bif (decide (r8 ≥ 0)) then
        some false
      else
      world.Right.l2 k0 k1 v1 v2 v3 v4 v5 v6 (fun i => RiiiiiiiiiiL2.enc (v7 i)) v8 (fun i => Riiiiiiii.enc (v9 i)) v10 (fun i => Riiiii.enc (v11 i)) v12 (IntKind.i64.wrap (v13 + 1))
      else none
    else
    world.Right.l2 k0 k1 v1 v2 v3 v4 v5 v6 (fun i => RiiiiiiiiiiL2.enc (v7 i)) v8 (fun i => Riiiiiiii.enc (v9 i)) v10 (fun i => Riiiii.enc (v11 i)) v12 (IntKind.i64.wrap (v13 + 1))
    else none
  else
  some true := by kernel_rfl
theorem world.Right.l1_eq (k0 k1 : Nat) (v1 : Int) (v2 : Int) (v3 : Int) (v4 : Int) (v5 : Int) (v6 : Nat) (v7 : Nat → (Int × Int × Int × Int × Int × Int × Int × Int × Int × Int × (Nat × (Nat → List AV)))) (v8 : Nat) (v9 : Nat → (Int × Int × Int × Int × Int × Int × Int × Int)) (v10 : Nat) (v11 : Nat → (Int × Int × Int × Int × Int)) (v12 : Int) (v13 : Int) : world.Right.l1 k0 (k1 + 1) v1 v2 v3 v4 v5 v6 (fun i => RiiiiiiiiiiL2.enc (v7 i)) v8 (fun i => Riiiiiiii.enc (v9 i)) v10 (fun i => Riiiii.enc (v11 i)) v12 v13 =
  bif (decide (v13 < v12)) then
    bif ((decide (0 ≤ v13)) && (decide (v13 < ((v8 : Nat) : Int)))) then
    (world.RightJoint.f ((v9 (Int.toNat v13)).1, (v9 (Int.toNat v13)).2.1, (v9 (Int.toNat v13)).2.2.1, (v9 (Int.toNat v13)).2.2.2.1, (v9 (Int.toNat v13)).2.2.2.2.1, (v9 (Int.toNat v13)).2.2.2.2.2.1, (v9 (Int.toNat v13)).2.2.2.2.2.2.1, (v9 (Int.toNat v13)).2.2.2.2.2.2.2)).bind fun r5 =>
    bif (!r5) then
      some false
    else
    (world.Right_3.f ((v9 (Int.toNat v13)).2.1, (v9 (Int.toNat v13)).2.2.1, (v1, v2, v3, v4, v5, (v6, (fun i => RiiiiiiiiiiL2.enc (v7 i))), (v8, (fun i => Riiiiiiii.enc (v9 i))), (v10, (fun i => Riiiii.enc (v11 i)))))).bind fun r6 =>
    bif (!r6) then
      some false
    else
    world.Right.l1 k0 k1 v1 v2 v3 v4 v5 v6 (fun i => RiiiiiiiiiiL2.enc (v7 i)) v8 (fun i => Riiiiiiii.enc (v9 i)) v10 (fun i => Riiiii.enc (v11 i)) v12 (IntKind.i64.wrap (v13 + 1))
    else none
  else
  world.Right.l2 k0 k0 v1 v2 v3 v4 v5 v6 (fun i => RiiiiiiiiiiL2.enc (v7 i)) v8 (fun i => Riiiiiiii.enc (v9 i)) v10 (fun i => Riiiii.enc (v11 i)) ((v10 : Nat) : Int) 0 := by kernel_rfl
theorem world.Right.l0_eq (k0 k1 : Nat) (v1 : Int) (v2 : Int) (v3 : Int) (v4 : Int) (v5 : Int) (v6 : Nat) (v7 : Nat → (Int × Int × Int × Int × Int × Int × Int × Int × Int × Int × (Nat × (Nat → List AV)))) (v8 : Nat) (v9 : Nat → (Int × Int × Int × Int × Int × Int × Int × Int)) (v10 : Nat) (v11 : Nat → (Int × Int × Int × Int × Int)) (v12 : Int) (v13 : Int) : world.Right.l0 k0 (k1 + 1) v1 v2 v3 v4 v5 v6 (fun i => RiiiiiiiiiiL2.enc (v7 i)) v8 (fun i => Riiiiiiii.enc (v9 i)) v10 (fun i => Riiiii.enc (v11 i)) v12 v13 =
  bif (decide (v13 < v12)) then
    bif ((decide (0 ≤ v13)) && (decide (v13 < ((v6 : Nat) : Int)))) then
    (world.RightBody.f ((v7 (Int.toNat v13)).1, (v7 (Int.toNat v13)).2.1, (v7 (Int.toNat v13)).2.2.1, (v7 (Int.toNat v13)).2.2.2.1, (v7 (Int.toNat v13)).2.2.2.2.1, (v7 (Int.toNat v13)).2.2.2.2.2.1, (v7 (Int.toNat v13)).2.2.2.2.2.2.1, (v7 (Int.toNat v13)).2.2.2.2.2.2.2.1, (v7 (Int.toNat v13)).2.2.2.2.2.2.2.2.1, (v7 (Int.toNat v13)).2.2.2.2.2.2.2.2.2.1, ((v7 (Int.toNat v13)).2.2.2.2.2.2.2.2.2.2.1, (v7 (Int.toNat v13)).2.2.2.2.2.2.2.2.2.2.2))).bind fun r4 =>
    bif (!r4) then
      some false
    else
    world.Right.l0 k0 k1 v1 v2 v3 v4 v5 v6 (fun i => RiiiiiiiiiiL2.enc (v7 i)) v8 (fun i => Riiiiiiii.enc (v9 i)) v10 (fun i => Riiiii.enc (v11 i)) v12 (IntKind.i64.wrap (v13 + 1))
    else none
  else
  world.Right.l1 k0 k0 v1 v2 v3 v4 v5 v6 (fun i => RiiiiiiiiiiL2.enc (v7 i)) v8 (fun i => Riiiiiiii.enc (v9 i)) v10 (fun i => Riiiii.enc (v11 i)) ((v8 : Nat) : Int) 0 := by kernel_rfl
theorem world.Right.eq (k0 : Nat) (p0_0 : Int) (p0_1 : Int) (p0_2 : Int) (p0_3 : Int) (p0_4 : Int) (p0_5_n : Nat) (p0_5_g : Nat → (Int × Int × Int × Int × Int × Int × Int × Int × Int × Int × (Nat × (Nat → List AV)))) (p0_6_n : Nat) (p0_6_g : Nat → (Int × Int × Int × Int × Int × Int × Int × Int)) (p0_7_n : Nat) (p0_7_g : Nat → (Int × Int × Int × Int × Int)) : world.Right.g k0 (p0_0, p0_1, p0_2, p0_3, p0_4, (p0_5_n, (fun i => RiiiiiiiiiiL2.enc (p0_5_g i))), (p0_6_n, (fun i => Riiiiiiii.enc (p0_6_g i))), (p0_7_n, (fun i => Riiiii.enc (p0_7_g i)))) =
  bif (decide (p0_0 < 0)) then
    some false
  else
  bif (decide (p0_0 > 4611686018427387904)) then
    some false
  else
  bif (decide (p0_1 > 4611686018427387904)) then
    some false
  else
  bif (decide (p0_2 > 4611686018427387904)) then
    some false
  else
  bif (decide (((p0_5_n : Nat) : Int) > 1024)) then
    some false
  else
  bif (decide (((p0_6_n : Nat) : Int) > 1024)) then
    some false
  else
  (world.within.f ((p0_3, p0_4), 17592186044416)).bind fun r1 =>
  bif (!r1) then
    some false
  else
  (world.rising_Body.f ((p0_5_n, (fun i => RiiiiiiiiiiL2.enc (p0_5_g i))), p0_1, ())).bind fun r2 =>
  bif (!r2) then
    some false
  else
  (world.rising_Joint.f ((p0_6_n, (fun i => Riiiiiiii.enc (p0_6_g i))), p0_2, ())).bind fun r3 =>
  bif (!r3) then
    some false
  else
  world.Right.l0 k0 k0 p0_0 p0_1 p0_2 p0_3 p0_4 p0_5_n (fun i => RiiiiiiiiiiL2.enc (p0_5_g i)) p0_6_n (fun i => Riiiiiiii.enc (p0_6_g i)) p0_7_n (fun i => Riiiii.enc (p0_7_g i)) ((p0_5_n : Nat) : Int) 0 := by kernel_rfl
/-! ### bagatelle/bagatellelaw09.fit -/
noncomputable def law09.fit.cs : List (Nat × Fw.Summ) := [(9, world.New.s), (20, world.AddBody.s), (15, world.Right.s)]
theorem law09.fit.cs_ok : SumsOk Try.prog law09.fit.cs := .cons world.New.ok (.cons world.AddBody.ok (.cons world.Right.ok (.nil)))
def law09.fit.hs : List (Nat × LHint) := []
noncomputable def law09.fit.G : Ctx := ⟨Try.prog, sumAt law09.fit.cs, lookH law09.fit.hs, true⟩
noncomputable def law09.fit.f (x : Unit) : Option Bool := evF law09.fit.G 0 Try.f8 (tNil.enc x) tB.dec
noncomputable def law09.fit.s : Fw.Summ := .mk' tNil tB law09.fit.f
theorem law09.fit.ok : law09.fit.s.Ok Try.prog 8 :=
  summ_ok (hint := lookH law09.fit.hs) (fn := Try.f8) (fun x => 0) law09.fit.cs_ok (by kernel_rfl) (by kernel_rfl) (by kernel_rfl) (by kernel_rfl) tNil_ok tB_ok (fun _ => rfl)
theorem law09.fit.eq  : law09.fit.f () =
  (world.New.f ()).bind fun r1 =>
  (world.AddBody.f ((r1.1, r1.2.1, r1.2.2.1, r1.2.2.2.1, r1.2.2.2.2.1, (r1.2.2.2.2.2.1.1, (fun i => RiiiiiiiiiiL2.enc (r1.2.2.2.2.2.1.2 i))), (r1.2.2.2.2.2.2.1.1, (fun i => Riiiiiiii.enc (r1.2.2.2.2.2.2.1.2 i))), (r1.2.2.2.2.2.2.2.1, (fun i => Riiiii.enc (r1.2.2.2.2.2.2.2.2 i)))), (0, 0, 0, 0, 0, 0, 0, 4294967296, 1, 4294967296, (0, fun _ => Rii.enc (0, 0))))).bind fun r2 =>
  (world.AddBody.f ((r2.2.1, r2.2.2.1, r2.2.2.2.1, r2.2.2.2.2.1, r2.2.2.2.2.2.1, (r2.2.2.2.2.2.2.1.1, (fun i => RiiiiiiiiiiL2.enc (r2.2.2.2.2.2.2.1.2 i))), (r2.2.2.2.2.2.2.2.1.1, (fun i => Riiiiiiii.enc (r2.2.2.2.2.2.2.2.1.2 i))), (r2.2.2.2.2.2.2.2.2.1, (fun i => Riiiii.enc (r2.2.2.2.2.2.2.2.2.2 i)))), (0, 0, 0, 0, 0, 0, 0, 4294967296, 1, 4294967296, (0, fun _ => Rii.enc (0, 0))))).bind fun r3 =>
  bif (r2.1.2 == 0) then
    bif (r2.1.1 == 1) then
      bif (r3.1.1 == 2) then
        (world.Right.f (r3.2.1, r3.2.2.1, r3.2.2.2.1, r3.2.2.2.2.1, r3.2.2.2.2.2.1, (r3.2.2.2.2.2.2.1.1, (fun i => RiiiiiiiiiiL2.enc (r3.2.2.2.2.2.2.1.2 i))), (r3.2.2.2.2.2.2.2.1.1, (fun i => Riiiiiiii.enc (r3.2.2.2.2.2.2.2.1.2 i))), (r3.2.2.2.2.2.2.2.2.1, (fun i => Riiiii.enc (r3.2.2.2.2.2.2.2.2.2 i))))).bind fun r4 =>
        bif r4 then
          bif (((r3.2.2.2.2.2.2.1.1 : Nat) : Int) == 2) then
            (world.Right.f (0, 0, 0, 0, 0, (0, fun _ => RiiiiiiiiiiL2.enc (0, 0, 0, 0, 0, 0, 0, 0, 0, 0, (0, fun _ => []))), (0, fun _ => Riiiiiiii.enc (0, 0, 0, 0, 0, 0, 0, 0)), (0, fun _ => Riiiii.enc (0, 0, 0, 0, 0)))).bind fun r5 =>
            some (!r5)
          else
          some false
        else
        some false
      else
      some false
    else
    some false
  else
  some false := by kernel_rfl
/-! ### bagatelle/fix.Bring -/
noncomputable def fix.Bring.cs : List (Nat × Fw.Summ) := [(67, fix.whole.s)]
theorem fix.Bring.cs_ok : SumsOk Try.prog fix.Bring.cs := .cons fix.whole.ok (.nil)
def fix.Bring.hs : List (Nat × LHint) := []
noncomputable def fix.Bring.G : Ctx := ⟨Try.prog, sumAt fix.Bring.cs, lookH fix.Bring.hs, true⟩
noncomputable def fix.Bring.f (x : (Int × Int × Int)) : Option Int := evF fix.Bring.G 0 Try.f32 ((tCons (tI .i64) (tCons (tI .i64) (tOne (tI .i64)))).enc x) (tI .i64).dec
noncomputable def fix.Bring.s : Fw.Summ := .mk' (tCons (tI .i64) (tCons (tI .i64) (tOne (tI .i64)))) (tI .i64) fix.Bring.f
theorem fix.Bring.ok : fix.Bring.s.Ok Try.prog 32 :=
  summ_ok (hint := lookH fix.Bring.hs) (fn := Try.f32) (fun x => 0) fix.Bring.cs_ok (by kernel_rfl) (by kernel_rfl) (by kernel_rfl) (by kernel_rfl) (tCons_ok (tI_ok _) (tCons_ok (tI_ok _) (tOne_ok (tI_ok _)))) (tI_ok _) (fun _ => rfl)
theorem fix.Bring.eq (p0 : Int) (p1 : Int) (p2 : Int) : fix.Bring.f (p0, p1, p2) =
  (fix.whole.f p0).bind fun r1 =>
  some (if p2 < (if p1 > r1 then p1 else r1) then p2 else (if p1 > r1 then p1 else r1)) := by kernel_rfl
/-! ### bagatelle/vec.Bring -/
noncomputable def vec.Bring.cs : List (Nat × Fw.Summ) := [(32, fix.Bring.s)]
theorem vec.Bring.cs_ok : SumsOk Try.prog vec.Bring.cs := .cons fix.Bring.ok (.nil)
def vec.Bring.hs : List (Nat × LHint) := []
noncomputable def vec.Bring.G : Ctx := ⟨Try.prog, sumAt vec.Bring.cs, lookH vec.Bring.hs, true⟩
noncomputable def vec.Bring.f (x : ((Int × Int) × Int)) : Option (Int × Int) := evF vec.Bring.G 0 Try.f28 ((tCons (tG (tCons (tI .i64) (tOne (tI .i64)))) (tOne (tI .i64))).enc x) (tG (tCons (tI .i64) (tOne (tI .i64)))).dec
noncomputable def vec.Bring.s : Fw.Summ := .mk' (tCons (tG (tCons (tI .i64) (tOne (tI .i64)))) (tOne (tI .i64))) (tG (tCons (tI .i64) (tOne (tI .i64)))) vec.Bring.f
theorem vec.Bring.ok : vec.Bring.s.Ok Try.prog 28 :=
  summ_ok (hint := lookH vec.Bring.hs) (fn := Try.f28) (fun x => 0) vec.Bring.cs_ok (by kernel_rfl) (by kernel_rfl) (by kernel_rfl) (by kernel_rfl) (tCons_ok (tG_ok (tCons_ok (tI_ok _) (tOne_ok (tI_ok _)))) (tOne_ok (tI_ok _))) (tG_ok (tCons_ok (tI_ok _) (tOne_ok (tI_ok _)))) (fun _ => rfl)
theorem vec.Bring.eq (p0_0 : Int) (p0_1 : Int) (p1 : Int) : vec.Bring.f ((p0_0, p0_1), p1) =
  (fix.Bring.f (p0_0, (IntKind.i64.wrap (0 - p1)), p1)).bind fun r1 =>
  (fix.Bring.f (p0_1, (IntKind.i64.wrap (0 - p1)), p1)).bind fun r2 =>
  some (r1, r2) := by kernel_rfl
/-! ### (bagatelle/bagatellelaw09.Deed).Joint -/
noncomputable def law09.Deed.Joint.cs : List (Nat × Fw.Summ) := [(28, vec.Bring.s)]
theorem law09.Deed.Joint.cs_ok : SumsOk Try.prog law09.Deed.Joint.cs := .cons vec.Bring.ok (.nil)
def law09.Deed.Joint.hs : List (Nat × LHint) := []
noncomputable def law09.Deed.Joint.G : Ctx := ⟨Try.prog, sumAt law09.Deed.Joint.cs, lookH law09.Deed.Joint.hs, true⟩
noncomputable def law09.Deed.Joint.f (x : (Int × Int × Int × Int × Int × Int × Int × Int × Int × Int × Int × Int × Int × Int × Int × Int × Int × Int × Int × Int × Int × Int × Int × Int × Int × Int × Int × Int × Int × (Nat × (Nat → List AV)))) : Option (Int × Int × Int × Int × Int × Int × Int × Int) := evF law09.Deed.Joint.G 0 Try.f11 ((tOne (tG (tCons (tI .i64) (tCons (tI .i64) (tCons (tI .i64) (tCons (tI .i64) (tCons (tI .i64) (tCons (tI .i64) (tCons (tI .i64) (tCons (tI .i64) (tCons (tI .i64) (tCons (tI .i64) (tCons (tI .i64) (tCons (tI .i64) (tCons (tI .i64) (tCons (tI .i64) (tCons (tI .i64) (tCons (tI .i64) (tCons (tI .i64) (tCons (tI .i64) (tCons (tI .i64) (tCons (tI .i64) (tCons (tI .i64) (tCons (tI .i64) (tCons (tI .i64) (tCons (tI .i64) (tCons (tI .i64) (tCons (tI .i64) (tCons (tI .i64) (tCons (tI .i64) (tCons (tI .i64) (tOne (tLz 2 (Rii.enc (0, 0))))))))))))))))))))))))))))))))))).enc x) (tG (tCons (tI .i64) (tCons (tI .i64) (tCons (tI .i64) (tCons (tI .i64) (tCons (tI .i64) (tCons (tI .i64) (tCons (tI .i64) (tOne (tI .i64)))))))))).dec
noncomputable def law09.Deed.Joint.s : Fw.Summ := .mk' (tOne (tG (tCons (tI .i64) (tCons (tI .i64) (tCons (tI .i64) (tCons (tI .i64) (tCons (tI .i64) (tCons (tI .i64) (tCons (tI .i64) (tCons (tI .i64) (tCons (tI .i64) (tCons (tI .i64) (tCons (tI .i64) (tCons (tI .i64) (tCons (tI .i64) (tCons (tI .i64) (tCons (tI .i64) (tCons (tI .i64) (tCons (tI .i64) (tCons (tI .i64) (tCons (tI .i64) (tCons (tI .i64) (tCons (tI .i64) (tCons (tI .i64) (tCons (tI .i64) (tCons (tI .i64) (tCons (tI .i64) (tCons (tI .i64) (tCons (tI .i64) (tCons (tI .i64) (tCons (tI .i64) (tOne (tLz 2 (Rii.enc (0, 0))))))))))))))))))))))))))))))))))) (tG (tCons (tI .i64) (tCons (tI .i64) (tCons (tI .i64) (tCons (tI .i64) (tCons (tI .i64) (tCons (tI .i64) (tCons (tI .i64) (tOne (tI .i64)))))))))) law09.Deed.Joint.f
theorem law09.Deed.Joint.ok : law09.Deed.Joint.s.Ok Try.prog 11 :=
  summ_ok (hint := lookH law09.Deed.Joint.hs) (fn := Try.f11) (fun x => 0) law09.Deed.Joint.cs_ok (by kernel_rfl) (by kernel_rfl) (by kernel_rfl) (by kernel_rfl) (tOne_ok (tG_ok (tCons_ok (tI_ok _) (tCons_ok (tI_ok _) (tCons_ok (tI_ok _) (tCons_ok (tI_ok _) (tCons_ok (tI_ok _) (tCons_ok (tI_ok _) (tCons_ok (tI_ok _) (tCons_ok (tI_ok _) (tCons_ok (tI_ok _) (tCons_ok (tI_ok _) (tCons_ok (tI_ok _) (tCons_ok (tI_ok _) (tCons_ok (tI_ok _) (tCons_ok (tI_ok _) (tCons_ok (tI_ok _) (tCons_ok (tI_ok _) (tCons_ok (tI_ok _) (tCons_ok (tI_ok _) (tCons_ok (tI_ok _) (tCons_ok (tI_ok _) (tCons_ok (tI_ok _) (tCons_ok (tI_ok _) (tCons_ok (tI_ok _) (tCons_ok (tI_ok _) (tCons_ok (tI_ok _) (tCons_ok (tI_ok _) (tCons_ok (tI_ok _) (tCons_ok (tI_ok _) (tCons_ok (tI_ok _) (tOne_ok (tLz_ok _ _))))))))))))))))))))))))))))))))) (tG_ok (tCons_ok (tI_ok _) (tCons_ok (tI_ok _) (tCons_ok (tI_ok _) (tCons_ok (tI_ok _) (tCons_ok (tI_ok _) (tCons_ok (tI_ok _) (tCons_ok (tI_ok _) (tOne_ok (tI_ok _)))))))))) (fun _ => rfl)
theorem law09.Deed.Joint.eq (p0_0 : Int) (p0_1 : Int) (p0_2 : Int) (p0_3 : Int) (p0_4 : Int) (p0_5 : Int) (p0_6 : Int) (p0_7 : Int) (p0_8 : Int) (p0_9 : Int) (p0_10 : Int) (p0_11 : Int) (p0_12 : Int) (p0_13 : Int) (p0_14 : Int) (p0_15 : Int) (p0_16 : Int) (p0_17 : Int) (p0_18 : Int) (p0_19 : Int) (p0_20 : Int) (p0_21 : Int) (p0_22 : Int) (p0_23 : Int) (p0_24 : Int) (p0_25 : Int) (p0_26 : Int) (p0_27 : Int) (p0_28 : Int) (p0_29_n : Nat) (p0_29_g : Nat → (Int × Int)) : law09.Deed.Joint.f (p0_0, p0_1, p0_2, p0_3, p0_4, p0_5, p0_6, p0_7, p0_8, p0_9, p0_10, p0_11, p0_12, p0_13, p0_14, p0_15, p0_16, p0_17, p0_18, p0_19, p0_20, p0_21, p0_22, p0_23, p0_24, p0_25, p0_26, p0_27, p0_28, (p0_29_n, (fun i => Rii.enc (p0_29_g i)))) =
  (vec.Bring.f ((p0_14, p0_15), 17179869184)).bind fun r1 =>
  (vec.Bring.f ((p0_16, p0_17), 17179869184)).bind fun r2 =>
  some (0, (Go.bits .and .i64 p0_12 15), (Go.bits .and .i64 p0_13 15), r1.1, r1.2, r2.1, r2.2, p0_18) := by kernel_rfl
/-! ### slices.Clip[[]bagatelle/api.Joint,bagatelle/api.Joint] -/
noncomputable def slices.Clip_lJoint_Joint.cs : List (Nat × Fw.Summ) := []
theorem slices.Clip_lJoint_Joint.cs_ok : SumsOk Try.prog slices.Clip_lJoint_Joint.cs := .nil
def slices.Clip_lJoint_Joint.hs : List (Nat × LHint) := []
noncomputable def slices.Clip_lJoint_Joint.G : Ctx := ⟨Try.prog, sumAt slices.Clip_lJoint_Joint.cs, lookH slices.Clip_lJoint_Joint.hs, true⟩
noncomputable def slices.Clip_lJoint_Joint.f (x : (Nat × (Nat → List AV))) : Option (Nat × (Nat → (Int × Int × Int × Int × Int × Int × Int × Int))) := evF slices.Clip_lJoint_Joint.G 0 Try.f61 ((tOne (tLz 8 (Riiiiiiii.enc (0, 0, 0, 0, 0, 0, 0, 0)))).enc x) (tTC Riiiiiiii 8 (0, 0, 0, 0, 0, 0, 0, 0)).dec
noncomputable def slices.Clip_lJoint_Joint.s : Fw.Summ := .mk' (tOne (tLz 8 (Riiiiiiii.enc (0, 0, 0, 0, 0, 0, 0, 0)))) (tTC Riiiiiiii 8 (0, 0, 0, 0, 0, 0, 0, 0)) slices.Clip_lJoint_Joint.f
theorem slices.Clip_lJoint_Joint.ok : slices.Clip_lJoint_Joint.s.Ok Try.prog 61 :=
  summ_ok (hint := lookH slices.Clip_lJoint_Joint.hs) (fn := Try.f61) (fun x => 0) slices.Clip_lJoint_Joint.cs_ok (by kernel_rfl) (by kernel_rfl) (by kernel_rfl) (by kernel_rfl) (tOne_ok (tLz_ok _ _)) (tTC_ok Riiiiiiii_ok _ _) (fun _ => rfl)
theorem slices.Clip_lJoint_Joint.eq (p0_n : Nat) (p0_g : Nat → (Int × Int × Int × Int × Int × Int × Int × Int)) : slices.Clip_lJoint_Joint.f (p0_n, (fun i => Riiiiiiii.enc (p0_g i))) =
  bif (((decide (0 ≤ ((p0_n : Nat) : Int))) && (decide (((p0_n : Nat) : Int) ≤ ((p0_n : Nat) : Int)))) && (decide (((p0_n : Nat) : Int) ≤ ((p0_n : Nat) : Int)))) then
  (tTC Riiiiiiii 8 (0, 0, 0, 0, 0, 0, 0, 0)).dec (.lst 8 (Int.toNat ((p0_n : Nat) : Int)) (some (Int.toNat ((p0_n : Nat) : Int))) (fun i => Riiiiiiii.enc (p0_g i)))
  else none := by kernel_rfl
/-! ### bagatelle/world.AddJoint -/
noncomputable def world.AddJoint.cs : List (Nat × Fw.Summ) := [(23, world.RightJoint.s), (16, world.Body.s), (61, slices.Clip_lJoint_Joint.s)]
theorem world.AddJoint.cs_ok : SumsOk Try.prog world.AddJoint.cs := .cons world.RightJoint.ok (.cons world.Body.ok (.cons slices.Clip_lJoint_Joint.ok (.nil)))
noncomputable def world.AddJoint.G : Ctx := ⟨Try.prog, sumAt world.AddJoint.cs, fun _ => { unroll := true }, true⟩
noncomputable def world.AddJoint.f (x : (Int × Int × Int × Int × Int × (Nat × (Nat → List AV)) × (Nat × (Nat → List AV)) × (Nat × (Nat → List AV))) × (Int × Int × Int × Int × Int × Int × Int × Int)) : Option ((Int × Int) × (Int × Int × Int × Int × Int × (Nat × (Nat → (Int × Int × Int × Int × Int × Int × Int × Int × Int × Int × (Nat × (Nat → List AV))))) × (Nat × (Nat → (Int × Int × Int × Int × Int × Int × Int × Int))) × (Nat × (Nat → (Int × Int × Int × Int × Int))))) := evG world.AddJoint.G Try.f26 31 ((tCons (tI .i64) (tCons (tI .i64) (tCons (tI .i64) (tCons (tI .i64) (tCons (tI .i64) (tCons (tLz 11 (RiiiiiiiiiiL2.enc (0, 0, 0, 0, 0, 0, 0, 0, 0, 0, (0, fun _ => [])))) (tCons (tLz 8 (Riiiiiiii.enc (0, 0, 0, 0, 0, 0, 0, 0))) (tOne (tLz 5 (Riiiii.enc (0, 0, 0, 0, 0))))))))))).enc x.1) ((tOne (tG (tCons (tI .i64) (tCons (tI .i64) (tCons (tI .i64) (tCons (tI .i64) (tCons (tI .i64) (tCons (tI .i64) (tCons (tI .i64) (tOne (tI .i64))))))))))).enc x.2) (outD (tT (tCons (tI .i64) (tOne (tI .i64)))) (tCons (tI .i64) (tCons (tI .i64) (tCons (tI .i64) (tCons (tI .i64) (tCons (tI .i64) (tCons (tTL RiiiiiiiiiiL2 11 (0, 0, 0, 0, 0, 0, 0, 0, 0, 0, (0, fun _ => []))) (tCons (tTL Riiiiiiii 8 (0, 0, 0, 0, 0, 0, 0, 0)) (tOne (tTL Riiiii 5 (0, 0, 0, 0, 0)))))))))))
noncomputable def world.AddJoint.s : Fw.Summ := .mkO2 31 (tCons (tI .i64) (tCons (tI .i64) (tCons (tI .i64) (tCons (tI .i64) (tCons (tI .i64) (tCons (tLz 11 (RiiiiiiiiiiL2.enc (0, 0, 0, 0, 0, 0, 0, 0, 0, 0, (0, fun _ => [])))) (tCons (tLz 8 (Riiiiiiii.enc (0, 0, 0, 0, 0, 0, 0, 0))) (tOne (tLz 5 (Riiiii.enc (0, 0, 0, 0, 0))))))))))) (tCons (tI .i64) (tCons (tI .i64) (tCons (tI .i64) (tCons (tI .i64) (tCons (tI .i64) (tCons (tTL RiiiiiiiiiiL2 11 (0, 0, 0, 0, 0, 0, 0, 0, 0, 0, (0, fun _ => []))) (tCons (tTL Riiiiiiii 8 (0, 0, 0, 0, 0, 0, 0, 0)) (tOne (tTL Riiiii 5 (0, 0, 0, 0, 0)))))))))) (tOne (tG (tCons (tI .i64) (tCons (tI .i64) (tCons (tI .i64) (tCons (tI .i64) (tCons (tI .i64) (tCons (tI .i64) (tCons (tI .i64) (tOne (tI .i64))))))))))) (tT (tCons (tI .i64) (tOne (tI .i64)))) world.AddJoint.f
theorem world.AddJoint.ok : world.AddJoint.s.Ok Try.prog 26 :=
  osumm2_ok (fn := Try.f26) world.AddJoint.cs_ok (by kernel_rfl) (by kernel_rfl) (by kernel_rfl) (by kernel_rfl) (tCons_ok (tI_ok _) (tCons_ok (tI_ok _) (tCons_ok (tI_ok _) (tCons_ok (tI_ok _) (tCons_ok (tI_ok _) (tCons_ok (tLz_ok _ _) (tCons_ok (tLz_ok _ _) (tOne_ok (tLz_ok _ _))))))))) (tCons_ok (tI_ok _) (tCons_ok (tI_ok _) (tCons_ok (tI_ok _) (tCons_ok (tI_ok _) (tCons_ok (tI_ok _) (tCons_ok (tTL_ok RiiiiiiiiiiL2_ok _ _) (tCons_ok (tTL_ok Riiiiiiii_ok _ _) (tOne_ok (tTL_ok Riiiii_ok _ _))))))))) (tOne_ok (tG_ok (tCons_ok (tI_ok _) (tCons_ok (tI_ok _) (tCons_ok (tI_ok _) (tCons_ok (tI_ok _) (tCons_ok (tI_ok _) (tCons_ok (tI_ok _) (tCons_ok (tI_ok _) (tOne_ok (tI_ok _))))))))))) (tT_ok (tCons_ok (tI_ok _) (tOne_ok (tI_ok _)))) (fun _ => rfl)
theorem world.AddJoint.eq (o_0 : Int) (o_1 : Int) (o_2 : Int) (o_3 : Int) (o_4 : Int) (o_5_n : Nat) (o_5_g : Nat → (Int × Int × Int × Int × Int × Int × Int × Int × Int × Int × (Nat × (Nat → List AV)))) (o_6_n : Nat) (o_6_g : Nat → (Int × Int × Int × Int × Int × Int × Int × Int)) (o_7_n : Nat) (o_7_g : Nat → (Int × Int × Int × Int × Int)) (p0_0 : Int) (p0_1 : Int) (p0_2 : Int) (p0_3 : Int) (p0_4 : Int) (p0_5 : Int) (p0_6 : Int) (p0_7 : Int) : world.AddJoint.f ((o_0, o_1, o_2, o_3, o_4, (o_5_n, (fun i => RiiiiiiiiiiL2.enc (o_5_g i))), (o_6_n, (fun i => Riiiiiiii.enc (o_6_g i))), (o_7_n, (fun i => Riiiii.enc (o_7_g i)))), (p0_0, p0_1, p0_2, p0_3, p0_4, p0_5, p0_6, p0_7)) =
  (world.RightJoint.f (p0_0, p0_1, p0_2, p0_3, p0_4, p0_5, p0_6, p0_7)).bind fun r1 =>
  bif (!r1) then
    outD (tT (tCons (tI .i64) (tOne (tI .i64)))) (tCons (tI .i64) (tCons (tI .i64) (tCons (tI .i64) (tCons (tI .i64) (tCons (tI .i64) (tCons (tTL RiiiiiiiiiiL2 11 (0, 0, 0, 0, 0, 0, 0, 0, 0, 0, (0, fun _ => []))) (tCons (tTL Riiiiiiii 8 (0, 0, 0, 0, 0, 0, 0, 0)) (tOne (tTL Riiiii 5 (0, 0, 0, 0, 0)))))))))) (.tup [.val (.int .i64 0), .val (.int .i64 2)]) [.val (.int .i64 o_0), .val (.int .i64 o_1), .val (.int .i64 o_2), .val (.int .i64 o_3), .val (.int .i64 o_4), .lst 11 o_5_n none (fun i => RiiiiiiiiiiL2.enc (o_5_g i)), .lst 8 o_6_n none (fun i => Riiiiiiii.enc (o_6_g i)), .lst 5 o_7_n none (fun i => Riiiii.enc (o_7_g i))]
  else
  (world.Body.f ((o_0, o_1, o_2, o_3, o_4, (o_5_n, (fun i => RiiiiiiiiiiL2.enc (o_5_g i))), (o_6_n, (fun i => Riiiiiiii.enc (o_6_g i))), (o_7_n, (fun i => Riiiii.enc (o_7_g i)))), p0_1)).bind fun r2 =>
  (world.Body.f ((o_0, o_1, o_2, o_3, o_4, (o_5_n, (fun i => RiiiiiiiiiiL2.enc (o_5_g i))), (o_6_n, (fun i => Riiiiiiii.enc (o_6_g i))), (o_7_n, (fun i => Riiiii.enc (o_7_g i)))), p0_2)).bind fun r3 =>
  bif (!r2.2) then
    outD (tT (tCons (tI .i64) (tOne (tI .i64)))) (tCons (tI .i64) (tCons (tI .i64) (tCons (tI .i64) (tCons (tI .i64) (tCons (tI .i64) (tCons (tTL RiiiiiiiiiiL2 11 (0, 0, 0, 0, 0, 0, 0, 0, 0, 0, (0, fun _ => []))) (tCons (tTL Riiiiiiii 8 (0, 0, 0, 0, 0, 0, 0, 0)) (tOne (tTL Riiiii 5 (0, 0, 0, 0, 0)))))))))) (.tup [.val (.int .i64 0), .val (.int .i64 4)]) [.val (.int .i64 o_0), .val (.int .i64 o_1), .val (.int .i64 o_2), .val (.int .i64 o_3), .val (.int .i64 o_4), .lst 11 o_5_n none (fun i => RiiiiiiiiiiL2.enc (o_5_g i)), .lst 8 o_6_n none (fun i => Riiiiiiii.enc (o_6_g i)), .lst 5 o_7_n none (fun i => Riiiii.enc (o_7_g i))]
  else
  bif (!r3.2) then
    outD (tT (tCons (tI .i64) (tOne (tI .i64)))) (tCons (tI .i64) (tCons (tI .i64) (tCons (tI .i64) (tCons (tI .i64) (tCons (tI .i64) (tCons (tTL RiiiiiiiiiiL2 11 (0, 0, 0, 0, 0, 0, 0, 0, 0, 0, (0, fun _ => []))) (tCons (tTL Riiiiiiii 8 (0, 0, 0, 0, 0, 0, 0, 0)) (tOne (tTL Riiiii 5 (0, 0, 0, 0, 0)))))))))) (.tup [.val (.int .i64 0), .val (.int .i64 4)]) [.val (.int .i64 o_0), .val (.int .i64 o_1), .val (.int .i64 o_2), .val (.int .i64 o_3), .val (.int .i64 o_4), .lst 11 o_5_n none (fun i => RiiiiiiiiiiL2.enc (o_5_g i)), .lst 8 o_6_n none (fun i => Riiiiiiii.enc (o_6_g i)), .lst 5 o_7_n none (fun i => Riiiii.enc (o_7_g i))]
  else
  bif (decide (((o_6_n : Nat) : Int) ≥ 1024)) then
    outD (tT (tCons (tI .i64) (tOne (tI .i64)))) (tCons (tI .i64) (tCons (tI .i64) (tCons (tI .i64) (tCons (tI .i64) (tCons (tI .i64) (tCons (tTL RiiiiiiiiiiL2 11 (0, 0, 0, 0, 0, 0, 0, 0, 0, 0, (0, fun _ => []))) (tCons (tTL Riiiiiiii 8 (0, 0, 0, 0, 0, 0, 0, 0)) (tOne (tTL Riiiii 5 (0, 0, 0, 0, 0)))))))))) (.tup [.val (.int .i64 0), .val (.int .i64 3)]) [.val (.int .i64 o_0), .val (.int .i64 o_1), .val (.int .i64 o_2), .val (.int .i64 o_3), .val (.int .i64 o_4), .lst 11 o_5_n none (fun i => RiiiiiiiiiiL2.enc (o_5_g i)), .lst 8 o_6_n none (fun i => Riiiiiiii.enc (o_6_g i)), .lst 5 o_7_n none (fun i => Riiiii.enc (o_7_g i))]
  else
  bif (decide (o_2 ≥ 4611686018427387904)) then
    outD (tT (tCons (tI .i64) (tOne (tI .i64)))) (tCons (tI .i64) (tCons (tI .i64) (tCons (tI .i64) (tCons (tI .i64) (tCons (tI .i64) (tCons (tTL RiiiiiiiiiiL2 11 (0, 0, 0, 0, 0, 0, 0, 0, 0, 0, (0, fun _ => []))) (tCons (tTL Riiiiiiii 8 (0, 0, 0, 0, 0, 0, 0, 0)) (tOne (tTL Riiiii 5 (0, 0, 0, 0, 0)))))))))) (.tup [.val (.int .i64 0), .val (.int .i64 3)]) [.val (.int .i64 o_0), .val (.int .i64 o_1), .val (.int .i64 o_2), .val (.int .i64 o_3), .val (.int .i64 o_4), .lst 11 o_5_n none (fun i => RiiiiiiiiiiL2.enc (o_5_g i)), .lst 8 o_6_n none (fun i => Riiiiiiii.enc (o_6_g i)), .lst 5 o_7_n none (fun i => Riiiii.enc (o_7_g i))]
  else
  (slices.Clip_lJoint_Joint.f (o_6_n, (fun i => Riiiiiiii.enc (o_6_g i)))).bind fun r4 =>
  bif ((decide (r4.1 ≤ r4.1)) && (decide ((r4.1 + 1) * 64 ≤ 140737488355328))) then
  outD (tT (tCons (tI .i64) (tOne (tI .i64)))) (tCons (tI .i64) (tCons (tI .i64) (tCons (tI .i64) (tCons (tI .i64) (tCons (tI .i64) (tCons (tTL RiiiiiiiiiiL2 11 (0, 0, 0, 0, 0, 0, 0, 0, 0, 0, (0, fun _ => []))) (tCons (tTL Riiiiiiii 8 (0, 0, 0, 0, 0, 0, 0, 0)) (tOne (tTL Riiiii 5 (0, 0, 0, 0, 0)))))))))) (.tup [.val (.int .i64 o_2), .val (.int .i64 0)]) [.val (.int .i64 o_0), .val (.int .i64 o_1), .val (.int .i64 (IntKind.i64.wrap (o_2 + 1))), .val (.int .i64 o_3), .val (.int .i64 o_4), .lst 11 o_5_n none (fun i => RiiiiiiiiiiL2.enc (o_5_g i)), .lst 8 (r4.1 + 1) none (fun i => cloL (if i = r4.1 then Riiiiiiii.enc (o_2, p0_1, p0_2, p0_3, p0_4, p0_5, p0_6, p0_7) else Riiiiiiii.enc (r4.2 i))), .lst 5 o_7_n none (fun i => Riiiii.enc (o_7_g i))]
  else none := by kernel_rfl
/-! ### slices.Clone[[]bagatelle/api.Body,bagatelle/api.Body] -/
noncomputable def slices.Clone_lBody_Body.f (x : (Nat × (Nat → List AV))) : Option (Nat × (Nat → (Int × Int × Int × Int × Int × Int × Int × Int × Int × Int × (Nat × (Nat → List AV))))) := cloneF (RowT.mk RiiiiiiiiiiL2 43 11 (0, 0, 0, 0, 0, 0, 0, 0, 0, 0, (0, fun _ => []))) 104 [.val (.int .i64 0), .val (.int .i64 0), .val (.int .i64 0), .val (.int .i64 0), .val (.int .i64 0), .val (.int .i64 0), .val (.int .i64 0), .val (.int .i64 0), .val (.int .i64 0), .val (.int .i64 0), .val (.slice none 0 0)] x
noncomputable def slices.Clone_lBody_Body.s : Fw.Summ := .mkB (tOne (tL 11)) (RowT.mk RiiiiiiiiiiL2 43 11 (0, 0, 0, 0, 0, 0, 0, 0, 0, 0, (0, fun _ => []))) slices.Clone_lBody_Body.f
theorem slices.Clone_lBody_Body.ok : slices.Clone_lBody_Body.s.Ok Try.prog 54 :=
  clone_ok (U := (RowT.mk RiiiiiiiiiiL2 43 11 (0, 0, 0, 0, 0, 0, 0, 0, 0, 0, (0, fun _ => [])))) (y := 104) (zr := [.val (.int .i64 0), .val (.int .i64 0), .val (.int .i64 0), .val (.int .i64 0), .val (.int .i64 0), .val (.int .i64 0), .val (.int .i64 0), .val (.int .i64 0), .val (.int .i64 0), .val (.int .i64 0), .val (.slice none 0 0)]) (fn := Try.f54) (by kernel_rfl) (by kernel_rfl) (by kernel_rfl) (by kernel_rfl) RiiiiiiiiiiL2_ok (by kernel_rfl) (fun m g => by kernel_rfl) (fun q c => by kernel_rfl)
theorem slices.Clone_lBody_Body.eq (p0_n : Nat) (p0_g : Nat → (Int × Int × Int × Int × Int × Int × Int × Int × Int × Int × (Nat × (Nat → List AV)))) : slices.Clone_lBody_Body.f (p0_n, (fun i => RiiiiiiiiiiL2.enc (p0_g i))) =
  bif decide (p0_n * 104 ≤ 140737488355328) then some (p0_n, p0_g) else none := cloneF_typed RiiiiiiiiiiL2_clo RiiiiiiiiiiL2_dec 104 _ p0_n p0_g
/-! ### slices.Clone[[]bagatelle/api.Joint,bagatelle/api.Joint] -/
noncomputable def slices.Clone_lJoint_Joint.f (x : (Nat × (Nat → List AV))) : Option (Nat × (Nat → (Int × Int × Int × Int × Int × Int × Int × Int))) := cloneF (RowT.mk Riiiiiiii 51 8 (0, 0, 0, 0, 0, 0, 0, 0)) 64 [.val (.int .i64 0), .val (.int .i64 0), .val (.int .i64 0), .val (.int .i64 0), .val (.int .i64 0), .val (.int .i64 0), .val (.int .i64 0), .val (.int .i64 0)] x
noncomputable def slices.Clone_lJoint_Joint.s : Fw.Summ := .mkB (tOne (tL 8)) (RowT.mk Riiiiiiii 51 8 (0, 0, 0, 0, 0, 0, 0, 0)) slices.Clone_lJoint_Joint.f
theorem slices.Clone_lJoint_Joint.ok : slices.Clone_lJoint_Joint.s.Ok Try.prog 55 :=
  clone_ok (U := (RowT.mk Riiiiiiii 51 8 (0, 0, 0, 0, 0, 0, 0, 0))) (y := 64) (zr := [.val (.int .i64 0), .val (.int .i64 0), .val (.int .i64 0), .val (.int .i64 0), .val (.int .i64 0), .val (.int .i64 0), .val (.int .i64 0), .val (.int .i64 0)]) (fn := Try.f55) (by kernel_rfl) (by kernel_rfl) (by kernel_rfl) (by kernel_rfl) Riiiiiiii_ok (by kernel_rfl) (fun m g => by kernel_rfl) (fun q c => by kernel_rfl)
theorem slices.Clone_lJoint_Joint.eq (p0_n : Nat) (p0_g : Nat → (Int × Int × Int × Int × Int × Int × Int × Int)) : slices.Clone_lJoint_Joint.f (p0_n, (fun i => Riiiiiiii.enc (p0_g i))) =
  bif decide (p0_n * 64 ≤ 140737488355328) then some (p0_n, p0_g) else none := cloneF_typed Riiiiiiii_clo Riiiiiiii_dec 64 _ p0_n p0_g
/-! ### slices.Clone[[]bagatelle/api.Contact,bagatelle/api.Contact] -/
noncomputable def slices.Clone_lContact_Contact.f (x : (Nat × (Nat → List AV))) : Option (Nat × (Nat → (Int × Int × Int × Int × Int))) := cloneF (RowT.mk Riiiii 69 5 (0, 0, 0, 0, 0)) 40 [.val (.int .i64 0), .val (.int .i64 0), .val (.int .i64 0), .val (.int .i64 0), .val (.int .i64 0)] x
noncomputable def slices.Clone_lContact_Contact.s : Fw.Summ := .mkB (tOne (tL 5)) (RowT.mk Riiiii 69 5 (0, 0, 0, 0, 0)) slices.Clone_lContact_Contact.f
theorem slices.Clone_lContact_Contact.ok : slices.Clone_lContact_Contact.s.Ok Try.prog 56 :=
  clone_ok (U := (RowT.mk Riiiii 69 5 (0, 0, 0, 0, 0))) (y := 40) (zr := [.val (.int .i64 0), .val (.int .i64 0), .val (.int .i64 0), .val (.int .i64 0), .val (.int .i64 0)]) (fn := Try.f56) (by kernel_rfl) (by kernel_rfl) (by kernel_rfl) (by kernel_rfl) Riiiii_ok (by kernel_rfl) (fun m g => by kernel_rfl) (fun q c => by kernel_rfl)
theorem slices.Clone_lContact_Contact.eq (p0_n : Nat) (p0_g : Nat → (Int × Int × Int × Int × Int)) : slices.Clone_lContact_Contact.f (p0_n, (fun i => Riiiii.enc (p0_g i))) =
  bif decide (p0_n * 40 ≤ 140737488355328) then some (p0_n, p0_g) else none := cloneF_typed Riiiii_clo Riiiii_dec 40 _ p0_n p0_g
/-! ### bagatelle/world.RemoveBody$1 -/
noncomputable def world.RemoveBody_1.cs : List (Nat × Fw.Summ) := []
theorem world.RemoveBody_1.cs_ok : SumsOk Try.prog world.RemoveBody_1.cs := .nil
def world.RemoveBody_1.hs : List (Nat × LHint) := []
noncomputable def world.RemoveBody_1.G : Ctx := ⟨Try.prog, sumAt world.RemoveBody_1.cs, lookH world.RemoveBody_1.hs, true⟩
noncomputable def world.RemoveBody_1.f (x : ((Int × Int × Int × Int × Int × Int × Int × Int × Int × Int × (Nat × (Nat → List AV))) × Int)) : Option Bool := evF world.RemoveBody_1.G 0 Try.f45 ((tCons (tG (tCons (tI .i64) (tCons (tI .i64) (tCons (tI .i64) (tCons (tI .i64) (tCons (tI .i64) (tCons (tI .i64) (tCons (tI .i64) (tCons (tI .i64) (tCons (tI .i64) (tCons (tI .i64) (tOne (tLz 2 (Rii.enc (0, 0))))))))))))))) (tOne (tP (tOne (tI .i64))))).enc x) tB.dec
noncomputable def world.RemoveBody_1.s : Fw.Summ := .mk' (tCons (tG (tCons (tI .i64) (tCons (tI .i64) (tCons (tI .i64) (tCons (tI .i64) (tCons (tI .i64) (tCons (tI .i64) (tCons (tI .i64) (tCons (tI .i64) (tCons (tI .i64) (tCons (tI .i64) (tOne (tLz 2 (Rii.enc (0, 0))))))))))))))) (tOne (tP (tOne (tI .i64))))) tB world.RemoveBody_1.f
theorem world.RemoveBody_1.ok : world.RemoveBody_1.s.Ok Try.prog 45 :=
  summ_ok (hint := lookH world.RemoveBody_1.hs) (fn := Try.f45) (fun x => 0) world.RemoveBody_1.cs_ok (by kernel_rfl) (by kernel_rfl) (by kernel_rfl) (by kernel_rfl) (tCons_ok (tG_ok (tCons_ok (tI_ok _) (tCons_ok (tI_ok _) (tCons_ok (tI_ok _) (tCons_ok (tI_ok _) (tCons_ok (tI_ok _) (tCons_ok (tI_ok _) (tCons_ok (tI_ok _) (tCons_ok (tI_ok _) (tCons_ok (tI_ok _) (tCons_ok (tI_ok _) (tOne_ok (tLz_ok _ _))))))))))))) (tOne_ok (tP_ok (tOne_ok (tI_ok _))))) tB_ok (fun _ => rfl)
theorem world.RemoveBody_1.eq (p0_0 : Int) (p0_1 : Int) (p0_2 : Int) (p0_3 : Int) (p0_4 : Int) (p0_5 : Int) (p0_6 : Int) (p0_7 : Int) (p0_8 : Int) (p0_9 : Int) (p0_10_n : Nat) (p0_10_g : Nat → (Int × Int)) (p1_0 : Int) : world.RemoveBody_1.f ((p0_0, p0_1, p0_2, p0_3, p0_4, p0_5, p0_6, p0_7, p0_8, p0_9, (p0_10_n, (fun i => Rii.enc (p0_10_g i)))), p1_0) =
  some (p0_0 == p1_0) := by kernel_rfl
/-! ### slices.IndexFunc[[]bagatelle/api.Body,bagatelle/api.Body] -/
noncomputable def slices.IndexFunc_lBody_Body.cs : List (Nat × Fw.Summ) := [(45, world.RemoveBody_1.s)]
theorem slices.IndexFunc_lBody_Body.cs_ok : SumsOk Try.prog slices.IndexFunc_lBody_Body.cs := .cons world.RemoveBody_1.ok (.nil)
def slices.IndexFunc_lBody_Body.hs : List (Nat × LHint) := [(0, { mat := [], live := [0, 1, 7, 8], ren := [] })]
noncomputable def slices.IndexFunc_lBody_Body.G : Ctx := ⟨Try.prog, sumAt slices.IndexFunc_lBody_Body.cs, lookH slices.IndexFunc_lBody_Body.hs, true⟩
noncomputable def slices.IndexFunc_lBody_Body.g (k0 : Nat) (x : ((Nat × (Nat → List AV)) × Int)) : Option Int := evF slices.IndexFunc_lBody_Body.G k0 Try.f84 ((tCons (tLz 11 (RiiiiiiiiiiL2.enc (0, 0, 0, 0, 0, 0, 0, 0, 0, 0, (0, fun _ => [])))) (tOne (tF 45 (tOne (tP (tOne (tI .i64))))))).enc x) (tI .i64).dec
noncomputable def slices.IndexFunc_lBody_Body.f (x : ((Nat × (Nat → List AV)) × Int)) : Option Int := slices.IndexFunc_lBody_Body.g (1000000) x
noncomputable def slices.IndexFunc_lBody_Body.s : Fw.Summ := .mk' (tCons (tLz 11 (RiiiiiiiiiiL2.enc (0, 0, 0, 0, 0, 0, 0, 0, 0, 0, (0, fun _ => [])))) (tOne (tF 45 (tOne (tP (tOne (tI .i64))))))) (tI .i64) slices.IndexFunc_lBody_Body.f
theorem slices.IndexFunc_lBody_Body.ok : slices.IndexFunc_lBody_Body.s.Ok Try.prog 84 :=
  summ_ok (hint := lookH slices.IndexFunc_lBody_Body.hs) (fn := Try.f84) (fun x => 1000000) slices.IndexFunc_lBody_Body.cs_ok (by kernel_rfl) (by kernel_rfl) (by kernel_rfl) (by kernel_rfl) (tCons_ok (tLz_ok _ _) (tOne_ok (tF_ok _ (tOne_ok (tP_ok (tOne_ok (tI_ok _))))))) (tI_ok _) (fun _ => rfl)
noncomputable def slices.IndexFunc_lBody_Body.l0 (k0 k1 : Nat) (v1 : Nat) (v2 : Nat → List AV) (v3 : Int) (v4 : Int) (v5 : Int) : Option Int :=
  evLoop (lookH slices.IndexFunc_lBody_Body.hs 0) 0 (ev slices.IndexFunc_lBody_Body.G k0 (codeAt [1, 0, 1, 0, 0] (bodyOf Try.f84)) 0) k1
  ⟨[.lst 11 v1 none v2, .fn 45 [.rp [.val (.int .i64 v3)] 0], .top, .top, .top, .top, .top, .val (.int .i64 v4), .val (.int .i64 v5), .top, .top, .top, .top, .top, .top, .top, .top, .top, .top], []⟩
  (kBlock slices.IndexFunc_lBody_Body.G 0 (kSeq slices.IndexFunc_lBody_Body.G k0 (codeAt [1, 1] (bodyOf Try.f84)) 0 (kFin slices.IndexFunc_lBody_Body.G Try.f84 (tI .i64).dec)))
theorem slices.IndexFunc_lBody_Body.l0_eq (k0 k1 : Nat) (v1 : Nat) (v2 : Nat → (Int × Int × Int × Int × Int × Int × Int × Int × Int × Int × (Nat × (Nat → List AV)))) (v3 : Int) (v4 : Int) (v5 : Int) : slices.IndexFunc_lBody_Body.l0 k0 (k1 + 1) v1 (fun i => RiiiiiiiiiiL2.enc (v2 i)) v3 v4 v5 =
  bif (decide (v5 < v4)) then
    bif ((decide (0 ≤ v5)) && (decide (v5 < ((v1 : Nat) : Int)))) then
    (world.RemoveBody_1.f (((v2 (Int.toNat v5)).1, (v2 (Int.toNat v5)).2.1, (v2 (Int.toNat v5)).2.2.1, (v2 (Int.toNat v5)).2.2.2.1, (v2 (Int.toNat v5)).2.2.2.2.1, (v2 (Int.toNat v5)).2.2.2.2.2.1, (v2 (Int.toNat v5)).2.2.2.2.2.2.1, (v2 (Int.toNat v5)).2.2.2.2.2.2.2.1, (v2 (Int.toNat v5)).2.2.2.2.2.2.2.2.1, (v2 (Int.toNat v5)).2.2.2.2.2.2.2.2.2.1, ((v2 (Int.toNat v5)).2.2.2.2.2.2.2.2.2.2.1, (v2 (Int.toNat v5)).2.2.2.2.2.2.2.2.2.2.2)), v3)).bind fun r1 =>
    bif r1 then
      some v5
    else
    slices.IndexFunc_lBody_Body.l0 k0 k1 v1 (fun i => RiiiiiiiiiiL2.enc (v2 i)) v3 v4 (IntKind.i64.wrap (v5 + 1))
    else none
  else
  some (-1) := by kernel_rfl
theorem slices.IndexFunc_lBody_Body.eq (k0 : Nat) (p0_n : Nat) (p0_g : Nat → (Int × Int × Int × Int × Int × Int × Int × Int × Int × Int × (Nat × (Nat → List AV)))) (p1_0_0 : Int) : slices.IndexFunc_lBody_Body.g k0 ((p0_n, (fun i => RiiiiiiiiiiL2.enc (p0_g i))), p1_0_0) =
  slices.IndexFunc_lBody_Body.l0 k0 k0 p0_n (fun i => RiiiiiiiiiiL2.enc (p0_g i)) p1_0_0 ((p0_n : Nat) : Int) 0 := by kernel_rfl
/-! ### slices.DeleteFunc[[]bagatelle/api.Body,bagatelle/api.Body] -/
noncomputable def slices.DeleteFunc_lBody_Body.cs : List (Nat × Fw.Summ) := [(84, slices.IndexFunc_lBody_Body.s), (45, world.RemoveBody_1.s)]
theorem slices.DeleteFunc_lBody_Body.cs_ok : SumsOk Try.prog slices.DeleteFunc_lBody_Body.cs := .cons slices.IndexFunc_lBody_Body.ok (.cons world.RemoveBody_1.ok (.nil))
def slices.DeleteFunc_lBody_Body.hs : List (Nat × LHint) := [(0, { mat := [], live := [0, 1, 5, 6], ren := [] })]
noncomputable def slices.DeleteFunc_lBody_Body.G : Ctx := ⟨Try.prog, sumAt slices.DeleteFunc_lBody_Body.cs, lookH slices.DeleteFunc_lBody_Body.hs, true⟩
noncomputable def slices.DeleteFunc_lBody_Body.g (k0 : Nat) (x : (Nat × (Nat → List AV)) × Int) : Option (Nat × (Nat → (Int × Int × Int × Int × Int × Int × Int × Int × Int × Int × (Nat × (Nat → List AV))))) := evT slices.DeleteFunc_lBody_Body.G k0 Try.f74 ⟨true, 43, 11, x.1.1, x.1.2, none⟩ ((tOne (tF 45 (tOne (tP (tOne (tI .i64)))))).enc x.2) (RowT.mk RiiiiiiiiiiL2 43 11 (0, 0, 0, 0, 0, 0, 0, 0, 0, 0, (0, fun _ => []))).dec
noncomputable def slices.DeleteFunc_lBody_Body.f (x : (Nat × (Nat → List AV)) × Int) : Option (Nat × (Nat → (Int × Int × Int × Int × Int × Int × Int × Int × Int × Int × (Nat × (Nat → List AV))))) := slices.DeleteFunc_lBody_Body.g (1000000) x
noncomputable def slices.DeleteFunc_lBody_Body.s : Fw.Summ := .mkT (tOne (tF 45 (tOne (tP (tOne (tI .i64)))))) (RowT.mk RiiiiiiiiiiL2 43 11 (0, 0, 0, 0, 0, 0, 0, 0, 0, 0, (0, fun _ => []))) slices.DeleteFunc_lBody_Body.f
theorem slices.DeleteFunc_lBody_Body.ok : slices.DeleteFunc_lBody_Body.s.Ok Try.prog 74 :=
  tsumm_ok (hint := lookH slices.DeleteFunc_lBody_Body.hs) (fn := Try.f74) (fun x => 1000000) slices.DeleteFunc_lBody_Body.cs_ok (by kernel_rfl) (by kernel_rfl) (by kernel_rfl) (by kernel_rfl) (tOne_ok (tF_ok _ (tOne_ok (tP_ok (tOne_ok (tI_ok _)))))) RiiiiiiiiiiL2_ok (fun _ => rfl)
noncomputable def slices.DeleteFunc_lBody_Body.l0 (k0 k1 : Nat) (v1 : Nat) (v2 : Nat → List AV) (v3 : Int) (v4 : Int) (v5 : Int) : Option (Nat × (Nat → (Int × Int × Int × Int × Int × Int × Int × Int × Int × Int × (Nat × (Nat → List AV))))) :=
  evLoop (lookH slices.DeleteFunc_lBody_Body.hs 0) 1 (ev slices.DeleteFunc_lBody_Body.G k0 (codeAt [1, 1, 1, 0, 1, 0, 0] (bodyOf Try.f74)) 0) k1
  ⟨[.slc 0 0 none none, .fn 45 [.rp [.val (.int .i64 v3)] 0], .top, .top, .top, .val (.int .i64 v4), .val (.int .i64 v5), .top, .top, .top, .top, .top, .top, .top, .top, .top, .top, .top, .top, .top, .top, .top, .top, .top, .top, .top, .top, .top, .top, .top, .top, .top, .top, .top, .top, .top, .top, .top, .top, .top, .top, .top], [.live ⟨true, 43, 11, v1, v2, none⟩]⟩
  (kBlock slices.DeleteFunc_lBody_Body.G 0 (kSeq slices.DeleteFunc_lBody_Body.G k0 (codeAt [1, 1, 1, 1] (bodyOf Try.f74)) 0 (kFinT slices.DeleteFunc_lBody_Body.G Try.f74 (RowT.mk RiiiiiiiiiiL2 43 11 (0, 0, 0, 0, 0, 0, 0, 0, 0, 0, (0, fun _ => []))).dec)))
theorem slices.DeleteFunc_lBody_Body.l0_eq (k0 k1 : Nat) (v1 : Nat) (v2 : Nat → (Int × Int × Int × Int × Int × Int × Int × Int × Int × Int × (Nat × (Nat → List AV)))) (v3 : Int) (v4 : Int) (v5 : Int) : slices.DeleteFunc_lBody_Body.l0 k0 (k1 + 1) v1 (fun i => RiiiiiiiiiiL2.enc (v2 i)) v3 v4 v5 =
  bif (decide (v5 < ((v1 : Nat) : Int))) then
    bif ((decide (0 ≤ v5)) && (decide (v5 < ((v1 : Nat) : Int)))) then
    (world.RemoveBody_1.f (((v2 (Int.toNat v5)).1, (v2 (Int.toNat v5)).2.1, (v2 (Int.toNat v5)).2.2.1, (v2 (Int.toNat v5)).2.2.2.1, (v2 (Int.toNat v5)).2.2.2.2.1, (v2 (Int.toNat v5)).2.2.2.2.2.1, (v2 (Int.toNat v5)).2.2.2.2.2.2.1, (v2 (Int.toNat v5)).2.2.2.2.2.2.2.1, (v2 (Int.toNat v5)).2.2.2.2.2.2.2.2.1, (v2 (Int.toNat v5)).2.2.2.2.2.2.2.2.2.1, ((v2 (Int.toNat v5)).2.2.2.2.2.2.2.2.2.2.1, (v2 (Int.toNat v5)).2.2.2.2.2.2.2.2.2.2.2)), v3)).bind fun r2 =>
    bif (!r2) then
      bif ((decide (0 ≤ v4)) && (decide (v4 < ((v1 : Nat) : Int)))) then
      slices.DeleteFunc_lBody_Body.l0 k0 k1 v1 (fun i => renL (lookF [] 1) (if i = (Int.toNat v4) then RiiiiiiiiiiL2.enc ((v2 (Int.toNat v5)).1, (v2 (Int.toNat v5)).2.1, (v2 (Int.toNat v5)).2.2.1, (v2 (Int.toNat v5)).2.2.2.1, (v2 (Int.toNat v5)).2.2.2.2.1, (v2 (Int.toNat v5)).2.2.2.2.2.1, (v2 (Int.toNat v5)).2.2.2.2.2.2.1, (v2 (Int.toNat v5)).2.2.2.2.2.2.2.1, (v2 (Int.toNat v5)).2.2.2.2.2.2.2.2.1, (v2 (Int.toNat v5)).2.2.2.2.2.2.2.2.2.1, ((v2 (Int.toNat v5)).2.2.2.2.2.2.2.2.2.2.1, (v2 (Int.toNat v5)).2.2.2.2.2.2.2.2.2.2.2)) else RiiiiiiiiiiL2.enc (v2 i))) v3 (IntKind.i64.wrap (v4 + 1)) (IntKind.i64.wrap (v5 + 1))
      else none
    else
    slices.DeleteFunc_lBody_Body.l0 k0 k1 v1 (fun i => RiiiiiiiiiiL2.enc (v2 i)) v3 v4 (IntKind.i64.wrap (v5 + 1))
    else none
  else
  bif ((decide (0 ≤ v4)) && (decide (v4 < ((v1 : Nat) : Int)))) then
  bif ((decide (0 ≤ v4)) && (decide (v4 ≤ ((v1 : Nat) : Int)))) then
  (RowT.mk RiiiiiiiiiiL2 43 11 (0, 0, 0, 0, 0, 0, 0, 0, 0, 0, (0, fun _ => []))).dec (.slc 0 0 none none) ⟨true, 43, 11, (Int.toNat v4), (fun i => cloL (if i < (Int.toNat v4) then RiiiiiiiiiiL2.enc (v2 i) else [.val (.int .i64 0), .val (.int .i64 0), .val (.int .i64 0), .val (.int .i64 0), .val (.int .i64 0), .val (.int .i64 0), .val (.int .i64 0), .val (.int .i64 0), .val (.int .i64 0), .val (.int .i64 0), .val (.slice none 0 0)])), none⟩
  else none
  else none := by kernel_rfl
theorem slices.DeleteFunc_lBody_Body.eq (k0 : Nat) (p0_n : Nat) (p0_g : Nat → (Int × Int × Int × Int × Int × Int × Int × Int × Int × Int × (Nat × (Nat → List AV)))) (p1_0_0 : Int) : slices.DeleteFunc_lBody_Body.g k0 ((p0_n, (fun i => RiiiiiiiiiiL2.enc (p0_g i))), p1_0_0) =
  (slices.IndexFunc_lBody_Body.f ((p0_n, (fun i => RiiiiiiiiiiL2.enc (p0_g i))), p1_0_0)).bind fun r1 =>
  bif (r1 == (-1)) then
    (RowT.mk RiiiiiiiiiiL2 43 11 (0, 0, 0, 0, 0, 0, 0, 0, 0, 0, (0, fun _ => []))).dec (.slc 0 0 none none) ⟨true, 43, 11, p0_n, (fun i => RiiiiiiiiiiL2.enc (p0_g i)), none⟩
  else
  slices.DeleteFunc_lBody_Body.l0 k0 k0 p0_n (fun i => RiiiiiiiiiiL2.enc (p0_g i)) p1_0_0 r1 (IntKind.i64.wrap (r1 + 1)) := by kernel_rfl
/-! ### bagatelle/world.without[bagatelle/api.Body] -/
noncomputable def world.without_Body.cs : List (Nat × Fw.Summ) := [(54, slices.Clone_lBody_Body.s), (74, slices.DeleteFunc_lBody_Body.s)]
theorem world.without_Body.cs_ok : SumsOk Try.prog world.without_Body.cs := .cons slices.Clone_lBody_Body.ok (.cons slices.DeleteFunc_lBody_Body.ok (.nil))
def world.without_Body.hs : List (Nat × LHint) := []
noncomputable def world.without_Body.G : Ctx := ⟨Try.prog, sumAt world.without_Body.cs, lookH world.without_Body.hs, true⟩
noncomputable def world.without_Body.f (x : ((Nat × (Nat → List AV)) × Int)) : Option (Nat × (Nat → (Int × Int × Int × Int × Int × Int × Int × Int × Int × Int × (Nat × (Nat → List AV))))) := evF world.without_Body.G 0 Try.f44 ((tCons (tLz 11 (RiiiiiiiiiiL2.enc (0, 0, 0, 0, 0, 0, 0, 0, 0, 0, (0, fun _ => [])))) (tOne (tF 45 (tOne (tP (tOne (tI .i64))))))).enc x) (tTL RiiiiiiiiiiL2 11 (0, 0, 0, 0, 0, 0, 0, 0, 0, 0, (0, fun _ => []))).dec
noncomputable def world.without_Body.s : Fw.Summ := .mk' (tCons (tLz 11 (RiiiiiiiiiiL2.enc (0, 0, 0, 0, 0, 0, 0, 0, 0, 0, (0, fun _ => [])))) (tOne (tF 45 (tOne (tP (tOne (tI .i64))))))) (tTL RiiiiiiiiiiL2 11 (0, 0, 0, 0, 0, 0, 0, 0, 0, 0, (0, fun _ => []))) world.without_Body.f
theorem world.without_Body.ok : world.without_Body.s.Ok Try.prog 44 :=
  summ_ok (hint := lookH world.without_Body.hs) (fn := Try.f44) (fun x => 0) world.without_Body.cs_ok (by kernel_rfl) (by kernel_rfl) (by kernel_rfl) (by kernel_rfl) (tCons_ok (tLz_ok _ _) (tOne_ok (tF_ok _ (tOne_ok (tP_ok (tOne_ok (tI_ok _))))))) (tTL_ok RiiiiiiiiiiL2_ok _ _) (fun _ => rfl)
theorem world.without_Body.eq (p0_n : Nat) (p0_g : Nat → (Int × Int × Int × Int × Int × Int × Int × Int × Int × Int × (Nat × (Nat → List AV)))) (p1_0_0 : Int) : world.without_Body.f ((p0_n, (fun i => RiiiiiiiiiiL2.enc (p0_g i))), p1_0_0) =
  (slices.Clone_lBody_Body.f (p0_n, (fun i => RiiiiiiiiiiL2.enc (p0_g i)))).bind fun r1 =>
  (slices.DeleteFunc_lBody_Body.f ((r1.1, (fun i => RiiiiiiiiiiL2.enc (r1.2 i))), p1_0_0)).bind fun r2 =>
  (tTL RiiiiiiiiiiL2 11 (0, 0, 0, 0, 0, 0, 0, 0, 0, 0, (0, fun _ => []))).dec (.lst 11 r2.1 none (fun i => RiiiiiiiiiiL2.enc (r2.2 i))) := by kernel_rfl
/-! ### bagatelle/world.RemoveBody$2 -/
noncomputable def world.RemoveBody_2.cs : List (Nat × Fw.Summ) := []
theorem world.RemoveBody_2.cs_ok : SumsOk Try.prog world.RemoveBody_2.cs := .nil
def world.RemoveBody_2.hs : List (Nat × LHint) := []
noncomputable def world.RemoveBody_2.G : Ctx := ⟨Try.prog, sumAt world.RemoveBody_2.cs, lookH world.RemoveBody_2.hs, true⟩
noncomputable def world.RemoveBody_2.f (x : ((Int × Int × Int × Int × Int × Int × Int × Int) × Int)) : Option Bool := evF world.RemoveBody_2.G 0 Try.f47 ((tCons (tG (tCons (tI .i64) (tCons (tI .i64) (tCons (tI .i64) (tCons (tI .i64) (tCons (tI .i64) (tCons (tI .i64) (tCons (tI .i64) (tOne (tI .i64)))))))))) (tOne (tP (tOne (tI .i64))))).enc x) tB.dec
noncomputable def world.RemoveBody_2.s : Fw.Summ := .mk' (tCons (tG (tCons (tI .i64) (tCons (tI .i64) (tCons (tI .i64) (tCons (tI .i64) (tCons (tI .i64) (tCons (tI .i64) (tCons (tI .i64) (tOne (tI .i64)))))))))) (tOne (tP (tOne (tI .i64))))) tB world.RemoveBody_2.f
theorem world.RemoveBody_2.ok : world.RemoveBody_2.s.Ok Try.prog 47 :=
  summ_ok (hint := lookH world.RemoveBody_2.hs) (fn := Try.f47) (fun x => 0) world.RemoveBody_2.cs_ok (by kernel_rfl) (by kernel_rfl) (by kernel_rfl) (by kernel_rfl) (tCons_ok (tG_ok (tCons_ok (tI_ok _) (tCons_ok (tI_ok _) (tCons_ok (tI_ok _) (tCons_ok (tI_ok _) (tCons_ok (tI_ok _) (tCons_ok (tI_ok _) (tCons_ok (tI_ok _) (tOne_ok (tI_ok _)))))))))) (tOne_ok (tP_ok (tOne_ok (tI_ok _))))) tB_ok (fun _ => rfl)
theorem world.RemoveBody_2.eq (p0_0 : Int) (p0_1 : Int) (p0_2 : Int) (p0_3 : Int) (p0_4 : Int) (p0_5 : Int) (p0_6 : Int) (p0_7 : Int) (p1_0 : Int) : world.RemoveBody_2.f ((p0_0, p0_1, p0_2, p0_3, p0_4, p0_5, p0_6, p0_7), p1_0) =
  bif (p0_1 == p1_0) then
    some true
  else
  some (p0_2 == p1_0) := by kernel_rfl
/-! ### slices.IndexFunc[[]bagatelle/api.Joint,bagatelle/api.Joint] -/
noncomputable def slices.IndexFunc_lJoint_Joint.cs : List (Nat × Fw.Summ) := [(47, world.RemoveBody_2.s)]
theorem slices.IndexFunc_lJoint_Joint.cs_ok : SumsOk Try.prog slices.IndexFunc_lJoint_Joint.cs := .cons world.RemoveBody_2.ok (.nil)
def slices.IndexFunc_lJoint_Joint.hs : List (Nat × LHint) := [(0, { mat := [], live := [0, 1, 7, 8], ren := [] })]
noncomputable def slices.IndexFunc_lJoint_Joint.G : Ctx := ⟨Try.prog, sumAt slices.IndexFunc_lJoint_Joint.cs, lookH slices.IndexFunc_lJoint_Joint.hs, true⟩
noncomputable def slices.IndexFunc_lJoint_Joint.g (k0 : Nat) (x : ((Nat × (Nat → List AV)) × Int)) : Option Int := evF slices.IndexFunc_lJoint_Joint.G k0 Try.f85 ((tCons (tLz 8 (Riiiiiiii.enc (0, 0, 0, 0, 0, 0, 0, 0))) (tOne (tF 47 (tOne (tP (tOne (tI .i64))))))).enc x) (tI .i64).dec
noncomputable def slices.IndexFunc_lJoint_Joint.f (x : ((Nat × (Nat → List AV)) × Int)) : Option Int := slices.IndexFunc_lJoint_Joint.g (1000000) x
noncomputable def slices.IndexFunc_lJoint_Joint.s : Fw.Summ := .mk' (tCons (tLz 8 (Riiiiiiii.enc (0, 0, 0, 0, 0, 0, 0, 0))) (tOne (tF 47 (tOne (tP (tOne (tI .i64))))))) (tI .i64) slices.IndexFunc_lJoint_Joint.f
theorem slices.IndexFunc_lJoint_Joint.ok : slices.IndexFunc_lJoint_Joint.s.Ok Try.prog 85 :=
  summ_ok (hint := lookH slices.IndexFunc_lJoint_Joint.hs) (fn := Try.f85) (fun x => 1000000) slices.IndexFunc_lJoint_Joint.cs_ok (by kernel_rfl) (by kernel_rfl) (by kernel_rfl) (by kernel_rfl) (tCons_ok (tLz_ok _ _) (tOne_ok (tF_ok _ (tOne_ok (tP_ok (tOne_ok (tI_ok _))))))) (tI_ok _) (fun _ => rfl)
noncomputable def slices.IndexFunc_lJoint_Joint.l0 (k0 k1 : Nat) (v1 : Nat) (v2 : Nat → List AV) (v3 : Int) (v4 : Int) (v5 : Int) : Option Int :=
  evLoop (lookH slices.IndexFunc_lJoint_Joint.hs 0) 0 (ev slices.IndexFunc_lJoint_Joint.G k0 (codeAt [1, 0, 1, 0, 0] (bodyOf Try.f85)) 0) k1
  ⟨[.lst 8 v1 none v2, .fn 47 [.rp [.val (.int .i64 v3)] 0], .top, .top, .top, .top, .top, .val (.int .i64 v4), .val (.int .i64 v5), .top, .top, .top, .top, .top, .top, .top, .top, .top, .top], []⟩
  (kBlock slices.IndexFunc_lJoint_Joint.G 0 (kSeq slices.IndexFunc_lJoint_Joint.G k0 (codeAt [1, 1] (bodyOf Try.f85)) 0 (kFin slices.IndexFunc_lJoint_Joint.G Try.f85 (tI .i64).dec)))
theorem slices.IndexFunc_lJoint_Joint.l0_eq (k0 k1 : Nat) (v1 : Nat) (v2 : Nat → (Int × Int × Int × Int × Int × Int × Int × Int)) (v3 : Int) (v4 : Int) (v5 : Int) : slices.IndexFunc_lJoint_Joint.l0 k0 (k1 + 1) v1 (fun i => Riiiiiiii.enc (v2 i)) v3 v4 v5 =
  bif (decide (v5 < v4)) then
    bif ((decide (0 ≤ v5)) && (decide (v5 < ((v1 : Nat) : Int)))) then
    (world.RemoveBody_2.f (((v2 (Int.toNat v5)).1, (v2 (Int.toNat v5)).2.1, (v2 (Int.toNat v5)).2.2.1, (v2 (Int.toNat v5)).2.2.2.1, (v2 (Int.toNat v5)).2.2.2.2.1, (v2 (Int.toNat v5)).2.2.2.2.2.1, (v2 (Int.toNat v5)).2.2.2.2.2.2.1, (v2 (Int.toNat v5)).2.2.2.2.2.2.2), v3)).bind fun r1 =>
    bif r1 then
      some v5
    else
    slices.IndexFunc_lJoint_Joint.l0 k0 k1 v1 (fun i => Riiiiiiii.enc (v2 i)) v3 v4 (IntKind.i64.wrap (v5 + 1))
    else none
  else
  some (-1) := by kernel_rfl
theorem slices.IndexFunc_lJoint_Joint.eq (k0 : Nat) (p0_n : Nat) (p0_g : Nat → (Int × Int × Int × Int × Int × Int × Int × Int)) (p1_0_0 : Int) : slices.IndexFunc_lJoint_Joint.g k0 ((p0_n, (fun i => Riiiiiiii.enc (p0_g i))), p1_0_0) =
  slices.IndexFunc_lJoint_Joint.l0 k0 k0 p0_n (fun i => Riiiiiiii.enc (p0_g i)) p1_0_0 ((p0_n : Nat) : Int) 0 := by kernel_rfl
/-! ### slices.DeleteFunc[[]bagatelle/api.Joint,bagatelle/api.Joint] -/
noncomputable def slices.DeleteFunc_lJoint_Joint.cs : List (Nat × Fw.Summ) := [(85, slices.IndexFunc_lJoint_Joint.s), (47, world.RemoveBody_2.s)]
theorem slices.DeleteFunc_lJoint_Joint.cs_ok : SumsOk Try.prog slices.DeleteFunc_lJoint_Joint.cs := .cons slices.IndexFunc_lJoint_Joint.ok (.cons world.RemoveBody_2.ok (.nil))
def slices.DeleteFunc_lJoint_Joint.hs : List (Nat × LHint) := [(0, { mat := [], live := [0, 1, 5, 6], ren := [] })]
noncomputable def slices.DeleteFunc_lJoint_Joint.G : Ctx := ⟨Try.prog, sumAt slices.DeleteFunc_lJoint_Joint.cs, lookH slices.DeleteFunc_lJoint_Joint.hs, true⟩
noncomputable def slices.DeleteFunc_lJoint_Joint.g (k0 : Nat) (x : (Nat × (Nat → List AV)) × Int) : Option (Nat × (Nat → (Int × Int × Int × Int × Int × Int × Int × Int))) := evT slices.DeleteFunc_lJoint_Joint.G k0 Try.f75 ⟨true, 51, 8, x.1.1, x.1.2, none⟩ ((tOne (tF 47 (tOne (tP (tOne (tI .i64)))))).enc x.2) (RowT.mk Riiiiiiii 51 8 (0, 0, 0, 0, 0, 0, 0, 0)).dec
noncomputable def slices.DeleteFunc_lJoint_Joint.f (x : (Nat × (Nat → List AV)) × Int) : Option (Nat × (Nat → (Int × Int × Int × Int × Int × Int × Int × Int))) := slices.DeleteFunc_lJoint_Joint.g (1000000) x
noncomputable def slices.DeleteFunc_lJoint_Joint.s : Fw.Summ := .mkT (tOne (tF 47 (tOne (tP (tOne (tI .i64)))))) (RowT.mk Riiiiiiii 51 8 (0, 0, 0, 0, 0, 0, 0, 0)) slices.DeleteFunc_lJoint_Joint.f
theorem slices.DeleteFunc_lJoint_Joint.ok : slices.DeleteFunc_lJoint_Joint.s.Ok Try.prog 75 :=
  tsumm_ok (hint := lookH slices.DeleteFunc_lJoint_Joint.hs) (fn := Try.f75) (fun x => 1000000) slices.DeleteFunc_lJoint_Joint.cs_ok (by kernel_rfl) (by kernel_rfl) (by kernel_rfl) (by kernel_rfl) (tOne_ok (tF_ok _ (tOne_ok (tP_ok (tOne_ok (tI_ok _)))))) Riiiiiiii_ok (fun _ => rfl)
noncomputable def slices.DeleteFunc_lJoint_Joint.l0 (k0 k1 : Nat) (v1 : Nat) (v2 : Nat → List AV) (v3 : Int) (v4 : Int) (v5 : Int) : Option (Nat × (Nat → (Int × Int × Int × Int × Int × Int × Int × Int))) :=
  evLoop (lookH slices.DeleteFunc_lJoint_Joint.hs 0) 1 (ev slices.DeleteFunc_lJoint_Joint.G k0 (codeAt [1, 1, 1, 0, 1, 0, 0] (bodyOf Try.f75)) 0) k1
  ⟨[.slc 0 0 none none, .fn 47 [.rp [.val (.int .i64 v3)] 0], .top, .top, .top, .val (.int .i64 v4), .val (.int .i64 v5), .top, .top, .top, .top, .top, .top, .top, .top, .top, .top, .top, .top, .top, .top, .top, .top, .top, .top, .top, .top, .top, .top, .top, .top, .top, .top, .top, .top, .top, .top, .top, .top, .top, .top, .top], [.live ⟨true, 51, 8, v1, v2, none⟩]⟩
  (kBlock slices.DeleteFunc_lJoint_Joint.G 0 (kSeq slices.DeleteFunc_lJoint_Joint.G k0 (codeAt [1, 1, 1, 1] (bodyOf Try.f75)) 0 (kFinT slices.DeleteFunc_lJoint_Joint.G Try.f75 (RowT.mk Riiiiiiii 51 8 (0, 0, 0, 0, 0, 0, 0, 0)).dec)))
theorem slices.DeleteFunc_lJoint_Joint.l0_eq (k0 k1 : Nat) (v1 : Nat) (v2 : Nat → (Int × Int × Int × Int × Int × Int × Int × Int)) (v3 : Int) (v4 : Int) (v5 : Int) : slices.DeleteFunc_lJoint_Joint.l0 k0 (k1 + 1) v1 (fun i => Riiiiiiii.enc (v2 i)) v3 v4 v5 =
  bif (decide (v5 < ((v1 : Nat) : Int))) then
    bif ((decide (0 ≤ v5)) && (decide (v5 < ((v1 : Nat) : Int)))) then
    (world.RemoveBody_2.f (((v2 (Int.toNat v5)).1, (v2 (Int.toNat v5)).2.1, (v2 (Int.toNat v5)).2.2.1, (v2 (Int.toNat v5)).2.2.2.1, (v2 (Int.toNat v5)).2.2.2.2.1, (v2 (Int.toNat v5)).2.2.2.2.2.1, (v2 (Int.toNat v5)).2.2.2.2.2.2.1, (v2 (Int.toNat v5)).2.2.2.2.2.2.2), v3)).bind fun r2 =>
    bif (!r2) then
      bif ((decide (0 ≤ v4)) && (decide (v4 < ((v1 : Nat) : Int)))) then
      slices.DeleteFunc_lJoint_Joint.l0 k0 k1 v1 (fun i => renL (lookF [] 1) (if i = (Int.toNat v4) then Riiiiiiii.enc ((v2 (Int.toNat v5)).1, (v2 (Int.toNat v5)).2.1, (v2 (Int.toNat v5)).2.2.1, (v2 (Int.toNat v5)).2.2.2.1, (v2 (Int.toNat v5)).2.2.2.2.1, (v2 (Int.toNat v5)).2.2.2.2.2.1, (v2 (Int.toNat v5)).2.2.2.2.2.2.1, (v2 (Int.toNat v5)).2.2.2.2.2.2.2) else Riiiiiiii.enc (v2 i))) v3 (IntKind.i64.wrap (v4 + 1)) (IntKind.i64.wrap (v5 + 1))
      else none
    else
    slices.DeleteFunc_lJoint_Joint.l0 k0 k1 v1 (fun i => Riiiiiiii.enc (v2 i)) v3 v4 (IntKind.i64.wrap (v5 + 1))
    else none
  else
  bif ((decide (0 ≤ v4)) && (decide (v4 < ((v1 : Nat) : Int)))) then
  bif ((decide (0 ≤ v4)) && (decide (v4 ≤ ((v1 : Nat) : Int)))) then
  (RowT.mk Riiiiiiii 51 8 (0, 0, 0, 0, 0, 0, 0, 0)).dec (.slc 0 0 none none) ⟨true, 51, 8, (Int.toNat v4), (fun i => cloL (if i < (Int.toNat v4) then Riiiiiiii.enc (v2 i) else [.val (.int .i64 0), .val (.int .i64 0), .val (.int .i64 0), .val (.int .i64 0), .val (.int .i64 0), .val (.int .i64 0), .val (.int .i64 0), .val (.int .i64 0)])), none⟩
  else none
  else none := by kernel_rfl
theorem slices.DeleteFunc_lJoint_Joint.eq (k0 : Nat) (p0_n : Nat) (p0_g : Nat → (Int × Int × Int × Int × Int × Int × Int × Int)) (p1_0_0 : Int) : slices.DeleteFunc_lJoint_Joint.g k0 ((p0_n, (fun i => Riiiiiiii.enc (p0_g i))), p1_0_0) =
  (slices.IndexFunc_lJoint_Joint.f ((p0_n, (fun i => Riiiiiiii.enc (p0_g i))), p1_0_0)).bind fun r1 =>
  bif (r1 == (-1)) then
    (RowT.mk Riiiiiiii 51 8 (0, 0, 0, 0, 0, 0, 0, 0)).dec (.slc 0 0 none none) ⟨true, 51, 8, p0_n, (fun i => Riiiiiiii.enc (p0_g i)), none⟩
  else
  slices.DeleteFunc_lJoint_Joint.l0 k0 k0 p0_n (fun i => Riiiiiiii.enc (p0_g i)) p1_0_0 r1 (IntKind.i64.wrap (r1 + 1)) := by kernel_rfl
/-! ### bagatelle/world.without[bagatelle/api.Joint] -/
noncomputable def world.without_Joint.cs : List (Nat × Fw.Summ) := [(55, slices.Clone_lJoint_Joint.s), (75, slices.DeleteFunc_lJoint_Joint.s)]
theorem world.without_Joint.cs_ok : SumsOk Try.prog world.without_Joint.cs := .cons slices.Clone_lJoint_Joint.ok (.cons slices.DeleteFunc_lJoint_Joint.ok (.nil))
def world.without_Joint.hs : List (Nat × LHint) := []
noncomputable def world.without_Joint.G : Ctx := ⟨Try.prog, sumAt world.without_Joint.cs, lookH world.without_Joint.hs, true⟩
noncomputable def world.without_Joint.f (x : ((Nat × (Nat → List AV)) × Int)) : Option (Nat × (Nat → (Int × Int × Int × Int × Int × Int × Int × Int))) := evF world.without_Joint.G 0 Try.f46 ((tCons (tLz 8 (Riiiiiiii.enc (0, 0, 0, 0, 0, 0, 0, 0))) (tOne (tF 47 (tOne (tP (tOne (tI .i64))))))).enc x) (tTL Riiiiiiii 8 (0, 0, 0, 0, 0, 0, 0, 0)).dec
noncomputable def world.without_Joint.s : Fw.Summ := .mk' (tCons (tLz 8 (Riiiiiiii.enc (0, 0, 0, 0, 0, 0, 0, 0))) (tOne (tF 47 (tOne (tP (tOne (tI .i64))))))) (tTL Riiiiiiii 8 (0, 0, 0, 0, 0, 0, 0, 0)) world.without_Joint.f
theorem world.without_Joint.ok : world.without_Joint.s.Ok Try.prog 46 :=
  summ_ok (hint := lookH world.without_Joint.hs) (fn := Try.f46) (fun x => 0) world.without_Joint.cs_ok (by kernel_rfl) (by kernel_rfl) (by kernel_rfl) (by kernel_rfl) (tCons_ok (tLz_ok _ _) (tOne_ok (tF_ok _ (tOne_ok (tP_ok (tOne_ok (tI_ok _))))))) (tTL_ok Riiiiiiii_ok _ _) (fun _ => rfl)
theorem world.without_Joint.eq (p0_n : Nat) (p0_g : Nat → (Int × Int × Int × Int × Int × Int × Int × Int)) (p1_0_0 : Int) : world.without_Joint.f ((p0_n, (fun i => Riiiiiiii.enc (p0_g i))), p1_0_0) =
  (slices.Clone_lJoint_Joint.f (p0_n, (fun i => Riiiiiiii.enc (p0_g i)))).bind fun r1 =>
  (slices.DeleteFunc_lJoint_Joint.f ((r1.1, (fun i => Riiiiiiii.enc (r1.2 i))), p1_0_0)).bind fun r2 =>
  (tTL Riiiiiiii 8 (0, 0, 0, 0, 0, 0, 0, 0)).dec (.lst 8 r2.1 none (fun i => Riiiiiiii.enc (r2.2 i))) := by kernel_rfl
/-! ### bagatelle/world.RemoveBody$3 -/
noncomputable def world.RemoveBody_3.cs : List (Nat × Fw.Summ) := []
theorem world.RemoveBody_3.cs_ok : SumsOk Try.prog world.RemoveBody_3.cs := .nil
def world.RemoveBody_3.hs : List (Nat × LHint) := []
noncomputable def world.RemoveBody_3.G : Ctx := ⟨Try.prog, sumAt world.RemoveBody_3.cs, lookH world.RemoveBody_3.hs, true⟩
noncomputable def world.RemoveBody_3.f (x : ((Int × Int × Int × Int × Int) × Int)) : Option Bool := evF world.RemoveBody_3.G 0 Try.f49 ((tCons (tG (tCons (tI .i64) (tCons (tI .i64) (tCons (tI .i64) (tCons (tI .i64) (tOne (tI .i64))))))) (tOne (tP (tOne (tI .i64))))).enc x) tB.dec
noncomputable def world.RemoveBody_3.s : Fw.Summ := .mk' (tCons (tG (tCons (tI .i64) (tCons (tI .i64) (tCons (tI .i64) (tCons (tI .i64) (tOne (tI .i64))))))) (tOne (tP (tOne (tI .i64))))) tB world.RemoveBody_3.f
theorem world.RemoveBody_3.ok : world.RemoveBody_3.s.Ok Try.prog 49 :=
  summ_ok (hint := lookH world.RemoveBody_3.hs) (fn := Try.f49) (fun x => 0) world.RemoveBody_3.cs_ok (by kernel_rfl) (by kernel_rfl) (by kernel_rfl) (by kernel_rfl) (tCons_ok (tG_ok (tCons_ok (tI_ok _) (tCons_ok (tI_ok _) (tCons_ok (tI_ok _) (tCons_ok (tI_ok _) (tOne_ok (tI_ok _))))))) (tOne_ok (tP_ok (tOne_ok (tI_ok _))))) tB_ok (fun _ => rfl)
theorem world.RemoveBody_3.eq (p0_0 : Int) (p0_1 : Int) (p0_2 : Int) (p0_3 : Int) (p0_4 : Int) (p1_0 : Int) : world.RemoveBody_3.f ((p0_0, p0_1, p0_2, p0_3, p0_4), p1_0) =
  bif (p0_0 == p1_0) then
    some true
  else
  some (p0_1 == p1_0) := by kernel_rfl
/-! ### slices.IndexFunc[[]bagatelle/api.Contact,bagatelle/api.Contact] -/
noncomputable def slices.IndexFunc_lContact_Contact.cs : List (Nat × Fw.Summ) := [(49, world.RemoveBody_3.s)]
theorem slices.IndexFunc_lContact_Contact.cs_ok : SumsOk Try.prog slices.IndexFunc_lContact_Contact.cs := .cons world.RemoveBody_3.ok (.nil)
def slices.IndexFunc_lContact_Contact.hs : List (Nat × LHint) := [(0, { mat := [], live := [0, 1, 7, 8], ren := [] })]
noncomputable def slices.IndexFunc_lContact_Contact.G : Ctx := ⟨Try.prog, sumAt slices.IndexFunc_lContact_Contact.cs, lookH slices.IndexFunc_lContact_Contact.hs, true⟩
noncomputable def slices.IndexFunc_lContact_Contact.g (k0 : Nat) (x : ((Nat × (Nat → List AV)) × Int)) : Option Int := evF slices.IndexFunc_lContact_Contact.G k0 Try.f86 ((tCons (tLz 5 (Riiiii.enc (0, 0, 0, 0, 0))) (tOne (tF 49 (tOne (tP (tOne (tI .i64))))))).enc x) (tI .i64).dec
noncomputable def slices.IndexFunc_lContact_Contact.f (x : ((Nat × (Nat → List AV)) × Int)) : Option Int := slices.IndexFunc_lContact_Contact.g (1000000) x
noncomputable def slices.IndexFunc_lContact_Contact.s : Fw.Summ := .mk' (tCons (tLz 5 (Riiiii.enc (0, 0, 0, 0, 0))) (tOne (tF 49 (tOne (tP (tOne (tI .i64))))))) (tI .i64) slices.IndexFunc_lContact_Contact.f
theorem slices.IndexFunc_lContact_Contact.ok : slices.IndexFunc_lContact_Contact.s.Ok Try.prog 86 :=
  summ_ok (hint := lookH slices.IndexFunc_lContact_Contact.hs) (fn := Try.f86) (fun x => 1000000) slices.IndexFunc_lContact_Contact.cs_ok (by kernel_rfl) (by kernel_rfl) (by kernel_rfl) (by kernel_rfl) (tCons_ok (tLz_ok _ _) (tOne_ok (tF_ok _ (tOne_ok (tP_ok (tOne_ok (tI_ok _))))))) (tI_ok _) (fun _ => rfl)
noncomputable def slices.IndexFunc_lContact_Contact.l0 (k0 k1 : Nat) (v1 : Nat) (v2 : Nat → List AV) (v3 : Int) (v4 : Int) (v5 : Int) : Option Int :=
  evLoop (lookH slices.IndexFunc_lContact_Contact.hs 0) 0 (ev slices.IndexFunc_lContact_Contact.G k0 (codeAt [1, 0, 1, 0, 0] (bodyOf Try.f86)) 0) k1
  ⟨[.lst 5 v1 none v2, .fn 49 [.rp [.val (.int .i64 v3)] 0], .top, .top, .top, .top, .top, .val (.int .i64 v4), .val (.int .i64 v5), .top, .top, .top, .top, .top, .top, .top, .top, .top, .top], []⟩
  (kBlock slices.IndexFunc_lContact_Contact.G 0 (kSeq slices.IndexFunc_lContact_Contact.G k0 (codeAt [1, 1] (bodyOf Try.f86)) 0 (kFin slices.IndexFunc_lContact_Contact.G Try.f86 (tI .i64).dec)))
theorem slices.IndexFunc_lContact_Contact.l0_eq (k0 k1 : Nat) (v1 : Nat) (v2 : Nat → (Int × Int × Int × Int × Int)) (v3 : Int) (v4 : Int) (v5 : Int) : slices.IndexFunc_lContact_Contact.l0 k0 (k1 + 1) v1 (fun i => Riiiii.enc (v2 i)) v3 v4 v5 =
  bif (decide (v5 < v4)) then
    bif ((decide (0 ≤ v5)) && (decide (v5 < ((v1 : Nat) : Int)))) then
    (world.RemoveBody_3.f (((v2 (Int.toNat v5)).1, (v2 (Int.toNat v5)).2.1, (v2 (Int.toNat v5)).2.2.1, (v2 (Int.toNat v5)).2.2.2.1, (v2 (Int.toNat v5)).2.2.2.2), v3)).bind fun r1 =>
    bif r1 then
      some v5
    else
    slices.IndexFunc_lContact_Contact.l0 k0 k1 v1 (fun i => Riiiii.enc (v2 i)) v3 v4 (IntKind.i64.wrap (v5 + 1))
    else none
  else
  some (-1) := by kernel_rfl
theorem slices.IndexFunc_lContact_Contact.eq (k0 : Nat) (p0_n : Nat) (p0_g : Nat → (Int × Int × Int × Int × Int)) (p1_0_0 : Int) : slices.IndexFunc_lContact_Contact.g k0 ((p0_n, (fun i => Riiiii.enc (p0_g i))), p1_0_0) =
  slices.IndexFunc_lContact_Contact.l0 k0 k0 p0_n (fun i => Riiiii.enc (p0_g i)) p1_0_0 ((p0_n : Nat) : Int) 0 := by kernel_rfl
/-! ### slices.DeleteFunc[[]bagatelle/api.Contact,bagatelle/api.Contact] -/
noncomputable def slices.DeleteFunc_lContact_Contact.cs : List (Nat × Fw.Summ) := [(86, slices.IndexFunc_lContact_Contact.s), (49, world.RemoveBody_3.s)]
theorem slices.DeleteFunc_lContact_Contact.cs_ok : SumsOk Try.prog slices.DeleteFunc_lContact_Contact.cs := .cons slices.IndexFunc_lContact_Contact.ok (.cons world.RemoveBody_3.ok (.nil))
def slices.DeleteFunc_lContact_Contact.hs : List (Nat × LHint) := [(0, { mat := [], live := [0, 1, 5, 6], ren := [] })]
noncomputable def slices.DeleteFunc_lContact_Contact.G : Ctx := ⟨Try.prog, sumAt slices.DeleteFunc_lContact_Contact.cs, lookH slices.DeleteFunc_lContact_Contact.hs, true⟩
noncomputable def slices.DeleteFunc_lContact_Contact.g (k0 : Nat) (x : (Nat × (Nat → List AV)) × Int) : Option (Nat × (Nat → (Int × Int × Int × Int × Int))) := evT slices.DeleteFunc_lContact_Contact.G k0 Try.f76 ⟨true, 69, 5, x.1.1, x.1.2, none⟩ ((tOne (tF 49 (tOne (tP (tOne (tI .i64)))))).enc x.2) (RowT.mk Riiiii 69 5 (0, 0, 0, 0, 0)).dec
noncomputable def slices.DeleteFunc_lContact_Contact.f (x : (Nat × (Nat → List AV)) × Int) : Option (Nat × (Nat → (Int × Int × Int × Int × Int))) := slices.DeleteFunc_lContact_Contact.g (1000000) x
noncomputable def slices.DeleteFunc_lContact_Contact.s : Fw.Summ := .mkT (tOne (tF 49 (tOne (tP (tOne (tI .i64)))))) (RowT.mk Riiiii 69 5 (0, 0, 0, 0, 0)) slices.DeleteFunc_lContact_Contact.f
theorem slices.DeleteFunc_lContact_Contact.ok : slices.DeleteFunc_lContact_Contact.s.Ok Try.prog 76 :=
  tsumm_ok (hint := lookH slices.DeleteFunc_lContact_Contact.hs) (fn := Try.f76) (fun x => 1000000) slices.DeleteFunc_lContact_Contact.cs_ok (by kernel_rfl) (by kernel_rfl) (by kernel_rfl) (by kernel_rfl) (tOne_ok (tF_ok _ (tOne_ok (tP_ok (tOne_ok (tI_ok _)))))) Riiiii_ok (fun _ => rfl)
noncomputable def slices.DeleteFunc_lContact_Contact.l0 (k0 k1 : Nat) (v1 : Nat) (v2 : Nat → List AV) (v3 : Int) (v4 : Int) (v5 : Int) : Option (Nat × (Nat → (Int × Int × Int × Int × Int))) :=
  evLoop (lookH slices.DeleteFunc_lContact_Contact.hs 0) 1 (ev slices.DeleteFunc_lContact_Contact.G k0 (codeAt [1, 1, 1, 0, 1, 0, 0] (bodyOf Try.f76)) 0) k1
  ⟨[.slc 0 0 none none, .fn 49 [.rp [.val (.int .i64 v3)] 0], .top, .top, .top, .val (.int .i64 v4), .val (.int .i64 v5), .top, .top, .top, .top, .top, .top, .top, .top, .top, .top, .top, .top, .top, .top, .top, .top, .top, .top, .top, .top, .top, .top, .top, .top, .top, .top, .top, .top, .top, .top, .top, .top, .top, .top, .top], [.live ⟨true, 69, 5, v1, v2, none⟩]⟩
  (kBlock slices.DeleteFunc_lContact_Contact.G 0 (kSeq slices.DeleteFunc_lContact_Contact.G k0 (codeAt [1, 1, 1, 1] (bodyOf Try.f76)) 0 (kFinT slices.DeleteFunc_lContact_Contact.G Try.f76 (RowT.mk Riiiii 69 5 (0, 0, 0, 0, 0)).dec)))
theorem slices.DeleteFunc_lContact_Contact.l0_eq (k0 k1 : Nat) (v1 : Nat) (v2 : Nat → (Int × Int × Int × Int × Int)) (v3 : Int) (v4 : Int) (v5 : Int) : slices.DeleteFunc_lContact_Contact.l0 k0 (k1 + 1) v1 (fun i => Riiiii.enc (v2 i)) v3 v4 v5 =
  bif (decide (v5 < ((v1 : Nat) : Int))) then
    bif ((decide (0 ≤ v5)) && (decide (v5 < ((v1 : Nat) : Int)))) then
    (world.RemoveBody_3.f (((v2 (Int.toNat v5)).1, (v2 (Int.toNat v5)).2.1, (v2 (Int.toNat v5)).2.2.1, (v2 (Int.toNat v5)).2.2.2.1, (v2 (Int.toNat v5)).2.2.2.2), v3)).bind fun r2 =>
    bif (!r2) then
      bif ((decide (0 ≤ v4)) && (decide (v4 < ((v1 : Nat) : Int)))) then
      slices.DeleteFunc_lContact_Contact.l0 k0 k1 v1 (fun i => renL (lookF [] 1) (if i = (Int.toNat v4) then Riiiii.enc ((v2 (Int.toNat v5)).1, (v2 (Int.toNat v5)).2.1, (v2 (Int.toNat v5)).2.2.1, (v2 (Int.toNat v5)).2.2.2.1, (v2 (Int.toNat v5)).2.2.2.2) else Riiiii.enc (v2 i))) v3 (IntKind.i64.wrap (v4 + 1)) (IntKind.i64.wrap (v5 + 1))
      else none
    else
    slices.DeleteFunc_lContact_Contact.l0 k0 k1 v1 (fun i => Riiiii.enc (v2 i)) v3 v4 (IntKind.i64.wrap (v5 + 1))
    else none
  else
  bif ((decide (0 ≤ v4)) && (decide (v4 < ((v1 : Nat) : Int)))) then
  bif ((decide (0 ≤ v4)) && (decide (v4 ≤ ((v1 : Nat) : Int)))) then
  (RowT.mk Riiiii 69 5 (0, 0, 0, 0, 0)).dec (.slc 0 0 none none) ⟨true, 69, 5, (Int.toNat v4), (fun i => cloL (if i < (Int.toNat v4) then Riiiii.enc (v2 i) else [.val (.int .i64 0), .val (.int .i64 0), .val (.int .i64 0), .val (.int .i64 0), .val (.int .i64 0)])), none⟩
  else none
  else none := by kernel_rfl
theorem slices.DeleteFunc_lContact_Contact.eq (k0 : Nat) (p0_n : Nat) (p0_g : Nat → (Int × Int × Int × Int × Int)) (p1_0_0 : Int) : slices.DeleteFunc_lContact_Contact.g k0 ((p0_n, (fun i => Riiiii.enc (p0_g i))), p1_0_0) =
  (slices.IndexFunc_lContact_Contact.f ((p0_n, (fun i => Riiiii.enc (p0_g i))), p1_0_0)).bind fun r1 =>
  bif (r1 == (-1)) then
    (RowT.mk Riiiii 69 5 (0, 0, 0, 0, 0)).dec (.slc 0 0 none none) ⟨true, 69, 5, p0_n, (fun i => Riiiii.enc (p0_g i)), none⟩
  else
  slices.DeleteFunc_lContact_Contact.l0 k0 k0 p0_n (fun i => Riiiii.enc (p0_g i)) p1_0_0 r1 (IntKind.i64.wrap (r1 + 1)) := by kernel_rfl
/-! ### bagatelle/world.without[bagatelle/api.Contact] -/
noncomputable def world.without_Contact.cs : List (Nat × Fw.Summ) := [(56, slices.Clone_lContact_Contact.s), (76, slices.DeleteFunc_lContact_Contact.s)]
theorem world.without_Contact.cs_ok : SumsOk Try.prog world.without_Contact.cs := .cons slices.Clone_lContact_Contact.ok (.cons slices.DeleteFunc_lContact_Contact.ok (.nil))
def world.without_Contact.hs : List (Nat × LHint) := []
noncomputable def world.without_Contact.G : Ctx := ⟨Try.prog, sumAt world.without_Contact.cs, lookH world.without_Contact.hs, true⟩
noncomputable def world.without_Contact.f (x : ((Nat × (Nat → List AV)) × Int)) : Option (Nat × (Nat → (Int × Int × Int × Int × Int))) := evF world.without_Contact.G 0 Try.f48 ((tCons (tLz 5 (Riiiii.enc (0, 0, 0, 0, 0))) (tOne (tF 49 (tOne (tP (tOne (tI .i64))))))).enc x) (tTL Riiiii 5 (0, 0, 0, 0, 0)).dec
noncomputable def world.without_Contact.s : Fw.Summ := .mk' (tCons (tLz 5 (Riiiii.enc (0, 0, 0, 0, 0))) (tOne (tF 49 (tOne (tP (tOne (tI .i64))))))) (tTL Riiiii 5 (0, 0, 0, 0, 0)) world.without_Contact.f
theorem world.without_Contact.ok : world.without_Contact.s.Ok Try.prog 48 :=
  summ_ok (hint := lookH world.without_Contact.hs) (fn := Try.f48) (fun x => 0) world.without_Contact.cs_ok (by kernel_rfl) (by kernel_rfl) (by kernel_rfl) (by kernel_rfl) (tCons_ok (tLz_ok _ _) (tOne_ok (tF_ok _ (tOne_ok (tP_ok (tOne_ok (tI_ok _))))))) (tTL_ok Riiiii_ok _ _) (fun _ => rfl)
theorem world.without_Contact.eq (p0_n : Nat) (p0_g : Nat → (Int × Int × Int × Int × Int)) (p1_0_0 : Int) : world.without_Contact.f ((p0_n, (fun i => Riiiii.enc (p0_g i))), p1_0_0) =
  (slices.Clone_lContact_Contact.f (p0_n, (fun i => Riiiii.enc (p0_g i)))).bind fun r1 =>
  (slices.DeleteFunc_lContact_Contact.f ((r1.1, (fun i => Riiiii.enc (r1.2 i))), p1_0_0)).bind fun r2 =>
  (tTL Riiiii 5 (0, 0, 0, 0, 0)).dec (.lst 5 r2.1 none (fun i => Riiiii.enc (r2.2 i))) := by kernel_rfl
/-! ### bagatelle/world.RemoveBody -/
noncomputable def world.RemoveBody.cs : List (Nat × Fw.Summ) := [(16, world.Body.s), (44, world.without_Body.s), (46, world.without_Joint.s), (48, world.without_Contact.s)]
theorem world.RemoveBody.cs_ok : SumsOk Try.prog world.RemoveBody.cs := .cons world.Body.ok (.cons world.without_Body.ok (.cons world.without_Joint.ok (.cons world.without_Contact.ok (.nil))))
noncomputable def world.RemoveBody.G : Ctx := ⟨Try.prog, sumAt world.RemoveBody.cs, fun _ => { unroll := true }, true⟩
noncomputable def world.RemoveBody.f (x : (Int × Int × Int × Int × Int × (Nat × (Nat → List AV)) × (Nat × (Nat → List AV)) × (Nat × (Nat → List AV))) × Int) : Option (Bool × (Int × Int × Int × Int × Int × (Nat × (Nat → (Int × Int × Int × Int × Int × Int × Int × Int × Int × Int × (Nat × (Nat → List AV))))) × (Nat × (Nat → (Int × Int × Int × Int × Int × Int × Int × Int))) × (Nat × (Nat → (Int × Int × Int × Int × Int))))) := evG world.RemoveBody.G Try.f19 31 ((tCons (tI .i64) (tCons (tI .i64) (tCons (tI .i64) (tCons (tI .i64) (tCons (tI .i64) (tCons (tLz 11 (RiiiiiiiiiiL2.enc (0, 0, 0, 0, 0, 0, 0, 0, 0, 0, (0, fun _ => [])))) (tCons (tLz 8 (Riiiiiiii.enc (0, 0, 0, 0, 0, 0, 0, 0))) (tOne (tLz 5 (Riiiii.enc (0, 0, 0, 0, 0))))))))))).enc x.1) ((tOne (tI .i64)).enc x.2) (outD tB (tCons (tI .i64) (tCons (tI .i64) (tCons (tI .i64) (tCons (tI .i64) (tCons (tI .i64) (tCons (tTL RiiiiiiiiiiL2 11 (0, 0, 0, 0, 0, 0, 0, 0, 0, 0, (0, fun _ => []))) (tCons (tTL Riiiiiiii 8 (0, 0, 0, 0, 0, 0, 0, 0)) (tOne (tTL Riiiii 5 (0, 0, 0, 0, 0)))))))))))
noncomputable def world.RemoveBody.s : Fw.Summ := .mkO2 31 (tCons (tI .i64) (tCons (tI .i64) (tCons (tI .i64) (tCons (tI .i64) (tCons (tI .i64) (tCons (tLz 11 (RiiiiiiiiiiL2.enc (0, 0, 0, 0, 0, 0, 0, 0, 0, 0, (0, fun _ => [])))) (tCons (tLz 8 (Riiiiiiii.enc (0, 0, 0, 0, 0, 0, 0, 0))) (tOne (tLz 5 (Riiiii.enc (0, 0, 0, 0, 0))))))))))) (tCons (tI .i64) (tCons (tI .i64) (tCons (tI .i64) (tCons (tI .i64) (tCons (tI .i64) (tCons (tTL RiiiiiiiiiiL2 11 (0, 0, 0, 0, 0, 0, 0, 0, 0, 0, (0, fun _ => []))) (tCons (tTL Riiiiiiii 8 (0, 0, 0, 0, 0, 0, 0, 0)) (tOne (tTL Riiiii 5 (0, 0, 0, 0, 0)))))))))) (tOne (tI .i64)) tB world.RemoveBody.f
theorem world.RemoveBody.ok : world.RemoveBody.s.Ok Try.prog 19 :=
  osumm2_ok (fn := Try.f19) world.RemoveBody.cs_ok (by kernel_rfl) (by kernel_rfl) (by kernel_rfl) (by kernel_rfl) (tCons_ok (tI_ok _) (tCons_ok (tI_ok _) (tCons_ok (tI_ok _) (tCons_ok (tI_ok _) (tCons_ok (tI_ok _) (tCons_ok (tLz_ok _ _) (tCons_ok (tLz_ok _ _) (tOne_ok (tLz_ok _ _))))))))) (tCons_ok (tI_ok _) (tCons_ok (tI_ok _) (tCons_ok (tI_ok _) (tCons_ok (tI_ok _) (tCons_ok (tI_ok _) (tCons_ok (tTL_ok RiiiiiiiiiiL2_ok _ _) (tCons_ok (tTL_ok Riiiiiiii_ok _ _) (tOne_ok (tTL_ok Riiiii_ok _ _))))))))) (tOne_ok (tI_ok _)) tB_ok (fun _ => rfl)
theorem world.RemoveBody.eq (o_0 : Int) (o_1 : Int) (o_2 : Int) (o_3 : Int) (o_4 : Int) (o_5_n : Nat) (o_5_g : Nat → (Int × Int × Int × Int × Int × Int × Int × Int × Int × Int × (Nat × (Nat → List AV)))) (o_6_n : Nat) (o_6_g : Nat → (Int × Int × Int × Int × Int × Int × Int × Int)) (o_7_n : Nat) (o_7_g : Nat → (Int × Int × Int × Int × Int)) (p0 : Int) : world.RemoveBody.f ((o_0, o_1, o_2, o_3, o_4, (o_5_n, (fun i => RiiiiiiiiiiL2.enc (o_5_g i))), (o_6_n, (fun i => Riiiiiiii.enc (o_6_g i))), (o_7_n, (fun i => Riiiii.enc (o_7_g i)))), p0) =
  (world.Body.f ((o_0, o_1, o_2, o_3, o_4, (o_5_n, (fun i => RiiiiiiiiiiL2.enc (o_5_g i))), (o_6_n, (fun i => Riiiiiiii.enc (o_6_g i))), (o_7_n, (fun i => Riiiii.enc (o_7_g i)))), p0)).bind fun r1 =>
  bif (!r1.2) then
    outD tB (tCons (tI .i64) (tCons (tI .i64) (tCons (tI .i64) (tCons (tI .i64) (tCons (tI .i64) (tCons (tTL RiiiiiiiiiiL2 11 (0, 0, 0, 0, 0, 0, 0, 0, 0, 0, (0, fun _ => []))) (tCons (tTL Riiiiiiii 8 (0, 0, 0, 0, 0, 0, 0, 0)) (tOne (tTL Riiiii 5 (0, 0, 0, 0, 0)))))))))) (.val (.bool false)) [.val (.int .i64 o_0), .val (.int .i64 o_1), .val (.int .i64 o_2), .val (.int .i64 o_3), .val (.int .i64 o_4), .lst 11 o_5_n none (fun i => RiiiiiiiiiiL2.enc (o_5_g i)), .lst 8 o_6_n none (fun i => Riiiiiiii.enc (o_6_g i)), .lst 5 o_7_n none (fun i => Riiiii.enc (o_7_g i))]
  else
  (world.without_Body.f ((o_5_n, (fun i => RiiiiiiiiiiL2.enc (o_5_g i))), p0)).bind fun r2 =>
  (world.without_Joint.f ((o_6_n, (fun i => Riiiiiiii.enc (o_6_g i))), p0)).bind fun r3 =>
  (world.without_Contact.f ((o_7_n, (fun i => Riiiii.enc (o_7_g i))), p0)).bind fun r4 =>
  outD tB (tCons (tI .i64) (tCons (tI .i64) (tCons (tI .i64) (tCons (tI .i64) (tCons (tI .i64) (tCons (tTL RiiiiiiiiiiL2 11 (0, 0, 0, 0, 0, 0, 0, 0, 0, 0, (0, fun _ => []))) (tCons (tTL Riiiiiiii 8 (0, 0, 0, 0, 0, 0, 0, 0)) (tOne (tTL Riiiii 5 (0, 0, 0, 0, 0)))))))))) (.val (.bool true)) [.val (.int .i64 o_0), .val (.int .i64 o_1), .val (.int .i64 o_2), .val (.int .i64 o_3), .val (.int .i64 o_4), .lst 11 r2.1 none (fun i => RiiiiiiiiiiL2.enc (r2.2 i)), .lst 8 r3.1 none (fun i => Riiiiiiii.enc (r3.2 i)), .lst 5 r4.1 none (fun i => Riiiii.enc (r4.2 i))] := by kernel_rfl
/-! ### bagatelle/world.Joint$1 -/
noncomputable def world.Joint_1.cs : List (Nat × Fw.Summ) := []
theorem world.Joint_1.cs_ok : SumsOk Try.prog world.Joint_1.cs := .nil
def world.Joint_1.hs : List (Nat × LHint) := []
noncomputable def world.Joint_1.G : Ctx := ⟨Try.prog, sumAt world.Joint_1.cs, lookH world.Joint_1.hs, true⟩
noncomputable def world.Joint_1.f (x : (Int × Int × Int × Int × Int × Int × Int × Int)) : Option Int := evF world.Joint_1.G 0 Try.f43 ((tOne (tG (tCons (tI .i64) (tCons (tI .i64) (tCons (tI .i64) (tCons (tI .i64) (tCons (tI .i64) (tCons (tI .i64) (tCons (tI .i64) (tOne (tI .i64))))))))))).enc x) (tI .i64).dec
noncomputable def world.Joint_1.s : Fw.Summ := .mk' (tOne (tG (tCons (tI .i64) (tCons (tI .i64) (tCons (tI .i64) (tCons (tI .i64) (tCons (tI .i64) (tCons (tI .i64) (tCons (tI .i64) (tOne (tI .i64))))))))))) (tI .i64) world.Joint_1.f
theorem world.Joint_1.ok : world.Joint_1.s.Ok Try.prog 43 :=
  summ_ok (hint := lookH world.Joint_1.hs) (fn := Try.f43) (fun x => 0) world.Joint_1.cs_ok (by kernel_rfl) (by kernel_rfl) (by kernel_rfl) (by kernel_rfl) (tOne_ok (tG_ok (tCons_ok (tI_ok _) (tCons_ok (tI_ok _) (tCons_ok (tI_ok _) (tCons_ok (tI_ok _) (tCons_ok (tI_ok _) (tCons_ok (tI_ok _) (tCons_ok (tI_ok _) (tOne_ok (tI_ok _))))))))))) (tI_ok _) (fun _ => rfl)
theorem world.Joint_1.eq (p0_0 : Int) (p0_1 : Int) (p0_2 : Int) (p0_3 : Int) (p0_4 : Int) (p0_5 : Int) (p0_6 : Int) (p0_7 : Int) : world.Joint_1.f (p0_0, p0_1, p0_2, p0_3, p0_4, p0_5, p0_6, p0_7) =
  some p0_0 := by kernel_rfl
/-! ### bagatelle/world.find[bagatelle/api.Joint]$1 -/
noncomputable def world.find_Joint_1.cs : List (Nat × Fw.Summ) := [(43, world.Joint_1.s), (69, cmp.Compare_int.s)]
theorem world.find_Joint_1.cs_ok : SumsOk Try.prog world.find_Joint_1.cs := .cons world.Joint_1.ok (.cons cmp.Compare_int.ok (.nil))
def world.find_Joint_1.hs : List (Nat × LHint) := []
noncomputable def world.find_Joint_1.G : Ctx := ⟨Try.prog, sumAt world.find_Joint_1.cs, lookH world.find_Joint_1.hs, true⟩
noncomputable def world.find_Joint_1.f (x : ((Int × Int × Int × Int × Int × Int × Int × Int) × Int × Unit)) : Option Int := evF world.find_Joint_1.G 0 Try.f73 ((tCons (tG (tCons (tI .i64) (tCons (tI .i64) (tCons (tI .i64) (tCons (tI .i64) (tCons (tI .i64) (tCons (tI .i64) (tCons (tI .i64) (tOne (tI .i64)))))))))) (tCons (tI .i64) (tOne (tP (tOne (tF 43 tNil)))))).enc x) (tI .i64).dec
noncomputable def world.find_Joint_1.s : Fw.Summ := .mk' (tCons (tG (tCons (tI .i64) (tCons (tI .i64) (tCons (tI .i64) (tCons (tI .i64) (tCons (tI .i64) (tCons (tI .i64) (tCons (tI .i64) (tOne (tI .i64)))))))))) (tCons (tI .i64) (tOne (tP (tOne (tF 43 tNil)))))) (tI .i64) world.find_Joint_1.f
theorem world.find_Joint_1.ok : world.find_Joint_1.s.Ok Try.prog 73 :=
  summ_ok (hint := lookH world.find_Joint_1.hs) (fn := Try.f73) (fun x => 0) world.find_Joint_1.cs_ok (by kernel_rfl) (by kernel_rfl) (by kernel_rfl) (by kernel_rfl) (tCons_ok (tG_ok (tCons_ok (tI_ok _) (tCons_ok (tI_ok _) (tCons_ok (tI_ok _) (tCons_ok (tI_ok _) (tCons_ok (tI_ok _) (tCons_ok (tI_ok _) (tCons_ok (tI_ok _) (tOne_ok (tI_ok _)))))))))) (tCons_ok (tI_ok _) (tOne_ok (tP_ok (tOne_ok (tF_ok _ tNil_ok)))))) (tI_ok _) (fun _ => rfl)
theorem world.find_Joint_1.eq (p0_0 : Int) (p0_1 : Int) (p0_2 : Int) (p0_3 : Int) (p0_4 : Int) (p0_5 : Int) (p0_6 : Int) (p0_7 : Int) (p1 : Int) : world.find_Joint_1.f ((p0_0, p0_1, p0_2, p0_3, p0_4, p0_5, p0_6, p0_7), p1, ()) =
  (world.Joint_1.f (p0_0, p0_1, p0_2, p0_3, p0_4, p0_5, p0_6, p0_7)).bind fun r1 =>
  (cmp.Compare_int.f (r1, p1)).bind fun r2 =>
  some r2 := by kernel_rfl
/-! ### slices.BinarySearchFunc[[]bagatelle/api.Joint,bagatelle/api.Joint,int] -/
noncomputable def slices.BinarySearchFunc_lJoint_Joint_int.cs : List (Nat × Fw.Summ) := [(73, world.find_Joint_1.s)]
theorem slices.BinarySearchFunc_lJoint_Joint_int.cs_ok : SumsOk Try.prog slices.BinarySearchFunc_lJoint_Joint_int.cs := .cons world.find_Joint_1.ok (.nil)
def slices.BinarySearchFunc_lJoint_Joint_int.hs : List (Nat × LHint) := [(0, { mat := [], live := [0, 1, 2, 8, 9, 10], ren := [] })]
noncomputable def slices.BinarySearchFunc_lJoint_Joint_int.G : Ctx := ⟨Try.prog, sumAt slices.BinarySearchFunc_lJoint_Joint_int.cs, lookH slices.BinarySearchFunc_lJoint_Joint_int.hs, true⟩
noncomputable def slices.BinarySearchFunc_lJoint_Joint_int.g (k0 : Nat) (x : ((Nat × (Nat → List AV)) × Int × Unit)) : Option (Int × Bool) := evF slices.BinarySearchFunc_lJoint_Joint_int.G k0 Try.f72 ((tCons (tLz 8 (Riiiiiiii.enc (0, 0, 0, 0, 0, 0, 0, 0))) (tCons (tI .i64) (tOne (tF 73 (tOne (tP (tOne (tF 43 tNil)))))))).enc x) (tT (tCons (tI .i64) (tOne tB))).dec
noncomputable def slices.BinarySearchFunc_lJoint_Joint_int.f (x : ((Nat × (Nat → List AV)) × Int × Unit)) : Option (Int × Bool) := slices.BinarySearchFunc_lJoint_Joint_int.g (1000000) x
noncomputable def slices.BinarySearchFunc_lJoint_Joint_int.s : Fw.Summ := .mk' (tCons (tLz 8 (Riiiiiiii.enc (0, 0, 0, 0, 0, 0, 0, 0))) (tCons (tI .i64) (tOne (tF 73 (tOne (tP (tOne (tF 43 tNil)))))))) (tT (tCons (tI .i64) (tOne tB))) slices.BinarySearchFunc_lJoint_Joint_int.f
theorem slices.BinarySearchFunc_lJoint_Joint_int.ok : slices.BinarySearchFunc_lJoint_Joint_int.s.Ok Try.prog 72 :=
  summ_ok (hint := lookH slices.BinarySearchFunc_lJoint_Joint_int.hs) (fn := Try.f72) (fun x => 1000000) slices.BinarySearchFunc_lJoint_Joint_int.cs_ok (by kernel_rfl) (by kernel_rfl) (by kernel_rfl) (by kernel_rfl) (tCons_ok (tLz_ok _ _) (tCons_ok (tI_ok _) (tOne_ok (tF_ok _ (tOne_ok (tP_ok (tOne_ok (tF_ok _ tNil_ok)))))))) (tT_ok (tCons_ok (tI_ok _) (tOne_ok tB_ok))) (fun _ => rfl)
noncomputable def slices.BinarySearchFunc_lJoint_Joint_int.l0 (k0 k1 : Nat) (v1 : Nat) (v2 : Nat → List AV) (v3 : Int) (v4 : Int) (v5 : Int) (v6 : Int) : Option (Int × Bool) :=
  evLoop (lookH slices.BinarySearchFunc_lJoint_Joint_int.hs 0) 0 (ev slices.BinarySearchFunc_lJoint_Joint_int.G k0 (codeAt [1, 1, 1, 0, 0, 0] (bodyOf Try.f72)) 0) k1
  ⟨[.lst 8 v1 none v2, .val (.int .i64 v3), .fn 73 [.rp [.fn 43 []] 0], .top, .top, .top, .top, .top, .val (.int .i64 v4), .val (.int .i64 v5), .val (.int .i64 v6), .top, .top, .top, .top, .top, .top, .top, .top, .top, .top, .top, .top, .top, .top, .top, .top, .top, .top, .top, .top, .top, .top, .top, .top, .top, .top, .top, .top, .top, .top, .top, .top, .top, .top, .top, .top, .top, .top], []⟩
  (kBlock slices.BinarySearchFunc_lJoint_Joint_int.G 0 (kSeq slices.BinarySearchFunc_lJoint_Joint_int.G k0 (codeAt [1, 1, 1, 1] (bodyOf Try.f72)) 0 (kFin slices.BinarySearchFunc_lJoint_Joint_int.G Try.f72 (tT (tCons (tI .i64) (tOne tB))).dec)))
theorem slices.BinarySearchFunc_lJoint_Joint_int.l0_eq (k0 k1 : Nat) (v1 : Nat) (v2 : Nat → (Int × Int × Int × Int × Int × Int × Int × Int)) (v3 : Int) (v4 : Int) (v5 : Int) (v6 : Int) : slices.BinarySearchFunc_lJoint_Joint_int.l0 k0 (k1 + 1) v1 (fun i => Riiiiiiii.enc (v2 i)) v3 v4 v5 v6 =
  bif (decide (v5 < v6)) then
    bif ((decide (0 ≤ (IntKind.i64.wrap (Int.fdiv (IntKind.u64.wrap (IntKind.i64.wrap (v5 + v6))) (2 ^ 1))))) && (decide ((IntKind.i64.wrap (Int.fdiv (IntKind.u64.wrap (IntKind.i64.wrap (v5 + v6))) (2 ^ 1))) < ((v1 : Nat) : Int)))) then
    (world.find_Joint_1.f (((v2 (Int.toNat (IntKind.i64.wrap (Int.fdiv (IntKind.u64.wrap (IntKind.i64.wrap (v5 + v6))) (2 ^ 1))))).1, (v2 (Int.toNat (IntKind.i64.wrap (Int.fdiv (IntKind.u64.wrap (IntKind.i64.wrap (v5 + v6))) (2 ^ 1))))).2.1, (v2 (Int.toNat (IntKind.i64.wrap (Int.fdiv (IntKind.u64.wrap (IntKind.i64.wrap (v5 + v6))) (2 ^ 1))))).2.2.1, (v2 (Int.toNat (IntKind.i64.wrap (Int.fdiv (IntKind.u64.wrap (IntKind.i64.wrap (v5 + v6))) (2 ^ 1))))).2.2.2.1, (v2 (Int.toNat (IntKind.i64.wrap (Int.fdiv (IntKind.u64.wrap (IntKind.i64.wrap (v5 + v6))) (2 ^ 1))))).2.2.2.2.1, (v2 (Int.toNat (IntKind.i64.wrap (Int.fdiv (IntKind.u64.wrap (IntKind.i64.wrap (v5 + v6))) (2 ^ 1))))).2.2.2.2.2.1, (v2 (Int.toNat (IntKind.i64.wrap (Int.fdiv (IntKind.u64.wrap (IntKind.i64.wrap (v5 + v6))) (2 ^ 1))))).2.2.2.2.2.2.1, (v2 (Int.toNat (IntKind.i64.wrap (Int.fdiv (IntKind.u64.wrap (IntKind.i64.wrap (v5 + v6))) (2 ^ 1))))).2.2.2.2.2.2.2), v3, ())).bind fun r1 =>
    bif (decide (r1 < 0)) then
      slices.BinarySearchFunc_lJoint_Joint_int.l0 k0 k1 v1 (fun i => Riiiiiiii.enc (v2 i)) v3 v4 (IntKind.i64.wrap ((IntKind.i64.wrap (Int.fdiv (IntKind.u64.wrap (IntKind.i64.wrap (v5 + v6))) (2 ^ 1))) + 1)) v6
    else
    slices.BinarySearchFunc_lJoint_Joint_int.l0 k0 k1 v1 (fun i => Riiiiiiii.enc (v2 i)) v3 v4 v5 (IntKind.i64.wrap (Int.fdiv (IntKind.u64.wrap (IntKind.i64.wrap (v5 + v6))) (2 ^ 1)))
    else none
  else
  bif (decide (v5 < v4)) then
    bif ((decide (0 ≤ v5)) && (decide (v5 < ((v1 : Nat) : Int)))) then
    (world.find_Joint_1.f (((v2 (Int.toNat v5)).1, (v2 (Int.toNat v5)).2.1, (v2 (Int.toNat v5)).2.2.1, (v2 (Int.toNat v5)).2.2.2.1, (v2 (Int.toNat v5)).2.2.2.2.1, (v2 (Int.toNat v5)).2.2.2.2.2.1, (v2 (Int.toNat v5)).2.2.2.2.2.2.1, (v2 (Int.toNat v5)).2.2.2.2.2.2.2), v3, ())).bind fun r2 =>
    some (v5, (r2 == 0))
    else none
  else
  some (v5, false) := by kernel_rfl
theorem slices.BinarySearchFunc_lJoint_Joint_int.eq (k0 : Nat) (p0_n : Nat) (p0_g : Nat → (Int × Int × Int × Int × Int × Int × Int × Int)) (p1 : Int) : slices.BinarySearchFunc_lJoint_Joint_int.g k0 ((p0_n, (fun i => Riiiiiiii.enc (p0_g i))), p1, ()) =
  slices.BinarySearchFunc_lJoint_Joint_int.l0 k0 k0 p0_n (fun i => Riiiiiiii.enc (p0_g i)) p1 ((p0_n : Nat) : Int) 0 ((p0_n : Nat) : Int) := by kernel_rfl
/-! ### bagatelle/world.find[bagatelle/api.Joint] -/
noncomputable def world.find_Joint.cs : List (Nat × Fw.Summ) := [(72, slices.BinarySearchFunc_lJoint_Joint_int.s)]
theorem world.find_Joint.cs_ok : SumsOk Try.prog world.find_Joint.cs := .cons slices.BinarySearchFunc_lJoint_Joint_int.ok (.nil)
def world.find_Joint.hs : List (Nat × LHint) := []
noncomputable def world.find_Joint.G : Ctx := ⟨Try.prog, sumAt world.find_Joint.cs, lookH world.find_Joint.hs, true⟩
noncomputable def world.find_Joint.f (x : ((Nat × (Nat → List AV)) × Int × Unit)) : Option (Int × Bool) := evF world.find_Joint.G 0 Try.f42 ((tCons (tLz 8 (Riiiiiiii.enc (0, 0, 0, 0, 0, 0, 0, 0))) (tCons (tI .i64) (tOne (tF 43 tNil)))).enc x) (tT (tCons (tI .i64) (tOne tB))).dec
noncomputable def world.find_Joint.s : Fw.Summ := .mk' (tCons (tLz 8 (Riiiiiiii.enc (0, 0, 0, 0, 0, 0, 0, 0))) (tCons (tI .i64) (tOne (tF 43 tNil)))) (tT (tCons (tI .i64) (tOne tB))) world.find_Joint.f
theorem world.find_Joint.ok : world.find_Joint.s.Ok Try.prog 42 :=
  summ_ok (hint := lookH world.find_Joint.hs) (fn := Try.f42) (fun x => 0) world.find_Joint.cs_ok (by kernel_rfl) (by kernel_rfl) (by kernel_rfl) (by kernel_rfl) (tCons_ok (tLz_ok _ _) (tCons_ok (tI_ok _) (tOne_ok (tF_ok _ tNil_ok)))) (tT_ok (tCons_ok (tI_ok _) (tOne_ok tB_ok))) (fun _ => rfl)
theorem world.find_Joint.eq (p0_n : Nat) (p0_g : Nat → (Int × Int × Int × Int × Int × Int × Int × Int)) (p1 : Int) : world.find_Joint.f ((p0_n, (fun i => Riiiiiiii.enc (p0_g i))), p1, ()) =
  (slices.BinarySearchFunc_lJoint_Joint_int.f ((p0_n, (fun i => Riiiiiiii.enc (p0_g i))), p1, ())).bind fun r1 =>
  bif (!r1.2) then
    some (0, false)
  else
  some (r1.1, true) := by kernel_rfl
/-! ### bagatelle/world.Joint -/
noncomputable def world.Joint.cs : List (Nat × Fw.Summ) := [(42, world.find_Joint.s)]
theorem world.Joint.cs_ok : SumsOk Try.prog world.Joint.cs := .cons world.find_Joint.ok (.nil)
def world.Joint.hs : List (Nat × LHint) := []
noncomputable def world.Joint.G : Ctx := ⟨Try.prog, sumAt world.Joint.cs, lookH world.Joint.hs, true⟩
noncomputable def world.Joint.f (x : ((Int × Int × Int × Int × Int × (Nat × (Nat → List AV)) × (Nat × (Nat → List AV)) × (Nat × (Nat → List AV))) × Int)) : Option (Int × Bool) := evF world.Joint.G 0 Try.f17 ((tCons (tG (tCons (tI .i64) (tCons (tI .i64) (tCons (tI .i64) (tCons (tI .i64) (tCons (tI .i64) (tCons (tLz 11 (RiiiiiiiiiiL2.enc (0, 0, 0, 0, 0, 0, 0, 0, 0, 0, (0, fun _ => [])))) (tCons (tLz 8 (Riiiiiiii.enc (0, 0, 0, 0, 0, 0, 0, 0))) (tOne (tLz 5 (Riiiii.enc (0, 0, 0, 0, 0)))))))))))) (tOne (tI .i64))).enc x) (tT (tCons (tI .i64) (tOne tB))).dec
noncomputable def world.Joint.s : Fw.Summ := .mk' (tCons (tG (tCons (tI .i64) (tCons (tI .i64) (tCons (tI .i64) (tCons (tI .i64) (tCons (tI .i64) (tCons (tLz 11 (RiiiiiiiiiiL2.enc (0, 0, 0, 0, 0, 0, 0, 0, 0, 0, (0, fun _ => [])))) (tCons (tLz 8 (Riiiiiiii.enc (0, 0, 0, 0, 0, 0, 0, 0))) (tOne (tLz 5 (Riiiii.enc (0, 0, 0, 0, 0)))))))))))) (tOne (tI .i64))) (tT (tCons (tI .i64) (tOne tB))) world.Joint.f
theorem world.Joint.ok : world.Joint.s.Ok Try.prog 17 :=
  summ_ok (hint := lookH world.Joint.hs) (fn := Try.f17) (fun x => 0) world.Joint.cs_ok (by kernel_rfl) (by kernel_rfl) (by kernel_rfl) (by kernel_rfl) (tCons_ok (tG_ok (tCons_ok (tI_ok _) (tCons_ok (tI_ok _) (tCons_ok (tI_ok _) (tCons_ok (tI_ok _) (tCons_ok (tI_ok _) (tCons_ok (tLz_ok _ _) (tCons_ok (tLz_ok _ _) (tOne_ok (tLz_ok _ _)))))))))) (tOne_ok (tI_ok _))) (tT_ok (tCons_ok (tI_ok _) (tOne_ok tB_ok))) (fun _ => rfl)
theorem world.Joint.eq (p0_0 : Int) (p0_1 : Int) (p0_2 : Int) (p0_3 : Int) (p0_4 : Int) (p0_5_n : Nat) (p0_5_g : Nat → (Int × Int × Int × Int × Int × Int × Int × Int × Int × Int × (Nat × (Nat → List AV)))) (p0_6_n : Nat) (p0_6_g : Nat → (Int × Int × Int × Int × Int × Int × Int × Int)) (p0_7_n : Nat) (p0_7_g : Nat → (Int × Int × Int × Int × Int)) (p1 : Int) : world.Joint.f ((p0_0, p0_1, p0_2, p0_3, p0_4, (p0_5_n, (fun i => RiiiiiiiiiiL2.enc (p0_5_g i))), (p0_6_n, (fun i => Riiiiiiii.enc (p0_6_g i))), (p0_7_n, (fun i => Riiiii.enc (p0_7_g i)))), p1) =
  (world.find_Joint.f ((p0_6_n, (fun i => Riiiiiiii.enc (p0_6_g i))), p1, ())).bind fun r1 =>
  some (r1.1, r1.2) := by kernel_rfl
/-! ### bagatelle/world.RemoveJoint$1 -/
noncomputable def world.RemoveJoint_1.cs : List (Nat × Fw.Summ) := []
theorem world.RemoveJoint_1.cs_ok : SumsOk Try.prog world.RemoveJoint_1.cs := .nil
def world.RemoveJoint_1.hs : List (Nat × LHint) := []
noncomputable def world.RemoveJoint_1.G : Ctx := ⟨Try.prog, sumAt world.RemoveJoint_1.cs, lookH world.RemoveJoint_1.hs, true⟩
noncomputable def world.RemoveJoint_1.f (x : ((Int × Int × Int × Int × Int × Int × Int × Int) × Int)) : Option Bool := evF world.RemoveJoint_1.G 0 Try.f62 ((tCons (tG (tCons (tI .i64) (tCons (tI .i64) (tCons (tI .i64) (tCons (tI .i64) (tCons (tI .i64) (tCons (tI .i64) (tCons (tI .i64) (tOne (tI .i64)))))))))) (tOne (tP (tOne (tI .i64))))).enc x) tB.dec
noncomputable def world.RemoveJoint_1.s : Fw.Summ := .mk' (tCons (tG (tCons (tI .i64) (tCons (tI .i64) (tCons (tI .i64) (tCons (tI .i64) (tCons (tI .i64) (tCons (tI .i64) (tCons (tI .i64) (tOne (tI .i64)))))))))) (tOne (tP (tOne (tI .i64))))) tB world.RemoveJoint_1.f
theorem world.RemoveJoint_1.ok : world.RemoveJoint_1.s.Ok Try.prog 62 :=
  summ_ok (hint := lookH world.RemoveJoint_1.hs) (fn := Try.f62) (fun x => 0) world.RemoveJoint_1.cs_ok (by kernel_rfl) (by kernel_rfl) (by kernel_rfl) (by kernel_rfl) (tCons_ok (tG_ok (tCons_ok (tI_ok _) (tCons_ok (tI_ok _) (tCons_ok (tI_ok _) (tCons_ok (tI_ok _) (tCons_ok (tI_ok _) (tCons_ok (tI_ok _) (tCons_ok (tI_ok _) (tOne_ok (tI_ok _)))))))))) (tOne_ok (tP_ok (tOne_ok (tI_ok _))))) tB_ok (fun _ => rfl)
theorem world.RemoveJoint_1.eq (p0_0 : Int) (p0_1 : Int) (p0_2 : Int) (p0_3 : Int) (p0_4 : Int) (p0_5 : Int) (p0_6 : Int) (p0_7 : Int) (p1_0 : Int) : world.RemoveJoint_1.f ((p0_0, p0_1, p0_2, p0_3, p0_4, p0_5, p0_6, p0_7), p1_0) =
  some (p0_0 == p1_0) := by kernel_rfl
/-! ### slices.IndexFunc[[]bagatelle/api.Joint,bagatelle/api.Joint] -/
noncomputable def slices.IndexFunc_lJoint_Joint_v1.cs : List (Nat × Fw.Summ) := [(62, world.RemoveJoint_1.s)]
theorem slices.IndexFunc_lJoint_Joint_v1.cs_ok : SumsOk Try.prog slices.IndexFunc_lJoint_Joint_v1.cs := .cons world.RemoveJoint_1.ok (.nil)
def slices.IndexFunc_lJoint_Joint_v1.hs : List (Nat × LHint) := [(0, { mat := [], live := [0, 1, 7, 8], ren := [] })]
noncomputable def slices.IndexFunc_lJoint_Joint_v1.G : Ctx := ⟨Try.prog, sumAt slices.IndexFunc_lJoint_Joint_v1.cs, lookH slices.IndexFunc_lJoint_Joint_v1.hs, true⟩
noncomputable def slices.IndexFunc_lJoint_Joint_v1.g (k0 : Nat) (x : ((Nat × (Nat → List AV)) × Int)) : Option Int := evF slices.IndexFunc_lJoint_Joint_v1.G k0 Try.f85 ((tCons (tLz 8 (Riiiiiiii.enc (0, 0, 0, 0, 0, 0, 0, 0))) (tOne (tF 62 (tOne (tP (tOne (tI .i64))))))).enc x) (tI .i64).dec
noncomputable def slices.IndexFunc_lJoint_Joint_v1.f (x : ((Nat × (Nat → List AV)) × Int)) : Option Int := slices.IndexFunc_lJoint_Joint_v1.g (1000000) x
noncomputable def slices.IndexFunc_lJoint_Joint_v1.s : Fw.Summ := .mk' (tCons (tLz 8 (Riiiiiiii.enc (0, 0, 0, 0, 0, 0, 0, 0))) (tOne (tF 62 (tOne (tP (tOne (tI .i64))))))) (tI .i64) slices.IndexFunc_lJoint_Joint_v1.f
theorem slices.IndexFunc_lJoint_Joint_v1.ok : slices.IndexFunc_lJoint_Joint_v1.s.Ok Try.prog 85 :=
  summ_ok (hint := lookH slices.IndexFunc_lJoint_Joint_v1.hs) (fn := Try.f85) (fun x => 1000000) slices.IndexFunc_lJoint_Joint_v1.cs_ok (by kernel_rfl) (by kernel_rfl) (by kernel_rfl) (by kernel_rfl) (tCons_ok (tLz_ok _ _) (tOne_ok (tF_ok _ (tOne_ok (tP_ok (tOne_ok (tI_ok _))))))) (tI_ok _) (fun _ => rfl)
noncomputable def slices.IndexFunc_lJoint_Joint_v1.l0 (k0 k1 : Nat) (v1 : Nat) (v2 : Nat → List AV) (v3 : Int) (v4 : Int) (v5 : Int) : Option Int :=
  evLoop (lookH slices.IndexFunc_lJoint_Joint_v1.hs 0) 0 (ev slices.IndexFunc_lJoint_Joint_v1.G k0 (codeAt [1, 0, 1, 0, 0] (bodyOf Try.f85)) 0) k1
  ⟨[.lst 8 v1 none v2, .fn 62 [.rp [.val (.int .i64 v3)] 0], .top, .top, .top, .top, .top, .val (.int .i64 v4), .val (.int .i64 v5), .top, .top, .top, .top, .top, .top, .top, .top, .top, .top], []⟩
  (kBlock slices.IndexFunc_lJoint_Joint_v1.G 0 (kSeq slices.IndexFunc_lJoint_Joint_v1.G k0 (codeAt [1, 1] (bodyOf Try.f85)) 0 (kFin slices.IndexFunc_lJoint_Joint_v1.G Try.f85 (tI .i64).dec)))
theorem slices.IndexFunc_lJoint_Joint_v1.l0_eq (k0 k1 : Nat) (v1 : Nat) (v2 : Nat → (Int × Int × Int × Int × Int × Int × Int × Int)) (v3 : Int) (v4 : Int) (v5 : Int) : slices.IndexFunc_lJoint_Joint_v1.l0 k0 (k1 + 1) v1 (fun i => Riiiiiiii.enc (v2 i)) v3 v4 v5 =
  bif (decide (v5 < v4)) then
    bif ((decide (0 ≤ v5)) && (decide (v5 < ((v1 : Nat) : Int)))) then
    (world.RemoveJoint_1.f (((v2 (Int.toNat v5)).1, (v2 (Int.toNat v5)).2.1, (v2 (Int.toNat v5)).2.2.1, (v2 (Int.toNat v5)).2.2.2.1, (v2 (Int.toNat v5)).2.2.2.2.1, (v2 (Int.toNat v5)).2.2.2.2.2.1, (v2 (Int.toNat v5)).2.2.2.2.2.2.1, (v2 (Int.toNat v5)).2.2.2.2.2.2.2), v3)).bind fun r1 =>
    bif r1 then
      some v5
    else
    slices.IndexFunc_lJoint_Joint_v1.l0 k0 k1 v1 (fun i => Riiiiiiii.enc (v2 i)) v3 v4 (IntKind.i64.wrap (v5 + 1))
    else none
  else
  some (-1) := by kernel_rfl
theorem slices.IndexFunc_lJoint_Joint_v1.eq (k0 : Nat) (p0_n : Nat) (p0_g : Nat → (Int × Int × Int × Int × Int × Int × Int × Int)) (p1_0_0 : Int) : slices.IndexFunc_lJoint_Joint_v1.g k0 ((p0_n, (fun i => Riiiiiiii.enc (p0_g i))), p1_0_0) =
  slices.IndexFunc_lJoint_Joint_v1.l0 k0 k0 p0_n (fun i => Riiiiiiii.enc (p0_g i)) p1_0_0 ((p0_n : Nat) : Int) 0 := by kernel_rfl
/-! ### slices.DeleteFunc[[]bagatelle/api.Joint,bagatelle/api.Joint] -/
noncomputable def slices.DeleteFunc_lJoint_Joint_v1.cs : List (Nat × Fw.Summ) := [(85, slices.IndexFunc_lJoint_Joint_v1.s), (62, world.RemoveJoint_1.s)]
theorem slices.DeleteFunc_lJoint_Joint_v1.cs_ok : SumsOk Try.prog slices.DeleteFunc_lJoint_Joint_v1.cs := .cons slices.IndexFunc_lJoint_Joint_v1.ok (.cons world.RemoveJoint_1.ok (.nil))
def slices.DeleteFunc_lJoint_Joint_v1.hs : List (Nat × LHint) := [(0, { mat := [], live := [0, 1, 5, 6], ren := [] })]
noncomputable def slices.DeleteFunc_lJoint_Joint_v1.G : Ctx := ⟨Try.prog, sumAt slices.DeleteFunc_lJoint_Joint_v1.cs, lookH slices.DeleteFunc_lJoint_Joint_v1.hs, true⟩
noncomputable def slices.DeleteFunc_lJoint_Joint_v1.g (k0 : Nat) (x : (Nat × (Nat → List AV)) × Int) : Option (Nat × (Nat → (Int × Int × Int × Int × Int × Int × Int × Int))) := evT slices.DeleteFunc_lJoint_Joint_v1.G k0 Try.f75 ⟨true, 51, 8, x.1.1, x.1.2, none⟩ ((tOne (tF 62 (tOne (tP (tOne (tI .i64)))))).enc x.2) (RowT.mk Riiiiiiii 51 8 (0, 0, 0, 0, 0, 0, 0, 0)).dec
noncomputable def slices.DeleteFunc_lJoint_Joint_v1.f (x : (Nat × (Nat → List AV)) × Int) : Option (Nat × (Nat → (Int × Int × Int × Int × Int × Int × Int × Int))) := slices.DeleteFunc_lJoint_Joint_v1.g (1000000) x
noncomputable def slices.DeleteFunc_lJoint_Joint_v1.s : Fw.Summ := .mkT (tOne (tF 62 (tOne (tP (tOne (tI .i64)))))) (RowT.mk Riiiiiiii 51 8 (0, 0, 0, 0, 0, 0, 0, 0)) slices.DeleteFunc_lJoint_Joint_v1.f
theorem slices.DeleteFunc_lJoint_Joint_v1.ok : slices.DeleteFunc_lJoint_Joint_v1.s.Ok Try.prog 75 :=
  tsumm_ok (hint := lookH slices.DeleteFunc_lJoint_Joint_v1.hs) (fn := Try.f75) (fun x => 1000000) slices.DeleteFunc_lJoint_Joint_v1.cs_ok (by kernel_rfl) (by kernel_rfl) (by kernel_rfl) (by kernel_rfl) (tOne_ok (tF_ok _ (tOne_ok (tP_ok (tOne_ok (tI_ok _)))))) Riiiiiiii_ok (fun _ => rfl)
noncomputable def slices.DeleteFunc_lJoint_Joint_v1.l0 (k0 k1 : Nat) (v1 : Nat) (v2 : Nat → List AV) (v3 : Int) (v4 : Int) (v5 : Int) : Option (Nat × (Nat → (Int × Int × Int × Int × Int × Int × Int × Int))) :=
  evLoop (lookH slices.DeleteFunc_lJoint_Joint_v1.hs 0) 1 (ev slices.DeleteFunc_lJoint_Joint_v1.G k0 (codeAt [1, 1, 1, 0, 1, 0, 0] (bodyOf Try.f75)) 0) k1
  ⟨[.slc 0 0 none none, .fn 62 [.rp [.val (.int .i64 v3)] 0], .top, .top, .top, .val (.int .i64 v4), .val (.int .i64 v5), .top, .top, .top, .top, .top, .top, .top, .top, .top, .top, .top, .top, .top, .top, .top, .top, .top, .top, .top, .top, .top, .top, .top, .top, .top, .top, .top, .top, .top, .top, .top, .top, .top, .top, .top], [.live ⟨true, 51, 8, v1, v2, none⟩]⟩
  (kBlock slices.DeleteFunc_lJoint_Joint_v1.G 0 (kSeq slices.DeleteFunc_lJoint_Joint_v1.G k0 (codeAt [1, 1, 1, 1] (bodyOf Try.f75)) 0 (kFinT slices.DeleteFunc_lJoint_Joint_v1.G Try.f75 (RowT.mk Riiiiiiii 51 8 (0, 0, 0, 0, 0, 0, 0, 0)).dec)))
theorem slices.DeleteFunc_lJoint_Joint_v1.l0_eq (k0 k1 : Nat) (v1 : Nat) (v2 : Nat → (Int × Int × Int × Int × Int × Int × Int × Int)) (v3 : Int) (v4 : Int) (v5 : Int) : slices.DeleteFunc_lJoint_Joint_v1.l0 k0 (k1 + 1) v1 (fun i => Riiiiiiii.enc (v2 i)) v3 v4 v5 =
  bif (decide (v5 < ((v1 : Nat) : Int))) then
    bif ((decide (0 ≤ v5)) && (decide (v5 < ((v1 : Nat) : Int)))) then
    (world.RemoveJoint_1.f (((v2 (Int.toNat v5)).1, (v2 (Int.toNat v5)).2.1, (v2 (Int.toNat v5)).2.2.1, (v2 (Int.toNat v5)).2.2.2.1, (v2 (Int.toNat v5)).2.2.2.2.1, (v2 (Int.toNat v5)).2.2.2.2.2.1, (v2 (Int.toNat v5)).2.2.2.2.2.2.1, (v2 (Int.toNat v5)).2.2.2.2.2.2.2), v3)).bind fun r2 =>
    bif (!r2) then
      bif ((decide (0 ≤ v4)) && (decide (v4 < ((v1 : Nat) : Int)))) then
      slices.DeleteFunc_lJoint_Joint_v1.l0 k0 k1 v1 (fun i => renL (lookF [] 1) (if i = (Int.toNat v4) then Riiiiiiii.enc ((v2 (Int.toNat v5)).1, (v2 (Int.toNat v5)).2.1, (v2 (Int.toNat v5)).2.2.1, (v2 (Int.toNat v5)).2.2.2.1, (v2 (Int.toNat v5)).2.2.2.2.1, (v2 (Int.toNat v5)).2.2.2.2.2.1, (v2 (Int.toNat v5)).2.2.2.2.2.2.1, (v2 (Int.toNat v5)).2.2.2.2.2.2.2) else Riiiiiiii.enc (v2 i))) v3 (IntKind.i64.wrap (v4 + 1)) (IntKind.i64.wrap (v5 + 1))
      else none
    else
    slices.DeleteFunc_lJoint_Joint_v1.l0 k0 k1 v1 (fun i => Riiiiiiii.enc (v2 i)) v3 v4 (IntKind.i64.wrap (v5 + 1))
    else none
  else
  bif ((decide (0 ≤ v4)) && (decide (v4 < ((v1 : Nat) : Int)))) then
  bif ((decide (0 ≤ v4)) && (decide (v4 ≤ ((v1 : Nat) : Int)))) then
  (RowT.mk Riiiiiiii 51 8 (0, 0, 0, 0, 0, 0, 0, 0)).dec (.slc 0 0 none none) ⟨true, 51, 8, (Int.toNat v4), (fun i => cloL (if i < (Int.toNat v4) then Riiiiiiii.enc (v2 i) else [.val (.int .i64 0), .val (.int .i64 0), .val (.int .i64 0), .val (.int .i64 0), .val (.int .i64 0), .val (.int .i64 0), .val (.int .i64 0), .val (.int .i64 0)])), none⟩
  else none
  else none := by kernel_rfl
theorem slices.DeleteFunc_lJoint_Joint_v1.eq (k0 : Nat) (p0_n : Nat) (p0_g : Nat → (Int × Int × Int × Int × Int × Int × Int × Int)) (p1_0_0 : Int) : slices.DeleteFunc_lJoint_Joint_v1.g k0 ((p0_n, (fun i => Riiiiiiii.enc (p0_g i))), p1_0_0) =
  (slices.IndexFunc_lJoint_Joint_v1.f ((p0_n, (fun i => Riiiiiiii.enc (p0_g i))), p1_0_0)).bind fun r1 =>
  bif (r1 == (-1)) then
    (RowT.mk Riiiiiiii 51 8 (0, 0, 0, 0, 0, 0, 0, 0)).dec (.slc 0 0 none none) ⟨true, 51, 8, p0_n, (fun i => Riiiiiiii.enc (p0_g i)), none⟩
  else
  slices.DeleteFunc_lJoint_Joint_v1.l0 k0 k0 p0_n (fun i => Riiiiiiii.enc (p0_g i)) p1_0_0 r1 (IntKind.i64.wrap (r1 + 1)) := by kernel_rfl
/-! ### bagatelle/world.without[bagatelle/api.Joint] -/
noncomputable def world.without_Joint_v1.cs : List (Nat × Fw.Summ) := [(55, slices.Clone_lJoint_Joint.s), (75, slices.DeleteFunc_lJoint_Joint_v1.s)]
theorem world.without_Joint_v1.cs_ok : SumsOk Try.prog world.without_Joint_v1.cs := .cons slices.Clone_lJoint_Joint.ok (.cons slices.DeleteFunc_lJoint_Joint_v1.ok (.nil))
def world.without_Joint_v1.hs : List (Nat × LHint) := []
noncomputable def world.without_Joint_v1.G : Ctx := ⟨Try.prog, sumAt world.without_Joint_v1.cs, lookH world.without_Joint_v1.hs, true⟩
noncomputable def world.without_Joint_v1.f (x : ((Nat × (Nat → List AV)) × Int)) : Option (Nat × (Nat → (Int × Int × Int × Int × Int × Int × Int × Int))) := evF world.without_Joint_v1.G 0 Try.f46 ((tCons (tLz 8 (Riiiiiiii.enc (0, 0, 0, 0, 0, 0, 0, 0))) (tOne (tF 62 (tOne (tP (tOne (tI .i64))))))).enc x) (tTL Riiiiiiii 8 (0, 0, 0, 0, 0, 0, 0, 0)).dec
noncomputable def world.without_Joint_v1.s : Fw.Summ := .mk' (tCons (tLz 8 (Riiiiiiii.enc (0, 0, 0, 0, 0, 0, 0, 0))) (tOne (tF 62 (tOne (tP (tOne (tI .i64))))))) (tTL Riiiiiiii 8 (0, 0, 0, 0, 0, 0, 0, 0)) world.without_Joint_v1.f
theorem world.without_Joint_v1.ok : world.without_Joint_v1.s.Ok Try.prog 46 :=
  summ_ok (hint := lookH world.without_Joint_v1.hs) (fn := Try.f46) (fun x => 0) world.without_Joint_v1.cs_ok (by kernel_rfl) (by kernel_rfl) (by kernel_rfl) (by kernel_rfl) (tCons_ok (tLz_ok _ _) (tOne_ok (tF_ok _ (tOne_ok (tP_ok (tOne_ok (tI_ok _))))))) (tTL_ok Riiiiiiii_ok _ _) (fun _ => rfl)
theorem world.without_Joint_v1.eq (p0_n : Nat) (p0_g : Nat → (Int × Int × Int × Int × Int × Int × Int × Int)) (p1_0_0 : Int) : world.without_Joint_v1.f ((p0_n, (fun i => Riiiiiiii.enc (p0_g i))), p1_0_0) =
  (slices.Clone_lJoint_Joint.f (p0_n, (fun i => Riiiiiiii.enc (p0_g i)))).bind fun r1 =>
  (slices.DeleteFunc_lJoint_Joint_v1.f ((r1.1, (fun i => Riiiiiiii.enc (r1.2 i))), p1_0_0)).bind fun r2 =>
  (tTL Riiiiiiii 8 (0, 0, 0, 0, 0, 0, 0, 0)).dec (.lst 8 r2.1 none (fun i => Riiiiiiii.enc (r2.2 i))) := by kernel_rfl
/-! ### bagatelle/world.RemoveJoint -/
noncomputable def world.RemoveJoint.cs : List (Nat × Fw.Summ) := [(17, world.Joint.s), (46, world.without_Joint_v1.s)]
theorem world.RemoveJoint.cs_ok : SumsOk Try.prog world.RemoveJoint.cs := .cons world.Joint.ok (.cons world.without_Joint_v1.ok (.nil))
noncomputable def world.RemoveJoint.G : Ctx := ⟨Try.prog, sumAt world.RemoveJoint.cs, fun _ => { unroll := true }, true⟩
noncomputable def world.RemoveJoint.f (x : (Int × Int × Int × Int × Int × (Nat × (Nat → List AV)) × (Nat × (Nat → List AV)) × (Nat × (Nat → List AV))) × Int) : Option (Bool × (Int × Int × Int × Int × Int × (Nat × (Nat → (Int × Int × Int × Int × Int × Int × Int × Int × Int × Int × (Nat × (Nat → List AV))))) × (Nat × (Nat → (Int × Int × Int × Int × Int × Int × Int × Int))) × (Nat × (Nat → (Int × Int × Int × Int × Int))))) := evG world.RemoveJoint.G Try.f27 31 ((tCons (tI .i64) (tCons (tI .i64) (tCons (tI .i64) (tCons (tI .i64) (tCons (tI .i64) (tCons (tLz 11 (RiiiiiiiiiiL2.enc (0, 0, 0, 0, 0, 0, 0, 0, 0, 0, (0, fun _ => [])))) (tCons (tLz 8 (Riiiiiiii.enc (0, 0, 0, 0, 0, 0, 0, 0))) (tOne (tLz 5 (Riiiii.enc (0, 0, 0, 0, 0))))))))))).enc x.1) ((tOne (tI .i64)).enc x.2) (outD tB (tCons (tI .i64) (tCons (tI .i64) (tCons (tI .i64) (tCons (tI .i64) (tCons (tI .i64) (tCons (tTL RiiiiiiiiiiL2 11 (0, 0, 0, 0, 0, 0, 0, 0, 0, 0, (0, fun _ => []))) (tCons (tTL Riiiiiiii 8 (0, 0, 0, 0, 0, 0, 0, 0)) (tOne (tTL Riiiii 5 (0, 0, 0, 0, 0)))))))))))
noncomputable def world.RemoveJoint.s : Fw.Summ := .mkO2 31 (tCons (tI .i64) (tCons (tI .i64) (tCons (tI .i64) (tCons (tI .i64) (tCons (tI .i64) (tCons (tLz 11 (RiiiiiiiiiiL2.enc (0, 0, 0, 0, 0, 0, 0, 0, 0, 0, (0, fun _ => [])))) (tCons (tLz 8 (Riiiiiiii.enc (0, 0, 0, 0, 0, 0, 0, 0))) (tOne (tLz 5 (Riiiii.enc (0, 0, 0, 0, 0))))))))))) (tCons (tI .i64) (tCons (tI .i64) (tCons (tI .i64) (tCons (tI .i64) (tCons (tI .i64) (tCons (tTL RiiiiiiiiiiL2 11 (0, 0, 0, 0, 0, 0, 0, 0, 0, 0, (0, fun _ => []))) (tCons (tTL Riiiiiiii 8 (0, 0, 0, 0, 0, 0, 0, 0)) (tOne (tTL Riiiii 5 (0, 0, 0, 0, 0)))))))))) (tOne (tI .i64)) tB world.RemoveJoint.f
theorem world.RemoveJoint.ok : world.RemoveJoint.s.Ok Try.prog 27 :=
  osumm2_ok (fn := Try.f27) world.RemoveJoint.cs_ok (by kernel_rfl) (by kernel_rfl) (by kernel_rfl) (by kernel_rfl) (tCons_ok (tI_ok _) (tCons_ok (tI_ok _) (tCons_ok (tI_ok _) (tCons_ok (tI_ok _) (tCons_ok (tI_ok _) (tCons_ok (tLz_ok _ _) (tCons_ok (tLz_ok _ _) (tOne_ok (tLz_ok _ _))))))))) (tCons_ok (tI_ok _) (tCons_ok (tI_ok _) (tCons_ok (tI_ok _) (tCons_ok (tI_ok _) (tCons_ok (tI_ok _) (tCons_ok (tTL_ok RiiiiiiiiiiL2_ok _ _) (tCons_ok (tTL_ok Riiiiiiii_ok _ _) (tOne_ok (tTL_ok Riiiii_ok _ _))))))))) (tOne_ok (tI_ok _)) tB_ok (fun _ => rfl)
theorem world.RemoveJoint.eq (o_0 : Int) (o_1 : Int) (o_2 : Int) (o_3 : Int) (o_4 : Int) (o_5_n : Nat) (o_5_g : Nat → (Int × Int × Int × Int × Int × Int × Int × Int × Int × Int × (Nat × (Nat → List AV)))) (o_6_n : Nat) (o_6_g : Nat → (Int × Int × Int × Int × Int × Int × Int × Int)) (o_7_n : Nat) (o_7_g : Nat → (Int × Int × Int × Int × Int)) (p0 : Int) : world.RemoveJoint.f ((o_0, o_1, o_2, o_3, o_4, (o_5_n, (fun i => RiiiiiiiiiiL2.enc (o_5_g i))), (o_6_n, (fun i => Riiiiiiii.enc (o_6_g i))), (o_7_n, (fun i => Riiiii.enc (o_7_g i)))), p0) =
  (world.Joint.f ((o_0, o_1, o_2, o_3, o_4, (o_5_n, (fun i => RiiiiiiiiiiL2.enc (o_5_g i))), (o_6_n, (fun i => Riiiiiiii.enc (o_6_g i))), (o_7_n, (fun i => Riiiii.enc (o_7_g i)))), p0)).bind fun r1 =>
  bif (!r1.2) then
    outD tB (tCons (tI .i64) (tCons (tI .i64) (tCons (tI .i64) (tCons (tI .i64) (tCons (tI .i64) (tCons (tTL RiiiiiiiiiiL2 11 (0, 0, 0, 0, 0, 0, 0, 0, 0, 0, (0, fun _ => []))) (tCons (tTL Riiiiiiii 8 (0, 0, 0, 0, 0, 0, 0, 0)) (tOne (tTL Riiiii 5 (0, 0, 0, 0, 0)))))))))) (.val (.bool false)) [.val (.int .i64 o_0), .val (.int .i64 o_1), .val (.int .i64 o_2), .val (.int .i64 o_3), .val (.int .i64 o_4), .lst 11 o_5_n none (fun i => RiiiiiiiiiiL2.enc (o_5_g i)), .lst 8 o_6_n none (fun i => Riiiiiiii.enc (o_6_g i)), .lst 5 o_7_n none (fun i => Riiiii.enc (o_7_g i))]
  else
  (world.without_Joint_v1.f ((o_6_n, (fun i => Riiiiiiii.enc (o_6_g i))), p0)).bind fun r2 =>
  outD tB (tCons (tI .i64) (tCons (tI .i64) (tCons (tI .i64) (tCons (tI .i64) (tCons (tI .i64) (tCons (tTL RiiiiiiiiiiL2 11 (0, 0, 0, 0, 0, 0, 0, 0, 0, 0, (0, fun _ => []))) (tCons (tTL Riiiiiiii 8 (0, 0, 0, 0, 0, 0, 0, 0)) (tOne (tTL Riiiii 5 (0, 0, 0, 0, 0)))))))))) (.val (.bool true)) [.val (.int .i64 o_0), .val (.int .i64 o_1), .val (.int .i64 o_2), .val (.int .i64 o_3), .val (.int .i64 o_4), .lst 11 o_5_n none (fun i => RiiiiiiiiiiL2.enc (o_5_g i)), .lst 8 r2.1 none (fun i => Riiiiiiii.enc (r2.2 i)), .lst 5 o_7_n none (fun i => Riiiii.enc (o_7_g i))] := by kernel_rfl
/-! ### bagatelle/shape.Box -/
noncomputable def shape.Box.cs : List (Nat × Fw.Summ) := [(77, fix.Neg.s)]
theorem shape.Box.cs_ok : SumsOk Try.prog shape.Box.cs := .cons fix.Neg.ok (.nil)
def shape.Box.hs : List (Nat × LHint) := []
noncomputable def shape.Box.G : Ctx := ⟨Try.prog, sumAt shape.Box.cs, lookH shape.Box.hs, true⟩
noncomputable def shape.Box.f (x : (Int × Int)) : Option (Int × Int × (Nat × (Nat → (Int × Int)))) := evF shape.Box.G 0 Try.f81 ((tCons (tI .i64) (tOne (tI .i64))).enc x) (tG (tCons (tI .i64) (tCons (tI .i64) (tOne (tTL Rii 2 (0, 0)))))).dec
noncomputable def shape.Box.s : Fw.Summ := .mk' (tCons (tI .i64) (tOne (tI .i64))) (tG (tCons (tI .i64) (tCons (tI .i64) (tOne (tTL Rii 2 (0, 0)))))) shape.Box.f
theorem shape.Box.ok : shape.Box.s.Ok Try.prog 81 :=
  summ_ok (hint := lookH shape.Box.hs) (fn := Try.f81) (fun x => 0) shape.Box.cs_ok (by kernel_rfl) (by kernel_rfl) (by kernel_rfl) (by kernel_rfl) (tCons_ok (tI_ok _) (tOne_ok (tI_ok _))) (tG_ok (tCons_ok (tI_ok _) (tCons_ok (tI_ok _) (tOne_ok (tTL_ok Rii_ok _ _))))) (fun _ => rfl)
theorem shape.Box.eq (p0 : Int) (p1 : Int) : shape.Box.f (p0, p1) =
  (fix.Neg.f p0).bind fun r1 =>
  (fix.Neg.f p1).bind fun r2 =>
  (fix.Neg.f p1).bind fun r3 =>
  (fix.Neg.f p0).bind fun r4 =>
  (tG (tCons (tI .i64) (tCons (tI .i64) (tOne (tTL Rii 2 (0, 0)))))).dec (.agg [.val (.int .i64 2), .val (.int .i64 0), .lst 2 4 (some 4) (fun i => cloL (List.getD (List.map Rii.enc [(r1, r2), (p0, r3), (p0, p1), (r4, p1)]) i (Rii.enc (0, 0))))]) := by kernel_rfl
/-! ### bagatelle/bagatellelaw04.ring -/
noncomputable def law04.ring.cs : List (Nat × Fw.Summ) := []
theorem law04.ring.cs_ok : SumsOk Try.prog law04.ring.cs := .nil
def law04.ring.hs : List (Nat × LHint) := []
noncomputable def law04.ring.G : Ctx := ⟨Try.prog, sumAt law04.ring.cs, lookH law04.ring.hs, true⟩
noncomputable def law04.ring.f (x : Unit) : Option (Nat × (Nat → (Int × Int))) := evF law04.ring.G 0 Try.f82 (tNil.enc x) (tTL Rii 2 (0, 0)).dec
noncomputable def law04.ring.s : Fw.Summ := .mk' tNil (tTL Rii 2 (0, 0)) law04.ring.f
theorem law04.ring.ok : law04.ring.s.Ok Try.prog 82 :=
  summ_ok (hint := lookH law04.ring.hs) (fn := Try.f82) (fun x => 0) law04.ring.cs_ok (by kernel_rfl) (by kernel_rfl) (by kernel_rfl) (by kernel_rfl) tNil_ok (tTL_ok Rii_ok _ _) (fun _ => rfl)
theorem law04.ring.eq  : law04.ring.f () =
  (tTL Rii 2 (0, 0)).dec (.lst 2 10 (some 10) (fun i => cloL (List.getD (List.map Rii.enc [(65, 0), (52, 39), (25, 60), ((-25), 60), ((-52), 39), ((-65), 0), ((-52), (-39)), ((-25), (-60)), (25, (-60)), (52, (-39))]) i (Rii.enc (0, 0))))) := by kernel_rfl
/-! ### (bagatelle/bagatellelaw04.Seed).Shape -/
noncomputable def law04.Seed.Shape.cs : List (Nat × Fw.Summ) := [(81, shape.Box.s), (82, law04.ring.s)]
theorem law04.Seed.Shape.cs_ok : SumsOk Try.prog law04.Seed.Shape.cs := .cons shape.Box.ok (.cons law04.ring.ok (.nil))
def law04.Seed.Shape.hs : List (Nat × LHint) := [(1, { mat := [(.cell 2 0 2, 26)], live := [1, 2, 3, 4, 5, 6, 39, 40], ren := [(.cell 2 0 2, 3)] })]
noncomputable def law04.Seed.Shape.G : Ctx := ⟨Try.prog, sumAt law04.Seed.Shape.cs, lookH law04.Seed.Shape.hs, true⟩
noncomputable def law04.Seed.Shape.g (k0 : Nat) (x : (Int × Int × Int × Int)) : Option (Int × Int × (Nat × (Nat → (Int × Int)))) := evF law04.Seed.Shape.G k0 Try.f66 ((tOne (tG (tCons (tI .i64) (tCons (tI .i64) (tCons (tI .i64) (tOne (tI .i64))))))).enc x) (tG (tCons (tI .i64) (tCons (tI .i64) (tOne (tTL Rii 2 (0, 0)))))).dec
noncomputable def law04.Seed.Shape.f (x : (Int × Int × Int × Int)) : Option (Int × Int × (Nat × (Nat → (Int × Int)))) := law04.Seed.Shape.g (1000000) x
noncomputable def law04.Seed.Shape.s : Fw.Summ := .mk' (tOne (tG (tCons (tI .i64) (tCons (tI .i64) (tCons (tI .i64) (tOne (tI .i64))))))) (tG (tCons (tI .i64) (tCons (tI .i64) (tOne (tTL Rii 2 (0, 0)))))) law04.Seed.Shape.f
theorem law04.Seed.Shape.ok : law04.Seed.Shape.s.Ok Try.prog 66 :=
  summ_ok (hint := lookH law04.Seed.Shape.hs) (fn := Try.f66) (fun x => 1000000) law04.Seed.Shape.cs_ok (by kernel_rfl) (by kernel_rfl) (by kernel_rfl) (by kernel_rfl) (tOne_ok (tG_ok (tCons_ok (tI_ok _) (tCons_ok (tI_ok _) (tCons_ok (tI_ok _) (tOne_ok (tI_ok _))))))) (tG_ok (tCons_ok (tI_ok _) (tCons_ok (tI_ok _) (tOne_ok (tTL_ok Rii_ok _ _))))) (fun _ => rfl)
noncomputable def law04.Seed.Shape.l2 (k0 k1 : Nat) (v1 : Int) (v2 : Int) (v3 : Int) (v4 : Int) (v5 : Nat) (v6 : Nat → List AV) (v7 : Int) (v8 : Int) (v9 : Nat) (v10 : Nat → List AV) (v11 : Int) : Option (Int × Int × (Nat × (Nat → (Int × Int)))) :=
  evLoop (lookH law04.Seed.Shape.hs 1) 4 (ev law04.Seed.Shape.G k0 (codeAt [1, 1, 1, 1, 1, 1, 0, 1, 0, 0] (bodyOf Try.f66)) 1) k1
  ⟨[.top, .ptr 0 0 0, .ptr 1 0 0, .val (.int .i64 v7), .val (.int .i64 v8), .ptr 2 0 0, .lst 2 v9 none v10, .top, .top, .top, .top, .top, .top, .top, .top, .top, .top, .top, .top, .top, .top, .top, .top, .top, .top, .top, .top, .top, .top, .top, .top, .top, .top, .top, .top, .top, .top, .top, .top, .val (.int .i64 v8), .val (.int .i64 v11), .top, .top, .top, .top, .top, .top, .top, .top, .top, .top, .top, .top, .top, .top, .top, .top, .top, .top, .top, .top, .top, .top, .top, .top, .top, .top, .top, .top, .top, .top, .top, .top], [.live ⟨false, 36, 4, 1, fun _ => [.val (.int .i64 v1), .val (.int .i64 v2), .val (.int .i64 v3), .val (.int .i64 v4)], none⟩, .live ⟨false, 41, 3, 1, fun _ => [.val (.int .i64 0), .val (.int .i64 0), .val (.slice none 0 0)], none⟩, .live ⟨false, 41, 3, 1, fun _ => [.val (.int .i64 2), .val (.int .i64 0), .slc 3 0 none none], none⟩, .live ⟨true, 26, 2, v5, v6, none⟩]⟩
  (kBlock law04.Seed.Shape.G 1 (kSeq law04.Seed.Shape.G k0 (codeAt [1, 1, 1, 1, 1, 1, 1] (bodyOf Try.f66)) 0 (kFin law04.Seed.Shape.G Try.f66 (tG (tCons (tI .i64) (tCons (tI .i64) (tOne (tTL Rii 2 (0, 0)))))).dec)))
theorem law04.Seed.Shape.l2_eq (k0 k1 : Nat) (v1 : Int) (v2 : Int) (v3 : Int) (v4 : Int) (v5 : Nat) (v6 : Nat → (Int × Int)) (v7 : Int) (v8 : Int) (v9 : Nat) (v10 : Nat → (Int × Int)) (v11 : Int) : law04.Seed.Shape.l2 k0 (k1 + 1) v1 v2 v3 v4 v5 (fun i => Rii.enc (v6 i)) v7 v8 v9 (fun i => Rii.enc (v10 i)) v11 =
  bif (decide (v11 < v8)) then
    bif (decide (v8 ≠ 0)) then
    bif ((decide (0 ≤ (Int.tmod (IntKind.i64.wrap ((IntKind.i64.wrap (Int.tdiv (IntKind.i64.wrap (v11 * 10)) v8)) + (Go.bits .and .i64 v4 255))) 10))) && (decide ((Int.tmod (IntKind.i64.wrap ((IntKind.i64.wrap (Int.tdiv (IntKind.i64.wrap (v11 * 10)) v8)) + (Go.bits .and .i64 v4 255))) 10) < ((v9 : Nat) : Int)))) then
    bif (decide ((v5 + 1) * 16 ≤ 140737488355328)) then
    law04.Seed.Shape.l2 k0 k1 v1 v2 v3 v4 (v5 + 1) (fun i => renL (lookF [(61, 3)] 4) (if i = v5 then Rii.enc ((IntKind.i64.wrap (Int.tdiv (IntKind.i64.wrap ((v10 (Int.toNat (Int.tmod (IntKind.i64.wrap ((IntKind.i64.wrap (Int.tdiv (IntKind.i64.wrap (v11 * 10)) v8)) + (Go.bits .and .i64 v4 255))) 10))).1 * v7)) 64)), (IntKind.i64.wrap (Int.tdiv (IntKind.i64.wrap ((v10 (Int.toNat (Int.tmod (IntKind.i64.wrap ((IntKind.i64.wrap (Int.tdiv (IntKind.i64.wrap (v11 * 10)) v8)) + (Go.bits .and .i64 v4 255))) 10))).2 * v7)) 64))) else Rii.enc (v6 i))) v7 v8 v9 (fun i => Rii.enc (v10 i)) (IntKind.i64.wrap (v11 + 1))
    else none
    else none
    else none
  else
  (tG (tCons (tI .i64) (tCons (tI .i64) (tOne (tTL Rii 2 (0, 0)))))).dec (.agg [.val (.int .i64 2), .val (.int .i64 0), .lst 2 v5 none (fun i => Rii.enc (v6 i))]) := by kernel_rfl
theorem law04.Seed.Shape.eq (k0 : Nat) (p0_0 : Int) (p0_1 : Int) (p0_2 : Int) (p0_3 : Int) : law04.Seed.Shape.g k0 (p0_0, p0_1, p0_2, p0_3) =
  bif ((Go.bits .and .i64 p0_0 3) == 0) then
    (tG (tCons (tI .i64) (tCons (tI .i64) (tOne (tTL Rii 2 (0, 0)))))).dec (.agg [.val (.int .i64 1), .val (.int .i64 (IntKind.i64.wrap (Int.tdiv (IntKind.i64.wrap ((IntKind.i64.wrap (1 + (Go.bits .and .i64 p0_2 63))) * 4294967296)) 16))), .val (.slice none 0 0)])
  else
  bif ((Go.bits .and .i64 p0_0 3) == 1) then
    (shape.Box.f ((IntKind.i64.wrap (Int.tdiv (IntKind.i64.wrap ((IntKind.i64.wrap (1 + (Go.bits .and .i64 p0_2 63))) * 4294967296)) 16)), (IntKind.i64.wrap (Int.tdiv (IntKind.i64.wrap ((IntKind.i64.wrap (1 + (Go.bits .and .i64 p0_3 31))) * 4294967296)) 16)))).bind fun r1 =>
    (tG (tCons (tI .i64) (tCons (tI .i64) (tOne (tTL Rii 2 (0, 0)))))).dec (.agg [.val (.int .i64 r1.1), .val (.int .i64 r1.2.1), .lst 2 r1.2.2.1 none (fun i => Rii.enc (r1.2.2.2 i))])
  else
  (law04.ring.f ()).bind fun r2 =>
  law04.Seed.Shape.l2 k0 k0 p0_0 p0_1 p0_2 p0_3 0 (fun _ => Rii.enc (0, 0)) (IntKind.i64.wrap (Int.tdiv (IntKind.i64.wrap ((IntKind.i64.wrap (1 + (Go.bits .and .i64 p0_2 63))) * 4294967296)) 16)) (IntKind.i64.wrap (3 + (Int.tmod (Go.bits .and .i64 p0_1 255) 6))) r2.1 (fun i => Rii.enc (r2.2 i)) 0 := by kernel_rfl
/-! ### (bagatelle/bagatellelaw06.Place).Body -/
noncomputable def law06.Place.Body.cs : List (Nat × Fw.Summ) := [(28, vec.Bring.s), (66, law04.Seed.Shape.s)]
theorem law06.Place.Body.cs_ok : SumsOk Try.prog law06.Place.Body.cs := .cons vec.Bring.ok (.cons law04.Seed.Shape.ok (.nil))
def law06.Place.Body.hs : List (Nat × LHint) := []
noncomputable def law06.Place.Body.G : Ctx := ⟨Try.prog, sumAt law06.Place.Body.cs, lookH law06.Place.Body.hs, true⟩
noncomputable def law06.Place.Body.f (x : (Int × Int × Int × Int × Int × Int × Int)) : Option (Int × Int × Int × Int × Int × Int × Int × Int × Int × Int × (Nat × (Nat → (Int × Int)))) := evF law06.Place.Body.G 0 Try.f31 ((tOne (tG (tCons (tI .i64) (tCons (tI .i64) (tCons (tI .i64) (tCons (tI .i64) (tCons (tI .i64) (tCons (tI .i64) (tOne (tI .i64)))))))))).enc x) (tG (tCons (tI .i64) (tCons (tI .i64) (tCons (tI .i64) (tCons (tI .i64) (tCons (tI .i64) (tCons (tI .i64) (tCons (tI .i64) (tCons (tI .i64) (tCons (tI .i64) (tCons (tI .i64) (tOne (tTL Rii 2 (0, 0)))))))))))))).dec
noncomputable def law06.Place.Body.s : Fw.Summ := .mk' (tOne (tG (tCons (tI .i64) (tCons (tI .i64) (tCons (tI .i64) (tCons (tI .i64) (tCons (tI .i64) (tCons (tI .i64) (tOne (tI .i64)))))))))) (tG (tCons (tI .i64) (tCons (tI .i64) (tCons (tI .i64) (tCons (tI .i64) (tCons (tI .i64) (tCons (tI .i64) (tCons (tI .i64) (tCons (tI .i64) (tCons (tI .i64) (tCons (tI .i64) (tOne (tTL Rii 2 (0, 0)))))))))))))) law06.Place.Body.f
theorem law06.Place.Body.ok : law06.Place.Body.s.Ok Try.prog 31 :=
  summ_ok (hint := lookH law06.Place.Body.hs) (fn := Try.f31) (fun x => 0) law06.Place.Body.cs_ok (by kernel_rfl) (by kernel_rfl) (by kernel_rfl) (by kernel_rfl) (tOne_ok (tG_ok (tCons_ok (tI_ok _) (tCons_ok (tI_ok _) (tCons_ok (tI_ok _) (tCons_ok (tI_ok _) (tCons_ok (tI_ok _) (tCons_ok (tI_ok _) (tOne_ok (tI_ok _)))))))))) (tG_ok (tCons_ok (tI_ok _) (tCons_ok (tI_ok _) (tCons_ok (tI_ok _) (tCons_ok (tI_ok _) (tCons_ok (tI_ok _) (tCons_ok (tI_ok _) (tCons_ok (tI_ok _) (tCons_ok (tI_ok _) (tCons_ok (tI_ok _) (tCons_ok (tI_ok _) (tOne_ok (tTL_ok Rii_ok _ _))))))))))))) (fun _ => rfl)
theorem law06.Place.Body.eq (p0_0 : Int) (p0_1 : Int) (p0_2 : Int) (p0_3 : Int) (p0_4 : Int) (p0_5 : Int) (p0_6 : Int) : law06.Place.Body.f (p0_0, p0_1, p0_2, p0_3, p0_4, p0_5, p0_6) =
  (vec.Bring.f ((p0_4, p0_5), 4294967296000)).bind fun r1 =>
  (law04.Seed.Shape.f (p0_0, p0_1, p0_2, p0_3)).bind fun r2 =>
  (tG (tCons (tI .i64) (tCons (tI .i64) (tCons (tI .i64) (tCons (tI .i64) (tCons (tI .i64) (tCons (tI .i64) (tCons (tI .i64) (tCons (tI .i64) (tCons (tI .i64) (tCons (tI .i64) (tOne (tTL Rii 2 (0, 0)))))))))))))).dec (.agg [.val (.int .i64 0), .val (.int .i64 r1.1), .val (.int .i64 r1.2), .val (.int .i64 0), .val (.int .i64 0), .val (.int .i64 (Go.bits .and .i64 p0_6 4294967295)), .val (.int .i64 0), .val (.int .i64 0), .val (.int .i64 r2.1), .val (.int .i64 r2.2.1), .lst 2 r2.2.2.1 none (fun i => Rii.enc (r2.2.2.2 i))]) := by kernel_rfl
/-! ### (bagatelle/bagatellelaw09.Deed).Body -/
noncomputable def law09.Deed.Body.cs : List (Nat × Fw.Summ) := [(31, law06.Place.Body.s), (28, vec.Bring.s), (32, fix.Bring.s)]
theorem law09.Deed.Body.cs_ok : SumsOk Try.prog law09.Deed.Body.cs := .cons law06.Place.Body.ok (.cons vec.Bring.ok (.cons fix.Bring.ok (.nil)))
def law09.Deed.Body.hs : List (Nat × LHint) := []
noncomputable def law09.Deed.Body.G : Ctx := ⟨Try.prog, sumAt law09.Deed.Body.cs, lookH law09.Deed.Body.hs, true⟩
noncomputable def law09.Deed.Body.f (x : (Int × Int × Int × Int × Int × Int × Int × Int × Int × Int × Int × Int × Int × Int × Int × Int × Int × Int × Int × Int × Int × Int × Int × Int × Int × Int × Int × Int × Int × (Nat × (Nat → List AV)))) : Option (Int × Int × Int × Int × Int × Int × Int × Int × Int × Int × (Nat × (Nat → (Int × Int)))) := evF law09.Deed.Body.G 0 Try.f14 ((tOne (tG (tCons (tI .i64) (tCons (tI .i64) (tCons (tI .i64) (tCons (tI .i64) (tCons (tI .i64) (tCons (tI .i64) (tCons (tI .i64) (tCons (tI .i64) (tCons (tI .i64) (tCons (tI .i64) (tCons (tI .i64) (tCons (tI .i64) (tCons (tI .i64) (tCons (tI .i64) (tCons (tI .i64) (tCons (tI .i64) (tCons (tI .i64) (tCons (tI .i64) (tCons (tI .i64) (tCons (tI .i64) (tCons (tI .i64) (tCons (tI .i64) (tCons (tI .i64) (tCons (tI .i64) (tCons (tI .i64) (tCons (tI .i64) (tCons (tI .i64) (tCons (tI .i64) (tCons (tI .i64) (tOne (tLz 2 (Rii.enc (0, 0))))))))))))))))))))))))))))))))))).enc x) (tG (tCons (tI .i64) (tCons (tI .i64) (tCons (tI .i64) (tCons (tI .i64) (tCons (tI .i64) (tCons (tI .i64) (tCons (tI .i64) (tCons (tI .i64) (tCons (tI .i64) (tCons (tI .i64) (tOne (tTL Rii 2 (0, 0)))))))))))))).dec
noncomputable def law09.Deed.Body.s : Fw.Summ := .mk' (tOne (tG (tCons (tI .i64) (tCons (tI .i64) (tCons (tI .i64) (tCons (tI .i64) (tCons (tI .i64) (tCons (tI .i64) (tCons (tI .i64) (tCons (tI .i64) (tCons (tI .i64) (tCons (tI .i64) (tCons (tI .i64) (tCons (tI .i64) (tCons (tI .i64) (tCons (tI .i64) (tCons (tI .i64) (tCons (tI .i64) (tCons (tI .i64) (tCons (tI .i64) (tCons (tI .i64) (tCons (tI .i64) (tCons (tI .i64) (tCons (tI .i64) (tCons (tI .i64) (tCons (tI .i64) (tCons (tI .i64) (tCons (tI .i64) (tCons (tI .i64) (tCons (tI .i64) (tCons (tI .i64) (tOne (tLz 2 (Rii.enc (0, 0))))))))))))))))))))))))))))))))))) (tG (tCons (tI .i64) (tCons (tI .i64) (tCons (tI .i64) (tCons (tI .i64) (tCons (tI .i64) (tCons (tI .i64) (tCons (tI .i64) (tCons (tI .i64) (tCons (tI .i64) (tCons (tI .i64) (tOne (tTL Rii 2 (0, 0)))))))))))))) law09.Deed.Body.f
theorem law09.Deed.Body.ok : law09.Deed.Body.s.Ok Try.prog 14 :=
  summ_ok (hint := lookH law09.Deed.Body.hs) (fn := Try.f14) (fun x => 0) law09.Deed.Body.cs_ok (by kernel_rfl) (by kernel_rfl) (by kernel_rfl) (by kernel_rfl) (tOne_ok (tG_ok (tCons_ok (tI_ok _) (tCons_ok (tI_ok _) (tCons_ok (tI_ok _) (tCons_ok (tI_ok _) (tCons_ok (tI_ok _) (tCons_ok (tI_ok _) (tCons_ok (tI_ok _) (tCons_ok (tI_ok _) (tCons_ok (tI_ok _) (tCons_ok (tI_ok _) (tCons_ok (tI_ok _) (tCons_ok (tI_ok _) (tCons_ok (tI_ok _) (tCons_ok (tI_ok _) (tCons_ok (tI_ok _) (tCons_ok (tI_ok _) (tCons_ok (tI_ok _) (tCons_ok (tI_ok _) (tCons_ok (tI_ok _) (tCons_ok (tI_ok _) (tCons_ok (tI_ok _) (tCons_ok (tI_ok _) (tCons_ok (tI_ok _) (tCons_ok (tI_ok _) (tCons_ok (tI_ok _) (tCons_ok (tI_ok _) (tCons_ok (tI_ok _) (tCons_ok (tI_ok _) (tCons_ok (tI_ok _) (tOne_ok (tLz_ok _ _))))))))))))))))))))))))))))))))) (tG_ok (tCons_ok (tI_ok _) (tCons_ok (tI_ok _) (tCons_ok (tI_ok _) (tCons_ok (tI_ok _) (tCons_ok (tI_ok _) (tCons_ok (tI_ok _) (tCons_ok (tI_ok _) (tCons_ok (tI_ok _) (tCons_ok (tI_ok _) (tCons_ok (tI_ok _) (tOne_ok (tTL_ok Rii_ok _ _))))))))))))) (fun _ => rfl)
theorem law09.Deed.Body.eq (p0_0 : Int) (p0_1 : Int) (p0_2 : Int) (p0_3 : Int) (p0_4 : Int) (p0_5 : Int) (p0_6 : Int) (p0_7 : Int) (p0_8 : Int) (p0_9 : Int) (p0_10 : Int) (p0_11 : Int) (p0_12 : Int) (p0_13 : Int) (p0_14 : Int) (p0_15 : Int) (p0_16 : Int) (p0_17 : Int) (p0_18 : Int) (p0_19 : Int) (p0_20 : Int) (p0_21 : Int) (p0_22 : Int) (p0_23 : Int) (p0_24 : Int) (p0_25 : Int) (p0_26 : Int) (p0_27 : Int) (p0_28 : Int) (p0_29_n : Nat) (p0_29_g : Nat → (Int × Int)) : law09.Deed.Body.f (p0_0, p0_1, p0_2, p0_3, p0_4, p0_5, p0_6, p0_7, p0_8, p0_9, p0_10, p0_11, p0_12, p0_13, p0_14, p0_15, p0_16, p0_17, p0_18, p0_19, p0_20, p0_21, p0_22, p0_23, p0_24, p0_25, p0_26, p0_27, p0_28, (p0_29_n, (fun i => Rii.enc (p0_29_g i)))) =
  bif ((Go.bits .and .i64 p0_0 15) == 15) then
    (tG (tCons (tI .i64) (tCons (tI .i64) (tCons (tI .i64) (tCons (tI .i64) (tCons (tI .i64) (tCons (tI .i64) (tCons (tI .i64) (tCons (tI .i64) (tCons (tI .i64) (tCons (tI .i64) (tOne (tTL Rii 2 (0, 0)))))))))))))).dec (.agg [.val (.int .i64 p0_19), .val (.int .i64 p0_20), .val (.int .i64 p0_21), .val (.int .i64 p0_22), .val (.int .i64 p0_23), .val (.int .i64 p0_24), .val (.int .i64 p0_25), .val (.int .i64 p0_26), .val (.int .i64 p0_27), .val (.int .i64 p0_28), .lst 2 p0_29_n none (fun i => Rii.enc (p0_29_g i))])
  else
  (law06.Place.Body.f (p0_1, p0_2, p0_3, p0_4, p0_5, p0_6, p0_7)).bind fun r1 =>
  bif ((Go.bits .and .i64 p0_11 3) == 0) then
    (tG (tCons (tI .i64) (tCons (tI .i64) (tCons (tI .i64) (tCons (tI .i64) (tCons (tI .i64) (tCons (tI .i64) (tCons (tI .i64) (tCons (tI .i64) (tCons (tI .i64) (tCons (tI .i64) (tOne (tTL Rii 2 (0, 0)))))))))))))).dec (.agg [.val (.int .i64 r1.1), .val (.int .i64 r1.2.1), .val (.int .i64 r1.2.2.1), .val (.int .i64 r1.2.2.2.1), .val (.int .i64 r1.2.2.2.2.1), .val (.int .i64 r1.2.2.2.2.2.1), .val (.int .i64 r1.2.2.2.2.2.2.1), .val (.int .i64 r1.2.2.2.2.2.2.2.1), .val (.int .i64 r1.2.2.2.2.2.2.2.2.1), .val (.int .i64 r1.2.2.2.2.2.2.2.2.2.1), .lst 2 r1.2.2.2.2.2.2.2.2.2.2.1 none (fun i => Rii.enc (r1.2.2.2.2.2.2.2.2.2.2.2 i))])
  else
  (vec.Bring.f ((p0_8, p0_9), 85899345920)).bind fun r2 =>
  (fix.Bring.f (p0_10, (-85899345920), 85899345920)).bind fun r3 =>
  (tG (tCons (tI .i64) (tCons (tI .i64) (tCons (tI .i64) (tCons (tI .i64) (tCons (tI .i64) (tCons (tI .i64) (tCons (tI .i64) (tCons (tI .i64) (tCons (tI .i64) (tCons (tI .i64) (tOne (tTL Rii 2 (0, 0)))))))))))))).dec (.agg [.val (.int .i64 r1.1), .val (.int .i64 r1.2.1), .val (.int .i64 r1.2.2.1), .val (.int .i64 r2.1), .val (.int .i64 r2.2), .val (.int .i64 r1.2.2.2.2.2.1), .val (.int .i64 r3), .val (.int .i64 (IntKind.i64.wrap (1 + (Go.bits .and .i64 p0_11 34359738367)))), .val (.int .i64 r1.2.2.2.2.2.2.2.2.1), .val (.int .i64 r1.2.2.2.2.2.2.2.2.2.1), .lst 2 r1.2.2.2.2.2.2.2.2.2.2.1 none (fun i => Rii.enc (r1.2.2.2.2.2.2.2.2.2.2.2 i))]) := by kernel_rfl
/-! ### (bagatelle/bagatellelaw09.Deed).Do -/
noncomputable def law09.Deed.Do.cs : List (Nat × Fw.Summ) := [(11, law09.Deed.Joint.s), (26, world.AddJoint.s), (19, world.RemoveBody.s), (27, world.RemoveJoint.s), (14, law09.Deed.Body.s), (20, world.AddBody.s)]
theorem law09.Deed.Do.cs_ok : SumsOk Try.prog law09.Deed.Do.cs := .cons law09.Deed.Joint.ok (.cons world.AddJoint.ok (.cons world.RemoveBody.ok (.cons world.RemoveJoint.ok (.cons law09.Deed.Body.ok (.cons world.AddBody.ok (.nil))))))
noncomputable def law09.Deed.Do.G : Ctx := ⟨Try.prog, sumAt law09.Deed.Do.cs, fun _ => { unroll := true }, true⟩
noncomputable def law09.Deed.Do.s : Fw.Summ := .mkI law09.Deed.Do.G Try.f10
theorem law09.Deed.Do.ok : law09.Deed.Do.s.Ok Try.prog 10 := isumm_ok law09.Deed.Do.cs_ok (by kernel_rfl) (by kernel_rfl) (by kernel_rfl) (by kernel_rfl)
/-! ### bagatelle/bagatellelaw09.Made -/
noncomputable def law09.Made.cs : List (Nat × Fw.Summ) := [(9, world.New.s), (10, law09.Deed.Do.s)]
theorem law09.Made.cs_ok : SumsOk Try.prog law09.Made.cs := .cons world.New.ok (.cons law09.Deed.Do.ok (.nil))
def law09.Made.hs : List (Nat × LHint) := [(0, { mat := [], live := [4, 5, 14, 15, 16], ren := [] })]
noncomputable def law09.Made.G : Ctx := ⟨Try.prog, sumAt law09.Made.cs, lookH law09.Made.hs, true⟩
noncomputable def law09.Made.g (k0 : Nat) (x : ((Nat × (Nat → List AV)) × Int)) : Option (Int × Int × Int × Int × Int × (Nat × (Nat → (Int × Int × Int × Int × Int × Int × Int × Int × Int × Int × (Nat × (Nat → List AV))))) × (Nat × (Nat → (Int × Int × Int × Int × Int × Int × Int × Int))) × (Nat × (Nat → (Int × Int × Int × Int × Int)))) := evF law09.Made.G k0 Try.f18 ((tCons (tLz 30 (RiiiiiiiiiiiiiiiiiiiiiiiiiiiiiL2.enc (0, 0, 0, 0, 0, 0, 0, 0, 0, 0, 0, 0, 0, 0, 0, 0, 0, 0, 0, 0, 0, 0, 0, 0, 0, 0, 0, 0, 0, (0, fun _ => [])))) (tOne (tI .i64))).enc x) (tG (tCons (tI .i64) (tCons (tI .i64) (tCons (tI .i64) (tCons (tI .i64) (tCons (tI .i64) (tCons (tTL RiiiiiiiiiiL2 11 (0, 0, 0, 0, 0, 0, 0, 0, 0, 0, (0, fun _ => []))) (tCons (tTL Riiiiiiii 8 (0, 0, 0, 0, 0, 0, 0, 0)) (tOne (tTL Riiiii 5 (0, 0, 0, 0, 0))))))))))).dec
noncomputable def law09.Made.f (x : ((Nat × (Nat → List AV)) × Int)) : Option (Int × Int × Int × Int × Int × (Nat × (Nat → (Int × Int × Int × Int × Int × Int × Int × Int × Int × Int × (Nat × (Nat → List AV))))) × (Nat × (Nat → (Int × Int × Int × Int × Int × Int × Int × Int))) × (Nat × (Nat → (Int × Int × Int × Int × Int)))) := law09.Made.g (1000000) x
noncomputable def law09.Made.s : Fw.Summ := .mk' (tCons (tLz 30 (RiiiiiiiiiiiiiiiiiiiiiiiiiiiiiL2.enc (0, 0, 0, 0, 0, 0, 0, 0, 0, 0, 0, 0, 0, 0, 0, 0, 0, 0, 0, 0, 0, 0, 0, 0, 0, 0, 0, 0, 0, (0, fun _ => [])))) (tOne (tI .i64))) (tG (tCons (tI .i64) (tCons (tI .i64) (tCons (tI .i64) (tCons (tI .i64) (tCons (tI .i64) (tCons (tTL RiiiiiiiiiiL2 11 (0, 0, 0, 0, 0, 0, 0, 0, 0, 0, (0, fun _ => []))) (tCons (tTL Riiiiiiii 8 (0, 0, 0, 0, 0, 0, 0, 0)) (tOne (tTL Riiiii 5 (0, 0, 0, 0, 0))))))))))) law09.Made.f
theorem law09.Made.ok : law09.Made.s.Ok Try.prog 18 :=
  summ_ok (hint := lookH law09.Made.hs) (fn := Try.f18) (fun x => 1000000) law09.Made.cs_ok (by kernel_rfl) (by kernel_rfl) (by kernel_rfl) (by kernel_rfl) (tCons_ok (tLz_ok _ _) (tOne_ok (tI_ok _))) (tG_ok (tCons_ok (tI_ok _) (tCons_ok (tI_ok _) (tCons_ok (tI_ok _) (tCons_ok (tI_ok _) (tCons_ok (tI_ok _) (tCons_ok (tTL_ok RiiiiiiiiiiL2_ok _ _) (tCons_ok (tTL_ok Riiiiiiii_ok _ _) (tOne_ok (tTL_ok Riiiii_ok _ _)))))))))) (fun _ => rfl)
noncomputable def law09.Made.l0 (k0 k1 : Nat) (v1 : Int) (v2 : Int) (v3 : Int) (v4 : Int) (v5 : Int) (v6 : Nat) (v7 : Nat → List AV) (v8 : Nat) (v9 : Nat → List AV) (v10 : Nat) (v11 : Nat → List AV) (v12 : Nat) (v13 : Nat → List AV) (v14 : Int) (v15 : Int) : Option (Int × Int × Int × Int × Int × (Nat × (Nat → (Int × Int × Int × Int × Int × Int × Int × Int × Int × Int × (Nat × (Nat → List AV))))) × (Nat × (Nat → (Int × Int × Int × Int × Int × Int × Int × Int))) × (Nat × (Nat → (Int × Int × Int × Int × Int)))) :=
  evLoop (lookH law09.Made.hs 0) 2 (ev law09.Made.G k0 (codeAt [1, 1, 0, 1, 0, 0] (bodyOf Try.f18)) 0) k1
  ⟨[.top, .top, .top, .top, .ptr 0 0 0, .ptr 1 0 0, .top, .top, .top, .top, .top, .top, .top, .top, .lst 30 v12 none v13, .val (.int .i64 v14), .val (.int .i64 v15), .top, .top, .top, .top, .top, .top, .top], [.live ⟨false, 31, 8, 1, fun _ => [.val (.int .i64 0), .val (.int .i64 0), .val (.int .i64 0), .val (.int .i64 0), .val (.int .i64 0), .val (.slice none 0 0), .val (.slice none 0 0), .val (.slice none 0 0)], none⟩, .live ⟨false, 31, 8, 1, fun _ => [.val (.int .i64 v1), .val (.int .i64 v2), .val (.int .i64 v3), .val (.int .i64 v4), .val (.int .i64 v5), .lst 11 v6 none v7, .lst 8 v8 none v9, .lst 5 v10 none v11], none⟩]⟩
  (kBlock law09.Made.G 0 (kSeq law09.Made.G k0 (codeAt [1, 1, 1] (bodyOf Try.f18)) 0 (kFin law09.Made.G Try.f18 (tG (tCons (tI .i64) (tCons (tI .i64) (tCons (tI .i64) (tCons (tI .i64) (tCons (tI .i64) (tCons (tTL RiiiiiiiiiiL2 11 (0, 0, 0, 0, 0, 0, 0, 0, 0, 0, (0, fun _ => []))) (tCons (tTL Riiiiiiii 8 (0, 0, 0, 0, 0, 0, 0, 0)) (tOne (tTL Riiiii 5 (0, 0, 0, 0, 0))))))))))).dec)))
theorem law09.Made.l0_eq (k0 k1 : Nat) (v1 : Int) (v2 : Int) (v3 : Int) (v4 : Int) (v5 : Int) (v6 : Nat) (v7 : Nat → (Int × Int × Int × Int × Int × Int × Int × Int × Int × Int × (Nat × (Nat → List AV)))) (v8 : Nat) (v9 : Nat → (Int × Int × Int × Int × Int × Int × Int × Int)) (v10 : Nat) (v11 : Nat → (Int × Int × Int × Int × Int)) (v12 : Nat) (v13 : Nat → (Int × Int × Int × Int × Int × Int × Int × Int × Int × Int × Int × Int × Int × Int × Int × Int × Int × Int × Int × Int × Int × Int × Int × Int × Int × Int × Int × Int × Int × (Nat × (Nat → List AV)))) (v14 : Int) (v15 : Int) : law09.Made.l0 k0 (k1 + 1) v1 v2 v3 v4 v5 v6 (fun i => RiiiiiiiiiiL2.enc (v7 i)) v8 (fun i => Riiiiiiii.enc (v9 i)) v10 (fun i => Riiiii.enc (v11 i)) v12 (fun i => RiiiiiiiiiiiiiiiiiiiiiiiiiiiiiL2.enc (v13 i)) v14 v15 =
  bif (decide (v15 < v14)) then
    bif ((decide (0 ≤ v15)) && (decide (v15 < ((v12 : Nat) : Int)))) then
    bif ((Go.bits .and .i64 (v13 (Int.toNat v15)).1 7) == 4) then
      bif ((Go.bits .and .i64 (v13 (Int.toNat v15)).1 7) == 4) then
        (law09.Deed.Joint.f ((v13 (Int.toNat v15)).1, (v13 (Int.toNat v15)).2.1, (v13 (Int.toNat v15)).2.2.1, (v13 (Int.toNat v15)).2.2.2.1, (v13 (Int.toNat v15)).2.2.2.2.1, (v13 (Int.toNat v15)).2.2.2.2.2.1, (v13 (Int.toNat v15)).2.2.2.2.2.2.1, (v13 (Int.toNat v15)).2.2.2.2.2.2.2.1, (v13 (Int.toNat v15)).2.2.2.2.2.2.2.2.1, (v13 (Int.toNat v15)).2.2.2.2.2.2.2.2.2.1, (v13 (Int.toNat v15)).2.2.2.2.2.2.2.2.2.2.1, (v13 (Int.toNat v15)).2.2.2.2.2.2.2.2.2.2.2.1, (v13 (Int.toNat v15)).2.2.2.2.2.2.2.2.2.2.2.2.1, (v13 (Int.toNat v15)).2.2.2.2.2.2.2.2.2.2.2.2.2.1, (v13 (Int.toNat v15)).2.2.2.2.2.2.2.2.2.2.2.2.2.2.1, (v13 (Int.toNat v15)).2.2.2.2.2.2.2.2.2.2.2.2.2.2.2.1, (v13 (Int.toNat v15)).2.2.2.2.2.2.2.2.2.2.2.2.2.2.2.2.1, (v13 (Int.toNat v15)).2.2.2.2.2.2.2.2.2.2.2.2.2.2.2.2.2.1, (v13 (Int.toNat v15)).2.2.2.2.2.2.2.2.2.2.2.2.2.2.2.2.2.2.1, (v13 (Int.toNat v15)).2.2.2.2.2.2.2.2.2.2.2.2.2.2.2.2.2.2.2.1, (v13 (Int.toNat v15)).2.2.2.2.2.2.2.2.2.2.2.2.2.2.2.2.2.2.2.2.1, (v13 (Int.toNat v15)).2.2.2.2.2.2.2.2.2.2.2.2.2.2.2.2.2.2.2.2.2.1, (v13 (Int.toNat v15)).2.2.2.2.2.2.2.2.2.2.2.2.2.2.2.2.2.2.2.2.2.2.1, (v13 (Int.toNat v15)).2.2.2.2.2.2.2.2.2.2.2.2.2.2.2.2.2.2.2.2.2.2.2.1, (v13 (Int.toNat v15)).2.2.2.2.2.2.2.2.2.2.2.2.2.2.2.2.2.2.2.2.2.2.2.2.1, (v13 (Int.toNat v15)).2.2.2.2.2.2.2.2.2.2.2.2.2.2.2.2.2.2.2.2.2.2.2.2.2.1, (v13 (Int.toNat v15)).2.2.2.2.2.2.2.2.2.2.2.2.2.2.2.2.2.2.2.2.2.2.2.2.2.2.1, (v13 (Int.toNat v15)).2.2.2.2.2.2.2.2.2.2.2.2.2.2.2.2.2.2.2.2.2.2.2.2.2.2.2.1, (v13 (Int.toNat v15)).2.2.2.2.2.2.2.2.2.2.2.2.2.2.2.2.2.2.2.2.2.2.2.2.2.2.2.2.1, ((v13 (Int.toNat v15)).2.2.2.2.2.2.2.2.2.2.2.2.2.2.2.2.2.2.2.2.2.2.2.2.2.2.2.2.2.1, (v13 (Int.toNat v15)).2.2.2.2.2.2.2.2.2.2.2.2.2.2.2.2.2.2.2.2.2.2.2.2.2.2.2.2.2.2))).bind fun r2 =>
        (world.AddJoint.f ((v1, v2, v3, v4, v5, (v6, (fun i => RiiiiiiiiiiL2.enc (v7 i))), (v8, (fun i => Riiiiiiii.enc (v9 i))), (v10, (fun i => Riiiii.enc (v11 i)))), (r2.1, r2.2.1, r2.2.2.1, r2.2.2.2.1, r2.2.2.2.2.1, r2.2.2.2.2.2.1, r2.2.2.2.2.2.2.1, r2.2.2.2.2.2.2.2))).bind fun r3 =>
        law09.Made.l0 k0 k1 r3.2.1 r3.2.2.1 r3.2.2.2.1 r3.2.2.2.2.1 r3.2.2.2.2.2.1 r3.2.2.2.2.2.2.1.1 (fun i => RiiiiiiiiiiL2.enc (r3.2.2.2.2.2.2.1.2 i)) r3.2.2.2.2.2.2.2.1.1 (fun i => Riiiiiiii.enc (r3.2.2.2.2.2.2.2.1.2 i)) r3.2.2.2.2.2.2.2.2.1 (fun i => Riiiii.enc (r3.2.2.2.2.2.2.2.2.2 i)) v12 (fun i => RiiiiiiiiiiiiiiiiiiiiiiiiiiiiiL2.enc (v13 i)) v14 (IntKind.i64.wrap (v15 + 1))
      else
      bif ((Go.bits .and .i64 (v13 (Int.toNat v15)).1 7) == 6) then
        (world.RemoveBody.f ((v1, v2, v3, v4, v5, (v6, (fun i => RiiiiiiiiiiL2.enc (v7 i))), (v8, (fun i => Riiiiiiii.enc (v9 i))), (v10, (fun i => Riiiii.enc (v11 i)))), (Go.bits .and .i64 (v13 (Int.toNat v15)).2.2.2.2.2.2.2.2.2.2.2.2.1 15))).bind fun r4 =>
        law09.Made.l0 k0 k1 r4.2.1 r4.2.2.1 r4.2.2.2.1 r4.2.2.2.2.1 r4.2.2.2.2.2.1 r4.2.2.2.2.2.2.1.1 (fun i => RiiiiiiiiiiL2.enc (r4.2.2.2.2.2.2.1.2 i)) r4.2.2.2.2.2.2.2.1.1 (fun i => Riiiiiiii.enc (r4.2.2.2.2.2.2.2.1.2 i)) r4.2.2.2.2.2.2.2.2.1 (fun i => Riiiii.enc (r4.2.2.2.2.2.2.2.2.2 i)) v12 (fun i => RiiiiiiiiiiiiiiiiiiiiiiiiiiiiiL2.enc (v13 i)) v14 (IntKind.i64.wrap (v15 + 1))
      else
      bif ((Go.bits .and .i64 (v13 (Int.toNat v15)).1 7) == 3) then
        (world.RemoveJoint.f ((v1, v2, v3, v4, v5, (v6, (fun i => RiiiiiiiiiiL2.enc (v7 i))), (v8, (fun i => Riiiiiiii.enc (v9 i))), (v10, (fun i => Riiiii.enc (v11 i)))), (Go.bits .and .i64 (v13 (Int.toNat v15)).2.2.2.2.2.2.2.2.2.2.2.2.1 15))).bind fun r5 =>
        law09.Made.l0 k0 k1 r5.2.1 r5.2.2.1 r5.2.2.2.1 r5.2.2.2.2.1 r5.2.2.2.2.2.1 r5.2.2.2.2.2.2.1.1 (fun i => RiiiiiiiiiiL2.enc (r5.2.2.2.2.2.2.1.2 i)) r5.2.2.2.2.2.2.2.1.1 (fun i => Riiiiiiii.enc (r5.2.2.2.2.2.2.2.1.2 i)) r5.2.2.2.2.2.2.2.2.1 (fun i => Riiiii.enc (r5.2.2.2.2.2.2.2.2.2 i)) v12 (fun i => RiiiiiiiiiiiiiiiiiiiiiiiiiiiiiL2.enc (v13 i)) v14 (IntKind.i64.wrap (v15 + 1))
      else
      (law09.Deed.Body.f ((v13 (Int.toNat v15)).1, (v13 (Int.toNat v15)).2.1, (v13 (Int.toNat v15)).2.2.1, (v13 (Int.toNat v15)).2.2.2.1, (v13 (Int.toNat v15)).2.2.2.2.1, (v13 (Int.toNat v15)).2.2.2.2.2.1, (v13 (Int.toNat v15)).2.2.2.2.2.2.1, (v13 (Int.toNat v15)).2.2.2.2.2.2.2.1, (v13 (Int.toNat v15)).2.2.2.2.2.2.2.2.1, (v13 (Int.toNat v15)).2.2.2.2.2.2.2.2.2.1, (v13 (Int.toNat v15)).2.2.2.2.2.2.2.2.2.2.1, (v13 (Int.toNat v15)).2.2.2.2.2.2.2.2.2.2.2.1, (v13 (Int.toNat v15)).2.2.2.2.2.2.2.2.2.2.2.2.1, (v13 (Int.toNat v15)).2.2.2.2.2.2.2.2.2.2.2.2.2.1, (v13 (Int.toNat v15)).2.2.2.2.2.2.2.2.2.2.2.2.2.2.1, (v13 (Int.toNat v15)).2.2.2.2.2.2.2.2.2.2.2.2.2.2.2.1, (v13 (Int.toNat v15)).2.2.2.2.2.2.2.2.2.2.2.2.2.2.2.2.1, (v13 (Int.toNat v15)).2.2.2.2.2.2.2.2.2.2.2.2.2.2.2.2.2.1, (v13 (Int.toNat v15)).2.2.2.2.2.2.2.2.2.2.2.2.2.2.2.2.2.2.1, (v13 (Int.toNat v15)).2.2.2.2.2.2.2.2.2.2.2.2.2.2.2.2.2.2.2.1, (v13 (Int.toNat v15)).2.2.2.2.2.2.2.2.2.2.2.2.2.2.2.2.2.2.2.2.1, (v13 (Int.toNat v15)).2.2.2.2.2.2.2.2.2.2.2.2.2.2.2.2.2.2.2.2.2.1, (v13 (Int.toNat v15)).2.2.2.2.2.2.2.2.2.2.2.2.2.2.2.2.2.2.2.2.2.2.1, (v13 (Int.toNat v15)).2.2.2.2.2.2.2.2.2.2.2.2.2.2.2.2.2.2.2.2.2.2.2.1, (v13 (Int.toNat v15)).2.2.2.2.2.2.2.2.2.2.2.2.2.2.2.2.2.2.2.2.2.2.2.2.1, (v13 (Int.toNat v15)).2.2.2.2.2.2.2.2.2.2.2.2.2.2.2.2.2.2.2.2.2.2.2.2.2.1, (v13 (Int.toNat v15)).2.2.2.2.2.2.2.2.2.2.2.2.2.2.2.2.2.2.2.2.2.2.2.2.2.2.1, (v13 (Int.toNat v15)).2.2.2.2.2.2.2.2.2.2.2.2.2.2.2.2.2.2.2.2.2.2.2.2.2.2.2.1, (v13 (Int.toNat v15)).2.2.2.2.2.2.2.2.2.2.2.2.2.2.2.2.2.2.2.2.2.2.2.2.2.2.2.2.1, ((v13 (Int.toNat v15)).2.2.2.2.2.2.2.2.2.2.2.2.2.2.2.2.2.2.2.2.2.2.2.2.2.2.2.2.2.1, (v13 (Int.toNat v15)).2.2.2.2.2.2.2.2.2.2.2.2.2.2.2.2.2.2.2.2.2.2.2.2.2.2.2.2.2.2))).bind fun r6 =>
      (world.AddBody.f ((v1, v2, v3, v4, v5, (v6, (fun i => RiiiiiiiiiiL2.enc (v7 i))), (v8, (fun i => Riiiiiiii.enc (v9 i))), (v10, (fun i => Riiiii.enc (v11 i)))), (r6.1, r6.2.1, r6.2.2.1, r6.2.2.2.1, r6.2.2.2.2.1, r6.2.2.2.2.2.1, r6.2.2.2.2.2.2.1, r6.2.2.2.2.2.2.2.1, r6.2.2.2.2.2.2.2.2.1, r6.2.2.2.2.2.2.2.2.2.1, (r6.2.2.2.2.2.2.2.2.2.2.1, (fun i => Rii.enc (r6.2.2.2.2.2.2.2.2.2.2.2 i)))))).bind fun r7 =>
      law09.Made.l0 k0 k1 r7.2.1 r7.2.2.1 r7.2.2.2.1 r7.2.2.2.2.1 r7.2.2.2.2.2.1 r7.2.2.2.2.2.2.1.1 (fun i => RiiiiiiiiiiL2.enc (r7.2.2.2.2.2.2.1.2 i)) r7.2.2.2.2.2.2.2.1.1 (fun i => Riiiiiiii.enc (r7.2.2.2.2.2.2.2.1.2 i)) r7.2.2.2.2.2.2.2.2.1 (fun i => Riiiii.enc (r7.2.2.2.2.2.2.2.2.2 i)) v12 (fun i => RiiiiiiiiiiiiiiiiiiiiiiiiiiiiiL2.enc (v13 i)) v14 (IntKind.i64.wrap (v15 + 1))
    else
    bif ((Go.bits .and .i64 (v13 (Int.toNat v15)).1 7) == 5) then
      (law09.Deed.Joint.f ((v13 (Int.toNat v15)).1, (v13 (Int.toNat v15)).2.1, (v13 (Int.toNat v15)).2.2.1, (v13 (Int.toNat v15)).2.2.2.1, (v13 (Int.toNat v15)).2.2.2.2.1, (v13 (Int.toNat v15)).2.2.2.2.2.1, (v13 (Int.toNat v15)).2.2.2.2.2.2.1, (v13 (Int.toNat v15)).2.2.2.2.2.2.2.1, (v13 (Int.toNat v15)).2.2.2.2.2.2.2.2.1, (v13 (Int.toNat v15)).2.2.2.2.2.2.2.2.2.1, (v13 (Int.toNat v15)).2.2.2.2.2.2.2.2.2.2.1, (v13 (Int.toNat v15)).2.2.2.2.2.2.2.2.2.2.2.1, (v13 (Int.toNat v15)).2.2.2.2.2.2.2.2.2.2.2.2.1, (v13 (Int.toNat v15)).2.2.2.2.2.2.2.2.2.2.2.2.2.1, (v13 (Int.toNat v15)).2.2.2.2.2.2.2.2.2.2.2.2.2.2.1, (v13 (Int.toNat v15)).2.2.2.2.2.2.2.2.2.2.2.2.2.2.2.1, (v13 (Int.toNat v15)).2.2.2.2.2.2.2.2.2.2.2.2.2.2.2.2.1, (v13 (Int.toNat v15)).2.2.2.2.2.2.2.2.2.2.2.2.2.2.2.2.2.1, (v13 (Int.toNat v15)).2.2.2.2.2.2.2.2.2.2.2.2.2.2.2.2.2.2.1, (v13 (Int.toNat v15)).2.2.2.2.2.2.2.2.2.2.2.2.2.2.2.2.2.2.2.1, (v13 (Int.toNat v15)).2.2.2.2.2.2.2.2.2.2.2.2.2.2.2.2.2.2.2.2.1, (v13 (Int.toNat v15)).2.2.2.2.2.2.2.2.2.2.2.2.2.2.2.2.2.2.2.2.2.1, (v13 (Int.toNat v15)).2.2.2.2.2.2.2.2.2.2.2.2.2.2.2.2.2.2.2.2.2.2.1, (v13 (Int.toNat v15)).2.2.2.2.2.2.2.2.2.2.2.2.2.2.2.2.2.2.2.2.2.2.2.1, (v13 (Int.toNat v15)).2.2.2.2.2.2.2.2.2.2.2.2.2.2.2.2.2.2.2.2.2.2.2.2.1, (v13 (Int.toNat v15)).2.2.2.2.2.2.2.2.2.2.2.2.2.2.2.2.2.2.2.2.2.2.2.2.2.1, (v13 (Int.toNat v15)).2.2.2.2.2.2.2.2.2.2.2.2.2.2.2.2.2.2.2.2.2.2.2.2.2.2.1, (v13 (Int.toNat v15)).2.2.2.2.2.2.2.2.2.2.2.2.2.2.2.2.2.2.2.2.2.2.2.2.2.2.2.1, (v13 (Int.toNat v15)).2.2.2.2.2.2.2.2.2.2.2.2.2.2.2.2.2.2.2.2.2.2.2.2.2.2.2.2.1, ((v13 (Int.toNat v15)).2.2.2.2.2.2.2.2.2.2.2.2.2.2.2.2.2.2.2.2.2.2.2.2.2.2.2.2.2.1, (v13 (Int.toNat v15)).2.2.2.2.2.2.2.2.2.2.2.2.2.2.2.2.2.2.2.2.2.2.2.2.2.2.2.2.2.2))).bind fun r8 =>
      (world.AddJoint.f ((v1, v2, v3, v4, v5, (v6, (fun i => RiiiiiiiiiiL2.enc (v7 i))), (v8, (fun i => Riiiiiiii.enc (v9 i))), (v10, (fun i => Riiiii.enc (v11 i)))), (r8.1, r8.2.1, r8.2.2.1, r8.2.2.2.1, r8.2.2.2.2.1, r8.2.2.2.2.2.1, r8.2.2.2.2.2.2.1, r8.2.2.2.2.2.2.2))).bind fun r9 =>
      law09.Made.l0 k0 k1 r9.2.1 r9.2.2.1 r9.2.2.2.1 r9.2.2.2.2.1 r9.2.2.2.2.2.1 r9.2.2.2.2.2.2.1.1 (fun i => RiiiiiiiiiiL2.enc (r9.2.2.2.2.2.2.1.2 i)) r9.2.2.2.2.2.2.2.1.1 (fun i => Riiiiiiii.enc (r9.2.2.2.2.2.2.2.1.2 i)) r9.2.2.2.2.2.2.2.2.1 (fun i => Riiiii.enc (r9.2.2.2.2.2.2.2.2.2 i)) v12 (fun i => RiiiiiiiiiiiiiiiiiiiiiiiiiiiiiL2.enc (v13 i)) v14 (IntKind.i64.wrap (v15 + 1))
    else
    bif ((Go.bits .and .i64 (v13 (Int.toNat v15)).1 7) == 6) then
      (world.RemoveBody.f ((v1, v2, v3, v4, v5, (v6, (fun i => RiiiiiiiiiiL2.enc (v7 i))), (v8, (fun i => Riiiiiiii.enc (v9 i))), (v10, (fun i => Riiiii.enc (v11 i)))), (Go.bits .and .i64 (v13 (Int.toNat v15)).2.2.2.2.2.2.2.2.2.2.2.2.1 15))).bind fun r10 =>
      law09.Made.l0 k0 k1 r10.2.1 r10.2.2.1 r10.2.2.2.1 r10.2.2.2.2.1 r10.2.2.2.2.2.1 r10.2.2.2.2.2.2.1.1 (fun i => RiiiiiiiiiiL2.enc (r10.2.2.2.2.2.2.1.2 i)) r10.2.2.2.2.2.2.2.1.1 (fun i => Riiiiiiii.enc (r10.2.2.2.2.2.2.2.1.2 i)) r10.2.2.2.2.2.2.2.2.1 (fun i => Riiiii.enc (r10.2.2.2.2.2.2.2.2.2 i)) v12 (fun i => RiiiiiiiiiiiiiiiiiiiiiiiiiiiiiL2.enc (v13 i)) v14 (IntKind.i64.wrap (v15 + 1))
    else
    bif ((Go.bits .and .i64 (v13 (Int.toNat v15)).1 7) == 3) then
      (world.RemoveJoint.f ((v1, v2, v3, v4, v5, (v6, (fun i => RiiiiiiiiiiL2.enc (v7 i))), (v8, (fun i => Riiiiiiii.enc (v9 i))), (v10, (fun i => Riiiii.enc (v11 i)))), (Go.bits .and .i64 (v13 (Int.toNat v15)).2.2.2.2.2.2.2.2.2.2.2.2.1 15))).bind fun r11 =>
      law09.Made.l0 k0 k1 r11.2.1 r11.2.2.1 r11.2.2.2.1 r11.2.2.2.2.1 r11.2.2.2.2.2.1 r11.2.2.2.2.2.2.1.1 (fun i => RiiiiiiiiiiL2.enc (r11.2.2.2.2.2.2.1.2 i)) r11.2.2.2.2.2.2.2.1.1 (fun i => Riiiiiiii.enc (r11.2.2.2.2.2.2.2.1.2 i)) r11.2.2.2.2.2.2.2.2.1 (fun i => Riiiii.enc (r11.2.2.2.2.2.2.2.2.2 i)) v12 (fun i => RiiiiiiiiiiiiiiiiiiiiiiiiiiiiiL2.enc (v13 i)) v14 (IntKind.i64.wrap (v15 + 1))
    else
    (law09.Deed.Body.f ((v13 (Int.toNat v15)).1, (v13 (Int.toNat v15)).2.1, (v13 (Int.toNat v15)).2.2.1, (v13 (Int.toNat v15)).2.2.2.1, (v13 (Int.toNat v15)).2.2.2.2.1, (v13 (Int.toNat v15)).2.2.2.2.2.1, (v13 (Int.toNat v15)).2.2.2.2.2.2.1, (v13 (Int.toNat v15)).2.2.2.2.2.2.2.1, (v13 (Int.toNat v15)).2.2.2.2.2.2.2.2.1, (v13 (Int.toNat v15)).2.2.2.2.2.2.2.2.2.1, (v13 (Int.toNat v15)).2.2.2.2.2.2.2.2.2.2.1, (v13 (Int.toNat v15)).2.2.2.2.2.2.2.2.2.2.2.1, (v13 (Int.toNat v15)).2.2.2.2.2.2.2.2.2.2.2.2.1, (v13 (Int.toNat v15)).2.2.2.2.2.2.2.2.2.2.2.2.2.1, (v13 (Int.toNat v15)).2.2.2.2.2.2.2.2.2.2.2.2.2.2.1, (v13 (Int.toNat v15)).2.2.2.2.2.2.2.2.2.2.2.2.2.2.2.1, (v13 (Int.toNat v15)).2.2.2.2.2.2.2.2.2.2.2.2.2.2.2.2.1, (v13 (Int.toNat v15)).2.2.2.2.2.2.2.2.2.2.2.2.2.2.2.2.2.1, (v13 (Int.toNat v15)).2.2.2.2.2.2.2.2.2.2.2.2.2.2.2.2.2.2.1, (v13 (Int.toNat v15)).2.2.2.2.2.2.2.2.2.2.2.2.2.2.2.2.2.2.2.1, (v13 (Int.toNat v15)).2.2.2.2.2.2.2.2.2.2.2.2.2.2.2.2.2.2.2.2.1, (v13 (Int.toNat v15)).2.2.2.2.2.2.2.2.2.2.2.2.2.2.2.2.2.2.2.2.2.1, (v13 (Int.toNat v15)).2.2.2.2.2.2.2.2.2.2.2.2.2.2.2.2.2.2.2.2.2.2.1, (v13 (Int.toNat v15)).2.2.2.2.2.2.2.2.2.2.2.2.2.2.2.2.2.2.2.2.2.2.2.1, (v13 (Int.toNat v15)).2.2.2.2.2.2.2.2.2.2.2.2.2.2.2.2.2.2.2.2.2.2.2.2.1, (v13 (Int.toNat v15)).2.2.2.2.2.2.2.2.2.2.2.2.2.2.2.2.2.2.2.2.2.2.2.2.2.1, (v13 (Int.toNat v15)).2.2.2.2.2.2.2.2.2.2.2.2.2.2.2.2.2.2.2.2.2.2.2.2.2.2.1, (v13 (Int.toNat v15)).2.2.2.2.2.2.2.2.2.2.2.2.2.2.2.2.2.2.2.2.2.2.2.2.2.2.2.1, (v13 (Int.toNat v15)).2.2.2.2.2.2.2.2.2.2.2.2.2.2.2.2.2.2.2.2.2.2.2.2.2.2.2.2.1, ((v13 (Int.toNat v15)).2.2.2.2.2.2.2.2.2.2.2.2.2.2.2.2.2.2.2.2.2.2.2.2.2.2.2.2.2.1, (v13 (Int.toNat v15)).2.2.2.2.2.2.2.2.2.2.2.2.2.2.2.2.2.2.2.2.2.2.2.2.2.2.2.2.2.2))).bind fun r12 =>
    (world.AddBody.f ((v1, v2, v3, v4, v5, (v6, (fun i => RiiiiiiiiiiL2.enc (v7 i))), (v8, (fun i => Riiiiiiii.enc (v9 i))), (v10, (fun i => Riiiii.enc (v11 i)))), (r12.1, r12.2.1, r12.2.2.1, r12.2.2.2.1, r12.2.2.2.2.1, r12.2.2.2.2.2.1, r12.2.2.2.2.2.2.1, r12.2.2.2.2.2.2.2.1, r12.2.2.2.2.2.2.2.2.1, r12.2.2.2.2.2.2.2.2.2.1, (r12.2.2.2.2.2.2.2.2.2.2.1, (fun i => Rii.enc (r12.2.2.2.2.2.2.2.2.2.2.2 i)))))).bind fun r13 =>
    law09.Made.l0 k0 k1 r13.2.1 r13.2.2.1 r13.2.2.2.1 r13.2.2.2.2.1 r13.2.2.2.2.2.1 r13.2.2.2.2.2.2.1.1 (fun i => RiiiiiiiiiiL2.enc (r13.2.2.2.2.2.2.1.2 i)) r13.2.2.2.2.2.2.2.1.1 (fun i => Riiiiiiii.enc (r13.2.2.2.2.2.2.2.1.2 i)) r13.2.2.2.2.2.2.2.2.1 (fun i => Riiiii.enc (r13.2.2.2.2.2.2.2.2.2 i)) v12 (fun i => RiiiiiiiiiiiiiiiiiiiiiiiiiiiiiL2.enc (v13 i)) v14 (IntKind.i64.wrap (v15 + 1))
    else none
  else
  (tG (tCons (tI .i64) (tCons (tI .i64) (tCons (tI .i64) (tCons (tI .i64) (tCons (tI .i64) (tCons (tTL RiiiiiiiiiiL2 11 (0, 0, 0, 0, 0, 0, 0, 0, 0, 0, (0, fun _ => []))) (tCons (tTL Riiiiiiii 8 (0, 0, 0, 0, 0, 0, 0, 0)) (tOne (tTL Riiiii 5 (0, 0, 0, 0, 0))))))))))).dec (.agg [.val (.int .i64 v1), .val (.int .i64 v2), .val (.int .i64 v3), .val (.int .i64 v4), .val (.int .i64 v5), .lst 11 v6 none (fun i => RiiiiiiiiiiL2.enc (v7 i)), .lst 8 v8 none (fun i => Riiiiiiii.enc (v9 i)), .lst 5 v10 none (fun i => Riiiii.enc (v11 i))]) := by kernel_rfl
theorem law09.Made.eq (k0 : Nat) (p0_n : Nat) (p0_g : Nat → (Int × Int × Int × Int × Int × Int × Int × Int × Int × Int × Int × Int × Int × Int × Int × Int × Int × Int × Int × Int × Int × Int × Int × Int × Int × Int × Int × Int × Int × (Nat × (Nat → List AV)))) (p1 : Int) : law09.Made.g k0 ((p0_n, (fun i => RiiiiiiiiiiiiiiiiiiiiiiiiiiiiiL2.enc (p0_g i))), p1) =
  (world.New.f ()).bind fun r1 =>
  bif ((decide (0 ≤ (if p1 < ((p0_n : Nat) : Int) then p1 else ((p0_n : Nat) : Int)))) && (decide ((if p1 < ((p0_n : Nat) : Int) then p1 else ((p0_n : Nat) : Int)) ≤ ((p0_n : Nat) : Int)))) then
  law09.Made.l0 k0 k0 r1.1 r1.2.1 r1.2.2.1 r1.2.2.2.1 r1.2.2.2.2.1 r1.2.2.2.2.2.1.1 (fun i => RiiiiiiiiiiL2.enc (r1.2.2.2.2.2.1.2 i)) r1.2.2.2.2.2.2.1.1 (fun i => Riiiiiiii.enc (r1.2.2.2.2.2.2.1.2 i)) r1.2.2.2.2.2.2.2.1 (fun i => Riiiii.enc (r1.2.2.2.2.2.2.2.2 i)) (Int.toNat (if p1 < ((p0_n : Nat) : Int) then p1 else ((p0_n : Nat) : Int))) (fun i => RiiiiiiiiiiiiiiiiiiiiiiiiiiiiiL2.enc (p0_g i)) (((Int.toNat (if p1 < ((p0_n : Nat) : Int) then p1 else ((p0_n : Nat) : Int))) : Nat) : Int) 0
  else none := by kernel_rfl
end Go.Proofs.Ytbcnifnmccaleaa.E
