import Derived.Test.YtghhecijpghfhaaGreatFw1
import Derived.Test.YtghhecijpghfhaaGreatIt
import Derived.Test.YtghhecijpghfhaaGreatProg
namespace Go.Proofs.YtghhecijpghfhaaGreat.E
open Go Go.Proofs Go.Proofs.YtghhecijpghfhaaGreat Go.Proofs.YtghhecijpghfhaaGreat.Fw Go.RowKit
set_option maxRecDepth 100000
set_option linter.unusedVariables false
def Str11c1601c : ByteArray := ByteArray.mk #[0, 1, 2, 2, 3, 3, 3, 3, 4, 4, 4, 4, 4, 4, 4, 4, 5, 5, 5, 5, 5, 5, 5, 5, 5, 5, 5, 5, 5, 5, 5, 5, 6, 6, 6, 6, 6, 6, 6, 6, 6, 6, 6, 6, 6, 6, 6, 6, 6, 6, 6, 6, 6, 6, 6, 6, 6, 6, 6, 6, 6, 6, 6, 6, 7, 7, 7, 7, 7, 7, 7, 7, 7, 7, 7, 7, 7, 7, 7, 7, 7, 7, 7, 7, 7, 7, 7, 7, 7, 7, 7, 7, 7, 7, 7, 7, 7, 7, 7, 7, 7, 7, 7, 7, 7, 7, 7, 7, 7, 7, 7, 7, 7, 7, 7, 7, 7, 7, 7, 7, 7, 7, 7, 7, 7, 7, 7, 7, 8, 8, 8, 8, 8, 8, 8, 8, 8, 8, 8, 8, 8, 8, 8, 8, 8, 8, 8, 8, 8, 8, 8, 8, 8, 8, 8, 8, 8, 8, 8, 8, 8, 8, 8, 8, 8, 8, 8, 8, 8, 8, 8, 8, 8, 8, 8, 8, 8, 8, 8, 8, 8, 8, 8, 8, 8, 8, 8, 8, 8, 8, 8, 8, 8, 8, 8, 8, 8, 8, 8, 8, 8, 8, 8, 8, 8, 8, 8, 8, 8, 8, 8, 8, 8, 8, 8, 8, 8, 8, 8, 8, 8, 8, 8, 8, 8, 8, 8, 8, 8, 8, 8, 8, 8, 8, 8, 8, 8, 8, 8, 8, 8, 8, 8, 8, 8, 8, 8, 8, 8, 8, 8, 8, 8, 8, 8, 8]
def Rii : TyL (Int × Int) := (tCons (tI .i64) (tOne (tI .i64)))
theorem Rii_ok : Rii.Ok := (tCons_ok (tI_ok _) (tOne_ok (tI_ok _)))
theorem Rii_ren (f : Nat → Option Nat) (x : (Int × Int)) : renL f (Rii.enc x) = Rii.enc x := by kernel_rfl
theorem Rii_clo (x : (Int × Int)) : cloL (Rii.enc x) = Rii.enc x := by kernel_rfl
theorem Rii_dec (x : (Int × Int)) : Rii.dec (Rii.enc x) = some x := by kernel_rfl
def RiiiiiiiiiiL2 : TyL (Int × Int × Int × Int × Int × Int × Int × Int × Int × Int × (Nat × (Nat → List AV))) := (tCons (tI .i64) (tCons (tI .i64) (tCons (tI .i64) (tCons (tI .i64) (tCons (tI .i64) (tCons (tI .i64) (tCons (tI .i64) (tCons (tI .i64) (tCons (tI .i64) (tCons (tI .i64) (tOne (tLz 2 (Rii.enc (0, 0))))))))))))))
theorem RiiiiiiiiiiL2_ok : RiiiiiiiiiiL2.Ok := (tCons_ok (tI_ok _) (tCons_ok (tI_ok _) (tCons_ok (tI_ok _) (tCons_ok (tI_ok _) (tCons_ok (tI_ok _) (tCons_ok (tI_ok _) (tCons_ok (tI_ok _) (tCons_ok (tI_ok _) (tCons_ok (tI_ok _) (tCons_ok (tI_ok _) (tOne_ok (tLz_ok _ _))))))))))))
theorem RiiiiiiiiiiL2_ren (f : Nat → Option Nat) (x : (Int × Int × Int × Int × Int × Int × Int × Int × Int × Int × (Nat × (Nat → List AV)))) : renL f (RiiiiiiiiiiL2.enc x) = RiiiiiiiiiiL2.enc x := by kernel_rfl
theorem RiiiiiiiiiiL2_clo (x : (Int × Int × Int × Int × Int × Int × Int × Int × Int × Int × (Nat × (Nat → List AV)))) : cloL (RiiiiiiiiiiL2.enc x) = RiiiiiiiiiiL2.enc x := by kernel_rfl
theorem RiiiiiiiiiiL2_dec (x : (Int × Int × Int × Int × Int × Int × Int × Int × Int × Int × (Nat × (Nat → List AV)))) : RiiiiiiiiiiL2.dec (RiiiiiiiiiiL2.enc x) = some x := by kernel_rfl
def RiiiiiiiiiiiiiiL2 : TyL (Int × Int × Int × Int × Int × Int × Int × Int × Int × Int × Int × Int × Int × Int × (Nat × (Nat → List AV))) := (tCons (tI .i64) (tCons (tI .i64) (tCons (tI .i64) (tCons (tI .i64) (tCons (tI .i64) (tCons (tI .i64) (tCons (tI .i64) (tCons (tI .i64) (tCons (tI .i64) (tCons (tI .i64) (tCons (tI .i64) (tCons (tI .i64) (tCons (tI .i64) (tCons (tI .i64) (tOne (tLz 2 (Rii.enc (0, 0))))))))))))))))))
theorem RiiiiiiiiiiiiiiL2_ok : RiiiiiiiiiiiiiiL2.Ok := (tCons_ok (tI_ok _) (tCons_ok (tI_ok _) (tCons_ok (tI_ok _) (tCons_ok (tI_ok _) (tCons_ok (tI_ok _) (tCons_ok (tI_ok _) (tCons_ok (tI_ok _) (tCons_ok (tI_ok _) (tCons_ok (tI_ok _) (tCons_ok (tI_ok _) (tCons_ok (tI_ok _) (tCons_ok (tI_ok _) (tCons_ok (tI_ok _) (tCons_ok (tI_ok _) (tOne_ok (tLz_ok _ _))))))))))))))))
theorem RiiiiiiiiiiiiiiL2_ren (f : Nat → Option Nat) (x : (Int × Int × Int × Int × Int × Int × Int × Int × Int × Int × Int × Int × Int × Int × (Nat × (Nat → List AV)))) : renL f (RiiiiiiiiiiiiiiL2.enc x) = RiiiiiiiiiiiiiiL2.enc x := by kernel_rfl
theorem RiiiiiiiiiiiiiiL2_clo (x : (Int × Int × Int × Int × Int × Int × Int × Int × Int × Int × Int × Int × Int × Int × (Nat × (Nat → List AV)))) : cloL (RiiiiiiiiiiiiiiL2.enc x) = RiiiiiiiiiiiiiiL2.enc x := by kernel_rfl
theorem RiiiiiiiiiiiiiiL2_dec (x : (Int × Int × Int × Int × Int × Int × Int × Int × Int × Int × Int × Int × Int × Int × (Nat × (Nat → List AV)))) : RiiiiiiiiiiiiiiL2.dec (RiiiiiiiiiiiiiiL2.enc x) = some x := by kernel_rfl
def Riiiiiiii : TyL (Int × Int × Int × Int × Int × Int × Int × Int) := (tCons (tI .i64) (tCons (tI .i64) (tCons (tI .i64) (tCons (tI .i64) (tCons (tI .i64) (tCons (tI .i64) (tCons (tI .i64) (tOne (tI .i64)))))))))
theorem Riiiiiiii_ok : Riiiiiiii.Ok := (tCons_ok (tI_ok _) (tCons_ok (tI_ok _) (tCons_ok (tI_ok _) (tCons_ok (tI_ok _) (tCons_ok (tI_ok _) (tCons_ok (tI_ok _) (tCons_ok (tI_ok _) (tOne_ok (tI_ok _)))))))))
theorem Riiiiiiii_ren (f : Nat → Option Nat) (x : (Int × Int × Int × Int × Int × Int × Int × Int)) : renL f (Riiiiiiii.enc x) = Riiiiiiii.enc x := by kernel_rfl
theorem Riiiiiiii_clo (x : (Int × Int × Int × Int × Int × Int × Int × Int)) : cloL (Riiiiiiii.enc x) = Riiiiiiii.enc x := by kernel_rfl
theorem Riiiiiiii_dec (x : (Int × Int × Int × Int × Int × Int × Int × Int)) : Riiiiiiii.dec (Riiiiiiii.enc x) = some x := by kernel_rfl
def Riiiii : TyL (Int × Int × Int × Int × Int) := (tCons (tI .i64) (tCons (tI .i64) (tCons (tI .i64) (tCons (tI .i64) (tOne (tI .i64))))))
theorem Riiiii_ok : Riiiii.Ok := (tCons_ok (tI_ok _) (tCons_ok (tI_ok _) (tCons_ok (tI_ok _) (tCons_ok (tI_ok _) (tOne_ok (tI_ok _))))))
theorem Riiiii_ren (f : Nat → Option Nat) (x : (Int × Int × Int × Int × Int)) : renL f (Riiiii.enc x) = Riiiii.enc x := by kernel_rfl
theorem Riiiii_clo (x : (Int × Int × Int × Int × Int)) : cloL (Riiiii.enc x) = Riiiii.enc x := by kernel_rfl
theorem Riiiii_dec (x : (Int × Int × Int × Int × Int)) : Riiiii.dec (Riiiii.enc x) = some x := by kernel_rfl
def Ri : TyL Int := (tOne (tI .i64))
theorem Ri_ok : Ri.Ok := (tOne_ok (tI_ok _))
theorem Ri_ren (f : Nat → Option Nat) (x : Int) : renL f (Ri.enc x) = Ri.enc x := by kernel_rfl
theorem Ri_clo (x : Int) : cloL (Ri.enc x) = Ri.enc x := by kernel_rfl
theorem Ri_dec (x : Int) : Ri.dec (Ri.enc x) = some x := by kernel_rfl
def RiiiiiiiiiiiiiiiiiiiiiiiiiiiiiL2 : TyL (Int × Int × Int × Int × Int × Int × Int × Int × Int × Int × Int × Int × Int × Int × Int × Int × Int × Int × Int × Int × Int × Int × Int × Int × Int × Int × Int × Int × Int × (Nat × (Nat → List AV))) := (tCons (tI .i64) (tCons (tI .i64) (tCons (tI .i64) (tCons (tI .i64) (tCons (tI .i64) (tCons (tI .i64) (tCons (tI .i64) (tCons (tI .i64) (tCons (tI .i64) (tCons (tI .i64) (tCons (tI .i64) (tCons (tI .i64) (tCons (tI .i64) (tCons (tI .i64) (tCons (tI .i64) (tCons (tI .i64) (tCons (tI .i64) (tCons (tI .i64) (tCons (tI .i64) (tCons (tI .i64) (tCons (tI .i64) (tCons (tI .i64) (tCons (tI .i64) (tCons (tI .i64) (tCons (tI .i64) (tCons (tI .i64) (tCons (tI .i64) (tCons (tI .i64) (tCons (tI .i64) (tOne (tLz 2 (Rii.enc (0, 0)))))))))))))))))))))))))))))))))
theorem RiiiiiiiiiiiiiiiiiiiiiiiiiiiiiL2_ok : RiiiiiiiiiiiiiiiiiiiiiiiiiiiiiL2.Ok := (tCons_ok (tI_ok _) (tCons_ok (tI_ok _) (tCons_ok (tI_ok _) (tCons_ok (tI_ok _) (tCons_ok (tI_ok _) (tCons_ok (tI_ok _) (tCons_ok (tI_ok _) (tCons_ok (tI_ok _) (tCons_ok (tI_ok _) (tCons_ok (tI_ok _) (tCons_ok (tI_ok _) (tCons_ok (tI_ok _) (tCons_ok (tI_ok _) (tCons_ok (tI_ok _) (tCons_ok (tI_ok _) (tCons_ok (tI_ok _) (tCons_ok (tI_ok _) (tCons_ok (tI_ok _) (tCons_ok (tI_ok _) (tCons_ok (tI_ok _) (tCons_ok (tI_ok _) (tCons_ok (tI_ok _) (tCons_ok (tI_ok _) (tCons_ok (tI_ok _) (tCons_ok (tI_ok _) (tCons_ok (tI_ok _) (tCons_ok (tI_ok _) (tCons_ok (tI_ok _) (tCons_ok (tI_ok _) (tOne_ok (tLz_ok _ _)))))))))))))))))))))))))))))))
theorem RiiiiiiiiiiiiiiiiiiiiiiiiiiiiiL2_ren (f : Nat → Option Nat) (x : (Int × Int × Int × Int × Int × Int × Int × Int × Int × Int × Int × Int × Int × Int × Int × Int × Int × Int × Int × Int × Int × Int × Int × Int × Int × Int × Int × Int × Int × (Nat × (Nat → List AV)))) : renL f (RiiiiiiiiiiiiiiiiiiiiiiiiiiiiiL2.enc x) = RiiiiiiiiiiiiiiiiiiiiiiiiiiiiiL2.enc x := by kernel_rfl
theorem RiiiiiiiiiiiiiiiiiiiiiiiiiiiiiL2_clo (x : (Int × Int × Int × Int × Int × Int × Int × Int × Int × Int × Int × Int × Int × Int × Int × Int × Int × Int × Int × Int × Int × Int × Int × Int × Int × Int × Int × Int × Int × (Nat × (Nat → List AV)))) : cloL (RiiiiiiiiiiiiiiiiiiiiiiiiiiiiiL2.enc x) = RiiiiiiiiiiiiiiiiiiiiiiiiiiiiiL2.enc x := by kernel_rfl
theorem RiiiiiiiiiiiiiiiiiiiiiiiiiiiiiL2_dec (x : (Int × Int × Int × Int × Int × Int × Int × Int × Int × Int × Int × Int × Int × Int × Int × Int × Int × Int × Int × Int × Int × Int × Int × Int × Int × Int × Int × Int × Int × (Nat × (Nat → List AV)))) : RiiiiiiiiiiiiiiiiiiiiiiiiiiiiiL2.dec (RiiiiiiiiiiiiiiiiiiiiiiiiiiiiiL2.enc x) = some x := by kernel_rfl
noncomputable def rtRiiiiiiiiiiL2 : RTy := ⟨_, RiiiiiiiiiiL2.enc, RiiiiiiiiiiL2.dec, (0, 0, 0, 0, 0, 0, 0, 0, 0, 0, (0, fun _ => [])), fun {_ _} h {_ _} hc => RiiiiiiiiiiL2_ok.ok h hc⟩
noncomputable def rtRiiiiiiiiiiiiiiL2 : RTy := ⟨_, RiiiiiiiiiiiiiiL2.enc, RiiiiiiiiiiiiiiL2.dec, (0, 0, 0, 0, 0, 0, 0, 0, 0, 0, 0, 0, 0, 0, (0, fun _ => [])), fun {_ _} h {_ _} hc => RiiiiiiiiiiiiiiL2_ok.ok h hc⟩
noncomputable def rtF : Nat → Option RTy := fun t => match Nat.beq t 34 with
  | true => some rtRiiiiiiiiiiL2
  | false => match Nat.beq t 45 with
  | true => some rtRiiiiiiiiiiiiiiL2
  | false => none
/-! ### bagatelle/world.New -/
noncomputable def world.New.cs : List (Nat × Fw.Summ) := []
theorem world.New.cs_ok : SumsOk Tryz.prog world.New.cs := .nil
def world.New.hs : List (Nat × LHint) := []
noncomputable def world.New.G : Ctx := ⟨Tryz.prog, sumAt world.New.cs, lookH world.New.hs⟩
noncomputable def world.New.f (x : Unit) : Option (Int × Int × Int × Int × Int × (Nat × (Nat → (Int × Int × Int × Int × Int × Int × Int × Int × Int × Int × (Nat × (Nat → List AV))))) × (Nat × (Nat → (Int × Int × Int × Int × Int × Int × Int × Int))) × (Nat × (Nat → (Int × Int × Int × Int × Int)))) := evF world.New.G 0 Tryz.f29 (tNil.enc x) (tG (tCons (tI .i64) (tCons (tI .i64) (tCons (tI .i64) (tCons (tI .i64) (tCons (tI .i64) (tCons (tTL RiiiiiiiiiiL2 11 (0, 0, 0, 0, 0, 0, 0, 0, 0, 0, (0, fun _ => []))) (tCons (tTL Riiiiiiii 8 (0, 0, 0, 0, 0, 0, 0, 0)) (tOne (tTL Riiiii 5 (0, 0, 0, 0, 0))))))))))).dec
noncomputable def world.New.s : Fw.Summ := .mk' tNil (tG (tCons (tI .i64) (tCons (tI .i64) (tCons (tI .i64) (tCons (tI .i64) (tCons (tI .i64) (tCons (tTL RiiiiiiiiiiL2 11 (0, 0, 0, 0, 0, 0, 0, 0, 0, 0, (0, fun _ => []))) (tCons (tTL Riiiiiiii 8 (0, 0, 0, 0, 0, 0, 0, 0)) (tOne (tTL Riiiii 5 (0, 0, 0, 0, 0))))))))))) world.New.f
theorem world.New.ok : world.New.s.Ok Tryz.prog 29 :=
  summ_ok (hint := lookH world.New.hs) (fn := Tryz.f29) (fun x => 0) world.New.cs_ok (by kernel_rfl) (by kernel_rfl) (by kernel_rfl) (by kernel_rfl) tNil_ok (tG_ok (tCons_ok (tI_ok _) (tCons_ok (tI_ok _) (tCons_ok (tI_ok _) (tCons_ok (tI_ok _) (tCons_ok (tI_ok _) (tCons_ok (tTL_ok RiiiiiiiiiiL2_ok _ _) (tCons_ok (tTL_ok Riiiiiiii_ok _ _) (tOne_ok (tTL_ok Riiiii_ok _ _)))))))))) (fun _ => rfl)
theorem world.New.eq  : world.New.f () =
  (tG (tCons (tI .i64) (tCons (tI .i64) (tCons (tI .i64) (tCons (tI .i64) (tCons (tI .i64) (tCons (tTL RiiiiiiiiiiL2 11 (0, 0, 0, 0, 0, 0, 0, 0, 0, 0, (0, fun _ => []))) (tCons (tTL Riiiiiiii 8 (0, 0, 0, 0, 0, 0, 0, 0)) (tOne (tTL Riiiii 5 (0, 0, 0, 0, 0))))))))))).dec (.agg [.val (.int .i64 0), .val (.int .i64 1), .val (.int .i64 1), .val (.int .i64 0), .val (.int .i64 0), .val (.slice none 0 0), .val (.slice none 0 0), .val (.slice none 0 0)]) := by kernel_rfl
/-! ### bagatelle/order.used -/
noncomputable def order.used.cs : List (Nat × Fw.Summ) := []
theorem order.used.cs_ok : SumsOk Tryz.prog order.used.cs := .nil
def order.used.hs : List (Nat × LHint) := []
noncomputable def order.used.G : Ctx := ⟨Tryz.prog, sumAt order.used.cs, lookH order.used.hs⟩
noncomputable def order.used.f (x : (Int × Int × Int × Int × Int × Int × Int × Int × Int × Int × Int × Int × Int × Int × (Nat × (Nat → List AV)))) : Option (Int × Int × Int × Int × Int × Int × Int × Int × Int × Int × Int × Int × Int × Int × (Nat × (Nat → (Int × Int)))) := evF order.used.G 0 Tryz.f32 ((tOne (tG (tCons (tI .i64) (tCons (tI .i64) (tCons (tI .i64) (tCons (tI .i64) (tCons (tI .i64) (tCons (tI .i64) (tCons (tI .i64) (tCons (tI .i64) (tCons (tI .i64) (tCons (tI .i64) (tCons (tI .i64) (tCons (tI .i64) (tCons (tI .i64) (tCons (tI .i64) (tOne (tLz 2 (Rii.enc (0, 0)))))))))))))))))))).enc x) (tG (tCons (tI .i64) (tCons (tI .i64) (tCons (tI .i64) (tCons (tI .i64) (tCons (tI .i64) (tCons (tI .i64) (tCons (tI .i64) (tCons (tI .i64) (tCons (tI .i64) (tCons (tI .i64) (tCons (tI .i64) (tCons (tI .i64) (tCons (tI .i64) (tCons (tI .i64) (tOne (tTL Rii 2 (0, 0)))))))))))))))))).dec
noncomputable def order.used.s : Fw.Summ := .mk' (tOne (tG (tCons (tI .i64) (tCons (tI .i64) (tCons (tI .i64) (tCons (tI .i64) (tCons (tI .i64) (tCons (tI .i64) (tCons (tI .i64) (tCons (tI .i64) (tCons (tI .i64) (tCons (tI .i64) (tCons (tI .i64) (tCons (tI .i64) (tCons (tI .i64) (tCons (tI .i64) (tOne (tLz 2 (Rii.enc (0, 0)))))))))))))))))))) (tG (tCons (tI .i64) (tCons (tI .i64) (tCons (tI .i64) (tCons (tI .i64) (tCons (tI .i64) (tCons (tI .i64) (tCons (tI .i64) (tCons (tI .i64) (tCons (tI .i64) (tCons (tI .i64) (tCons (tI .i64) (tCons (tI .i64) (tCons (tI .i64) (tCons (tI .i64) (tOne (tTL Rii 2 (0, 0)))))))))))))))))) order.used.f
theorem order.used.ok : order.used.s.Ok Tryz.prog 32 :=
  summ_ok (hint := lookH order.used.hs) (fn := Tryz.f32) (fun x => 0) order.used.cs_ok (by kernel_rfl) (by kernel_rfl) (by kernel_rfl) (by kernel_rfl) (tOne_ok (tG_ok (tCons_ok (tI_ok _) (tCons_ok (tI_ok _) (tCons_ok (tI_ok _) (tCons_ok (tI_ok _) (tCons_ok (tI_ok _) (tCons_ok (tI_ok _) (tCons_ok (tI_ok _) (tCons_ok (tI_ok _) (tCons_ok (tI_ok _) (tCons_ok (tI_ok _) (tCons_ok (tI_ok _) (tCons_ok (tI_ok _) (tCons_ok (tI_ok _) (tCons_ok (tI_ok _) (tOne_ok (tLz_ok _ _)))))))))))))))))) (tG_ok (tCons_ok (tI_ok _) (tCons_ok (tI_ok _) (tCons_ok (tI_ok _) (tCons_ok (tI_ok _) (tCons_ok (tI_ok _) (tCons_ok (tI_ok _) (tCons_ok (tI_ok _) (tCons_ok (tI_ok _) (tCons_ok (tI_ok _) (tCons_ok (tI_ok _) (tCons_ok (tI_ok _) (tCons_ok (tI_ok _) (tCons_ok (tI_ok _) (tCons_ok (tI_ok _) (tOne_ok (tTL_ok Rii_ok _ _))))))))))))))))) (fun _ => rfl)
theorem order.used.eq (p0_0 : Int) (p0_1 : Int) (p0_2 : Int) (p0_3 : Int) (p0_4 : Int) (p0_5 : Int) (p0_6 : Int) (p0_7 : Int) (p0_8 : Int) (p0_9 : Int) (p0_10 : Int) (p0_11 : Int) (p0_12 : Int) (p0_13 : Int) (p0_14_n : Nat) (p0_14_g : Nat → (Int × Int)) : order.used.f (p0_0, p0_1, p0_2, p0_3, p0_4, p0_5, p0_6, p0_7, p0_8, p0_9, p0_10, p0_11, p0_12, p0_13, (p0_14_n, (fun i => Rii.enc (p0_14_g i)))) =
  bif (p0_0 == 1) then
    (tG (tCons (tI .i64) (tCons (tI .i64) (tCons (tI .i64) (tCons (tI .i64) (tCons (tI .i64) (tCons (tI .i64) (tCons (tI .i64) (tCons (tI .i64) (tCons (tI .i64) (tCons (tI .i64) (tCons (tI .i64) (tCons (tI .i64) (tCons (tI .i64) (tCons (tI .i64) (tOne (tTL Rii 2 (0, 0)))))))))))))))))).dec (.agg [.val (.int .i64 p0_0), .val (.int .i64 0), .val (.int .i64 0), .val (.int .i64 0), .val (.int .i64 p0_4), .val (.int .i64 p0_5), .val (.int .i64 p0_6), .val (.int .i64 p0_7), .val (.int .i64 p0_8), .val (.int .i64 p0_9), .val (.int .i64 p0_10), .val (.int .i64 0), .val (.int .i64 p0_12), .val (.int .i64 p0_13), .lst 2 p0_14_n none (fun i => Rii.enc (p0_14_g i))])
  else
  bif (p0_0 == 2) then
    bif (p0_0 == 2) then
      (tG (tCons (tI .i64) (tCons (tI .i64) (tCons (tI .i64) (tCons (tI .i64) (tCons (tI .i64) (tCons (tI .i64) (tCons (tI .i64) (tCons (tI .i64) (tCons (tI .i64) (tCons (tI .i64) (tCons (tI .i64) (tCons (tI .i64) (tCons (tI .i64) (tCons (tI .i64) (tOne (tTL Rii 2 (0, 0)))))))))))))))))).dec (.agg [.val (.int .i64 p0_0), .val (.int .i64 p0_1), .val (.int .i64 0), .val (.int .i64 0), .val (.int .i64 0), .val (.int .i64 0), .val (.int .i64 0), .val (.int .i64 0), .val (.int .i64 0), .val (.int .i64 0), .val (.int .i64 0), .val (.int .i64 0), .val (.int .i64 0), .val (.int .i64 0), .val (.slice none 0 0)])
    else
    bif (p0_0 == 3) then
      (tG (tCons (tI .i64) (tCons (tI .i64) (tCons (tI .i64) (tCons (tI .i64) (tCons (tI .i64) (tCons (tI .i64) (tCons (tI .i64) (tCons (tI .i64) (tCons (tI .i64) (tCons (tI .i64) (tCons (tI .i64) (tCons (tI .i64) (tCons (tI .i64) (tCons (tI .i64) (tOne (tTL Rii 2 (0, 0)))))))))))))))))).dec (.agg [.val (.int .i64 p0_0), .val (.int .i64 0), .val (.int .i64 p0_2), .val (.int .i64 p0_3), .val (.int .i64 p0_4), .val (.int .i64 p0_5), .val (.int .i64 p0_6), .val (.int .i64 p0_7), .val (.int .i64 0), .val (.int .i64 0), .val (.int .i64 0), .val (.int .i64 p0_11), .val (.int .i64 0), .val (.int .i64 0), .val (.slice none 0 0)])
    else
    bif (p0_0 == 5) then
      (tG (tCons (tI .i64) (tCons (tI .i64) (tCons (tI .i64) (tCons (tI .i64) (tCons (tI .i64) (tCons (tI .i64) (tCons (tI .i64) (tCons (tI .i64) (tCons (tI .i64) (tCons (tI .i64) (tCons (tI .i64) (tCons (tI .i64) (tCons (tI .i64) (tCons (tI .i64) (tOne (tTL Rii 2 (0, 0)))))))))))))))))).dec (.agg [.val (.int .i64 p0_0), .val (.int .i64 p0_1), .val (.int .i64 0), .val (.int .i64 0), .val (.int .i64 0), .val (.int .i64 0), .val (.int .i64 p0_6), .val (.int .i64 p0_7), .val (.int .i64 0), .val (.int .i64 p0_9), .val (.int .i64 0), .val (.int .i64 0), .val (.int .i64 0), .val (.int .i64 0), .val (.slice none 0 0)])
    else
    bif (p0_0 == 6) then
      (tG (tCons (tI .i64) (tCons (tI .i64) (tCons (tI .i64) (tCons (tI .i64) (tCons (tI .i64) (tCons (tI .i64) (tCons (tI .i64) (tCons (tI .i64) (tCons (tI .i64) (tCons (tI .i64) (tCons (tI .i64) (tCons (tI .i64) (tCons (tI .i64) (tCons (tI .i64) (tOne (tTL Rii 2 (0, 0)))))))))))))))))).dec (.agg [.val (.int .i64 p0_0), .val (.int .i64 0), .val (.int .i64 0), .val (.int .i64 0), .val (.int .i64 0), .val (.int .i64 0), .val (.int .i64 p0_6), .val (.int .i64 p0_7), .val (.int .i64 0), .val (.int .i64 0), .val (.int .i64 0), .val (.int .i64 0), .val (.int .i64 0), .val (.int .i64 0), .val (.slice none 0 0)])
    else
    (tG (tCons (tI .i64) (tCons (tI .i64) (tCons (tI .i64) (tCons (tI .i64) (tCons (tI .i64) (tCons (tI .i64) (tCons (tI .i64) (tCons (tI .i64) (tCons (tI .i64) (tCons (tI .i64) (tCons (tI .i64) (tCons (tI .i64) (tCons (tI .i64) (tCons (tI .i64) (tOne (tTL Rii 2 (0, 0)))))))))))))))))).dec (.agg [.val (.int .i64 p0_0), .val (.int .i64 0), .val (.int .i64 0), .val (.int .i64 0), .val (.int .i64 0), .val (.int .i64 0), .val (.int .i64 0), .val (.int .i64 0), .val (.int .i64 0), .val (.int .i64 0), .val (.int .i64 0), .val (.int .i64 0), .val (.int .i64 0), .val (.int .i64 0), .val (.slice none 0 0)])
  else
  bif (p0_0 == 4) then
    (tG (tCons (tI .i64) (tCons (tI .i64) (tCons (tI .i64) (tCons (tI .i64) (tCons (tI .i64) (tCons (tI .i64) (tCons (tI .i64) (tCons (tI .i64) (tCons (tI .i64) (tCons (tI .i64) (tCons (tI .i64) (tCons (tI .i64) (tCons (tI .i64) (tCons (tI .i64) (tOne (tTL Rii 2 (0, 0)))))))))))))))))).dec (.agg [.val (.int .i64 p0_0), .val (.int .i64 p0_1), .val (.int .i64 0), .val (.int .i64 0), .val (.int .i64 0), .val (.int .i64 0), .val (.int .i64 0), .val (.int .i64 0), .val (.int .i64 0), .val (.int .i64 0), .val (.int .i64 0), .val (.int .i64 0), .val (.int .i64 0), .val (.int .i64 0), .val (.slice none 0 0)])
  else
  bif (p0_0 == 3) then
    (tG (tCons (tI .i64) (tCons (tI .i64) (tCons (tI .i64) (tCons (tI .i64) (tCons (tI .i64) (tCons (tI .i64) (tCons (tI .i64) (tCons (tI .i64) (tCons (tI .i64) (tCons (tI .i64) (tCons (tI .i64) (tCons (tI .i64) (tCons (tI .i64) (tCons (tI .i64) (tOne (tTL Rii 2 (0, 0)))))))))))))))))).dec (.agg [.val (.int .i64 p0_0), .val (.int .i64 0), .val (.int .i64 p0_2), .val (.int .i64 p0_3), .val (.int .i64 p0_4), .val (.int .i64 p0_5), .val (.int .i64 p0_6), .val (.int .i64 p0_7), .val (.int .i64 0), .val (.int .i64 0), .val (.int .i64 0), .val (.int .i64 p0_11), .val (.int .i64 0), .val (.int .i64 0), .val (.slice none 0 0)])
  else
  bif (p0_0 == 5) then
    (tG (tCons (tI .i64) (tCons (tI .i64) (tCons (tI .i64) (tCons (tI .i64) (tCons (tI .i64) (tCons (tI .i64) (tCons (tI .i64) (tCons (tI .i64) (tCons (tI .i64) (tCons (tI .i64) (tCons (tI .i64) (tCons (tI .i64) (tCons (tI .i64) (tCons (tI .i64) (tOne (tTL Rii 2 (0, 0)))))))))))))))))).dec (.agg [.val (.int .i64 p0_0), .val (.int .i64 p0_1), .val (.int .i64 0), .val (.int .i64 0), .val (.int .i64 0), .val (.int .i64 0), .val (.int .i64 p0_6), .val (.int .i64 p0_7), .val (.int .i64 0), .val (.int .i64 p0_9), .val (.int .i64 0), .val (.int .i64 0), .val (.int .i64 0), .val (.int .i64 0), .val (.slice none 0 0)])
  else
  bif (p0_0 == 6) then
    (tG (tCons (tI .i64) (tCons (tI .i64) (tCons (tI .i64) (tCons (tI .i64) (tCons (tI .i64) (tCons (tI .i64) (tCons (tI .i64) (tCons (tI .i64) (tCons (tI .i64) (tCons (tI .i64) (tCons (tI .i64) (tCons (tI .i64) (tCons (tI .i64) (tCons (tI .i64) (tOne (tTL Rii 2 (0, 0)))))))))))))))))).dec (.agg [.val (.int .i64 p0_0), .val (.int .i64 0), .val (.int .i64 0), .val (.int .i64 0), .val (.int .i64 0), .val (.int .i64 0), .val (.int .i64 p0_6), .val (.int .i64 p0_7), .val (.int .i64 0), .val (.int .i64 0), .val (.int .i64 0), .val (.int .i64 0), .val (.int .i64 0), .val (.int .i64 0), .val (.slice none 0 0)])
  else
  (tG (tCons (tI .i64) (tCons (tI .i64) (tCons (tI .i64) (tCons (tI .i64) (tCons (tI .i64) (tCons (tI .i64) (tCons (tI .i64) (tCons (tI .i64) (tCons (tI .i64) (tCons (tI .i64) (tCons (tI .i64) (tCons (tI .i64) (tCons (tI .i64) (tCons (tI .i64) (tOne (tTL Rii 2 (0, 0)))))))))))))))))).dec (.agg [.val (.int .i64 p0_0), .val (.int .i64 0), .val (.int .i64 0), .val (.int .i64 0), .val (.int .i64 0), .val (.int .i64 0), .val (.int .i64 0), .val (.int .i64 0), .val (.int .i64 0), .val (.int .i64 0), .val (.int .i64 0), .val (.int .i64 0), .val (.int .i64 0), .val (.int .i64 0), .val (.slice none 0 0)]) := by kernel_rfl
/-! ### slices.Equal[[]bagatelle/api.V,bagatelle/api.V] -/
noncomputable def slices.Equal_lV_V.cs : List (Nat × Fw.Summ) := []
theorem slices.Equal_lV_V.cs_ok : SumsOk Tryz.prog slices.Equal_lV_V.cs := .nil
def slices.Equal_lV_V.hs : List (Nat × LHint) := [(0, { mat := [], live := [0, 1, 12, 13], ren := [] })]
noncomputable def slices.Equal_lV_V.G : Ctx := ⟨Tryz.prog, sumAt slices.Equal_lV_V.cs, lookH slices.Equal_lV_V.hs⟩
noncomputable def slices.Equal_lV_V.g (k0 : Nat) (x : ((Nat × (Nat → List AV)) × (Nat × (Nat → List AV)))) : Option Bool := evF slices.Equal_lV_V.G k0 Tryz.f93 ((tCons (tLz 2 (Rii.enc (0, 0))) (tOne (tLz 2 (Rii.enc (0, 0))))).enc x) tB.dec
noncomputable def slices.Equal_lV_V.f (x : ((Nat × (Nat → List AV)) × (Nat × (Nat → List AV)))) : Option Bool := slices.Equal_lV_V.g (1000000) x
noncomputable def slices.Equal_lV_V.s : Fw.Summ := .mk' (tCons (tLz 2 (Rii.enc (0, 0))) (tOne (tLz 2 (Rii.enc (0, 0))))) tB slices.Equal_lV_V.f
theorem slices.Equal_lV_V.ok : slices.Equal_lV_V.s.Ok Tryz.prog 93 :=
  summ_ok (hint := lookH slices.Equal_lV_V.hs) (fn := Tryz.f93) (fun x => 1000000) slices.Equal_lV_V.cs_ok (by kernel_rfl) (by kernel_rfl) (by kernel_rfl) (by kernel_rfl) (tCons_ok (tLz_ok _ _) (tOne_ok (tLz_ok _ _))) tB_ok (fun _ => rfl)
noncomputable def slices.Equal_lV_V.l0 (k0 k1 : Nat) (v1 : Nat) (v2 : Nat → List AV) (v3 : Nat) (v4 : Nat → List AV) (v5 : Int) (v6 : Int) : Option Bool :=
  evLoop (lookH slices.Equal_lV_V.hs 0) 0 (ev slices.Equal_lV_V.G k0 (codeAt [1, 1, 0, 1, 0, 0] (bodyOf Tryz.f93)) 0) k1
  ⟨[.lst 2 v1 none v2, .lst 2 v3 none v4, .top, .top, .top, .top, .top, .top, .top, .top, .top, .top, .val (.int .i64 v5), .val (.int .i64 v6), .top, .top, .top, .top, .top, .top, .top, .top, .top, .top, .top, .top], []⟩
  (kBlock 0 (kSeq slices.Equal_lV_V.G k0 (codeAt [1, 1, 1] (bodyOf Tryz.f93)) 0 (kFin slices.Equal_lV_V.G Tryz.f93 tB.dec)))
theorem slices.Equal_lV_V.l0_eq (k0 k1 : Nat) (v1 : Nat) (v2 : Nat → (Int × Int)) (v3 : Nat) (v4 : Nat → (Int × Int)) (v5 : Int) (v6 : Int) : slices.Equal_lV_V.l0 k0 (k1 + 1) v1 (fun i => Rii.enc (v2 i)) v3 (fun i => Rii.enc (v4 i)) v5 v6 =
  bif (decide (v6 < v5)) then
    bif ((decide (0 ≤ v6)) && (decide (v6 < ((v1 : Nat) : Int)))) then
    bif ((decide (0 ≤ v6)) && (decide (v6 < ((v3 : Nat) : Int)))) then
    bif (!(((v2 (Int.toNat v6)).1 == (v4 (Int.toNat v6)).1) && (((v2 (Int.toNat v6)).2 == (v4 (Int.toNat v6)).2) && true))) then
      some false
    else
    slices.Equal_lV_V.l0 k0 k1 v1 (fun i => Rii.enc (v2 i)) v3 (fun i => Rii.enc (v4 i)) v5 (IntKind.i64.wrap (v6 + 1))
    else none
    else none
  else
  some true := by kernel_rfl
theorem slices.Equal_lV_V.eq (k0 : Nat) (p0_n : Nat) (p0_g : Nat → (Int × Int)) (p1_n : Nat) (p1_g : Nat → (Int × Int)) : slices.Equal_lV_V.g k0 ((p0_n, (fun i => Rii.enc (p0_g i))), (p1_n, (fun i => Rii.enc (p1_g i)))) =
  bif (((p0_n : Nat) : Int) != ((p1_n : Nat) : Int)) then
    some false
  else
  slices.Equal_lV_V.l0 k0 k0 p0_n (fun i => Rii.enc (p0_g i)) p1_n (fun i => Rii.enc (p1_g i)) ((p0_n : Nat) : Int) 0 := by kernel_rfl
/-! ### bagatelle/shape.Same -/
noncomputable def shape.Same.cs : List (Nat × Fw.Summ) := [(93, slices.Equal_lV_V.s)]
theorem shape.Same.cs_ok : SumsOk Tryz.prog shape.Same.cs := .cons slices.Equal_lV_V.ok (.nil)
def shape.Same.hs : List (Nat × LHint) := []
noncomputable def shape.Same.G : Ctx := ⟨Tryz.prog, sumAt shape.Same.cs, lookH shape.Same.hs⟩
noncomputable def shape.Same.f (x : ((Int × Int × (Nat × (Nat → List AV))) × (Int × Int × (Nat × (Nat → List AV))))) : Option Bool := evF shape.Same.G 0 Tryz.f74 ((tCons (tG (tCons (tI .i64) (tCons (tI .i64) (tOne (tLz 2 (Rii.enc (0, 0))))))) (tOne (tG (tCons (tI .i64) (tCons (tI .i64) (tOne (tLz 2 (Rii.enc (0, 0))))))))).enc x) tB.dec
noncomputable def shape.Same.s : Fw.Summ := .mk' (tCons (tG (tCons (tI .i64) (tCons (tI .i64) (tOne (tLz 2 (Rii.enc (0, 0))))))) (tOne (tG (tCons (tI .i64) (tCons (tI .i64) (tOne (tLz 2 (Rii.enc (0, 0))))))))) tB shape.Same.f
theorem shape.Same.ok : shape.Same.s.Ok Tryz.prog 74 :=
  summ_ok (hint := lookH shape.Same.hs) (fn := Tryz.f74) (fun x => 0) shape.Same.cs_ok (by kernel_rfl) (by kernel_rfl) (by kernel_rfl) (by kernel_rfl) (tCons_ok (tG_ok (tCons_ok (tI_ok _) (tCons_ok (tI_ok _) (tOne_ok (tLz_ok _ _))))) (tOne_ok (tG_ok (tCons_ok (tI_ok _) (tCons_ok (tI_ok _) (tOne_ok (tLz_ok _ _))))))) tB_ok (fun _ => rfl)
theorem shape.Same.eq (p0_0 : Int) (p0_1 : Int) (p0_2_n : Nat) (p0_2_g : Nat → (Int × Int)) (p1_0 : Int) (p1_1 : Int) (p1_2_n : Nat) (p1_2_g : Nat → (Int × Int)) : shape.Same.f ((p0_0, p0_1, (p0_2_n, (fun i => Rii.enc (p0_2_g i)))), (p1_0, p1_1, (p1_2_n, (fun i => Rii.enc (p1_2_g i))))) =
  bif (p0_0 == p1_0) then
    bif (p0_1 == p1_1) then
      (slices.Equal_lV_V.f ((p0_2_n, (fun i => Rii.enc (p0_2_g i))), (p1_2_n, (fun i => Rii.enc (p1_2_g i))))).bind fun r1 =>
      some r1
    else
    some false
  else
  some false := by kernel_rfl
/-! ### bagatelle/order.Same -/
noncomputable def order.Same.cs : List (Nat × Fw.Summ) := [(74, shape.Same.s)]
theorem order.Same.cs_ok : SumsOk Tryz.prog order.Same.cs := .cons shape.Same.ok (.nil)
def order.Same.hs : List (Nat × LHint) := []
noncomputable def order.Same.G : Ctx := ⟨Tryz.prog, sumAt order.Same.cs, lookH order.Same.hs⟩
noncomputable def order.Same.f (x : ((Int × Int × Int × Int × Int × Int × Int × Int × Int × Int × Int × Int × Int × Int × (Nat × (Nat → List AV))) × (Int × Int × Int × Int × Int × Int × Int × Int × Int × Int × Int × Int × Int × Int × (Nat × (Nat → List AV))))) : Option Bool := evF order.Same.G 0 Tryz.f31 ((tCons (tG (tCons (tI .i64) (tCons (tI .i64) (tCons (tI .i64) (tCons (tI .i64) (tCons (tI .i64) (tCons (tI .i64) (tCons (tI .i64) (tCons (tI .i64) (tCons (tI .i64) (tCons (tI .i64) (tCons (tI .i64) (tCons (tI .i64) (tCons (tI .i64) (tCons (tI .i64) (tOne (tLz 2 (Rii.enc (0, 0))))))))))))))))))) (tOne (tG (tCons (tI .i64) (tCons (tI .i64) (tCons (tI .i64) (tCons (tI .i64) (tCons (tI .i64) (tCons (tI .i64) (tCons (tI .i64) (tCons (tI .i64) (tCons (tI .i64) (tCons (tI .i64) (tCons (tI .i64) (tCons (tI .i64) (tCons (tI .i64) (tCons (tI .i64) (tOne (tLz 2 (Rii.enc (0, 0))))))))))))))))))))).enc x) tB.dec
noncomputable def order.Same.s : Fw.Summ := .mk' (tCons (tG (tCons (tI .i64) (tCons (tI .i64) (tCons (tI .i64) (tCons (tI .i64) (tCons (tI .i64) (tCons (tI .i64) (tCons (tI .i64) (tCons (tI .i64) (tCons (tI .i64) (tCons (tI .i64) (tCons (tI .i64) (tCons (tI .i64) (tCons (tI .i64) (tCons (tI .i64) (tOne (tLz 2 (Rii.enc (0, 0))))))))))))))))))) (tOne (tG (tCons (tI .i64) (tCons (tI .i64) (tCons (tI .i64) (tCons (tI .i64) (tCons (tI .i64) (tCons (tI .i64) (tCons (tI .i64) (tCons (tI .i64) (tCons (tI .i64) (tCons (tI .i64) (tCons (tI .i64) (tCons (tI .i64) (tCons (tI .i64) (tCons (tI .i64) (tOne (tLz 2 (Rii.enc (0, 0))))))))))))))))))))) tB order.Same.f
theorem order.Same.ok : order.Same.s.Ok Tryz.prog 31 :=
  summ_ok (hint := lookH order.Same.hs) (fn := Tryz.f31) (fun x => 0) order.Same.cs_ok (by kernel_rfl) (by kernel_rfl) (by kernel_rfl) (by kernel_rfl) (tCons_ok (tG_ok (tCons_ok (tI_ok _) (tCons_ok (tI_ok _) (tCons_ok (tI_ok _) (tCons_ok (tI_ok _) (tCons_ok (tI_ok _) (tCons_ok (tI_ok _) (tCons_ok (tI_ok _) (tCons_ok (tI_ok _) (tCons_ok (tI_ok _) (tCons_ok (tI_ok _) (tCons_ok (tI_ok _) (tCons_ok (tI_ok _) (tCons_ok (tI_ok _) (tCons_ok (tI_ok _) (tOne_ok (tLz_ok _ _))))))))))))))))) (tOne_ok (tG_ok (tCons_ok (tI_ok _) (tCons_ok (tI_ok _) (tCons_ok (tI_ok _) (tCons_ok (tI_ok _) (tCons_ok (tI_ok _) (tCons_ok (tI_ok _) (tCons_ok (tI_ok _) (tCons_ok (tI_ok _) (tCons_ok (tI_ok _) (tCons_ok (tI_ok _) (tCons_ok (tI_ok _) (tCons_ok (tI_ok _) (tCons_ok (tI_ok _) (tCons_ok (tI_ok _) (tOne_ok (tLz_ok _ _))))))))))))))))))) tB_ok (fun _ => rfl)
theorem order.Same.eq (p0_0 : Int) (p0_1 : Int) (p0_2 : Int) (p0_3 : Int) (p0_4 : Int) (p0_5 : Int) (p0_6 : Int) (p0_7 : Int) (p0_8 : Int) (p0_9 : Int) (p0_10 : Int) (p0_11 : Int) (p0_12 : Int) (p0_13 : Int) (p0_14_n : Nat) (p0_14_g : Nat → (Int × Int)) (p1_0 : Int) (p1_1 : Int) (p1_2 : Int) (p1_3 : Int) (p1_4 : Int) (p1_5 : Int) (p1_6 : Int) (p1_7 : Int) (p1_8 : Int) (p1_9 : Int) (p1_10 : Int) (p1_11 : Int) (p1_12 : Int) (p1_13 : Int) (p1_14_n : Nat) (p1_14_g : Nat → (Int × Int)) : order.Same.f ((p0_0, p0_1, p0_2, p0_3, p0_4, p0_5, p0_6, p0_7, p0_8, p0_9, p0_10, p0_11, p0_12, p0_13, (p0_14_n, (fun i => Rii.enc (p0_14_g i)))), (p1_0, p1_1, p1_2, p1_3, p1_4, p1_5, p1_6, p1_7, p1_8, p1_9, p1_10, p1_11, p1_12, p1_13, (p1_14_n, (fun i => Rii.enc (p1_14_g i))))) =
  (shape.Same.f ((p0_12, p0_13, (p0_14_n, (fun i => Rii.enc (p0_14_g i)))), (p1_12, p1_13, (p1_14_n, (fun i => Rii.enc (p1_14_g i)))))).bind fun r1 =>
  bif r1 then
    bif (p0_0 == p1_0) then
      bif (p0_1 == p1_1) then
        bif (p0_2 == p1_2) then
          bif (p0_3 == p1_3) then
            bif ((p0_4 == p1_4) && ((p0_5 == p1_5) && true)) then
              bif ((p0_6 == p1_6) && ((p0_7 == p1_7) && true)) then
                bif (p0_8 == p1_8) then
                  bif (p0_9 == p1_9) then
                    bif (p0_10 == p1_10) then
                      some (p0_11 == p1_11)
                    else
                    some false
                  else
                  some false
                else
                some false
              else
              some false
            else
            some false
          else
          some false
        else
        some false
      else
      some false
    else
    some false
  else
  some false := by kernel_rfl
/-! ### bagatelle/order.body -/
noncomputable def order.body.cs : List (Nat × Fw.Summ) := []
theorem order.body.cs_ok : SumsOk Tryz.prog order.body.cs := .nil
def order.body.hs : List (Nat × LHint) := []
noncomputable def order.body.G : Ctx := ⟨Tryz.prog, sumAt order.body.cs, lookH order.body.hs⟩
noncomputable def order.body.f (x : (Int × Int × Int × Int × Int × Int × Int × Int × Int × Int × Int × Int × Int × Int × (Nat × (Nat → List AV)))) : Option (Int × Int × Int × Int × Int × Int × Int × Int × Int × Int × (Nat × (Nat → (Int × Int)))) := evF order.body.G 0 Tryz.f34 ((tOne (tG (tCons (tI .i64) (tCons (tI .i64) (tCons (tI .i64) (tCons (tI .i64) (tCons (tI .i64) (tCons (tI .i64) (tCons (tI .i64) (tCons (tI .i64) (tCons (tI .i64) (tCons (tI .i64) (tCons (tI .i64) (tCons (tI .i64) (tCons (tI .i64) (tCons (tI .i64) (tOne (tLz 2 (Rii.enc (0, 0)))))))))))))))))))).enc x) (tG (tCons (tI .i64) (tCons (tI .i64) (tCons (tI .i64) (tCons (tI .i64) (tCons (tI .i64) (tCons (tI .i64) (tCons (tI .i64) (tCons (tI .i64) (tCons (tI .i64) (tCons (tI .i64) (tOne (tTL Rii 2 (0, 0)))))))))))))).dec
noncomputable def order.body.s : Fw.Summ := .mk' (tOne (tG (tCons (tI .i64) (tCons (tI .i64) (tCons (tI .i64) (tCons (tI .i64) (tCons (tI .i64) (tCons (tI .i64) (tCons (tI .i64) (tCons (tI .i64) (tCons (tI .i64) (tCons (tI .i64) (tCons (tI .i64) (tCons (tI .i64) (tCons (tI .i64) (tCons (tI .i64) (tOne (tLz 2 (Rii.enc (0, 0)))))))))))))))))))) (tG (tCons (tI .i64) (tCons (tI .i64) (tCons (tI .i64) (tCons (tI .i64) (tCons (tI .i64) (tCons (tI .i64) (tCons (tI .i64) (tCons (tI .i64) (tCons (tI .i64) (tCons (tI .i64) (tOne (tTL Rii 2 (0, 0)))))))))))))) order.body.f
theorem order.body.ok : order.body.s.Ok Tryz.prog 34 :=
  summ_ok (hint := lookH order.body.hs) (fn := Tryz.f34) (fun x => 0) order.body.cs_ok (by kernel_rfl) (by kernel_rfl) (by kernel_rfl) (by kernel_rfl) (tOne_ok (tG_ok (tCons_ok (tI_ok _) (tCons_ok (tI_ok _) (tCons_ok (tI_ok _) (tCons_ok (tI_ok _) (tCons_ok (tI_ok _) (tCons_ok (tI_ok _) (tCons_ok (tI_ok _) (tCons_ok (tI_ok _) (tCons_ok (tI_ok _) (tCons_ok (tI_ok _) (tCons_ok (tI_ok _) (tCons_ok (tI_ok _) (tCons_ok (tI_ok _) (tCons_ok (tI_ok _) (tOne_ok (tLz_ok _ _)))))))))))))))))) (tG_ok (tCons_ok (tI_ok _) (tCons_ok (tI_ok _) (tCons_ok (tI_ok _) (tCons_ok (tI_ok _) (tCons_ok (tI_ok _) (tCons_ok (tI_ok _) (tCons_ok (tI_ok _) (tCons_ok (tI_ok _) (tCons_ok (tI_ok _) (tCons_ok (tI_ok _) (tOne_ok (tTL_ok Rii_ok _ _))))))))))))) (fun _ => rfl)
theorem order.body.eq (p0_0 : Int) (p0_1 : Int) (p0_2 : Int) (p0_3 : Int) (p0_4 : Int) (p0_5 : Int) (p0_6 : Int) (p0_7 : Int) (p0_8 : Int) (p0_9 : Int) (p0_10 : Int) (p0_11 : Int) (p0_12 : Int) (p0_13 : Int) (p0_14_n : Nat) (p0_14_g : Nat → (Int × Int)) : order.body.f (p0_0, p0_1, p0_2, p0_3, p0_4, p0_5, p0_6, p0_7, p0_8, p0_9, p0_10, p0_11, p0_12, p0_13, (p0_14_n, (fun i => Rii.enc (p0_14_g i)))) =
  (tG (tCons (tI .i64) (tCons (tI .i64) (tCons (tI .i64) (tCons (tI .i64) (tCons (tI .i64) (tCons (tI .i64) (tCons (tI .i64) (tCons (tI .i64) (tCons (tI .i64) (tCons (tI .i64) (tOne (tTL Rii 2 (0, 0)))))))))))))).dec (.agg [.val (.int .i64 0), .val (.int .i64 p0_4), .val (.int .i64 p0_5), .val (.int .i64 p0_6), .val (.int .i64 p0_7), .val (.int .i64 p0_8), .val (.int .i64 p0_9), .val (.int .i64 p0_10), .val (.int .i64 p0_12), .val (.int .i64 p0_13), .lst 2 p0_14_n none (fun i => Rii.enc (p0_14_g i))]) := by kernel_rfl
/-! ### bagatelle/fix.whole -/
noncomputable def fix.whole.cs : List (Nat × Fw.Summ) := []
theorem fix.whole.cs_ok : SumsOk Tryz.prog fix.whole.cs := .nil
def fix.whole.hs : List (Nat × LHint) := []
noncomputable def fix.whole.G : Ctx := ⟨Tryz.prog, sumAt fix.whole.cs, lookH fix.whole.hs⟩
noncomputable def fix.whole.f (x : Int) : Option Int := evF fix.whole.G 0 Tryz.f59 ((tOne (tI .i64)).enc x) (tI .i64).dec
noncomputable def fix.whole.s : Fw.Summ := .mk' (tOne (tI .i64)) (tI .i64) fix.whole.f
theorem fix.whole.ok : fix.whole.s.Ok Tryz.prog 59 :=
  summ_ok (hint := lookH fix.whole.hs) (fn := Tryz.f59) (fun x => 0) fix.whole.cs_ok (by kernel_rfl) (by kernel_rfl) (by kernel_rfl) (by kernel_rfl) (tOne_ok (tI_ok _)) (tI_ok _) (fun _ => rfl)
theorem fix.whole.eq (p0 : Int) : fix.whole.f p0 =
  some (if (-9223372036854775807) > p0 then (-9223372036854775807) else p0) := by kernel_rfl
/-! ### bagatelle/fix.Neg -/
noncomputable def fix.Neg.cs : List (Nat × Fw.Summ) := [(59, fix.whole.s)]
theorem fix.Neg.cs_ok : SumsOk Tryz.prog fix.Neg.cs := .cons fix.whole.ok (.nil)
def fix.Neg.hs : List (Nat × LHint) := []
noncomputable def fix.Neg.G : Ctx := ⟨Tryz.prog, sumAt fix.Neg.cs, lookH fix.Neg.hs⟩
noncomputable def fix.Neg.f (x : Int) : Option Int := evF fix.Neg.G 0 Tryz.f76 ((tOne (tI .i64)).enc x) (tI .i64).dec
noncomputable def fix.Neg.s : Fw.Summ := .mk' (tOne (tI .i64)) (tI .i64) fix.Neg.f
theorem fix.Neg.ok : fix.Neg.s.Ok Tryz.prog 76 :=
  summ_ok (hint := lookH fix.Neg.hs) (fn := Tryz.f76) (fun x => 0) fix.Neg.cs_ok (by kernel_rfl) (by kernel_rfl) (by kernel_rfl) (by kernel_rfl) (tOne_ok (tI_ok _)) (tI_ok _) (fun _ => rfl)
theorem fix.Neg.eq (p0 : Int) : fix.Neg.f p0 =
  (fix.whole.f p0).bind fun r1 =>
  some (IntKind.i64.wrap (0 - r1)) := by kernel_rfl
/-! ### bagatelle/fix.Abs -/
noncomputable def fix.Abs.cs : List (Nat × Fw.Summ) := [(76, fix.Neg.s)]
theorem fix.Abs.cs_ok : SumsOk Tryz.prog fix.Abs.cs := .cons fix.Neg.ok (.nil)
def fix.Abs.hs : List (Nat × LHint) := []
noncomputable def fix.Abs.G : Ctx := ⟨Tryz.prog, sumAt fix.Abs.cs, lookH fix.Abs.hs⟩
noncomputable def fix.Abs.f (x : Int) : Option Int := evF fix.Abs.G 0 Tryz.f38 ((tOne (tI .i64)).enc x) (tI .i64).dec
noncomputable def fix.Abs.s : Fw.Summ := .mk' (tOne (tI .i64)) (tI .i64) fix.Abs.f
theorem fix.Abs.ok : fix.Abs.s.Ok Tryz.prog 38 :=
  summ_ok (hint := lookH fix.Abs.hs) (fn := Tryz.f38) (fun x => 0) fix.Abs.cs_ok (by kernel_rfl) (by kernel_rfl) (by kernel_rfl) (by kernel_rfl) (tOne_ok (tI_ok _)) (tI_ok _) (fun _ => rfl)
theorem fix.Abs.eq (p0 : Int) : fix.Abs.f p0 =
  bif (decide (p0 < 0)) then
    (fix.Neg.f p0).bind fun r1 =>
    some r1
  else
  some p0 := by kernel_rfl
/-! ### bagatelle/shape.within -/
noncomputable def shape.within.cs : List (Nat × Fw.Summ) := [(38, fix.Abs.s)]
theorem shape.within.cs_ok : SumsOk Tryz.prog shape.within.cs := .cons fix.Abs.ok (.nil)
def shape.within.hs : List (Nat × LHint) := []
noncomputable def shape.within.G : Ctx := ⟨Tryz.prog, sumAt shape.within.cs, lookH shape.within.hs⟩
noncomputable def shape.within.f (x : (Int × Int)) : Option Bool := evF shape.within.G 0 Tryz.f94 ((tOne (tG (tCons (tI .i64) (tOne (tI .i64))))).enc x) tB.dec
noncomputable def shape.within.s : Fw.Summ := .mk' (tOne (tG (tCons (tI .i64) (tOne (tI .i64))))) tB shape.within.f
theorem shape.within.ok : shape.within.s.Ok Tryz.prog 94 :=
  summ_ok (hint := lookH shape.within.hs) (fn := Tryz.f94) (fun x => 0) shape.within.cs_ok (by kernel_rfl) (by kernel_rfl) (by kernel_rfl) (by kernel_rfl) (tOne_ok (tG_ok (tCons_ok (tI_ok _) (tOne_ok (tI_ok _))))) tB_ok (fun _ => rfl)
theorem shape.within.eq (p0_0 : Int) (p0_1 : Int) : shape.within.f (p0_0, p0_1) =
  (fix.Abs.f p0_0).bind fun r1 =>
  bif (decide (r1 ≤ 274877906944)) then
    (fix.Abs.f p0_1).bind fun r2 =>
    some (decide (r2 ≤ 274877906944))
  else
  some false := by kernel_rfl
/-! ### bagatelle/fix.Add -/
noncomputable def fix.Add.cs : List (Nat × Fw.Summ) := [(59, fix.whole.s)]
theorem fix.Add.cs_ok : SumsOk Tryz.prog fix.Add.cs := .cons fix.whole.ok (.nil)
def fix.Add.hs : List (Nat × LHint) := []
noncomputable def fix.Add.G : Ctx := ⟨Tryz.prog, sumAt fix.Add.cs, lookH fix.Add.hs⟩
noncomputable def fix.Add.f (x : (Int × Int)) : Option Int := evF fix.Add.G 0 Tryz.f22 ((tCons (tI .i64) (tOne (tI .i64))).enc x) (tI .i64).dec
noncomputable def fix.Add.s : Fw.Summ := .mk' (tCons (tI .i64) (tOne (tI .i64))) (tI .i64) fix.Add.f
theorem fix.Add.ok : fix.Add.s.Ok Tryz.prog 22 :=
  summ_ok (hint := lookH fix.Add.hs) (fn := Tryz.f22) (fun x => 0) fix.Add.cs_ok (by kernel_rfl) (by kernel_rfl) (by kernel_rfl) (by kernel_rfl) (tCons_ok (tI_ok _) (tOne_ok (tI_ok _))) (tI_ok _) (fun _ => rfl)
theorem fix.Add.eq (p0 : Int) (p1 : Int) : fix.Add.f (p0, p1) =
  (fix.whole.f p0).bind fun r1 =>
  (fix.whole.f p1).bind fun r2 =>
  bif (decide (r1 > 0)) then
    bif (decide (r2 > 0)) then
      bif (decide ((IntKind.i64.wrap (r1 + r2)) < 0)) then
        some 9223372036854775807
      else
      bif (decide (r1 < 0)) then
        bif (decide (r2 < 0)) then
          bif (decide ((IntKind.i64.wrap (r1 + r2)) ≥ 0)) then
            some (-9223372036854775807)
          else
          (fix.whole.f (IntKind.i64.wrap (r1 + r2))).bind fun r3 =>
          some r3
        else
        (fix.whole.f (IntKind.i64.wrap (r1 + r2))).bind fun r4 =>
        some r4
      else
      (fix.whole.f (IntKind.i64.wrap (r1 + r2))).bind fun r5 =>
      some r5
    else
    bif (decide (r1 < 0)) then
      bif (decide (r2 < 0)) then
        bif (decide ((IntKind.i64.wrap (r1 + r2)) ≥ 0)) then
          some (-9223372036854775807)
        else
        (fix.whole.f (IntKind.i64.wrap (r1 + r2))).bind fun r6 =>
        some r6
      else
      (fix.whole.f (IntKind.i64.wrap (r1 + r2))).bind fun r7 =>
      some r7
    else
    (fix.whole.f (IntKind.i64.wrap (r1 + r2))).bind fun r8 =>
    some r8
  else
  bif (decide (r1 < 0)) then
    bif (decide (r2 < 0)) then
      bif (decide ((IntKind.i64.wrap (r1 + r2)) ≥ 0)) then
        some (-9223372036854775807)
      else
      (fix.whole.f (IntKind.i64.wrap (r1 + r2))).bind fun r9 =>
      some r9
    else
    (fix.whole.f (IntKind.i64.wrap (r1 + r2))).bind fun r10 =>
    some r10
  else
  (fix.whole.f (IntKind.i64.wrap (r1 + r2))).bind fun r11 =>
  some r11 := by kernel_rfl
/-! ### bagatelle/fix.Sub -/
noncomputable def fix.Sub.cs : List (Nat × Fw.Summ) := [(76, fix.Neg.s), (22, fix.Add.s)]
theorem fix.Sub.cs_ok : SumsOk Tryz.prog fix.Sub.cs := .cons fix.Neg.ok (.cons fix.Add.ok (.nil))
def fix.Sub.hs : List (Nat × LHint) := []
noncomputable def fix.Sub.G : Ctx := ⟨Tryz.prog, sumAt fix.Sub.cs, lookH fix.Sub.hs⟩
noncomputable def fix.Sub.f (x : (Int × Int)) : Option Int := evF fix.Sub.G 0 Tryz.f106 ((tCons (tI .i64) (tOne (tI .i64))).enc x) (tI .i64).dec
noncomputable def fix.Sub.s : Fw.Summ := .mk' (tCons (tI .i64) (tOne (tI .i64))) (tI .i64) fix.Sub.f
theorem fix.Sub.ok : fix.Sub.s.Ok Tryz.prog 106 :=
  summ_ok (hint := lookH fix.Sub.hs) (fn := Tryz.f106) (fun x => 0) fix.Sub.cs_ok (by kernel_rfl) (by kernel_rfl) (by kernel_rfl) (by kernel_rfl) (tCons_ok (tI_ok _) (tOne_ok (tI_ok _))) (tI_ok _) (fun _ => rfl)
theorem fix.Sub.eq (p0 : Int) (p1 : Int) : fix.Sub.f (p0, p1) =
  (fix.Neg.f p1).bind fun r1 =>
  (fix.Add.f (p0, r1)).bind fun r2 =>
  some r2 := by kernel_rfl
/-! ### bagatelle/vec.Sub -/
noncomputable def vec.Sub.cs : List (Nat × Fw.Summ) := [(106, fix.Sub.s)]
theorem vec.Sub.cs_ok : SumsOk Tryz.prog vec.Sub.cs := .cons fix.Sub.ok (.nil)
def vec.Sub.hs : List (Nat × LHint) := []
noncomputable def vec.Sub.G : Ctx := ⟨Tryz.prog, sumAt vec.Sub.cs, lookH vec.Sub.hs⟩
noncomputable def vec.Sub.f (x : ((Int × Int) × (Int × Int))) : Option (Int × Int) := evF vec.Sub.G 0 Tryz.f95 ((tCons (tG (tCons (tI .i64) (tOne (tI .i64)))) (tOne (tG (tCons (tI .i64) (tOne (tI .i64)))))).enc x) (tG (tCons (tI .i64) (tOne (tI .i64)))).dec
noncomputable def vec.Sub.s : Fw.Summ := .mk' (tCons (tG (tCons (tI .i64) (tOne (tI .i64)))) (tOne (tG (tCons (tI .i64) (tOne (tI .i64)))))) (tG (tCons (tI .i64) (tOne (tI .i64)))) vec.Sub.f
theorem vec.Sub.ok : vec.Sub.s.Ok Tryz.prog 95 :=
  summ_ok (hint := lookH vec.Sub.hs) (fn := Tryz.f95) (fun x => 0) vec.Sub.cs_ok (by kernel_rfl) (by kernel_rfl) (by kernel_rfl) (by kernel_rfl) (tCons_ok (tG_ok (tCons_ok (tI_ok _) (tOne_ok (tI_ok _)))) (tOne_ok (tG_ok (tCons_ok (tI_ok _) (tOne_ok (tI_ok _)))))) (tG_ok (tCons_ok (tI_ok _) (tOne_ok (tI_ok _)))) (fun _ => rfl)
theorem vec.Sub.eq (p0_0 : Int) (p0_1 : Int) (p1_0 : Int) (p1_1 : Int) : vec.Sub.f ((p0_0, p0_1), (p1_0, p1_1)) =
  (fix.Sub.f (p0_0, p1_0)).bind fun r1 =>
  (fix.Sub.f (p0_1, p1_1)).bind fun r2 =>
  some (r1, r2) := by kernel_rfl
/-! ### math/bits.Mul64 -/
noncomputable def bits.Mul64.cs : List (Nat × Fw.Summ) := []
theorem bits.Mul64.cs_ok : SumsOk Tryz.prog bits.Mul64.cs := .nil
def bits.Mul64.hs : List (Nat × LHint) := []
noncomputable def bits.Mul64.G : Ctx := ⟨Tryz.prog, sumAt bits.Mul64.cs, lookH bits.Mul64.hs⟩
noncomputable def bits.Mul64.f (x : (Int × Int)) : Option (Int × Int) := evF bits.Mul64.G 0 Tryz.f60 ((tCons (tI .u64) (tOne (tI .u64))).enc x) (tT (tCons (tI .u64) (tOne (tI .u64)))).dec
noncomputable def bits.Mul64.s : Fw.Summ := .mk' (tCons (tI .u64) (tOne (tI .u64))) (tT (tCons (tI .u64) (tOne (tI .u64)))) bits.Mul64.f
theorem bits.Mul64.ok : bits.Mul64.s.Ok Tryz.prog 60 :=
  summ_ok (hint := lookH bits.Mul64.hs) (fn := Tryz.f60) (fun x => 0) bits.Mul64.cs_ok (by kernel_rfl) (by kernel_rfl) (by kernel_rfl) (by kernel_rfl) (tCons_ok (tI_ok _) (tOne_ok (tI_ok _))) (tT_ok (tCons_ok (tI_ok _) (tOne_ok (tI_ok _)))) (fun _ => rfl)
theorem bits.Mul64.eq (p0 : Int) (p1 : Int) : bits.Mul64.f (p0, p1) =
  some ((IntKind.u64.wrap ((IntKind.u64.wrap ((IntKind.u64.wrap ((Int.fdiv p0 (2 ^ 32)) * (Int.fdiv p1 (2 ^ 32)))) + (Int.fdiv (IntKind.u64.wrap ((IntKind.u64.wrap ((Int.fdiv p0 (2 ^ 32)) * (Go.bits .and .u64 p1 4294967295))) + (Int.fdiv (IntKind.u64.wrap ((Go.bits .and .u64 p0 4294967295) * (Go.bits .and .u64 p1 4294967295))) (2 ^ 32)))) (2 ^ 32)))) + (Int.fdiv (IntKind.u64.wrap ((Go.bits .and .u64 (IntKind.u64.wrap ((IntKind.u64.wrap ((Int.fdiv p0 (2 ^ 32)) * (Go.bits .and .u64 p1 4294967295))) + (Int.fdiv (IntKind.u64.wrap ((Go.bits .and .u64 p0 4294967295) * (Go.bits .and .u64 p1 4294967295))) (2 ^ 32)))) 4294967295) + (IntKind.u64.wrap ((Go.bits .and .u64 p0 4294967295) * (Int.fdiv p1 (2 ^ 32)))))) (2 ^ 32)))), (IntKind.u64.wrap (p0 * p1))) := by kernel_rfl
/-! ### bagatelle/fix.signed -/
noncomputable def fix.signed.cs : List (Nat × Fw.Summ) := []
theorem fix.signed.cs_ok : SumsOk Tryz.prog fix.signed.cs := .nil
def fix.signed.hs : List (Nat × LHint) := []
noncomputable def fix.signed.G : Ctx := ⟨Tryz.prog, sumAt fix.signed.cs, lookH fix.signed.hs⟩
noncomputable def fix.signed.f (x : (Int × Int × Bool)) : Option Int := evF fix.signed.G 0 Tryz.f61 ((tCons (tI .u64) (tCons (tI .u64) (tOne tB))).enc x) (tI .i64).dec
noncomputable def fix.signed.s : Fw.Summ := .mk' (tCons (tI .u64) (tCons (tI .u64) (tOne tB))) (tI .i64) fix.signed.f
theorem fix.signed.ok : fix.signed.s.Ok Tryz.prog 61 :=
  summ_ok (hint := lookH fix.signed.hs) (fn := Tryz.f61) (fun x => 0) fix.signed.cs_ok (by kernel_rfl) (by kernel_rfl) (by kernel_rfl) (by kernel_rfl) (tCons_ok (tI_ok _) (tCons_ok (tI_ok _) (tOne_ok tB_ok))) (tI_ok _) (fun _ => rfl)
theorem fix.signed.eq (p0 : Int) (p1 : Int) (p2 : Bool) : fix.signed.f (p0, p1, p2) =
  bif (p0 == 0) then
    bif (decide (p1 < 9223372036854775808)) then
      bif p2 then
        some (IntKind.i64.wrap (0 - (IntKind.i64.wrap p1)))
      else
      some (IntKind.i64.wrap p1)
    else
    bif p2 then
      some (-9223372036854775807)
    else
    some 9223372036854775807
  else
  bif p2 then
    some (-9223372036854775807)
  else
  some 9223372036854775807 := by kernel_rfl
/-! ### bagatelle/fix.Mul -/
noncomputable def fix.Mul.cs : List (Nat × Fw.Summ) := [(38, fix.Abs.s), (60, bits.Mul64.s), (61, fix.signed.s)]
theorem fix.Mul.cs_ok : SumsOk Tryz.prog fix.Mul.cs := .cons fix.Abs.ok (.cons bits.Mul64.ok (.cons fix.signed.ok (.nil)))
def fix.Mul.hs : List (Nat × LHint) := []
noncomputable def fix.Mul.G : Ctx := ⟨Tryz.prog, sumAt fix.Mul.cs, lookH fix.Mul.hs⟩
noncomputable def fix.Mul.f (x : (Int × Int)) : Option Int := evF fix.Mul.G 0 Tryz.f23 ((tCons (tI .i64) (tOne (tI .i64))).enc x) (tI .i64).dec
noncomputable def fix.Mul.s : Fw.Summ := .mk' (tCons (tI .i64) (tOne (tI .i64))) (tI .i64) fix.Mul.f
theorem fix.Mul.ok : fix.Mul.s.Ok Tryz.prog 23 :=
  summ_ok (hint := lookH fix.Mul.hs) (fn := Tryz.f23) (fun x => 0) fix.Mul.cs_ok (by kernel_rfl) (by kernel_rfl) (by kernel_rfl) (by kernel_rfl) (tCons_ok (tI_ok _) (tOne_ok (tI_ok _))) (tI_ok _) (fun _ => rfl)
theorem fix.Mul.eq (p0 : Int) (p1 : Int) : fix.Mul.f (p0, p1) =
  (fix.Abs.f p0).bind fun r1 =>
  (fix.Abs.f p1).bind fun r2 =>
  (bits.Mul64.f ((IntKind.u64.wrap r1), (IntKind.u64.wrap r2))).bind fun r3 =>
  (fix.signed.f ((Int.fdiv r3.1 (2 ^ 32)), (Go.bits .or .u64 (IntKind.u64.wrap (r3.1 * 2 ^ 32)) (Int.fdiv r3.2 (2 ^ 32))), (!((decide (p0 < 0)) == (decide (p1 < 0)))))).bind fun r4 =>
  some r4 := by kernel_rfl
/-! ### bagatelle/vec.Cross -/
noncomputable def vec.Cross.cs : List (Nat × Fw.Summ) := [(23, fix.Mul.s), (106, fix.Sub.s)]
theorem vec.Cross.cs_ok : SumsOk Tryz.prog vec.Cross.cs := .cons fix.Mul.ok (.cons fix.Sub.ok (.nil))
def vec.Cross.hs : List (Nat × LHint) := []
noncomputable def vec.Cross.G : Ctx := ⟨Tryz.prog, sumAt vec.Cross.cs, lookH vec.Cross.hs⟩
noncomputable def vec.Cross.f (x : ((Int × Int) × (Int × Int))) : Option Int := evF vec.Cross.G 0 Tryz.f86 ((tCons (tG (tCons (tI .i64) (tOne (tI .i64)))) (tOne (tG (tCons (tI .i64) (tOne (tI .i64)))))).enc x) (tI .i64).dec
noncomputable def vec.Cross.s : Fw.Summ := .mk' (tCons (tG (tCons (tI .i64) (tOne (tI .i64)))) (tOne (tG (tCons (tI .i64) (tOne (tI .i64)))))) (tI .i64) vec.Cross.f
theorem vec.Cross.ok : vec.Cross.s.Ok Tryz.prog 86 :=
  summ_ok (hint := lookH vec.Cross.hs) (fn := Tryz.f86) (fun x => 0) vec.Cross.cs_ok (by kernel_rfl) (by kernel_rfl) (by kernel_rfl) (by kernel_rfl) (tCons_ok (tG_ok (tCons_ok (tI_ok _) (tOne_ok (tI_ok _)))) (tOne_ok (tG_ok (tCons_ok (tI_ok _) (tOne_ok (tI_ok _)))))) (tI_ok _) (fun _ => rfl)
theorem vec.Cross.eq (p0_0 : Int) (p0_1 : Int) (p1_0 : Int) (p1_1 : Int) : vec.Cross.f ((p0_0, p0_1), (p1_0, p1_1)) =
  (fix.Mul.f (p0_0, p1_1)).bind fun r1 =>
  (fix.Mul.f (p0_1, p1_0)).bind fun r2 =>
  (fix.Sub.f (r1, r2)).bind fun r3 =>
  some r3 := by kernel_rfl
/-! ### bagatelle/shape.Right -/
noncomputable def shape.Right.cs : List (Nat × Fw.Summ) := [(94, shape.within.s), (95, vec.Sub.s), (86, vec.Cross.s)]
theorem shape.Right.cs_ok : SumsOk Tryz.prog shape.Right.cs := .cons shape.within.ok (.cons vec.Sub.ok (.cons vec.Cross.ok (.nil)))
def shape.Right.hs : List (Nat × LHint) := [(1, { mat := [], live := [1, 3, 48, 49, 50], ren := [] }), (3, { mat := [], live := [1, 3, 59, 60, 61], ren := [] }), (5, { mat := [], live := [1, 3, 6, 7, 8, 59, 60, 61, 71, 72, 73], ren := [] })]
noncomputable def shape.Right.G : Ctx := ⟨Tryz.prog, sumAt shape.Right.cs, lookH shape.Right.hs⟩
noncomputable def shape.Right.g (k0 : Nat) (x : (Int × Int × (Nat × (Nat → List AV)))) : Option Bool := evF shape.Right.G k0 Tryz.f75 ((tOne (tG (tCons (tI .i64) (tCons (tI .i64) (tOne (tLz 2 (Rii.enc (0, 0)))))))).enc x) tB.dec
noncomputable def shape.Right.f (x : (Int × Int × (Nat × (Nat → List AV)))) : Option Bool := shape.Right.g (1000000) x
noncomputable def shape.Right.s : Fw.Summ := .mk' (tOne (tG (tCons (tI .i64) (tCons (tI .i64) (tOne (tLz 2 (Rii.enc (0, 0)))))))) tB shape.Right.f
theorem shape.Right.ok : shape.Right.s.Ok Tryz.prog 75 :=
  summ_ok (hint := lookH shape.Right.hs) (fn := Tryz.f75) (fun x => 1000000) shape.Right.cs_ok (by kernel_rfl) (by kernel_rfl) (by kernel_rfl) (by kernel_rfl) (tOne_ok (tG_ok (tCons_ok (tI_ok _) (tCons_ok (tI_ok _) (tOne_ok (tLz_ok _ _)))))) tB_ok (fun _ => rfl)
noncomputable def shape.Right.l2 (k0 k1 k2 : Nat) (v1 : Int) (v2 : Int) (v3 : Nat) (v4 : Nat → List AV) (v5 : Int) (v6 : Int) (v7 : Int) (v8 : Int) (v9 : Int) (v10 : Nat) (v11 : Nat → List AV) (v12 : Int) (v13 : Int) (v14 : Int) : Option Bool :=
  evLoop (lookH shape.Right.hs 5) 2 (ev shape.Right.G k0 (codeAt [1, 0, 1, 1, 1, 1, 0, 1, 0, 0, 1, 1, 0, 0, 1, 1, 1, 0, 0] (bodyOf Tryz.f75)) 5) k2
  ⟨[.top, .ptr 0 0 0, .top, .val (.int .i64 v7), .top, .top, .val (.int .i64 v8), .ptr 1 0 0, .val (.int .i64 v9), .top, .top, .top, .top, .top, .top, .top, .top, .top, .top, .top, .top, .top, .top, .top, .top, .top, .top, .top, .top, .top, .top, .top, .top, .top, .top, .top, .top, .top, .top, .top, .top, .top, .top, .top, .top, .top, .top, .top, .top, .top, .top, .top, .top, .top, .top, .top, .top, .top, .top, .lst 2 v10 none v11, .val (.int .i64 v12), .val (.int .i64 v8), .top, .top, .top, .top, .top, .top, .top, .top, .top, .lst 2 v3 none v4, .val (.int .i64 v13), .val (.int .i64 v14), .top, .top, .top, .top, .top, .top, .top, .top, .top, .top, .top, .top, .top, .top, .top, .top, .top, .top, .top, .top, .top, .top, .top, .top, .top, .top, .top, .top], [.live ⟨false, 32, 3, 1, fun _ => [.val (.int .i64 v1), .val (.int .i64 v2), .lst 2 v3 none v4], none⟩, .live ⟨false, 27, 2, 1, fun _ => [.val (.int .i64 v5), .val (.int .i64 v6)], none⟩]⟩
  (kBlock 5 (kBlock 4 (kSeq shape.Right.G k0 (codeAt [1, 0, 1, 1, 1, 1, 0, 1, 0, 0, 1, 1, 1] (bodyOf Tryz.f75)) 3 (kLoop (lookH shape.Right.hs 3) 1 (ev shape.Right.G k0 (codeAt [1, 0, 1, 1, 1, 1, 0, 1, 0, 0] (bodyOf Tryz.f75)) 3) k1 (kBlock 3 (kSeq shape.Right.G k0 (codeAt [1, 0, 1, 1, 1, 1, 1] (bodyOf Tryz.f75)) 0 (kFin shape.Right.G Tryz.f75 tB.dec)))))))
noncomputable def shape.Right.l1 (k0 k1 : Nat) (v1 : Int) (v2 : Int) (v3 : Nat) (v4 : Nat → List AV) (v5 : Int) (v6 : Nat) (v7 : Nat → List AV) (v8 : Int) (v9 : Int) : Option Bool :=
  evLoop (lookH shape.Right.hs 3) 1 (ev shape.Right.G k0 (codeAt [1, 0, 1, 1, 1, 1, 0, 1, 0, 0] (bodyOf Tryz.f75)) 3) k1
  ⟨[.top, .ptr 0 0 0, .top, .val (.int .i64 v5), .top, .top, .top, .top, .top, .top, .top, .top, .top, .top, .top, .top, .top, .top, .top, .top, .top, .top, .top, .top, .top, .top, .top, .top, .top, .top, .top, .top, .top, .top, .top, .top, .top, .top, .top, .top, .top, .top, .top, .top, .top, .top, .top, .top, .top, .top, .top, .top, .top, .top, .top, .top, .top, .top, .top, .lst 2 v6 none v7, .val (.int .i64 v8), .val (.int .i64 v9), .top, .top, .top, .top, .top, .top, .top, .top, .top, .top, .top, .top, .top, .top, .top, .top, .top, .top, .top, .top, .top, .top, .top, .top, .top, .top, .top, .top, .top, .top, .top, .top, .top, .top, .top, .top, .top, .top, .top, .top], [.live ⟨false, 32, 3, 1, fun _ => [.val (.int .i64 v1), .val (.int .i64 v2), .lst 2 v3 none v4], none⟩]⟩
  (kBlock 3 (kSeq shape.Right.G k0 (codeAt [1, 0, 1, 1, 1, 1, 1] (bodyOf Tryz.f75)) 0 (kFin shape.Right.G Tryz.f75 tB.dec)))
noncomputable def shape.Right.l0 (k0 k1 : Nat) (v1 : Int) (v2 : Int) (v3 : Nat) (v4 : Nat → List AV) (v5 : Int) (v6 : Int) : Option Bool :=
  evLoop (lookH shape.Right.hs 1) 1 (ev shape.Right.G k0 (codeAt [1, 0, 1, 1, 0, 1, 0, 0] (bodyOf Tryz.f75)) 1) k1
  ⟨[.top, .ptr 0 0 0, .top, .val (.int .i64 v5), .top, .top, .top, .top, .top, .top, .top, .top, .top, .top, .top, .top, .top, .top, .top, .top, .top, .top, .top, .top, .top, .top, .top, .top, .top, .top, .top, .top, .top, .top, .top, .top, .top, .top, .top, .top, .top, .top, .top, .top, .top, .top, .top, .top, .lst 2 v3 none v4, .val (.int .i64 v5), .val (.int .i64 v6), .top, .top, .top, .top, .top, .top, .top, .top, .top, .top, .top, .top, .top, .top, .top, .top, .top, .top, .top, .top, .top, .top, .top, .top, .top, .top, .top, .top, .top, .top, .top, .top, .top, .top, .top, .top, .top, .top, .top, .top, .top, .top, .top, .top, .top, .top, .top, .top, .top, .top, .top], [.live ⟨false, 32, 3, 1, fun _ => [.val (.int .i64 v1), .val (.int .i64 v2), .lst 2 v3 none v4], none⟩]⟩
  (kBlock 1 (kSeq shape.Right.G k0 (codeAt [1, 0, 1, 1, 1] (bodyOf Tryz.f75)) 0 (kFin shape.Right.G Tryz.f75 tB.dec)))
theorem shape.Right.l2_eq (k0 k1 k2 : Nat) (v1 : Int) (v2 : Int) (v3 : Nat) (v4 : Nat → (Int × Int)) (v5 : Int) (v6 : Int) (v7 : Int) (v8 : Int) (v9 : Int) (v10 : Nat) (v11 : Nat → (Int × Int)) (v12 : Int) (v13 : Int) (v14 : Int) : shape.Right.l2 k0 k1 (k2 + 1) v1 v2 v3 (fun i => Rii.enc (v4 i)) v5 v6 v7 v8 v9 v10 (fun i => Rii.enc (v11 i)) v12 v13 v14 =
  bif (decide (v14 < v13)) then
    bif ((decide (0 ≤ v14)) && (decide (v14 < ((v3 : Nat) : Int)))) then
    bif (v14 == v8) then
      shape.Right.l2 k0 k1 k2 v1 v2 v3 (fun i => Rii.enc (v4 i)) v5 v6 v7 v8 v9 v10 (fun i => Rii.enc (v11 i)) v12 v13 (IntKind.i64.wrap (v14 + 1))
    else
    bif (v14 == v9) then
      shape.Right.l2 k0 k1 k2 v1 v2 v3 (fun i => Rii.enc (v4 i)) v5 v6 v7 v8 v9 v10 (fun i => Rii.enc (v11 i)) v12 v13 (IntKind.i64.wrap (v14 + 1))
    else
    bif ((decide (0 ≤ v9)) && (decide (v9 < ((v3 : Nat) : Int)))) then
    (vec.Sub.f (((v4 (Int.toNat v9)).1, (v4 (Int.toNat v9)).2), (v5, v6))).bind fun r2 =>
    (vec.Sub.f (((v4 (Int.toNat v14)).1, (v4 (Int.toNat v14)).2), (v5, v6))).bind fun r3 =>
    (vec.Cross.f ((r2.1, r2.2), (r3.1, r3.2))).bind fun r4 =>
    bif (decide (r4 ≤ 0)) then
      some false
    else
    bif (v7 == 3) then
      shape.Right.l1 k0 k1 v1 v2 v3 (fun i => Rii.enc (v4 i)) v7 v10 (fun i => Rii.enc (v11 i)) v12 (IntKind.i64.wrap (v8 + 1))
    else
    shape.Right.l2 k0 k1 k2 v1 v2 v3 (fun i => Rii.enc (v4 i)) v5 v6 v7 v8 v9 v10 (fun i => Rii.enc (v11 i)) v12 v13 (IntKind.i64.wrap (v14 + 1))
    else none
    else none
  else
  shape.Right.l1 k0 k1 v1 v2 v3 (fun i => Rii.enc (v4 i)) v7 v10 (fun i => Rii.enc (v11 i)) v12 (IntKind.i64.wrap (v8 + 1)) := by kernel_rfl
theorem shape.Right.l1_eq (k0 k1 : Nat) (v1 : Int) (v2 : Int) (v3 : Nat) (v4 : Nat → (Int × Int)) (v5 : Int) (v6 : Nat) (v7 : Nat → (Int × Int)) (v8 : Int) (v9 : Int) : shape.Right.l1 k0 (k1 + 1) v1 v2 v3 (fun i => Rii.enc (v4 i)) v5 v6 (fun i => Rii.enc (v7 i)) v8 v9 =
  bif (decide (v9 < v8)) then
    bif ((decide (0 ≤ v9)) && (decide (v9 < ((v6 : Nat) : Int)))) then
    bif (decide (v5 ≠ 0)) then
    shape.Right.l2 k0 k1 k0 v1 v2 v3 (fun i => Rii.enc (v4 i)) (v7 (Int.toNat v9)).1 (v7 (Int.toNat v9)).2 v5 v9 (Int.tmod (IntKind.i64.wrap (v9 + 1)) v5) v6 (fun i => Rii.enc (v7 i)) v8 ((v3 : Nat) : Int) 0
    else none
    else none
  else
  some true := by kernel_rfl
theorem shape.Right.l0_eq (k0 k1 : Nat) (v1 : Int) (v2 : Int) (v3 : Nat) (v4 : Nat → (Int × Int)) (v5 : Int) (v6 : Int) : shape.Right.l0 k0 (k1 + 1) v1 v2 v3 (fun i => Rii.enc (v4 i)) v5 v6 =
  bif (decide (v6 < v5)) then
    bif ((decide (0 ≤ v6)) && (decide (v6 < ((v3 : Nat) : Int)))) then
    (shape.within.f ((v4 (Int.toNat v6)).1, (v4 (Int.toNat v6)).2)).bind fun r1 =>
    bif (!r1) then
      some false
    else
    shape.Right.l0 k0 k1 v1 v2 v3 (fun i => Rii.enc (v4 i)) v5 (IntKind.i64.wrap (v6 + 1))
    else none
  else
  shape.Right.l1 k0 k0 v1 v2 v3 (fun i => Rii.enc (v4 i)) v5 v3 (fun i => Rii.enc (v4 i)) ((v3 : Nat) : Int) 0 := by kernel_rfl
theorem shape.Right.eq (k0 : Nat) (p0_0 : Int) (p0_1 : Int) (p0_2_n : Nat) (p0_2_g : Nat → (Int × Int)) : shape.Right.g k0 (p0_0, p0_1, (p0_2_n, (fun i => Rii.enc (p0_2_g i)))) =
  bif (p0_0 == 1) then
    bif (((p0_2_n : Nat) : Int) == 0) then
      bif (decide (p0_1 ≥ 16777216)) then
        some (decide (p0_1 ≤ 274877906944))
      else
      some false
    else
    some false
  else
  bif (p0_0 != 2) then
    some false
  else
  bif (p0_1 != 0) then
    some false
  else
  bif (decide (((p0_2_n : Nat) : Int) < 3)) then
    some false
  else
  bif (decide (((p0_2_n : Nat) : Int) > 8)) then
    some false
  else
  shape.Right.l0 k0 k0 p0_0 p0_1 p0_2_n (fun i => Rii.enc (p0_2_g i)) ((p0_2_n : Nat) : Int) 0 := by kernel_rfl
/-! ### bagatelle/world.within -/
noncomputable def world.within.cs : List (Nat × Fw.Summ) := [(38, fix.Abs.s)]
theorem world.within.cs_ok : SumsOk Tryz.prog world.within.cs := .cons fix.Abs.ok (.nil)
def world.within.hs : List (Nat × LHint) := []
noncomputable def world.within.G : Ctx := ⟨Tryz.prog, sumAt world.within.cs, lookH world.within.hs⟩
noncomputable def world.within.f (x : ((Int × Int) × Int)) : Option Bool := evF world.within.G 0 Tryz.f66 ((tCons (tG (tCons (tI .i64) (tOne (tI .i64)))) (tOne (tI .i64))).enc x) tB.dec
noncomputable def world.within.s : Fw.Summ := .mk' (tCons (tG (tCons (tI .i64) (tOne (tI .i64)))) (tOne (tI .i64))) tB world.within.f
theorem world.within.ok : world.within.s.Ok Tryz.prog 66 :=
  summ_ok (hint := lookH world.within.hs) (fn := Tryz.f66) (fun x => 0) world.within.cs_ok (by kernel_rfl) (by kernel_rfl) (by kernel_rfl) (by kernel_rfl) (tCons_ok (tG_ok (tCons_ok (tI_ok _) (tOne_ok (tI_ok _)))) (tOne_ok (tI_ok _))) tB_ok (fun _ => rfl)
theorem world.within.eq (p0_0 : Int) (p0_1 : Int) (p1 : Int) : world.within.f ((p0_0, p0_1), p1) =
  (fix.Abs.f p0_0).bind fun r1 =>
  bif (decide (r1 ≤ p1)) then
    (fix.Abs.f p0_1).bind fun r2 =>
    some (decide (r2 ≤ p1))
  else
  some false := by kernel_rfl
/-! ### bagatelle/world.RightBody -/
noncomputable def world.RightBody.cs : List (Nat × Fw.Summ) := [(75, shape.Right.s), (66, world.within.s), (38, fix.Abs.s)]
theorem world.RightBody.cs_ok : SumsOk Tryz.prog world.RightBody.cs := .cons shape.Right.ok (.cons world.within.ok (.cons fix.Abs.ok (.nil)))
def world.RightBody.hs : List (Nat × LHint) := []
noncomputable def world.RightBody.G : Ctx := ⟨Tryz.prog, sumAt world.RightBody.cs, lookH world.RightBody.hs⟩
noncomputable def world.RightBody.f (x : (Int × Int × Int × Int × Int × Int × Int × Int × Int × Int × (Nat × (Nat → List AV)))) : Option Bool := evF world.RightBody.G 0 Tryz.f33 ((tOne (tG (tCons (tI .i64) (tCons (tI .i64) (tCons (tI .i64) (tCons (tI .i64) (tCons (tI .i64) (tCons (tI .i64) (tCons (tI .i64) (tCons (tI .i64) (tCons (tI .i64) (tCons (tI .i64) (tOne (tLz 2 (Rii.enc (0, 0)))))))))))))))).enc x) tB.dec
noncomputable def world.RightBody.s : Fw.Summ := .mk' (tOne (tG (tCons (tI .i64) (tCons (tI .i64) (tCons (tI .i64) (tCons (tI .i64) (tCons (tI .i64) (tCons (tI .i64) (tCons (tI .i64) (tCons (tI .i64) (tCons (tI .i64) (tCons (tI .i64) (tOne (tLz 2 (Rii.enc (0, 0)))))))))))))))) tB world.RightBody.f
theorem world.RightBody.ok : world.RightBody.s.Ok Tryz.prog 33 :=
  summ_ok (hint := lookH world.RightBody.hs) (fn := Tryz.f33) (fun x => 0) world.RightBody.cs_ok (by kernel_rfl) (by kernel_rfl) (by kernel_rfl) (by kernel_rfl) (tOne_ok (tG_ok (tCons_ok (tI_ok _) (tCons_ok (tI_ok _) (tCons_ok (tI_ok _) (tCons_ok (tI_ok _) (tCons_ok (tI_ok _) (tCons_ok (tI_ok _) (tCons_ok (tI_ok _) (tCons_ok (tI_ok _) (tCons_ok (tI_ok _) (tCons_ok (tI_ok _) (tOne_ok (tLz_ok _ _)))))))))))))) tB_ok (fun _ => rfl)
theorem world.RightBody.eq (p0_0 : Int) (p0_1 : Int) (p0_2 : Int) (p0_3 : Int) (p0_4 : Int) (p0_5 : Int) (p0_6 : Int) (p0_7 : Int) (p0_8 : Int) (p0_9 : Int) (p0_10_n : Nat) (p0_10_g : Nat → (Int × Int)) : world.RightBody.f (p0_0, p0_1, p0_2, p0_3, p0_4, p0_5, p0_6, p0_7, p0_8, p0_9, (p0_10_n, (fun i => Rii.enc (p0_10_g i)))) =
  (shape.Right.f (p0_8, p0_9, (p0_10_n, (fun i => Rii.enc (p0_10_g i))))).bind fun r1 =>
  bif (!r1) then
    some false
  else
  (world.within.f ((p0_1, p0_2), 4503599627370496)).bind fun r2 =>
  bif (!r2) then
    some false
  else
  (world.within.f ((p0_3, p0_4), 17592186044416)).bind fun r3 =>
  bif (!r3) then
    some false
  else
  (fix.Abs.f p0_6).bind fun r4 =>
  bif (decide (r4 > 1099511627776)) then
    some false
  else
  bif (decide (p0_5 < 0)) then
    some false
  else
  bif (decide (p0_5 ≥ 4294967296)) then
    some false
  else
  bif (decide (p0_7 < 0)) then
    some false
  else
  bif (decide (p0_7 > 4398046511104)) then
    some false
  else
  bif (decide (p0_7 > 0)) then
    some true
  else
  bif ((p0_3 == 0) && ((p0_4 == 0) && true)) then
    some (p0_6 == 0)
  else
  some false := by kernel_rfl
/-! ### bagatelle/order.joint -/
noncomputable def order.joint.cs : List (Nat × Fw.Summ) := []
theorem order.joint.cs_ok : SumsOk Tryz.prog order.joint.cs := .nil
def order.joint.hs : List (Nat × LHint) := []
noncomputable def order.joint.G : Ctx := ⟨Tryz.prog, sumAt order.joint.cs, lookH order.joint.hs⟩
noncomputable def order.joint.f (x : (Int × Int × Int × Int × Int × Int × Int × Int × Int × Int × Int × Int × Int × Int × (Nat × (Nat → List AV)))) : Option (Int × Int × Int × Int × Int × Int × Int × Int) := evF order.joint.G 0 Tryz.f36 ((tOne (tG (tCons (tI .i64) (tCons (tI .i64) (tCons (tI .i64) (tCons (tI .i64) (tCons (tI .i64) (tCons (tI .i64) (tCons (tI .i64) (tCons (tI .i64) (tCons (tI .i64) (tCons (tI .i64) (tCons (tI .i64) (tCons (tI .i64) (tCons (tI .i64) (tCons (tI .i64) (tOne (tLz 2 (Rii.enc (0, 0)))))))))))))))))))).enc x) (tG (tCons (tI .i64) (tCons (tI .i64) (tCons (tI .i64) (tCons (tI .i64) (tCons (tI .i64) (tCons (tI .i64) (tCons (tI .i64) (tOne (tI .i64)))))))))).dec
noncomputable def order.joint.s : Fw.Summ := .mk' (tOne (tG (tCons (tI .i64) (tCons (tI .i64) (tCons (tI .i64) (tCons (tI .i64) (tCons (tI .i64) (tCons (tI .i64) (tCons (tI .i64) (tCons (tI .i64) (tCons (tI .i64) (tCons (tI .i64) (tCons (tI .i64) (tCons (tI .i64) (tCons (tI .i64) (tCons (tI .i64) (tOne (tLz 2 (Rii.enc (0, 0)))))))))))))))))))) (tG (tCons (tI .i64) (tCons (tI .i64) (tCons (tI .i64) (tCons (tI .i64) (tCons (tI .i64) (tCons (tI .i64) (tCons (tI .i64) (tOne (tI .i64)))))))))) order.joint.f
theorem order.joint.ok : order.joint.s.Ok Tryz.prog 36 :=
  summ_ok (hint := lookH order.joint.hs) (fn := Tryz.f36) (fun x => 0) order.joint.cs_ok (by kernel_rfl) (by kernel_rfl) (by kernel_rfl) (by kernel_rfl) (tOne_ok (tG_ok (tCons_ok (tI_ok _) (tCons_ok (tI_ok _) (tCons_ok (tI_ok _) (tCons_ok (tI_ok _) (tCons_ok (tI_ok _) (tCons_ok (tI_ok _) (tCons_ok (tI_ok _) (tCons_ok (tI_ok _) (tCons_ok (tI_ok _) (tCons_ok (tI_ok _) (tCons_ok (tI_ok _) (tCons_ok (tI_ok _) (tCons_ok (tI_ok _) (tCons_ok (tI_ok _) (tOne_ok (tLz_ok _ _)))))))))))))))))) (tG_ok (tCons_ok (tI_ok _) (tCons_ok (tI_ok _) (tCons_ok (tI_ok _) (tCons_ok (tI_ok _) (tCons_ok (tI_ok _) (tCons_ok (tI_ok _) (tCons_ok (tI_ok _) (tOne_ok (tI_ok _)))))))))) (fun _ => rfl)
theorem order.joint.eq (p0_0 : Int) (p0_1 : Int) (p0_2 : Int) (p0_3 : Int) (p0_4 : Int) (p0_5 : Int) (p0_6 : Int) (p0_7 : Int) (p0_8 : Int) (p0_9 : Int) (p0_10 : Int) (p0_11 : Int) (p0_12 : Int) (p0_13 : Int) (p0_14_n : Nat) (p0_14_g : Nat → (Int × Int)) : order.joint.f (p0_0, p0_1, p0_2, p0_3, p0_4, p0_5, p0_6, p0_7, p0_8, p0_9, p0_10, p0_11, p0_12, p0_13, (p0_14_n, (fun i => Rii.enc (p0_14_g i)))) =
  some (0, p0_2, p0_3, p0_4, p0_5, p0_6, p0_7, p0_11) := by kernel_rfl
/-! ### bagatelle/world.RightJoint -/
noncomputable def world.RightJoint.cs : List (Nat × Fw.Summ) := [(66, world.within.s)]
theorem world.RightJoint.cs_ok : SumsOk Tryz.prog world.RightJoint.cs := .cons world.within.ok (.nil)
def world.RightJoint.hs : List (Nat × LHint) := []
noncomputable def world.RightJoint.G : Ctx := ⟨Tryz.prog, sumAt world.RightJoint.cs, lookH world.RightJoint.hs⟩
noncomputable def world.RightJoint.f (x : (Int × Int × Int × Int × Int × Int × Int × Int)) : Option Bool := evF world.RightJoint.G 0 Tryz.f35 ((tOne (tG (tCons (tI .i64) (tCons (tI .i64) (tCons (tI .i64) (tCons (tI .i64) (tCons (tI .i64) (tCons (tI .i64) (tCons (tI .i64) (tOne (tI .i64))))))))))).enc x) tB.dec
noncomputable def world.RightJoint.s : Fw.Summ := .mk' (tOne (tG (tCons (tI .i64) (tCons (tI .i64) (tCons (tI .i64) (tCons (tI .i64) (tCons (tI .i64) (tCons (tI .i64) (tCons (tI .i64) (tOne (tI .i64))))))))))) tB world.RightJoint.f
theorem world.RightJoint.ok : world.RightJoint.s.Ok Tryz.prog 35 :=
  summ_ok (hint := lookH world.RightJoint.hs) (fn := Tryz.f35) (fun x => 0) world.RightJoint.cs_ok (by kernel_rfl) (by kernel_rfl) (by kernel_rfl) (by kernel_rfl) (tOne_ok (tG_ok (tCons_ok (tI_ok _) (tCons_ok (tI_ok _) (tCons_ok (tI_ok _) (tCons_ok (tI_ok _) (tCons_ok (tI_ok _) (tCons_ok (tI_ok _) (tCons_ok (tI_ok _) (tOne_ok (tI_ok _))))))))))) tB_ok (fun _ => rfl)
theorem world.RightJoint.eq (p0_0 : Int) (p0_1 : Int) (p0_2 : Int) (p0_3 : Int) (p0_4 : Int) (p0_5 : Int) (p0_6 : Int) (p0_7 : Int) : world.RightJoint.f (p0_0, p0_1, p0_2, p0_3, p0_4, p0_5, p0_6, p0_7) =
  (world.within.f ((p0_3, p0_4), 274877906944)).bind fun r1 =>
  bif r1 then
    (world.within.f ((p0_5, p0_6), 274877906944)).bind fun r2 =>
    bif r2 then
      bif (decide (p0_7 ≥ 0)) then
        bif (decide (p0_7 ≤ 4503599627370496)) then
          bif (decide (p0_1 ≥ 1)) then
            bif (decide (p0_2 ≥ 1)) then
              some (p0_1 != p0_2)
            else
            some false
          else
          some false
        else
        some false
      else
      some false
    else
    some false
  else
  some false := by kernel_rfl
/-! ### bagatelle/order.within -/
noncomputable def order.within.cs : List (Nat × Fw.Summ) := [(38, fix.Abs.s)]
theorem order.within.cs_ok : SumsOk Tryz.prog order.within.cs := .cons fix.Abs.ok (.nil)
def order.within.hs : List (Nat × LHint) := []
noncomputable def order.within.G : Ctx := ⟨Tryz.prog, sumAt order.within.cs, lookH order.within.hs⟩
noncomputable def order.within.f (x : ((Int × Int) × Int)) : Option Bool := evF order.within.G 0 Tryz.f37 ((tCons (tG (tCons (tI .i64) (tOne (tI .i64)))) (tOne (tI .i64))).enc x) tB.dec
noncomputable def order.within.s : Fw.Summ := .mk' (tCons (tG (tCons (tI .i64) (tOne (tI .i64)))) (tOne (tI .i64))) tB order.within.f
theorem order.within.ok : order.within.s.Ok Tryz.prog 37 :=
  summ_ok (hint := lookH order.within.hs) (fn := Tryz.f37) (fun x => 0) order.within.cs_ok (by kernel_rfl) (by kernel_rfl) (by kernel_rfl) (by kernel_rfl) (tCons_ok (tG_ok (tCons_ok (tI_ok _) (tOne_ok (tI_ok _)))) (tOne_ok (tI_ok _))) tB_ok (fun _ => rfl)
theorem order.within.eq (p0_0 : Int) (p0_1 : Int) (p1 : Int) : order.within.f ((p0_0, p0_1), p1) =
  (fix.Abs.f p0_0).bind fun r1 =>
  bif (decide (r1 ≤ p1)) then
    (fix.Abs.f p0_1).bind fun r2 =>
    some (decide (r2 ≤ p1))
  else
  some false := by kernel_rfl
/-! ### bagatelle/order.Right -/
noncomputable def order.Right.cs : List (Nat × Fw.Summ) := [(32, order.used.s), (31, order.Same.s), (34, order.body.s), (33, world.RightBody.s), (36, order.joint.s), (35, world.RightJoint.s), (37, order.within.s), (38, fix.Abs.s)]
theorem order.Right.cs_ok : SumsOk Tryz.prog order.Right.cs := .cons order.used.ok (.cons order.Same.ok (.cons order.body.ok (.cons world.RightBody.ok (.cons order.joint.ok (.cons world.RightJoint.ok (.cons order.within.ok (.cons fix.Abs.ok (.nil))))))))
def order.Right.hs : List (Nat × LHint) := []
noncomputable def order.Right.G : Ctx := ⟨Tryz.prog, sumAt order.Right.cs, lookH order.Right.hs⟩
noncomputable def order.Right.f (x : (Int × Int × Int × Int × Int × Int × Int × Int × Int × Int × Int × Int × Int × Int × (Nat × (Nat → List AV)))) : Option Bool := evF order.Right.G 0 Tryz.f8 ((tOne (tG (tCons (tI .i64) (tCons (tI .i64) (tCons (tI .i64) (tCons (tI .i64) (tCons (tI .i64) (tCons (tI .i64) (tCons (tI .i64) (tCons (tI .i64) (tCons (tI .i64) (tCons (tI .i64) (tCons (tI .i64) (tCons (tI .i64) (tCons (tI .i64) (tCons (tI .i64) (tOne (tLz 2 (Rii.enc (0, 0)))))))))))))))))))).enc x) tB.dec
noncomputable def order.Right.s : Fw.Summ := .mk' (tOne (tG (tCons (tI .i64) (tCons (tI .i64) (tCons (tI .i64) (tCons (tI .i64) (tCons (tI .i64) (tCons (tI .i64) (tCons (tI .i64) (tCons (tI .i64) (tCons (tI .i64) (tCons (tI .i64) (tCons (tI .i64) (tCons (tI .i64) (tCons (tI .i64) (tCons (tI .i64) (tOne (tLz 2 (Rii.enc (0, 0)))))))))))))))))))) tB order.Right.f
theorem order.Right.ok : order.Right.s.Ok Tryz.prog 8 :=
  summ_ok (hint := lookH order.Right.hs) (fn := Tryz.f8) (fun x => 0) order.Right.cs_ok (by kernel_rfl) (by kernel_rfl) (by kernel_rfl) (by kernel_rfl) (tOne_ok (tG_ok (tCons_ok (tI_ok _) (tCons_ok (tI_ok _) (tCons_ok (tI_ok _) (tCons_ok (tI_ok _) (tCons_ok (tI_ok _) (tCons_ok (tI_ok _) (tCons_ok (tI_ok _) (tCons_ok (tI_ok _) (tCons_ok (tI_ok _) (tCons_ok (tI_ok _) (tCons_ok (tI_ok _) (tCons_ok (tI_ok _) (tCons_ok (tI_ok _) (tCons_ok (tI_ok _) (tOne_ok (tLz_ok _ _)))))))))))))))))) tB_ok (fun _ => rfl)
theorem order.Right.eq (p0_0 : Int) (p0_1 : Int) (p0_2 : Int) (p0_3 : Int) (p0_4 : Int) (p0_5 : Int) (p0_6 : Int) (p0_7 : Int) (p0_8 : Int) (p0_9 : Int) (p0_10 : Int) (p0_11 : Int) (p0_12 : Int) (p0_13 : Int) (p0_14_n : Nat) (p0_14_g : Nat → (Int × Int)) : order.Right.f (p0_0, p0_1, p0_2, p0_3, p0_4, p0_5, p0_6, p0_7, p0_8, p0_9, p0_10, p0_11, p0_12, p0_13, (p0_14_n, (fun i => Rii.enc (p0_14_g i)))) =
  (order.used.f (p0_0, p0_1, p0_2, p0_3, p0_4, p0_5, p0_6, p0_7, p0_8, p0_9, p0_10, p0_11, p0_12, p0_13, (p0_14_n, (fun i => Rii.enc (p0_14_g i))))).bind fun r1 =>
  (order.Same.f ((p0_0, p0_1, p0_2, p0_3, p0_4, p0_5, p0_6, p0_7, p0_8, p0_9, p0_10, p0_11, p0_12, p0_13, (p0_14_n, (fun i => Rii.enc (p0_14_g i)))), (r1.1, r1.2.1, r1.2.2.1, r1.2.2.2.1, r1.2.2.2.2.1, r1.2.2.2.2.2.1, r1.2.2.2.2.2.2.1, r1.2.2.2.2.2.2.2.1, r1.2.2.2.2.2.2.2.2.1, r1.2.2.2.2.2.2.2.2.2.1, r1.2.2.2.2.2.2.2.2.2.2.1, r1.2.2.2.2.2.2.2.2.2.2.2.1, r1.2.2.2.2.2.2.2.2.2.2.2.2.1, r1.2.2.2.2.2.2.2.2.2.2.2.2.2.1, (r1.2.2.2.2.2.2.2.2.2.2.2.2.2.2.1, (fun i => Rii.enc (r1.2.2.2.2.2.2.2.2.2.2.2.2.2.2.2 i)))))).bind fun r2 =>
  bif (!r2) then
    some false
  else
  bif (p0_0 == 1) then
    (order.body.f (p0_0, p0_1, p0_2, p0_3, p0_4, p0_5, p0_6, p0_7, p0_8, p0_9, p0_10, p0_11, p0_12, p0_13, (p0_14_n, (fun i => Rii.enc (p0_14_g i))))).bind fun r3 =>
    (world.RightBody.f (r3.1, r3.2.1, r3.2.2.1, r3.2.2.2.1, r3.2.2.2.2.1, r3.2.2.2.2.2.1, r3.2.2.2.2.2.2.1, r3.2.2.2.2.2.2.2.1, r3.2.2.2.2.2.2.2.2.1, r3.2.2.2.2.2.2.2.2.2.1, (r3.2.2.2.2.2.2.2.2.2.2.1, (fun i => Rii.enc (r3.2.2.2.2.2.2.2.2.2.2.2 i))))).bind fun r4 =>
    some r4
  else
  bif (p0_0 == 2) then
    bif (p0_0 == 2) then
      some (decide (p0_1 ≥ 1))
    else
    bif (p0_0 == 3) then
      (order.joint.f (p0_0, p0_1, p0_2, p0_3, p0_4, p0_5, p0_6, p0_7, p0_8, p0_9, p0_10, p0_11, p0_12, p0_13, (p0_14_n, (fun i => Rii.enc (p0_14_g i))))).bind fun r5 =>
      (world.RightJoint.f (r5.1, r5.2.1, r5.2.2.1, r5.2.2.2.1, r5.2.2.2.2.1, r5.2.2.2.2.2.1, r5.2.2.2.2.2.2.1, r5.2.2.2.2.2.2.2)).bind fun r6 =>
      some r6
    else
    bif (p0_0 == 5) then
      bif (decide (p0_1 ≥ 1)) then
        (order.within.f ((p0_6, p0_7), 4611686018427387904)).bind fun r7 =>
        bif r7 then
          (fix.Abs.f p0_9).bind fun r8 =>
          some (decide (r8 ≤ 4611686018427387904))
        else
        some false
      else
      some false
    else
    bif (p0_0 == 6) then
      (order.within.f ((p0_6, p0_7), 17592186044416)).bind fun r9 =>
      some r9
    else
    some false
  else
  bif (p0_0 == 4) then
    some (decide (p0_1 ≥ 1))
  else
  bif (p0_0 == 3) then
    (order.joint.f (p0_0, p0_1, p0_2, p0_3, p0_4, p0_5, p0_6, p0_7, p0_8, p0_9, p0_10, p0_11, p0_12, p0_13, (p0_14_n, (fun i => Rii.enc (p0_14_g i))))).bind fun r10 =>
    (world.RightJoint.f (r10.1, r10.2.1, r10.2.2.1, r10.2.2.2.1, r10.2.2.2.2.1, r10.2.2.2.2.2.1, r10.2.2.2.2.2.2.1, r10.2.2.2.2.2.2.2)).bind fun r11 =>
    some r11
  else
  bif (p0_0 == 5) then
    bif (decide (p0_1 ≥ 1)) then
      (order.within.f ((p0_6, p0_7), 4611686018427387904)).bind fun r12 =>
      bif r12 then
        (fix.Abs.f p0_9).bind fun r13 =>
        some (decide (r13 ≤ 4611686018427387904))
      else
      some false
    else
    some false
  else
  bif (p0_0 == 6) then
    (order.within.f ((p0_6, p0_7), 17592186044416)).bind fun r14 =>
    some r14
  else
  some false := by kernel_rfl
/-! ### slices.Clone[[]bagatelle/api.Body,bagatelle/api.Body] -/
noncomputable def slices.Clone_lBody_Body.f (x : (Nat × (Nat → List AV))) : Option (Nat × (Nat → (Int × Int × Int × Int × Int × Int × Int × Int × Int × Int × (Nat × (Nat → List AV))))) := cloneF (RowT.mk RiiiiiiiiiiL2 34 11 (0, 0, 0, 0, 0, 0, 0, 0, 0, 0, (0, fun _ => []))) 104 [.val (.int .i64 0), .val (.int .i64 0), .val (.int .i64 0), .val (.int .i64 0), .val (.int .i64 0), .val (.int .i64 0), .val (.int .i64 0), .val (.int .i64 0), .val (.int .i64 0), .val (.int .i64 0), .val (.slice none 0 0)] x
noncomputable def slices.Clone_lBody_Body.s : Fw.Summ := .mkB (tOne (tL 11)) (RowT.mk RiiiiiiiiiiL2 34 11 (0, 0, 0, 0, 0, 0, 0, 0, 0, 0, (0, fun _ => []))) slices.Clone_lBody_Body.f
theorem slices.Clone_lBody_Body.ok : slices.Clone_lBody_Body.s.Ok Tryz.prog 39 :=
  clone_ok (U := (RowT.mk RiiiiiiiiiiL2 34 11 (0, 0, 0, 0, 0, 0, 0, 0, 0, 0, (0, fun _ => [])))) (y := 104) (zr := [.val (.int .i64 0), .val (.int .i64 0), .val (.int .i64 0), .val (.int .i64 0), .val (.int .i64 0), .val (.int .i64 0), .val (.int .i64 0), .val (.int .i64 0), .val (.int .i64 0), .val (.int .i64 0), .val (.slice none 0 0)]) (fn := Tryz.f39) (by kernel_rfl) (by kernel_rfl) (by kernel_rfl) (by kernel_rfl) RiiiiiiiiiiL2_ok (by kernel_rfl) (fun m g => by kernel_rfl) (fun q c => by kernel_rfl)
theorem slices.Clone_lBody_Body.eq (p0_n : Nat) (p0_g : Nat → (Int × Int × Int × Int × Int × Int × Int × Int × Int × Int × (Nat × (Nat → List AV)))) : slices.Clone_lBody_Body.f (p0_n, (fun i => RiiiiiiiiiiL2.enc (p0_g i))) =
  bif decide (p0_n * 104 ≤ 140737488355328) then some (p0_n, p0_g) else none := cloneF_typed RiiiiiiiiiiL2_clo RiiiiiiiiiiL2_dec 104 _ p0_n p0_g
/-! ### bagatelle/shape.Copy -/
noncomputable def shape.Copy.cs : List (Nat × Fw.Summ) := []
theorem shape.Copy.cs_ok : SumsOk Tryz.prog shape.Copy.cs := .nil
def shape.Copy.hs : List (Nat × LHint) := []
noncomputable def shape.Copy.G : Ctx := ⟨Tryz.prog, sumAt shape.Copy.cs, lookH shape.Copy.hs⟩
noncomputable def shape.Copy.f (x : (Int × Int × (Nat × (Nat → List AV)))) : Option (Int × Int × (Nat × (Nat → (Int × Int)))) := evF shape.Copy.G 0 Tryz.f40 ((tOne (tG (tCons (tI .i64) (tCons (tI .i64) (tOne (tLz 2 (Rii.enc (0, 0)))))))).enc x) (tG (tCons (tI .i64) (tCons (tI .i64) (tOne (tTL Rii 2 (0, 0)))))).dec
noncomputable def shape.Copy.s : Fw.Summ := .mk' (tOne (tG (tCons (tI .i64) (tCons (tI .i64) (tOne (tLz 2 (Rii.enc (0, 0)))))))) (tG (tCons (tI .i64) (tCons (tI .i64) (tOne (tTL Rii 2 (0, 0)))))) shape.Copy.f
theorem shape.Copy.ok : shape.Copy.s.Ok Tryz.prog 40 :=
  summ_ok (hint := lookH shape.Copy.hs) (fn := Tryz.f40) (fun x => 0) shape.Copy.cs_ok (by kernel_rfl) (by kernel_rfl) (by kernel_rfl) (by kernel_rfl) (tOne_ok (tG_ok (tCons_ok (tI_ok _) (tCons_ok (tI_ok _) (tOne_ok (tLz_ok _ _)))))) (tG_ok (tCons_ok (tI_ok _) (tCons_ok (tI_ok _) (tOne_ok (tTL_ok Rii_ok _ _))))) (fun _ => rfl)
theorem shape.Copy.eq (p0_0 : Int) (p0_1 : Int) (p0_2_n : Nat) (p0_2_g : Nat → (Int × Int)) : shape.Copy.f (p0_0, p0_1, (p0_2_n, (fun i => Rii.enc (p0_2_g i)))) =
  bif (decide (p0_2_n * 16 ≤ 140737488355328)) then
  (tG (tCons (tI .i64) (tCons (tI .i64) (tOne (tTL Rii 2 (0, 0)))))).dec (.agg [.val (.int .i64 p0_0), .val (.int .i64 p0_1), .lst 2 p0_2_n none (fun i => cloL (if i < 0 then (fun _ => Rii.enc (0, 0)) i else (fun i => Rii.enc (p0_2_g i)) (i - 0)))])
  else none := by kernel_rfl
/-! ### slices.Clone[[]bagatelle/api.Joint,bagatelle/api.Joint] -/
noncomputable def slices.Clone_lJoint_Joint.f (x : (Nat × (Nat → List AV))) : Option (Nat × (Nat → (Int × Int × Int × Int × Int × Int × Int × Int))) := cloneF (RowT.mk Riiiiiiii 57 8 (0, 0, 0, 0, 0, 0, 0, 0)) 64 [.val (.int .i64 0), .val (.int .i64 0), .val (.int .i64 0), .val (.int .i64 0), .val (.int .i64 0), .val (.int .i64 0), .val (.int .i64 0), .val (.int .i64 0)] x
noncomputable def slices.Clone_lJoint_Joint.s : Fw.Summ := .mkB (tOne (tL 8)) (RowT.mk Riiiiiiii 57 8 (0, 0, 0, 0, 0, 0, 0, 0)) slices.Clone_lJoint_Joint.f
theorem slices.Clone_lJoint_Joint.ok : slices.Clone_lJoint_Joint.s.Ok Tryz.prog 41 :=
  clone_ok (U := (RowT.mk Riiiiiiii 57 8 (0, 0, 0, 0, 0, 0, 0, 0))) (y := 64) (zr := [.val (.int .i64 0), .val (.int .i64 0), .val (.int .i64 0), .val (.int .i64 0), .val (.int .i64 0), .val (.int .i64 0), .val (.int .i64 0), .val (.int .i64 0)]) (fn := Tryz.f41) (by kernel_rfl) (by kernel_rfl) (by kernel_rfl) (by kernel_rfl) Riiiiiiii_ok (by kernel_rfl) (fun m g => by kernel_rfl) (fun q c => by kernel_rfl)
theorem slices.Clone_lJoint_Joint.eq (p0_n : Nat) (p0_g : Nat → (Int × Int × Int × Int × Int × Int × Int × Int)) : slices.Clone_lJoint_Joint.f (p0_n, (fun i => Riiiiiiii.enc (p0_g i))) =
  bif decide (p0_n * 64 ≤ 140737488355328) then some (p0_n, p0_g) else none := cloneF_typed Riiiiiiii_clo Riiiiiiii_dec 64 _ p0_n p0_g
/-! ### slices.Clone[[]bagatelle/api.Contact,bagatelle/api.Contact] -/
noncomputable def slices.Clone_lContact_Contact.f (x : (Nat × (Nat → List AV))) : Option (Nat × (Nat → (Int × Int × Int × Int × Int))) := cloneF (RowT.mk Riiiii 94 5 (0, 0, 0, 0, 0)) 40 [.val (.int .i64 0), .val (.int .i64 0), .val (.int .i64 0), .val (.int .i64 0), .val (.int .i64 0)] x
noncomputable def slices.Clone_lContact_Contact.s : Fw.Summ := .mkB (tOne (tL 5)) (RowT.mk Riiiii 94 5 (0, 0, 0, 0, 0)) slices.Clone_lContact_Contact.f
theorem slices.Clone_lContact_Contact.ok : slices.Clone_lContact_Contact.s.Ok Tryz.prog 42 :=
  clone_ok (U := (RowT.mk Riiiii 94 5 (0, 0, 0, 0, 0))) (y := 40) (zr := [.val (.int .i64 0), .val (.int .i64 0), .val (.int .i64 0), .val (.int .i64 0), .val (.int .i64 0)]) (fn := Tryz.f42) (by kernel_rfl) (by kernel_rfl) (by kernel_rfl) (by kernel_rfl) Riiiii_ok (by kernel_rfl) (fun m g => by kernel_rfl) (fun q c => by kernel_rfl)
theorem slices.Clone_lContact_Contact.eq (p0_n : Nat) (p0_g : Nat → (Int × Int × Int × Int × Int)) : slices.Clone_lContact_Contact.f (p0_n, (fun i => Riiiii.enc (p0_g i))) =
  bif decide (p0_n * 40 ≤ 140737488355328) then some (p0_n, p0_g) else none := cloneF_typed Riiiii_clo Riiiii_dec 40 _ p0_n p0_g
/-! ### bagatelle/world.Copy -/
noncomputable def world.Copy.cs : List (Nat × Fw.Summ) := [(39, slices.Clone_lBody_Body.s), (40, shape.Copy.s), (41, slices.Clone_lJoint_Joint.s), (42, slices.Clone_lContact_Contact.s)]
theorem world.Copy.cs_ok : SumsOk Tryz.prog world.Copy.cs := .cons slices.Clone_lBody_Body.ok (.cons shape.Copy.ok (.cons slices.Clone_lJoint_Joint.ok (.cons slices.Clone_lContact_Contact.ok (.nil))))
def world.Copy.hs : List (Nat × LHint) := [(0, { mat := [], live := [1, 2, 10, 11], ren := [] })]
noncomputable def world.Copy.G : Ctx := ⟨Tryz.prog, sumAt world.Copy.cs, lookH world.Copy.hs⟩
noncomputable def world.Copy.g (k0 : Nat) (x : (Int × Int × Int × Int × Int × (Nat × (Nat → List AV)) × (Nat × (Nat → List AV)) × (Nat × (Nat → List AV)))) : Option (Int × Int × Int × Int × Int × (Nat × (Nat → (Int × Int × Int × Int × Int × Int × Int × Int × Int × Int × (Nat × (Nat → List AV))))) × (Nat × (Nat → (Int × Int × Int × Int × Int × Int × Int × Int))) × (Nat × (Nat → (Int × Int × Int × Int × Int)))) := evF world.Copy.G k0 Tryz.f9 ((tOne (tG (tCons (tI .i64) (tCons (tI .i64) (tCons (tI .i64) (tCons (tI .i64) (tCons (tI .i64) (tCons (tLz 11 (RiiiiiiiiiiL2.enc (0, 0, 0, 0, 0, 0, 0, 0, 0, 0, (0, fun _ => [])))) (tCons (tLz 8 (Riiiiiiii.enc (0, 0, 0, 0, 0, 0, 0, 0))) (tOne (tLz 5 (Riiiii.enc (0, 0, 0, 0, 0))))))))))))).enc x) (tG (tCons (tI .i64) (tCons (tI .i64) (tCons (tI .i64) (tCons (tI .i64) (tCons (tI .i64) (tCons (tTL RiiiiiiiiiiL2 11 (0, 0, 0, 0, 0, 0, 0, 0, 0, 0, (0, fun _ => []))) (tCons (tTL Riiiiiiii 8 (0, 0, 0, 0, 0, 0, 0, 0)) (tOne (tTL Riiiii 5 (0, 0, 0, 0, 0))))))))))).dec
noncomputable def world.Copy.f (x : (Int × Int × Int × Int × Int × (Nat × (Nat → List AV)) × (Nat × (Nat → List AV)) × (Nat × (Nat → List AV)))) : Option (Int × Int × Int × Int × Int × (Nat × (Nat → (Int × Int × Int × Int × Int × Int × Int × Int × Int × Int × (Nat × (Nat → List AV))))) × (Nat × (Nat → (Int × Int × Int × Int × Int × Int × Int × Int))) × (Nat × (Nat → (Int × Int × Int × Int × Int)))) := world.Copy.g (1000000) x
noncomputable def world.Copy.s : Fw.Summ := .mk' (tOne (tG (tCons (tI .i64) (tCons (tI .i64) (tCons (tI .i64) (tCons (tI .i64) (tCons (tI .i64) (tCons (tLz 11 (RiiiiiiiiiiL2.enc (0, 0, 0, 0, 0, 0, 0, 0, 0, 0, (0, fun _ => [])))) (tCons (tLz 8 (Riiiiiiii.enc (0, 0, 0, 0, 0, 0, 0, 0))) (tOne (tLz 5 (Riiiii.enc (0, 0, 0, 0, 0))))))))))))) (tG (tCons (tI .i64) (tCons (tI .i64) (tCons (tI .i64) (tCons (tI .i64) (tCons (tI .i64) (tCons (tTL RiiiiiiiiiiL2 11 (0, 0, 0, 0, 0, 0, 0, 0, 0, 0, (0, fun _ => []))) (tCons (tTL Riiiiiiii 8 (0, 0, 0, 0, 0, 0, 0, 0)) (tOne (tTL Riiiii 5 (0, 0, 0, 0, 0))))))))))) world.Copy.f
theorem world.Copy.ok : world.Copy.s.Ok Tryz.prog 9 :=
  summ_ok (hint := lookH world.Copy.hs) (fn := Tryz.f9) (fun x => 1000000) world.Copy.cs_ok (by kernel_rfl) (by kernel_rfl) (by kernel_rfl) (by kernel_rfl) (tOne_ok (tG_ok (tCons_ok (tI_ok _) (tCons_ok (tI_ok _) (tCons_ok (tI_ok _) (tCons_ok (tI_ok _) (tCons_ok (tI_ok _) (tCons_ok (tLz_ok _ _) (tCons_ok (tLz_ok _ _) (tOne_ok (tLz_ok _ _))))))))))) (tG_ok (tCons_ok (tI_ok _) (tCons_ok (tI_ok _) (tCons_ok (tI_ok _) (tCons_ok (tI_ok _) (tCons_ok (tI_ok _) (tCons_ok (tTL_ok RiiiiiiiiiiL2_ok _ _) (tCons_ok (tTL_ok Riiiiiiii_ok _ _) (tOne_ok (tTL_ok Riiiii_ok _ _)))))))))) (fun _ => rfl)
noncomputable def world.Copy.l0 (k0 k1 : Nat) (v1 : Int) (v2 : Int) (v3 : Int) (v4 : Int) (v5 : Int) (v6 : Nat) (v7 : Nat → List AV) (v8 : Nat) (v9 : Nat → List AV) (v10 : Nat) (v11 : Nat → List AV) (v12 : Int) (v13 : Int) : Option (Int × Int × Int × Int × Int × (Nat × (Nat → (Int × Int × Int × Int × Int × Int × Int × Int × Int × Int × (Nat × (Nat → List AV))))) × (Nat × (Nat → (Int × Int × Int × Int × Int × Int × Int × Int))) × (Nat × (Nat → (Int × Int × Int × Int × Int)))) :=
  evLoop (lookH world.Copy.hs 0) 3 (ev world.Copy.G k0 (codeAt [1, 1, 0, 1, 0, 0] (bodyOf Tryz.f9)) 0) k1
  ⟨[.top, .ptr 0 0 0, .ptr 1 0 0, .top, .top, .top, .top, .top, .top, .top, .val (.int .i64 v12), .val (.int .i64 v13), .top, .top, .top, .top, .top, .top, .top, .top, .top, .top, .top, .top, .top, .top, .top, .top, .top, .top, .top, .top, .top, .top, .top, .top], [.live ⟨false, 42, 8, 1, fun _ => [.val (.int .i64 v1), .val (.int .i64 v2), .val (.int .i64 v3), .val (.int .i64 v4), .val (.int .i64 v5), .slc 2 0 none none, .lst 8 v6 none v7, .lst 5 v8 none v9], none⟩, .live ⟨false, 42, 8, 1, fun _ => [.val (.int .i64 0), .val (.int .i64 0), .val (.int .i64 0), .val (.int .i64 0), .val (.int .i64 0), .val (.slice none 0 0), .val (.slice none 0 0), .val (.slice none 0 0)], none⟩, .live ⟨true, 34, 11, v10, v11, none⟩]⟩
  (kBlock 0 (kSeq world.Copy.G k0 (codeAt [1, 1, 1] (bodyOf Tryz.f9)) 0 (kFin world.Copy.G Tryz.f9 (tG (tCons (tI .i64) (tCons (tI .i64) (tCons (tI .i64) (tCons (tI .i64) (tCons (tI .i64) (tCons (tTL RiiiiiiiiiiL2 11 (0, 0, 0, 0, 0, 0, 0, 0, 0, 0, (0, fun _ => []))) (tCons (tTL Riiiiiiii 8 (0, 0, 0, 0, 0, 0, 0, 0)) (tOne (tTL Riiiii 5 (0, 0, 0, 0, 0))))))))))).dec)))
theorem world.Copy.l0_eq (k0 k1 : Nat) (v1 : Int) (v2 : Int) (v3 : Int) (v4 : Int) (v5 : Int) (v6 : Nat) (v7 : Nat → (Int × Int × Int × Int × Int × Int × Int × Int)) (v8 : Nat) (v9 : Nat → (Int × Int × Int × Int × Int)) (v10 : Nat) (v11 : Nat → (Int × Int × Int × Int × Int × Int × Int × Int × Int × Int × (Nat × (Nat → List AV)))) (v12 : Int) (v13 : Int) : world.Copy.l0 k0 (k1 + 1) v1 v2 v3 v4 v5 v6 (fun i => Riiiiiiii.enc (v7 i)) v8 (fun i => Riiiii.enc (v9 i)) v10 (fun i => RiiiiiiiiiiL2.enc (v11 i)) v12 v13 =
  bif (decide (v13 < v12)) then
    bif ((decide (0 ≤ v13)) && (decide (v13 < ((v10 : Nat) : Int)))) then
    (shape.Copy.f ((v11 (Int.toNat v13)).2.2.2.2.2.2.2.2.1, (v11 (Int.toNat v13)).2.2.2.2.2.2.2.2.2.1, ((v11 (Int.toNat v13)).2.2.2.2.2.2.2.2.2.2.1, (v11 (Int.toNat v13)).2.2.2.2.2.2.2.2.2.2.2))).bind fun r2 =>
    bif ((decide (0 ≤ v13)) && (decide (v13 < ((v10 : Nat) : Int)))) then
    world.Copy.l0 k0 k1 v1 v2 v3 v4 v5 v6 (fun i => Riiiiiiii.enc (v7 i)) v8 (fun i => Riiiii.enc (v9 i)) v10 (fun i => renL (lookF [] 3) (if i = (Int.toNat v13) then RiiiiiiiiiiL2.enc ((v11 (Int.toNat v13)).1, (v11 (Int.toNat v13)).2.1, (v11 (Int.toNat v13)).2.2.1, (v11 (Int.toNat v13)).2.2.2.1, (v11 (Int.toNat v13)).2.2.2.2.1, (v11 (Int.toNat v13)).2.2.2.2.2.1, (v11 (Int.toNat v13)).2.2.2.2.2.2.1, (v11 (Int.toNat v13)).2.2.2.2.2.2.2.1, r2.1, r2.2.1, (r2.2.2.1, (fun i => Rii.enc (r2.2.2.2 i)))) else RiiiiiiiiiiL2.enc (v11 i))) v12 (IntKind.i64.wrap (v13 + 1))
    else none
    else none
  else
  (slices.Clone_lJoint_Joint.f (v6, (fun i => Riiiiiiii.enc (v7 i)))).bind fun r3 =>
  (slices.Clone_lContact_Contact.f (v8, (fun i => Riiiii.enc (v9 i)))).bind fun r4 =>
  (tG (tCons (tI .i64) (tCons (tI .i64) (tCons (tI .i64) (tCons (tI .i64) (tCons (tI .i64) (tCons (tTL RiiiiiiiiiiL2 11 (0, 0, 0, 0, 0, 0, 0, 0, 0, 0, (0, fun _ => []))) (tCons (tTL Riiiiiiii 8 (0, 0, 0, 0, 0, 0, 0, 0)) (tOne (tTL Riiiii 5 (0, 0, 0, 0, 0))))))))))).dec (.agg [.val (.int .i64 v1), .val (.int .i64 v2), .val (.int .i64 v3), .val (.int .i64 v4), .val (.int .i64 v5), .lst 11 v10 none (fun i => RiiiiiiiiiiL2.enc (v11 i)), .lst 8 r3.1 none (fun i => Riiiiiiii.enc (r3.2 i)), .lst 5 r4.1 none (fun i => Riiiii.enc (r4.2 i))]) := by kernel_rfl
theorem world.Copy.eq (k0 : Nat) (p0_0 : Int) (p0_1 : Int) (p0_2 : Int) (p0_3 : Int) (p0_4 : Int) (p0_5_n : Nat) (p0_5_g : Nat → (Int × Int × Int × Int × Int × Int × Int × Int × Int × Int × (Nat × (Nat → List AV)))) (p0_6_n : Nat) (p0_6_g : Nat → (Int × Int × Int × Int × Int × Int × Int × Int)) (p0_7_n : Nat) (p0_7_g : Nat → (Int × Int × Int × Int × Int)) : world.Copy.g k0 (p0_0, p0_1, p0_2, p0_3, p0_4, (p0_5_n, (fun i => RiiiiiiiiiiL2.enc (p0_5_g i))), (p0_6_n, (fun i => Riiiiiiii.enc (p0_6_g i))), (p0_7_n, (fun i => Riiiii.enc (p0_7_g i)))) =
  (slices.Clone_lBody_Body.f (p0_5_n, (fun i => RiiiiiiiiiiL2.enc (p0_5_g i)))).bind fun r1 =>
  world.Copy.l0 k0 k0 p0_0 p0_1 p0_2 p0_3 p0_4 p0_6_n (fun i => Riiiiiiii.enc (p0_6_g i)) p0_7_n (fun i => Riiiii.enc (p0_7_g i)) r1.1 (fun i => RiiiiiiiiiiL2.enc (r1.2 i)) ((r1.1 : Nat) : Int) 0 := by kernel_rfl
/-! ### cmp.isNaN[int] -/
noncomputable def cmp.isNaN_int.cs : List (Nat × Fw.Summ) := []
theorem cmp.isNaN_int.cs_ok : SumsOk Tryz.prog cmp.isNaN_int.cs := .nil
def cmp.isNaN_int.hs : List (Nat × LHint) := []
noncomputable def cmp.isNaN_int.G : Ctx := ⟨Tryz.prog, sumAt cmp.isNaN_int.cs, lookH cmp.isNaN_int.hs⟩
noncomputable def cmp.isNaN_int.f (x : Int) : Option Bool := evF cmp.isNaN_int.G 0 Tryz.f108 ((tOne (tI .i64)).enc x) tB.dec
noncomputable def cmp.isNaN_int.s : Fw.Summ := .mk' (tOne (tI .i64)) tB cmp.isNaN_int.f
theorem cmp.isNaN_int.ok : cmp.isNaN_int.s.Ok Tryz.prog 108 :=
  summ_ok (hint := lookH cmp.isNaN_int.hs) (fn := Tryz.f108) (fun x => 0) cmp.isNaN_int.cs_ok (by kernel_rfl) (by kernel_rfl) (by kernel_rfl) (by kernel_rfl) (tOne_ok (tI_ok _)) tB_ok (fun _ => rfl)
theorem cmp.isNaN_int.eq (p0 : Int) : cmp.isNaN_int.f p0 =
  some (p0 != p0) := by kernel_rfl
/-! ### cmp.Compare[int] -/
noncomputable def cmp.Compare_int.cs : List (Nat × Fw.Summ) := [(108, cmp.isNaN_int.s)]
theorem cmp.Compare_int.cs_ok : SumsOk Tryz.prog cmp.Compare_int.cs := .cons cmp.isNaN_int.ok (.nil)
def cmp.Compare_int.hs : List (Nat × LHint) := []
noncomputable def cmp.Compare_int.G : Ctx := ⟨Tryz.prog, sumAt cmp.Compare_int.cs, lookH cmp.Compare_int.hs⟩
noncomputable def cmp.Compare_int.f (x : (Int × Int)) : Option Int := evF cmp.Compare_int.G 0 Tryz.f92 ((tCons (tI .i64) (tOne (tI .i64))).enc x) (tI .i64).dec
noncomputable def cmp.Compare_int.s : Fw.Summ := .mk' (tCons (tI .i64) (tOne (tI .i64))) (tI .i64) cmp.Compare_int.f
theorem cmp.Compare_int.ok : cmp.Compare_int.s.Ok Tryz.prog 92 :=
  summ_ok (hint := lookH cmp.Compare_int.hs) (fn := Tryz.f92) (fun x => 0) cmp.Compare_int.cs_ok (by kernel_rfl) (by kernel_rfl) (by kernel_rfl) (by kernel_rfl) (tCons_ok (tI_ok _) (tOne_ok (tI_ok _))) (tI_ok _) (fun _ => rfl)
theorem cmp.Compare_int.eq (p0 : Int) (p1 : Int) : cmp.Compare_int.f (p0, p1) =
  (cmp.isNaN_int.f p0).bind fun r1 =>
  (cmp.isNaN_int.f p1).bind fun r2 =>
  bif r1 then
    bif r2 then
      some 0
    else
    some (-1)
  else
  bif r2 then
    some 1
  else
  bif (decide (p0 < p1)) then
    some (-1)
  else
  bif (decide (p0 > p1)) then
    some 1
  else
  some 0 := by kernel_rfl
/-! ### bagatelle/world.Body$1 -/
noncomputable def world.Body_1.cs : List (Nat × Fw.Summ) := []
theorem world.Body_1.cs_ok : SumsOk Tryz.prog world.Body_1.cs := .nil
def world.Body_1.hs : List (Nat × LHint) := []
noncomputable def world.Body_1.G : Ctx := ⟨Tryz.prog, sumAt world.Body_1.cs, lookH world.Body_1.hs⟩
noncomputable def world.Body_1.f (x : (Int × Int × Int × Int × Int × Int × Int × Int × Int × Int × (Nat × (Nat → List AV)))) : Option Int := evF world.Body_1.G 0 Tryz.f79 ((tOne (tG (tCons (tI .i64) (tCons (tI .i64) (tCons (tI .i64) (tCons (tI .i64) (tCons (tI .i64) (tCons (tI .i64) (tCons (tI .i64) (tCons (tI .i64) (tCons (tI .i64) (tCons (tI .i64) (tOne (tLz 2 (Rii.enc (0, 0)))))))))))))))).enc x) (tI .i64).dec
noncomputable def world.Body_1.s : Fw.Summ := .mk' (tOne (tG (tCons (tI .i64) (tCons (tI .i64) (tCons (tI .i64) (tCons (tI .i64) (tCons (tI .i64) (tCons (tI .i64) (tCons (tI .i64) (tCons (tI .i64) (tCons (tI .i64) (tCons (tI .i64) (tOne (tLz 2 (Rii.enc (0, 0)))))))))))))))) (tI .i64) world.Body_1.f
theorem world.Body_1.ok : world.Body_1.s.Ok Tryz.prog 79 :=
  summ_ok (hint := lookH world.Body_1.hs) (fn := Tryz.f79) (fun x => 0) world.Body_1.cs_ok (by kernel_rfl) (by kernel_rfl) (by kernel_rfl) (by kernel_rfl) (tOne_ok (tG_ok (tCons_ok (tI_ok _) (tCons_ok (tI_ok _) (tCons_ok (tI_ok _) (tCons_ok (tI_ok _) (tCons_ok (tI_ok _) (tCons_ok (tI_ok _) (tCons_ok (tI_ok _) (tCons_ok (tI_ok _) (tCons_ok (tI_ok _) (tCons_ok (tI_ok _) (tOne_ok (tLz_ok _ _)))))))))))))) (tI_ok _) (fun _ => rfl)
theorem world.Body_1.eq (p0_0 : Int) (p0_1 : Int) (p0_2 : Int) (p0_3 : Int) (p0_4 : Int) (p0_5 : Int) (p0_6 : Int) (p0_7 : Int) (p0_8 : Int) (p0_9 : Int) (p0_10_n : Nat) (p0_10_g : Nat → (Int × Int)) : world.Body_1.f (p0_0, p0_1, p0_2, p0_3, p0_4, p0_5, p0_6, p0_7, p0_8, p0_9, (p0_10_n, (fun i => Rii.enc (p0_10_g i)))) =
  some p0_0 := by kernel_rfl
/-! ### bagatelle/world.find[bagatelle/api.Body]$1 -/
noncomputable def world.find_Body_1.cs : List (Nat × Fw.Summ) := [(79, world.Body_1.s), (92, cmp.Compare_int.s)]
theorem world.find_Body_1.cs_ok : SumsOk Tryz.prog world.find_Body_1.cs := .cons world.Body_1.ok (.cons cmp.Compare_int.ok (.nil))
def world.find_Body_1.hs : List (Nat × LHint) := []
noncomputable def world.find_Body_1.G : Ctx := ⟨Tryz.prog, sumAt world.find_Body_1.cs, lookH world.find_Body_1.hs⟩
noncomputable def world.find_Body_1.f (x : ((Int × Int × Int × Int × Int × Int × Int × Int × Int × Int × (Nat × (Nat → List AV))) × Int × Unit)) : Option Int := evF world.find_Body_1.G 0 Tryz.f99 ((tCons (tG (tCons (tI .i64) (tCons (tI .i64) (tCons (tI .i64) (tCons (tI .i64) (tCons (tI .i64) (tCons (tI .i64) (tCons (tI .i64) (tCons (tI .i64) (tCons (tI .i64) (tCons (tI .i64) (tOne (tLz 2 (Rii.enc (0, 0))))))))))))))) (tCons (tI .i64) (tOne (tP (tOne (tF 79 tNil)))))).enc x) (tI .i64).dec
noncomputable def world.find_Body_1.s : Fw.Summ := .mk' (tCons (tG (tCons (tI .i64) (tCons (tI .i64) (tCons (tI .i64) (tCons (tI .i64) (tCons (tI .i64) (tCons (tI .i64) (tCons (tI .i64) (tCons (tI .i64) (tCons (tI .i64) (tCons (tI .i64) (tOne (tLz 2 (Rii.enc (0, 0))))))))))))))) (tCons (tI .i64) (tOne (tP (tOne (tF 79 tNil)))))) (tI .i64) world.find_Body_1.f
theorem world.find_Body_1.ok : world.find_Body_1.s.Ok Tryz.prog 99 :=
  summ_ok (hint := lookH world.find_Body_1.hs) (fn := Tryz.f99) (fun x => 0) world.find_Body_1.cs_ok (by kernel_rfl) (by kernel_rfl) (by kernel_rfl) (by kernel_rfl) (tCons_ok (tG_ok (tCons_ok (tI_ok _) (tCons_ok (tI_ok _) (tCons_ok (tI_ok _) (tCons_ok (tI_ok _) (tCons_ok (tI_ok _) (tCons_ok (tI_ok _) (tCons_ok (tI_ok _) (tCons_ok (tI_ok _) (tCons_ok (tI_ok _) (tCons_ok (tI_ok _) (tOne_ok (tLz_ok _ _))))))))))))) (tCons_ok (tI_ok _) (tOne_ok (tP_ok (tOne_ok (tF_ok _ tNil_ok)))))) (tI_ok _) (fun _ => rfl)
theorem world.find_Body_1.eq (p0_0 : Int) (p0_1 : Int) (p0_2 : Int) (p0_3 : Int) (p0_4 : Int) (p0_5 : Int) (p0_6 : Int) (p0_7 : Int) (p0_8 : Int) (p0_9 : Int) (p0_10_n : Nat) (p0_10_g : Nat → (Int × Int)) (p1 : Int) : world.find_Body_1.f ((p0_0, p0_1, p0_2, p0_3, p0_4, p0_5, p0_6, p0_7, p0_8, p0_9, (p0_10_n, (fun i => Rii.enc (p0_10_g i)))), p1, ()) =
  (world.Body_1.f (p0_0, p0_1, p0_2, p0_3, p0_4, p0_5, p0_6, p0_7, p0_8, p0_9, (p0_10_n, (fun i => Rii.enc (p0_10_g i))))).bind fun r1 =>
  (cmp.Compare_int.f (r1, p1)).bind fun r2 =>
  some r2 := by kernel_rfl
/-! ### slices.BinarySearchFunc[[]bagatelle/api.Body,bagatelle/api.Body,int] -/
noncomputable def slices.BinarySearchFunc_lBody_Body_int.cs : List (Nat × Fw.Summ) := [(99, world.find_Body_1.s)]
theorem slices.BinarySearchFunc_lBody_Body_int.cs_ok : SumsOk Tryz.prog slices.BinarySearchFunc_lBody_Body_int.cs := .cons world.find_Body_1.ok (.nil)
def slices.BinarySearchFunc_lBody_Body_int.hs : List (Nat × LHint) := [(0, { mat := [], live := [0, 1, 2, 8, 9, 10], ren := [] })]
noncomputable def slices.BinarySearchFunc_lBody_Body_int.G : Ctx := ⟨Tryz.prog, sumAt slices.BinarySearchFunc_lBody_Body_int.cs, lookH slices.BinarySearchFunc_lBody_Body_int.hs⟩
noncomputable def slices.BinarySearchFunc_lBody_Body_int.g (k0 : Nat) (x : ((Nat × (Nat → List AV)) × Int × Unit)) : Option (Int × Bool) := evF slices.BinarySearchFunc_lBody_Body_int.G k0 Tryz.f98 ((tCons (tLz 11 (RiiiiiiiiiiL2.enc (0, 0, 0, 0, 0, 0, 0, 0, 0, 0, (0, fun _ => [])))) (tCons (tI .i64) (tOne (tF 99 (tOne (tP (tOne (tF 79 tNil)))))))).enc x) (tT (tCons (tI .i64) (tOne tB))).dec
noncomputable def slices.BinarySearchFunc_lBody_Body_int.f (x : ((Nat × (Nat → List AV)) × Int × Unit)) : Option (Int × Bool) := slices.BinarySearchFunc_lBody_Body_int.g (1000000) x
noncomputable def slices.BinarySearchFunc_lBody_Body_int.s : Fw.Summ := .mk' (tCons (tLz 11 (RiiiiiiiiiiL2.enc (0, 0, 0, 0, 0, 0, 0, 0, 0, 0, (0, fun _ => [])))) (tCons (tI .i64) (tOne (tF 99 (tOne (tP (tOne (tF 79 tNil)))))))) (tT (tCons (tI .i64) (tOne tB))) slices.BinarySearchFunc_lBody_Body_int.f
theorem slices.BinarySearchFunc_lBody_Body_int.ok : slices.BinarySearchFunc_lBody_Body_int.s.Ok Tryz.prog 98 :=
  summ_ok (hint := lookH slices.BinarySearchFunc_lBody_Body_int.hs) (fn := Tryz.f98) (fun x => 1000000) slices.BinarySearchFunc_lBody_Body_int.cs_ok (by kernel_rfl) (by kernel_rfl) (by kernel_rfl) (by kernel_rfl) (tCons_ok (tLz_ok _ _) (tCons_ok (tI_ok _) (tOne_ok (tF_ok _ (tOne_ok (tP_ok (tOne_ok (tF_ok _ tNil_ok)))))))) (tT_ok (tCons_ok (tI_ok _) (tOne_ok tB_ok))) (fun _ => rfl)
noncomputable def slices.BinarySearchFunc_lBody_Body_int.l0 (k0 k1 : Nat) (v1 : Nat) (v2 : Nat → List AV) (v3 : Int) (v4 : Int) (v5 : Int) (v6 : Int) : Option (Int × Bool) :=
  evLoop (lookH slices.BinarySearchFunc_lBody_Body_int.hs 0) 0 (ev slices.BinarySearchFunc_lBody_Body_int.G k0 (codeAt [1, 1, 1, 0, 0, 0] (bodyOf Tryz.f98)) 0) k1
  ⟨[.lst 11 v1 none v2, .val (.int .i64 v3), .fn 99 [.rp [.fn 79 []] 0], .top, .top, .top, .top, .top, .val (.int .i64 v4), .val (.int .i64 v5), .val (.int .i64 v6), .top, .top, .top, .top, .top, .top, .top, .top, .top, .top, .top, .top, .top, .top, .top, .top, .top, .top, .top, .top, .top, .top, .top, .top, .top, .top, .top, .top, .top, .top, .top, .top, .top, .top, .top, .top, .top, .top], []⟩
  (kBlock 0 (kSeq slices.BinarySearchFunc_lBody_Body_int.G k0 (codeAt [1, 1, 1, 1] (bodyOf Tryz.f98)) 0 (kFin slices.BinarySearchFunc_lBody_Body_int.G Tryz.f98 (tT (tCons (tI .i64) (tOne tB))).dec)))
theorem slices.BinarySearchFunc_lBody_Body_int.l0_eq (k0 k1 : Nat) (v1 : Nat) (v2 : Nat → (Int × Int × Int × Int × Int × Int × Int × Int × Int × Int × (Nat × (Nat → List AV)))) (v3 : Int) (v4 : Int) (v5 : Int) (v6 : Int) : slices.BinarySearchFunc_lBody_Body_int.l0 k0 (k1 + 1) v1 (fun i => RiiiiiiiiiiL2.enc (v2 i)) v3 v4 v5 v6 =
  bif (decide (v5 < v6)) then
    bif ((decide (0 ≤ (IntKind.i64.wrap (Int.fdiv (IntKind.u64.wrap (IntKind.i64.wrap (v5 + v6))) (2 ^ 1))))) && (decide ((IntKind.i64.wrap (Int.fdiv (IntKind.u64.wrap (IntKind.i64.wrap (v5 + v6))) (2 ^ 1))) < ((v1 : Nat) : Int)))) then
    (world.find_Body_1.f (((v2 (Int.toNat (IntKind.i64.wrap (Int.fdiv (IntKind.u64.wrap (IntKind.i64.wrap (v5 + v6))) (2 ^ 1))))).1, (v2 (Int.toNat (IntKind.i64.wrap (Int.fdiv (IntKind.u64.wrap (IntKind.i64.wrap (v5 + v6))) (2 ^ 1))))).2.1, (v2 (Int.toNat (IntKind.i64.wrap (Int.fdiv (IntKind.u64.wrap (IntKind.i64.wrap (v5 + v6))) (2 ^ 1))))).2.2.1, (v2 (Int.toNat (IntKind.i64.wrap (Int.fdiv (IntKind.u64.wrap (IntKind.i64.wrap (v5 + v6))) (2 ^ 1))))).2.2.2.1, (v2 (Int.toNat (IntKind.i64.wrap (Int.fdiv (IntKind.u64.wrap (IntKind.i64.wrap (v5 + v6))) (2 ^ 1))))).2.2.2.2.1, (v2 (Int.toNat (IntKind.i64.wrap (Int.fdiv (IntKind.u64.wrap (IntKind.i64.wrap (v5 + v6))) (2 ^ 1))))).2.2.2.2.2.1, (v2 (Int.toNat (IntKind.i64.wrap (Int.fdiv (IntKind.u64.wrap (IntKind.i64.wrap (v5 + v6))) (2 ^ 1))))).2.2.2.2.2.2.1, (v2 (Int.toNat (IntKind.i64.wrap (Int.fdiv (IntKind.u64.wrap (IntKind.i64.wrap (v5 + v6))) (2 ^ 1))))).2.2.2.2.2.2.2.1, (v2 (Int.toNat (IntKind.i64.wrap (Int.fdiv (IntKind.u64.wrap (IntKind.i64.wrap (v5 + v6))) (2 ^ 1))))).2.2.2.2.2.2.2.2.1, (v2 (Int.toNat (IntKind.i64.wrap (Int.fdiv (IntKind.u64.wrap (IntKind.i64.wrap (v5 + v6))) (2 ^ 1))))).2.2.2.2.2.2.2.2.2.1, ((v2 (Int.toNat (IntKind.i64.wrap (Int.fdiv (IntKind.u64.wrap (IntKind.i64.wrap (v5 + v6))) (2 ^ 1))))).2.2.2.2.2.2.2.2.2.2.1, (v2 (Int.toNat (IntKind.i64.wrap (Int.fdiv (IntKind.u64.wrap (IntKind.i64.wrap (v5 + v6))) (2 ^ 1))))).2.2.2.2.2.2.2.2.2.2.2)), v3, ())).bind fun r1 =>
    bif (decide (r1 < 0)) then
      slices.BinarySearchFunc_lBody_Body_int.l0 k0 k1 v1 (fun i => RiiiiiiiiiiL2.enc (v2 i)) v3 v4 (IntKind.i64.wrap ((IntKind.i64.wrap (Int.fdiv (IntKind.u64.wrap (IntKind.i64.wrap (v5 + v6))) (2 ^ 1))) + 1)) v6
    else
    slices.BinarySearchFunc_lBody_Body_int.l0 k0 k1 v1 (fun i => RiiiiiiiiiiL2.enc (v2 i)) v3 v4 v5 (IntKind.i64.wrap (Int.fdiv (IntKind.u64.wrap (IntKind.i64.wrap (v5 + v6))) (2 ^ 1)))
    else none
  else
  bif (decide (v5 < v4)) then
    bif ((decide (0 ≤ v5)) && (decide (v5 < ((v1 : Nat) : Int)))) then
    (world.find_Body_1.f (((v2 (Int.toNat v5)).1, (v2 (Int.toNat v5)).2.1, (v2 (Int.toNat v5)).2.2.1, (v2 (Int.toNat v5)).2.2.2.1, (v2 (Int.toNat v5)).2.2.2.2.1, (v2 (Int.toNat v5)).2.2.2.2.2.1, (v2 (Int.toNat v5)).2.2.2.2.2.2.1, (v2 (Int.toNat v5)).2.2.2.2.2.2.2.1, (v2 (Int.toNat v5)).2.2.2.2.2.2.2.2.1, (v2 (Int.toNat v5)).2.2.2.2.2.2.2.2.2.1, ((v2 (Int.toNat v5)).2.2.2.2.2.2.2.2.2.2.1, (v2 (Int.toNat v5)).2.2.2.2.2.2.2.2.2.2.2)), v3, ())).bind fun r2 =>
    some (v5, (r2 == 0))
    else none
  else
  some (v5, false) := by kernel_rfl
theorem slices.BinarySearchFunc_lBody_Body_int.eq (k0 : Nat) (p0_n : Nat) (p0_g : Nat → (Int × Int × Int × Int × Int × Int × Int × Int × Int × Int × (Nat × (Nat → List AV)))) (p1 : Int) : slices.BinarySearchFunc_lBody_Body_int.g k0 ((p0_n, (fun i => RiiiiiiiiiiL2.enc (p0_g i))), p1, ()) =
  slices.BinarySearchFunc_lBody_Body_int.l0 k0 k0 p0_n (fun i => RiiiiiiiiiiL2.enc (p0_g i)) p1 ((p0_n : Nat) : Int) 0 ((p0_n : Nat) : Int) := by kernel_rfl
/-! ### bagatelle/world.find[bagatelle/api.Body] -/
noncomputable def world.find_Body.cs : List (Nat × Fw.Summ) := [(98, slices.BinarySearchFunc_lBody_Body_int.s)]
theorem world.find_Body.cs_ok : SumsOk Tryz.prog world.find_Body.cs := .cons slices.BinarySearchFunc_lBody_Body_int.ok (.nil)
def world.find_Body.hs : List (Nat × LHint) := []
noncomputable def world.find_Body.G : Ctx := ⟨Tryz.prog, sumAt world.find_Body.cs, lookH world.find_Body.hs⟩
noncomputable def world.find_Body.f (x : ((Nat × (Nat → List AV)) × Int × Unit)) : Option (Int × Bool) := evF world.find_Body.G 0 Tryz.f78 ((tCons (tLz 11 (RiiiiiiiiiiL2.enc (0, 0, 0, 0, 0, 0, 0, 0, 0, 0, (0, fun _ => [])))) (tCons (tI .i64) (tOne (tF 79 tNil)))).enc x) (tT (tCons (tI .i64) (tOne tB))).dec
noncomputable def world.find_Body.s : Fw.Summ := .mk' (tCons (tLz 11 (RiiiiiiiiiiL2.enc (0, 0, 0, 0, 0, 0, 0, 0, 0, 0, (0, fun _ => [])))) (tCons (tI .i64) (tOne (tF 79 tNil)))) (tT (tCons (tI .i64) (tOne tB))) world.find_Body.f
theorem world.find_Body.ok : world.find_Body.s.Ok Tryz.prog 78 :=
  summ_ok (hint := lookH world.find_Body.hs) (fn := Tryz.f78) (fun x => 0) world.find_Body.cs_ok (by kernel_rfl) (by kernel_rfl) (by kernel_rfl) (by kernel_rfl) (tCons_ok (tLz_ok _ _) (tCons_ok (tI_ok _) (tOne_ok (tF_ok _ tNil_ok)))) (tT_ok (tCons_ok (tI_ok _) (tOne_ok tB_ok))) (fun _ => rfl)
theorem world.find_Body.eq (p0_n : Nat) (p0_g : Nat → (Int × Int × Int × Int × Int × Int × Int × Int × Int × Int × (Nat × (Nat → List AV)))) (p1 : Int) : world.find_Body.f ((p0_n, (fun i => RiiiiiiiiiiL2.enc (p0_g i))), p1, ()) =
  (slices.BinarySearchFunc_lBody_Body_int.f ((p0_n, (fun i => RiiiiiiiiiiL2.enc (p0_g i))), p1, ())).bind fun r1 =>
  bif (!r1.2) then
    some (0, false)
  else
  some (r1.1, true) := by kernel_rfl
/-! ### bagatelle/world.Body -/
noncomputable def world.Body.cs : List (Nat × Fw.Summ) := [(78, world.find_Body.s)]
theorem world.Body.cs_ok : SumsOk Tryz.prog world.Body.cs := .cons world.find_Body.ok (.nil)
def world.Body.hs : List (Nat × LHint) := []
noncomputable def world.Body.G : Ctx := ⟨Tryz.prog, sumAt world.Body.cs, lookH world.Body.hs⟩
noncomputable def world.Body.f (x : ((Int × Int × Int × Int × Int × (Nat × (Nat → List AV)) × (Nat × (Nat → List AV)) × (Nat × (Nat → List AV))) × Int)) : Option (Int × Bool) := evF world.Body.G 0 Tryz.f46 ((tCons (tG (tCons (tI .i64) (tCons (tI .i64) (tCons (tI .i64) (tCons (tI .i64) (tCons (tI .i64) (tCons (tLz 11 (RiiiiiiiiiiL2.enc (0, 0, 0, 0, 0, 0, 0, 0, 0, 0, (0, fun _ => [])))) (tCons (tLz 8 (Riiiiiiii.enc (0, 0, 0, 0, 0, 0, 0, 0))) (tOne (tLz 5 (Riiiii.enc (0, 0, 0, 0, 0)))))))))))) (tOne (tI .i64))).enc x) (tT (tCons (tI .i64) (tOne tB))).dec
noncomputable def world.Body.s : Fw.Summ := .mk' (tCons (tG (tCons (tI .i64) (tCons (tI .i64) (tCons (tI .i64) (tCons (tI .i64) (tCons (tI .i64) (tCons (tLz 11 (RiiiiiiiiiiL2.enc (0, 0, 0, 0, 0, 0, 0, 0, 0, 0, (0, fun _ => [])))) (tCons (tLz 8 (Riiiiiiii.enc (0, 0, 0, 0, 0, 0, 0, 0))) (tOne (tLz 5 (Riiiii.enc (0, 0, 0, 0, 0)))))))))))) (tOne (tI .i64))) (tT (tCons (tI .i64) (tOne tB))) world.Body.f
theorem world.Body.ok : world.Body.s.Ok Tryz.prog 46 :=
  summ_ok (hint := lookH world.Body.hs) (fn := Tryz.f46) (fun x => 0) world.Body.cs_ok (by kernel_rfl) (by kernel_rfl) (by kernel_rfl) (by kernel_rfl) (tCons_ok (tG_ok (tCons_ok (tI_ok _) (tCons_ok (tI_ok _) (tCons_ok (tI_ok _) (tCons_ok (tI_ok _) (tCons_ok (tI_ok _) (tCons_ok (tLz_ok _ _) (tCons_ok (tLz_ok _ _) (tOne_ok (tLz_ok _ _)))))))))) (tOne_ok (tI_ok _))) (tT_ok (tCons_ok (tI_ok _) (tOne_ok tB_ok))) (fun _ => rfl)
theorem world.Body.eq (p0_0 : Int) (p0_1 : Int) (p0_2 : Int) (p0_3 : Int) (p0_4 : Int) (p0_5_n : Nat) (p0_5_g : Nat → (Int × Int × Int × Int × Int × Int × Int × Int × Int × Int × (Nat × (Nat → List AV)))) (p0_6_n : Nat) (p0_6_g : Nat → (Int × Int × Int × Int × Int × Int × Int × Int)) (p0_7_n : Nat) (p0_7_g : Nat → (Int × Int × Int × Int × Int)) (p1 : Int) : world.Body.f ((p0_0, p0_1, p0_2, p0_3, p0_4, (p0_5_n, (fun i => RiiiiiiiiiiL2.enc (p0_5_g i))), (p0_6_n, (fun i => Riiiiiiii.enc (p0_6_g i))), (p0_7_n, (fun i => Riiiii.enc (p0_7_g i)))), p1) =
  (world.find_Body.f ((p0_5_n, (fun i => RiiiiiiiiiiL2.enc (p0_5_g i))), p1, ())).bind fun r1 =>
  some (r1.1, r1.2) := by kernel_rfl
/-! ### bagatelle/order.over -/
noncomputable def order.over.cs : List (Nat × Fw.Summ) := [(46, world.Body.s)]
theorem order.over.cs_ok : SumsOk Tryz.prog order.over.cs := .cons world.Body.ok (.nil)
def order.over.hs : List (Nat × LHint) := []
noncomputable def order.over.G : Ctx := ⟨Tryz.prog, sumAt order.over.cs, lookH order.over.hs⟩
noncomputable def order.over.f (x : ((Int × Int × Int × Int × Int × (Nat × (Nat → List AV)) × (Nat × (Nat → List AV)) × (Nat × (Nat → List AV))) × (Int × Int × Int × Int × Int × Int × Int × Int × Int × Int × Int × Int × Int × Int × (Nat × (Nat → List AV))))) : Option Bool := evF order.over.G 0 Tryz.f73 ((tCons (tG (tCons (tI .i64) (tCons (tI .i64) (tCons (tI .i64) (tCons (tI .i64) (tCons (tI .i64) (tCons (tLz 11 (RiiiiiiiiiiL2.enc (0, 0, 0, 0, 0, 0, 0, 0, 0, 0, (0, fun _ => [])))) (tCons (tLz 8 (Riiiiiiii.enc (0, 0, 0, 0, 0, 0, 0, 0))) (tOne (tLz 5 (Riiiii.enc (0, 0, 0, 0, 0)))))))))))) (tOne (tG (tCons (tI .i64) (tCons (tI .i64) (tCons (tI .i64) (tCons (tI .i64) (tCons (tI .i64) (tCons (tI .i64) (tCons (tI .i64) (tCons (tI .i64) (tCons (tI .i64) (tCons (tI .i64) (tCons (tI .i64) (tCons (tI .i64) (tCons (tI .i64) (tCons (tI .i64) (tOne (tLz 2 (Rii.enc (0, 0))))))))))))))))))))).enc x) tB.dec
noncomputable def order.over.s : Fw.Summ := .mk' (tCons (tG (tCons (tI .i64) (tCons (tI .i64) (tCons (tI .i64) (tCons (tI .i64) (tCons (tI .i64) (tCons (tLz 11 (RiiiiiiiiiiL2.enc (0, 0, 0, 0, 0, 0, 0, 0, 0, 0, (0, fun _ => [])))) (tCons (tLz 8 (Riiiiiiii.enc (0, 0, 0, 0, 0, 0, 0, 0))) (tOne (tLz 5 (Riiiii.enc (0, 0, 0, 0, 0)))))))))))) (tOne (tG (tCons (tI .i64) (tCons (tI .i64) (tCons (tI .i64) (tCons (tI .i64) (tCons (tI .i64) (tCons (tI .i64) (tCons (tI .i64) (tCons (tI .i64) (tCons (tI .i64) (tCons (tI .i64) (tCons (tI .i64) (tCons (tI .i64) (tCons (tI .i64) (tCons (tI .i64) (tOne (tLz 2 (Rii.enc (0, 0))))))))))))))))))))) tB order.over.f
theorem order.over.ok : order.over.s.Ok Tryz.prog 73 :=
  summ_ok (hint := lookH order.over.hs) (fn := Tryz.f73) (fun x => 0) order.over.cs_ok (by kernel_rfl) (by kernel_rfl) (by kernel_rfl) (by kernel_rfl) (tCons_ok (tG_ok (tCons_ok (tI_ok _) (tCons_ok (tI_ok _) (tCons_ok (tI_ok _) (tCons_ok (tI_ok _) (tCons_ok (tI_ok _) (tCons_ok (tLz_ok _ _) (tCons_ok (tLz_ok _ _) (tOne_ok (tLz_ok _ _)))))))))) (tOne_ok (tG_ok (tCons_ok (tI_ok _) (tCons_ok (tI_ok _) (tCons_ok (tI_ok _) (tCons_ok (tI_ok _) (tCons_ok (tI_ok _) (tCons_ok (tI_ok _) (tCons_ok (tI_ok _) (tCons_ok (tI_ok _) (tCons_ok (tI_ok _) (tCons_ok (tI_ok _) (tCons_ok (tI_ok _) (tCons_ok (tI_ok _) (tCons_ok (tI_ok _) (tCons_ok (tI_ok _) (tOne_ok (tLz_ok _ _))))))))))))))))))) tB_ok (fun _ => rfl)
theorem order.over.eq (p0_0 : Int) (p0_1 : Int) (p0_2 : Int) (p0_3 : Int) (p0_4 : Int) (p0_5_n : Nat) (p0_5_g : Nat → (Int × Int × Int × Int × Int × Int × Int × Int × Int × Int × (Nat × (Nat → List AV)))) (p0_6_n : Nat) (p0_6_g : Nat → (Int × Int × Int × Int × Int × Int × Int × Int)) (p0_7_n : Nat) (p0_7_g : Nat → (Int × Int × Int × Int × Int)) (p1_0 : Int) (p1_1 : Int) (p1_2 : Int) (p1_3 : Int) (p1_4 : Int) (p1_5 : Int) (p1_6 : Int) (p1_7 : Int) (p1_8 : Int) (p1_9 : Int) (p1_10 : Int) (p1_11 : Int) (p1_12 : Int) (p1_13 : Int) (p1_14_n : Nat) (p1_14_g : Nat → (Int × Int)) : order.over.f ((p0_0, p0_1, p0_2, p0_3, p0_4, (p0_5_n, (fun i => RiiiiiiiiiiL2.enc (p0_5_g i))), (p0_6_n, (fun i => Riiiiiiii.enc (p0_6_g i))), (p0_7_n, (fun i => Riiiii.enc (p0_7_g i)))), (p1_0, p1_1, p1_2, p1_3, p1_4, p1_5, p1_6, p1_7, p1_8, p1_9, p1_10, p1_11, p1_12, p1_13, (p1_14_n, (fun i => Rii.enc (p1_14_g i))))) =
  bif (p1_0 == 1) then
    bif (decide (((p0_5_n : Nat) : Int) ≥ 1024)) then
      some true
    else
    some (decide (p0_1 ≥ 4611686018427387904))
  else
  bif (p1_0 == 3) then
    (world.Body.f ((p0_0, p0_1, p0_2, p0_3, p0_4, (p0_5_n, (fun i => RiiiiiiiiiiL2.enc (p0_5_g i))), (p0_6_n, (fun i => Riiiiiiii.enc (p0_6_g i))), (p0_7_n, (fun i => Riiiii.enc (p0_7_g i)))), p1_2)).bind fun r1 =>
    (world.Body.f ((p0_0, p0_1, p0_2, p0_3, p0_4, (p0_5_n, (fun i => RiiiiiiiiiiL2.enc (p0_5_g i))), (p0_6_n, (fun i => Riiiiiiii.enc (p0_6_g i))), (p0_7_n, (fun i => Riiiii.enc (p0_7_g i)))), p1_3)).bind fun r2 =>
    bif r1.2 then
      bif r2.2 then
        bif (decide (((p0_6_n : Nat) : Int) ≥ 1024)) then
          some true
        else
        some (decide (p0_2 ≥ 4611686018427387904))
      else
      some false
    else
    some false
  else
  some false := by kernel_rfl
/-! ### slices.Clip[[]bagatelle/api.Body,bagatelle/api.Body] -/
noncomputable def slices.Clip_lBody_Body.cs : List (Nat × Fw.Summ) := []
theorem slices.Clip_lBody_Body.cs_ok : SumsOk Tryz.prog slices.Clip_lBody_Body.cs := .nil
def slices.Clip_lBody_Body.hs : List (Nat × LHint) := []
noncomputable def slices.Clip_lBody_Body.G : Ctx := ⟨Tryz.prog, sumAt slices.Clip_lBody_Body.cs, lookH slices.Clip_lBody_Body.hs⟩
noncomputable def slices.Clip_lBody_Body.f (x : (Nat × (Nat → List AV))) : Option (Nat × (Nat → (Int × Int × Int × Int × Int × Int × Int × Int × Int × Int × (Nat × (Nat → List AV))))) := evF slices.Clip_lBody_Body.G 0 Tryz.f44 ((tOne (tLz 11 (RiiiiiiiiiiL2.enc (0, 0, 0, 0, 0, 0, 0, 0, 0, 0, (0, fun _ => []))))).enc x) (tTC RiiiiiiiiiiL2 11 (0, 0, 0, 0, 0, 0, 0, 0, 0, 0, (0, fun _ => []))).dec
noncomputable def slices.Clip_lBody_Body.s : Fw.Summ := .mk' (tOne (tLz 11 (RiiiiiiiiiiL2.enc (0, 0, 0, 0, 0, 0, 0, 0, 0, 0, (0, fun _ => []))))) (tTC RiiiiiiiiiiL2 11 (0, 0, 0, 0, 0, 0, 0, 0, 0, 0, (0, fun _ => []))) slices.Clip_lBody_Body.f
theorem slices.Clip_lBody_Body.ok : slices.Clip_lBody_Body.s.Ok Tryz.prog 44 :=
  summ_ok (hint := lookH slices.Clip_lBody_Body.hs) (fn := Tryz.f44) (fun x => 0) slices.Clip_lBody_Body.cs_ok (by kernel_rfl) (by kernel_rfl) (by kernel_rfl) (by kernel_rfl) (tOne_ok (tLz_ok _ _)) (tTC_ok RiiiiiiiiiiL2_ok _ _) (fun _ => rfl)
theorem slices.Clip_lBody_Body.eq (p0_n : Nat) (p0_g : Nat → (Int × Int × Int × Int × Int × Int × Int × Int × Int × Int × (Nat × (Nat → List AV)))) : slices.Clip_lBody_Body.f (p0_n, (fun i => RiiiiiiiiiiL2.enc (p0_g i))) =
  bif (((decide (0 ≤ ((p0_n : Nat) : Int))) && (decide (((p0_n : Nat) : Int) ≤ ((p0_n : Nat) : Int)))) && (decide (((p0_n : Nat) : Int) ≤ ((p0_n : Nat) : Int)))) then
  (tTC RiiiiiiiiiiL2 11 (0, 0, 0, 0, 0, 0, 0, 0, 0, 0, (0, fun _ => []))).dec (.lst 11 (Int.toNat ((p0_n : Nat) : Int)) (some (Int.toNat ((p0_n : Nat) : Int))) (fun i => RiiiiiiiiiiL2.enc (p0_g i)))
  else none := by kernel_rfl
/-! ### bagatelle/world.AddBody -/
noncomputable def world.AddBody.cs : List (Nat × Fw.Summ) := [(33, world.RightBody.s), (40, shape.Copy.s), (44, slices.Clip_lBody_Body.s)]
theorem world.AddBody.cs_ok : SumsOk Tryz.prog world.AddBody.cs := .cons world.RightBody.ok (.cons shape.Copy.ok (.cons slices.Clip_lBody_Body.ok (.nil)))
noncomputable def world.AddBody.G : Ctx := ⟨Tryz.prog, sumAt world.AddBody.cs, fun _ => { unroll := true }⟩
noncomputable def world.AddBody.f (x : (Int × Int × Int × Int × Int × (Nat × (Nat → List AV)) × (Nat × (Nat → List AV)) × (Nat × (Nat → List AV))) × (Int × Int × Int × Int × Int × Int × Int × Int × Int × Int × (Nat × (Nat → List AV)))) : Option ((Int × Int) × (Int × Int × Int × Int × Int × (Nat × (Nat → (Int × Int × Int × Int × Int × Int × Int × Int × Int × Int × (Nat × (Nat → List AV))))) × (Nat × (Nat → (Int × Int × Int × Int × Int × Int × Int × Int))) × (Nat × (Nat → (Int × Int × Int × Int × Int))))) := evG world.AddBody.G Tryz.f11 42 ((tCons (tI .i64) (tCons (tI .i64) (tCons (tI .i64) (tCons (tI .i64) (tCons (tI .i64) (tCons (tLz 11 (RiiiiiiiiiiL2.enc (0, 0, 0, 0, 0, 0, 0, 0, 0, 0, (0, fun _ => [])))) (tCons (tLz 8 (Riiiiiiii.enc (0, 0, 0, 0, 0, 0, 0, 0))) (tOne (tLz 5 (Riiiii.enc (0, 0, 0, 0, 0))))))))))).enc x.1) ((tOne (tG (tCons (tI .i64) (tCons (tI .i64) (tCons (tI .i64) (tCons (tI .i64) (tCons (tI .i64) (tCons (tI .i64) (tCons (tI .i64) (tCons (tI .i64) (tCons (tI .i64) (tCons (tI .i64) (tOne (tLz 2 (Rii.enc (0, 0)))))))))))))))).enc x.2) (outD (tT (tCons (tI .i64) (tOne (tI .i64)))) (tCons (tI .i64) (tCons (tI .i64) (tCons (tI .i64) (tCons (tI .i64) (tCons (tI .i64) (tCons (tTL RiiiiiiiiiiL2 11 (0, 0, 0, 0, 0, 0, 0, 0, 0, 0, (0, fun _ => []))) (tCons (tTL Riiiiiiii 8 (0, 0, 0, 0, 0, 0, 0, 0)) (tOne (tTL Riiiii 5 (0, 0, 0, 0, 0)))))))))))
noncomputable def world.AddBody.s : Fw.Summ := .mkO2 42 (tCons (tI .i64) (tCons (tI .i64) (tCons (tI .i64) (tCons (tI .i64) (tCons (tI .i64) (tCons (tLz 11 (RiiiiiiiiiiL2.enc (0, 0, 0, 0, 0, 0, 0, 0, 0, 0, (0, fun _ => [])))) (tCons (tLz 8 (Riiiiiiii.enc (0, 0, 0, 0, 0, 0, 0, 0))) (tOne (tLz 5 (Riiiii.enc (0, 0, 0, 0, 0))))))))))) (tCons (tI .i64) (tCons (tI .i64) (tCons (tI .i64) (tCons (tI .i64) (tCons (tI .i64) (tCons (tTL RiiiiiiiiiiL2 11 (0, 0, 0, 0, 0, 0, 0, 0, 0, 0, (0, fun _ => []))) (tCons (tTL Riiiiiiii 8 (0, 0, 0, 0, 0, 0, 0, 0)) (tOne (tTL Riiiii 5 (0, 0, 0, 0, 0)))))))))) (tOne (tG (tCons (tI .i64) (tCons (tI .i64) (tCons (tI .i64) (tCons (tI .i64) (tCons (tI .i64) (tCons (tI .i64) (tCons (tI .i64) (tCons (tI .i64) (tCons (tI .i64) (tCons (tI .i64) (tOne (tLz 2 (Rii.enc (0, 0)))))))))))))))) (tT (tCons (tI .i64) (tOne (tI .i64)))) world.AddBody.f
theorem world.AddBody.ok : world.AddBody.s.Ok Tryz.prog 11 :=
  osumm2_ok (fn := Tryz.f11) world.AddBody.cs_ok (by kernel_rfl) (by kernel_rfl) (by kernel_rfl) (by kernel_rfl) (tCons_ok (tI_ok _) (tCons_ok (tI_ok _) (tCons_ok (tI_ok _) (tCons_ok (tI_ok _) (tCons_ok (tI_ok _) (tCons_ok (tLz_ok _ _) (tCons_ok (tLz_ok _ _) (tOne_ok (tLz_ok _ _))))))))) (tCons_ok (tI_ok _) (tCons_ok (tI_ok _) (tCons_ok (tI_ok _) (tCons_ok (tI_ok _) (tCons_ok (tI_ok _) (tCons_ok (tTL_ok RiiiiiiiiiiL2_ok _ _) (tCons_ok (tTL_ok Riiiiiiii_ok _ _) (tOne_ok (tTL_ok Riiiii_ok _ _))))))))) (tOne_ok (tG_ok (tCons_ok (tI_ok _) (tCons_ok (tI_ok _) (tCons_ok (tI_ok _) (tCons_ok (tI_ok _) (tCons_ok (tI_ok _) (tCons_ok (tI_ok _) (tCons_ok (tI_ok _) (tCons_ok (tI_ok _) (tCons_ok (tI_ok _) (tCons_ok (tI_ok _) (tOne_ok (tLz_ok _ _)))))))))))))) (tT_ok (tCons_ok (tI_ok _) (tOne_ok (tI_ok _)))) (fun _ => rfl)
theorem world.AddBody.eq (o_0 : Int) (o_1 : Int) (o_2 : Int) (o_3 : Int) (o_4 : Int) (o_5_n : Nat) (o_5_g : Nat → (Int × Int × Int × Int × Int × Int × Int × Int × Int × Int × (Nat × (Nat → List AV)))) (o_6_n : Nat) (o_6_g : Nat → (Int × Int × Int × Int × Int × Int × Int × Int)) (o_7_n : Nat) (o_7_g : Nat → (Int × Int × Int × Int × Int)) (p0_0 : Int) (p0_1 : Int) (p0_2 : Int) (p0_3 : Int) (p0_4 : Int) (p0_5 : Int) (p0_6 : Int) (p0_7 : Int) (p0_8 : Int) (p0_9 : Int) (p0_10_n : Nat) (p0_10_g : Nat → (Int × Int)) : world.AddBody.f ((o_0, o_1, o_2, o_3, o_4, (o_5_n, (fun i => RiiiiiiiiiiL2.enc (o_5_g i))), (o_6_n, (fun i => Riiiiiiii.enc (o_6_g i))), (o_7_n, (fun i => Riiiii.enc (o_7_g i)))), (p0_0, p0_1, p0_2, p0_3, p0_4, p0_5, p0_6, p0_7, p0_8, p0_9, (p0_10_n, (fun i => Rii.enc (p0_10_g i))))) =
  (world.RightBody.f (p0_0, p0_1, p0_2, p0_3, p0_4, p0_5, p0_6, p0_7, p0_8, p0_9, (p0_10_n, (fun i => Rii.enc (p0_10_g i))))).bind fun r1 =>
  bif (!r1) then
    outD (tT (tCons (tI .i64) (tOne (tI .i64)))) (tCons (tI .i64) (tCons (tI .i64) (tCons (tI .i64) (tCons (tI .i64) (tCons (tI .i64) (tCons (tTL RiiiiiiiiiiL2 11 (0, 0, 0, 0, 0, 0, 0, 0, 0, 0, (0, fun _ => []))) (tCons (tTL Riiiiiiii 8 (0, 0, 0, 0, 0, 0, 0, 0)) (tOne (tTL Riiiii 5 (0, 0, 0, 0, 0)))))))))) (.tup [.val (.int .i64 0), .val (.int .i64 2)]) [.val (.int .i64 o_0), .val (.int .i64 o_1), .val (.int .i64 o_2), .val (.int .i64 o_3), .val (.int .i64 o_4), .lst 11 o_5_n none (fun i => RiiiiiiiiiiL2.enc (o_5_g i)), .lst 8 o_6_n none (fun i => Riiiiiiii.enc (o_6_g i)), .lst 5 o_7_n none (fun i => Riiiii.enc (o_7_g i))]
  else
  bif (decide (((o_5_n : Nat) : Int) ≥ 1024)) then
    outD (tT (tCons (tI .i64) (tOne (tI .i64)))) (tCons (tI .i64) (tCons (tI .i64) (tCons (tI .i64) (tCons (tI .i64) (tCons (tI .i64) (tCons (tTL RiiiiiiiiiiL2 11 (0, 0, 0, 0, 0, 0, 0, 0, 0, 0, (0, fun _ => []))) (tCons (tTL Riiiiiiii 8 (0, 0, 0, 0, 0, 0, 0, 0)) (tOne (tTL Riiiii 5 (0, 0, 0, 0, 0)))))))))) (.tup [.val (.int .i64 0), .val (.int .i64 3)]) [.val (.int .i64 o_0), .val (.int .i64 o_1), .val (.int .i64 o_2), .val (.int .i64 o_3), .val (.int .i64 o_4), .lst 11 o_5_n none (fun i => RiiiiiiiiiiL2.enc (o_5_g i)), .lst 8 o_6_n none (fun i => Riiiiiiii.enc (o_6_g i)), .lst 5 o_7_n none (fun i => Riiiii.enc (o_7_g i))]
  else
  bif (decide (o_1 ≥ 4611686018427387904)) then
    outD (tT (tCons (tI .i64) (tOne (tI .i64)))) (tCons (tI .i64) (tCons (tI .i64) (tCons (tI .i64) (tCons (tI .i64) (tCons (tI .i64) (tCons (tTL RiiiiiiiiiiL2 11 (0, 0, 0, 0, 0, 0, 0, 0, 0, 0, (0, fun _ => []))) (tCons (tTL Riiiiiiii 8 (0, 0, 0, 0, 0, 0, 0, 0)) (tOne (tTL Riiiii 5 (0, 0, 0, 0, 0)))))))))) (.tup [.val (.int .i64 0), .val (.int .i64 3)]) [.val (.int .i64 o_0), .val (.int .i64 o_1), .val (.int .i64 o_2), .val (.int .i64 o_3), .val (.int .i64 o_4), .lst 11 o_5_n none (fun i => RiiiiiiiiiiL2.enc (o_5_g i)), .lst 8 o_6_n none (fun i => Riiiiiiii.enc (o_6_g i)), .lst 5 o_7_n none (fun i => Riiiii.enc (o_7_g i))]
  else
  (shape.Copy.f (p0_8, p0_9, (p0_10_n, (fun i => Rii.enc (p0_10_g i))))).bind fun r2 =>
  (slices.Clip_lBody_Body.f (o_5_n, (fun i => RiiiiiiiiiiL2.enc (o_5_g i)))).bind fun r3 =>
  bif ((decide (r3.1 ≤ r3.1)) && (decide ((r3.1 + 1) * 104 ≤ 140737488355328))) then
  outD (tT (tCons (tI .i64) (tOne (tI .i64)))) (tCons (tI .i64) (tCons (tI .i64) (tCons (tI .i64) (tCons (tI .i64) (tCons (tI .i64) (tCons (tTL RiiiiiiiiiiL2 11 (0, 0, 0, 0, 0, 0, 0, 0, 0, 0, (0, fun _ => []))) (tCons (tTL Riiiiiiii 8 (0, 0, 0, 0, 0, 0, 0, 0)) (tOne (tTL Riiiii 5 (0, 0, 0, 0, 0)))))))))) (.tup [.val (.int .i64 o_1), .val (.int .i64 0)]) [.val (.int .i64 o_0), .val (.int .i64 (IntKind.i64.wrap (o_1 + 1))), .val (.int .i64 o_2), .val (.int .i64 o_3), .val (.int .i64 o_4), .lst 11 (r3.1 + 1) none (fun i => cloL (if i = r3.1 then RiiiiiiiiiiL2.enc (o_1, p0_1, p0_2, p0_3, p0_4, p0_5, p0_6, p0_7, r2.1, r2.2.1, (r2.2.2.1, (fun i => Rii.enc (r2.2.2.2 i)))) else RiiiiiiiiiiL2.enc (r3.2 i))), .lst 8 o_6_n none (fun i => Riiiiiiii.enc (o_6_g i)), .lst 5 o_7_n none (fun i => Riiiii.enc (o_7_g i))]
  else none := by kernel_rfl
/-! ### bagatelle/world.RemoveBody$1 -/
noncomputable def world.RemoveBody_1.cs : List (Nat × Fw.Summ) := []
theorem world.RemoveBody_1.cs_ok : SumsOk Tryz.prog world.RemoveBody_1.cs := .nil
def world.RemoveBody_1.hs : List (Nat × LHint) := []
noncomputable def world.RemoveBody_1.G : Ctx := ⟨Tryz.prog, sumAt world.RemoveBody_1.cs, lookH world.RemoveBody_1.hs⟩
noncomputable def world.RemoveBody_1.f (x : ((Int × Int × Int × Int × Int × Int × Int × Int × Int × Int × (Nat × (Nat → List AV))) × Int)) : Option Bool := evF world.RemoveBody_1.G 0 Tryz.f49 ((tCons (tG (tCons (tI .i64) (tCons (tI .i64) (tCons (tI .i64) (tCons (tI .i64) (tCons (tI .i64) (tCons (tI .i64) (tCons (tI .i64) (tCons (tI .i64) (tCons (tI .i64) (tCons (tI .i64) (tOne (tLz 2 (Rii.enc (0, 0))))))))))))))) (tOne (tP (tOne (tI .i64))))).enc x) tB.dec
noncomputable def world.RemoveBody_1.s : Fw.Summ := .mk' (tCons (tG (tCons (tI .i64) (tCons (tI .i64) (tCons (tI .i64) (tCons (tI .i64) (tCons (tI .i64) (tCons (tI .i64) (tCons (tI .i64) (tCons (tI .i64) (tCons (tI .i64) (tCons (tI .i64) (tOne (tLz 2 (Rii.enc (0, 0))))))))))))))) (tOne (tP (tOne (tI .i64))))) tB world.RemoveBody_1.f
theorem world.RemoveBody_1.ok : world.RemoveBody_1.s.Ok Tryz.prog 49 :=
  summ_ok (hint := lookH world.RemoveBody_1.hs) (fn := Tryz.f49) (fun x => 0) world.RemoveBody_1.cs_ok (by kernel_rfl) (by kernel_rfl) (by kernel_rfl) (by kernel_rfl) (tCons_ok (tG_ok (tCons_ok (tI_ok _) (tCons_ok (tI_ok _) (tCons_ok (tI_ok _) (tCons_ok (tI_ok _) (tCons_ok (tI_ok _) (tCons_ok (tI_ok _) (tCons_ok (tI_ok _) (tCons_ok (tI_ok _) (tCons_ok (tI_ok _) (tCons_ok (tI_ok _) (tOne_ok (tLz_ok _ _))))))))))))) (tOne_ok (tP_ok (tOne_ok (tI_ok _))))) tB_ok (fun _ => rfl)
theorem world.RemoveBody_1.eq (p0_0 : Int) (p0_1 : Int) (p0_2 : Int) (p0_3 : Int) (p0_4 : Int) (p0_5 : Int) (p0_6 : Int) (p0_7 : Int) (p0_8 : Int) (p0_9 : Int) (p0_10_n : Nat) (p0_10_g : Nat → (Int × Int)) (p1_0 : Int) : world.RemoveBody_1.f ((p0_0, p0_1, p0_2, p0_3, p0_4, p0_5, p0_6, p0_7, p0_8, p0_9, (p0_10_n, (fun i => Rii.enc (p0_10_g i)))), p1_0) =
  some (p0_0 == p1_0) := by kernel_rfl
/-! ### slices.IndexFunc[[]bagatelle/api.Body,bagatelle/api.Body] -/
noncomputable def slices.IndexFunc_lBody_Body.cs : List (Nat × Fw.Summ) := [(49, world.RemoveBody_1.s)]
theorem slices.IndexFunc_lBody_Body.cs_ok : SumsOk Tryz.prog slices.IndexFunc_lBody_Body.cs := .cons world.RemoveBody_1.ok (.nil)
def slices.IndexFunc_lBody_Body.hs : List (Nat × LHint) := [(0, { mat := [], live := [0, 1, 7, 8], ren := [] })]
noncomputable def slices.IndexFunc_lBody_Body.G : Ctx := ⟨Tryz.prog, sumAt slices.IndexFunc_lBody_Body.cs, lookH slices.IndexFunc_lBody_Body.hs⟩
noncomputable def slices.IndexFunc_lBody_Body.g (k0 : Nat) (x : ((Nat × (Nat → List AV)) × Int)) : Option Int := evF slices.IndexFunc_lBody_Body.G k0 Tryz.f100 ((tCons (tLz 11 (RiiiiiiiiiiL2.enc (0, 0, 0, 0, 0, 0, 0, 0, 0, 0, (0, fun _ => [])))) (tOne (tF 49 (tOne (tP (tOne (tI .i64))))))).enc x) (tI .i64).dec
noncomputable def slices.IndexFunc_lBody_Body.f (x : ((Nat × (Nat → List AV)) × Int)) : Option Int := slices.IndexFunc_lBody_Body.g (1000000) x
noncomputable def slices.IndexFunc_lBody_Body.s : Fw.Summ := .mk' (tCons (tLz 11 (RiiiiiiiiiiL2.enc (0, 0, 0, 0, 0, 0, 0, 0, 0, 0, (0, fun _ => [])))) (tOne (tF 49 (tOne (tP (tOne (tI .i64))))))) (tI .i64) slices.IndexFunc_lBody_Body.f
theorem slices.IndexFunc_lBody_Body.ok : slices.IndexFunc_lBody_Body.s.Ok Tryz.prog 100 :=
  summ_ok (hint := lookH slices.IndexFunc_lBody_Body.hs) (fn := Tryz.f100) (fun x => 1000000) slices.IndexFunc_lBody_Body.cs_ok (by kernel_rfl) (by kernel_rfl) (by kernel_rfl) (by kernel_rfl) (tCons_ok (tLz_ok _ _) (tOne_ok (tF_ok _ (tOne_ok (tP_ok (tOne_ok (tI_ok _))))))) (tI_ok _) (fun _ => rfl)
noncomputable def slices.IndexFunc_lBody_Body.l0 (k0 k1 : Nat) (v1 : Nat) (v2 : Nat → List AV) (v3 : Int) (v4 : Int) (v5 : Int) : Option Int :=
  evLoop (lookH slices.IndexFunc_lBody_Body.hs 0) 0 (ev slices.IndexFunc_lBody_Body.G k0 (codeAt [1, 0, 1, 0, 0] (bodyOf Tryz.f100)) 0) k1
  ⟨[.lst 11 v1 none v2, .fn 49 [.rp [.val (.int .i64 v3)] 0], .top, .top, .top, .top, .top, .val (.int .i64 v4), .val (.int .i64 v5), .top, .top, .top, .top, .top, .top, .top, .top, .top, .top], []⟩
  (kBlock 0 (kSeq slices.IndexFunc_lBody_Body.G k0 (codeAt [1, 1] (bodyOf Tryz.f100)) 0 (kFin slices.IndexFunc_lBody_Body.G Tryz.f100 (tI .i64).dec)))
theorem slices.IndexFunc_lBody_Body.l0_eq (k0 k1 : Nat) (v1 : Nat) (v2 : Nat → (Int × Int × Int × Int × Int × Int × Int × Int × Int × Int × (Nat × (Nat → List AV)))) (v3 : Int) (v4 : Int) (v5 : Int) : slices.IndexFunc_lBody_Body.l0 k0 (k1 + 1) v1 (fun i => RiiiiiiiiiiL2.enc (v2 i)) v3 v4 v5 =
  bif (decide (v5 < v4)) then
    bif ((decide (0 ≤ v5)) && (decide (v5 < ((v1 : Nat) : Int)))) then
    (world.RemoveBody_1.f (((v2 (Int.toNat v5)).1, (v2 (Int.toNat v5)).2.1, (v2 (Int.toNat v5)).2.2.1, (v2 (Int.toNat v5)).2.2.2.1, (v2 (Int.toNat v5)).2.2.2.2.1, (v2 (Int.toNat v5)).2.2.2.2.2.1, (v2 (Int.toNat v5)).2.2.2.2.2.2.1, (v2 (Int.toNat v5)).2.2.2.2.2.2.2.1, (v2 (Int.toNat v5)).2.2.2.2.2.2.2.2.1, (v2 (Int.toNat v5)).2.2.2.2.2.2.2.2.2.1, ((v2 (Int.toNat v5)).2.2.2.2.2.2.2.2.2.2.1, (v2 (Int.toNat v5)).2.2.2.2.2.2.2.2.2.2.2)), v3)).bind fun r1 =>
    bif r1 then
      some v5
    else
    slices.IndexFunc_lBody_Body.l0 k0 k1 v1 (fun i => RiiiiiiiiiiL2.enc (v2 i)) v3 v4 (IntKind.i64.wrap (v5 + 1))
    else none
  else
  some (-1) := by kernel_rfl
theorem slices.IndexFunc_lBody_Body.eq (k0 : Nat) (p0_n : Nat) (p0_g : Nat → (Int × Int × Int × Int × Int × Int × Int × Int × Int × Int × (Nat × (Nat → List AV)))) (p1_0_0 : Int) : slices.IndexFunc_lBody_Body.g k0 ((p0_n, (fun i => RiiiiiiiiiiL2.enc (p0_g i))), p1_0_0) =
  slices.IndexFunc_lBody_Body.l0 k0 k0 p0_n (fun i => RiiiiiiiiiiL2.enc (p0_g i)) p1_0_0 ((p0_n : Nat) : Int) 0 := by kernel_rfl
/-! ### slices.DeleteFunc[[]bagatelle/api.Body,bagatelle/api.Body] -/
noncomputable def slices.DeleteFunc_lBody_Body.cs : List (Nat × Fw.Summ) := [(100, slices.IndexFunc_lBody_Body.s), (49, world.RemoveBody_1.s)]
theorem slices.DeleteFunc_lBody_Body.cs_ok : SumsOk Tryz.prog slices.DeleteFunc_lBody_Body.cs := .cons slices.IndexFunc_lBody_Body.ok (.cons world.RemoveBody_1.ok (.nil))
def slices.DeleteFunc_lBody_Body.hs : List (Nat × LHint) := [(0, { mat := [], live := [0, 1, 5, 6], ren := [] })]
noncomputable def slices.DeleteFunc_lBody_Body.G : Ctx := ⟨Tryz.prog, sumAt slices.DeleteFunc_lBody_Body.cs, lookH slices.DeleteFunc_lBody_Body.hs⟩
noncomputable def slices.DeleteFunc_lBody_Body.g (k0 : Nat) (x : (Nat × (Nat → List AV)) × Int) : Option (Nat × (Nat → (Int × Int × Int × Int × Int × Int × Int × Int × Int × Int × (Nat × (Nat → List AV))))) := evT slices.DeleteFunc_lBody_Body.G k0 Tryz.f80 ⟨true, 34, 11, x.1.1, x.1.2, none⟩ ((tOne (tF 49 (tOne (tP (tOne (tI .i64)))))).enc x.2) (RowT.mk RiiiiiiiiiiL2 34 11 (0, 0, 0, 0, 0, 0, 0, 0, 0, 0, (0, fun _ => []))).dec
noncomputable def slices.DeleteFunc_lBody_Body.f (x : (Nat × (Nat → List AV)) × Int) : Option (Nat × (Nat → (Int × Int × Int × Int × Int × Int × Int × Int × Int × Int × (Nat × (Nat → List AV))))) := slices.DeleteFunc_lBody_Body.g (1000000) x
noncomputable def slices.DeleteFunc_lBody_Body.s : Fw.Summ := .mkT (tOne (tF 49 (tOne (tP (tOne (tI .i64)))))) (RowT.mk RiiiiiiiiiiL2 34 11 (0, 0, 0, 0, 0, 0, 0, 0, 0, 0, (0, fun _ => []))) slices.DeleteFunc_lBody_Body.f
theorem slices.DeleteFunc_lBody_Body.ok : slices.DeleteFunc_lBody_Body.s.Ok Tryz.prog 80 :=
  tsumm_ok (hint := lookH slices.DeleteFunc_lBody_Body.hs) (fn := Tryz.f80) (fun x => 1000000) slices.DeleteFunc_lBody_Body.cs_ok (by kernel_rfl) (by kernel_rfl) (by kernel_rfl) (by kernel_rfl) (tOne_ok (tF_ok _ (tOne_ok (tP_ok (tOne_ok (tI_ok _)))))) RiiiiiiiiiiL2_ok (fun _ => rfl)
noncomputable def slices.DeleteFunc_lBody_Body.l0 (k0 k1 : Nat) (v1 : Nat) (v2 : Nat → List AV) (v3 : Int) (v4 : Int) (v5 : Int) : Option (Nat × (Nat → (Int × Int × Int × Int × Int × Int × Int × Int × Int × Int × (Nat × (Nat → List AV))))) :=
  evLoop (lookH slices.DeleteFunc_lBody_Body.hs 0) 1 (ev slices.DeleteFunc_lBody_Body.G k0 (codeAt [1, 1, 1, 0, 1, 0, 0] (bodyOf Tryz.f80)) 0) k1
  ⟨[.slc 0 0 none none, .fn 49 [.rp [.val (.int .i64 v3)] 0], .top, .top, .top, .val (.int .i64 v4), .val (.int .i64 v5), .top, .top, .top, .top, .top, .top, .top, .top, .top, .top, .top, .top, .top, .top, .top, .top, .top, .top, .top, .top, .top, .top, .top, .top, .top, .top, .top, .top, .top, .top, .top, .top, .top, .top, .top], [.live ⟨true, 34, 11, v1, v2, none⟩]⟩
  (kBlock 0 (kSeq slices.DeleteFunc_lBody_Body.G k0 (codeAt [1, 1, 1, 1] (bodyOf Tryz.f80)) 0 (kFinT slices.DeleteFunc_lBody_Body.G Tryz.f80 (RowT.mk RiiiiiiiiiiL2 34 11 (0, 0, 0, 0, 0, 0, 0, 0, 0, 0, (0, fun _ => []))).dec)))
theorem slices.DeleteFunc_lBody_Body.l0_eq (k0 k1 : Nat) (v1 : Nat) (v2 : Nat → (Int × Int × Int × Int × Int × Int × Int × Int × Int × Int × (Nat × (Nat → List AV)))) (v3 : Int) (v4 : Int) (v5 : Int) : slices.DeleteFunc_lBody_Body.l0 k0 (k1 + 1) v1 (fun i => RiiiiiiiiiiL2.enc (v2 i)) v3 v4 v5 =
  bif (decide (v5 < ((v1 : Nat) : Int))) then
    bif ((decide (0 ≤ v5)) && (decide (v5 < ((v1 : Nat) : Int)))) then
    (world.RemoveBody_1.f (((v2 (Int.toNat v5)).1, (v2 (Int.toNat v5)).2.1, (v2 (Int.toNat v5)).2.2.1, (v2 (Int.toNat v5)).2.2.2.1, (v2 (Int.toNat v5)).2.2.2.2.1, (v2 (Int.toNat v5)).2.2.2.2.2.1, (v2 (Int.toNat v5)).2.2.2.2.2.2.1, (v2 (Int.toNat v5)).2.2.2.2.2.2.2.1, (v2 (Int.toNat v5)).2.2.2.2.2.2.2.2.1, (v2 (Int.toNat v5)).2.2.2.2.2.2.2.2.2.1, ((v2 (Int.toNat v5)).2.2.2.2.2.2.2.2.2.2.1, (v2 (Int.toNat v5)).2.2.2.2.2.2.2.2.2.2.2)), v3)).bind fun r2 =>
    bif (!r2) then
      bif ((decide (0 ≤ v4)) && (decide (v4 < ((v1 : Nat) : Int)))) then
      slices.DeleteFunc_lBody_Body.l0 k0 k1 v1 (fun i => renL (lookF [] 1) (if i = (Int.toNat v4) then RiiiiiiiiiiL2.enc ((v2 (Int.toNat v5)).1, (v2 (Int.toNat v5)).2.1, (v2 (Int.toNat v5)).2.2.1, (v2 (Int.toNat v5)).2.2.2.1, (v2 (Int.toNat v5)).2.2.2.2.1, (v2 (Int.toNat v5)).2.2.2.2.2.1, (v2 (Int.toNat v5)).2.2.2.2.2.2.1, (v2 (Int.toNat v5)).2.2.2.2.2.2.2.1, (v2 (Int.toNat v5)).2.2.2.2.2.2.2.2.1, (v2 (Int.toNat v5)).2.2.2.2.2.2.2.2.2.1, ((v2 (Int.toNat v5)).2.2.2.2.2.2.2.2.2.2.1, (v2 (Int.toNat v5)).2.2.2.2.2.2.2.2.2.2.2)) else RiiiiiiiiiiL2.enc (v2 i))) v3 (IntKind.i64.wrap (v4 + 1)) (IntKind.i64.wrap (v5 + 1))
      else none
    else
    slices.DeleteFunc_lBody_Body.l0 k0 k1 v1 (fun i => RiiiiiiiiiiL2.enc (v2 i)) v3 v4 (IntKind.i64.wrap (v5 + 1))
    else none
  else
  bif ((decide (0 ≤ v4)) && (decide (v4 < ((v1 : Nat) : Int)))) then
  bif ((decide (0 ≤ v4)) && (decide (v4 ≤ ((v1 : Nat) : Int)))) then
  (RowT.mk RiiiiiiiiiiL2 34 11 (0, 0, 0, 0, 0, 0, 0, 0, 0, 0, (0, fun _ => []))).dec (.slc 0 0 none none) ⟨true, 34, 11, (Int.toNat v4), (fun i => cloL (if i < (Int.toNat v4) then RiiiiiiiiiiL2.enc (v2 i) else [.val (.int .i64 0), .val (.int .i64 0), .val (.int .i64 0), .val (.int .i64 0), .val (.int .i64 0), .val (.int .i64 0), .val (.int .i64 0), .val (.int .i64 0), .val (.int .i64 0), .val (.int .i64 0), .val (.slice none 0 0)])), none⟩
  else none
  else none := by kernel_rfl
theorem slices.DeleteFunc_lBody_Body.eq (k0 : Nat) (p0_n : Nat) (p0_g : Nat → (Int × Int × Int × Int × Int × Int × Int × Int × Int × Int × (Nat × (Nat → List AV)))) (p1_0_0 : Int) : slices.DeleteFunc_lBody_Body.g k0 ((p0_n, (fun i => RiiiiiiiiiiL2.enc (p0_g i))), p1_0_0) =
  (slices.IndexFunc_lBody_Body.f ((p0_n, (fun i => RiiiiiiiiiiL2.enc (p0_g i))), p1_0_0)).bind fun r1 =>
  bif (r1 == (-1)) then
    (RowT.mk RiiiiiiiiiiL2 34 11 (0, 0, 0, 0, 0, 0, 0, 0, 0, 0, (0, fun _ => []))).dec (.slc 0 0 none none) ⟨true, 34, 11, p0_n, (fun i => RiiiiiiiiiiL2.enc (p0_g i)), none⟩
  else
  slices.DeleteFunc_lBody_Body.l0 k0 k0 p0_n (fun i => RiiiiiiiiiiL2.enc (p0_g i)) p1_0_0 r1 (IntKind.i64.wrap (r1 + 1)) := by kernel_rfl
/-! ### bagatelle/world.without[bagatelle/api.Body] -/
noncomputable def world.without_Body.cs : List (Nat × Fw.Summ) := [(39, slices.Clone_lBody_Body.s), (80, slices.DeleteFunc_lBody_Body.s)]
theorem world.without_Body.cs_ok : SumsOk Tryz.prog world.without_Body.cs := .cons slices.Clone_lBody_Body.ok (.cons slices.DeleteFunc_lBody_Body.ok (.nil))
def world.without_Body.hs : List (Nat × LHint) := []
noncomputable def world.without_Body.G : Ctx := ⟨Tryz.prog, sumAt world.without_Body.cs, lookH world.without_Body.hs⟩
noncomputable def world.without_Body.f (x : ((Nat × (Nat → List AV)) × Int)) : Option (Nat × (Nat → (Int × Int × Int × Int × Int × Int × Int × Int × Int × Int × (Nat × (Nat → List AV))))) := evF world.without_Body.G 0 Tryz.f48 ((tCons (tLz 11 (RiiiiiiiiiiL2.enc (0, 0, 0, 0, 0, 0, 0, 0, 0, 0, (0, fun _ => [])))) (tOne (tF 49 (tOne (tP (tOne (tI .i64))))))).enc x) (tTL RiiiiiiiiiiL2 11 (0, 0, 0, 0, 0, 0, 0, 0, 0, 0, (0, fun _ => []))).dec
noncomputable def world.without_Body.s : Fw.Summ := .mk' (tCons (tLz 11 (RiiiiiiiiiiL2.enc (0, 0, 0, 0, 0, 0, 0, 0, 0, 0, (0, fun _ => [])))) (tOne (tF 49 (tOne (tP (tOne (tI .i64))))))) (tTL RiiiiiiiiiiL2 11 (0, 0, 0, 0, 0, 0, 0, 0, 0, 0, (0, fun _ => []))) world.without_Body.f
theorem world.without_Body.ok : world.without_Body.s.Ok Tryz.prog 48 :=
  summ_ok (hint := lookH world.without_Body.hs) (fn := Tryz.f48) (fun x => 0) world.without_Body.cs_ok (by kernel_rfl) (by kernel_rfl) (by kernel_rfl) (by kernel_rfl) (tCons_ok (tLz_ok _ _) (tOne_ok (tF_ok _ (tOne_ok (tP_ok (tOne_ok (tI_ok _))))))) (tTL_ok RiiiiiiiiiiL2_ok _ _) (fun _ => rfl)
theorem world.without_Body.eq (p0_n : Nat) (p0_g : Nat → (Int × Int × Int × Int × Int × Int × Int × Int × Int × Int × (Nat × (Nat → List AV)))) (p1_0_0 : Int) : world.without_Body.f ((p0_n, (fun i => RiiiiiiiiiiL2.enc (p0_g i))), p1_0_0) =
  (slices.Clone_lBody_Body.f (p0_n, (fun i => RiiiiiiiiiiL2.enc (p0_g i)))).bind fun r1 =>
  (slices.DeleteFunc_lBody_Body.f ((r1.1, (fun i => RiiiiiiiiiiL2.enc (r1.2 i))), p1_0_0)).bind fun r2 =>
  (tTL RiiiiiiiiiiL2 11 (0, 0, 0, 0, 0, 0, 0, 0, 0, 0, (0, fun _ => []))).dec (.lst 11 r2.1 none (fun i => RiiiiiiiiiiL2.enc (r2.2 i))) := by kernel_rfl
/-! ### bagatelle/world.RemoveBody$2 -/
noncomputable def world.RemoveBody_2.cs : List (Nat × Fw.Summ) := []
theorem world.RemoveBody_2.cs_ok : SumsOk Tryz.prog world.RemoveBody_2.cs := .nil
def world.RemoveBody_2.hs : List (Nat × LHint) := []
noncomputable def world.RemoveBody_2.G : Ctx := ⟨Tryz.prog, sumAt world.RemoveBody_2.cs, lookH world.RemoveBody_2.hs⟩
noncomputable def world.RemoveBody_2.f (x : ((Int × Int × Int × Int × Int × Int × Int × Int) × Int)) : Option Bool := evF world.RemoveBody_2.G 0 Tryz.f51 ((tCons (tG (tCons (tI .i64) (tCons (tI .i64) (tCons (tI .i64) (tCons (tI .i64) (tCons (tI .i64) (tCons (tI .i64) (tCons (tI .i64) (tOne (tI .i64)))))))))) (tOne (tP (tOne (tI .i64))))).enc x) tB.dec
noncomputable def world.RemoveBody_2.s : Fw.Summ := .mk' (tCons (tG (tCons (tI .i64) (tCons (tI .i64) (tCons (tI .i64) (tCons (tI .i64) (tCons (tI .i64) (tCons (tI .i64) (tCons (tI .i64) (tOne (tI .i64)))))))))) (tOne (tP (tOne (tI .i64))))) tB world.RemoveBody_2.f
theorem world.RemoveBody_2.ok : world.RemoveBody_2.s.Ok Tryz.prog 51 :=
  summ_ok (hint := lookH world.RemoveBody_2.hs) (fn := Tryz.f51) (fun x => 0) world.RemoveBody_2.cs_ok (by kernel_rfl) (by kernel_rfl) (by kernel_rfl) (by kernel_rfl) (tCons_ok (tG_ok (tCons_ok (tI_ok _) (tCons_ok (tI_ok _) (tCons_ok (tI_ok _) (tCons_ok (tI_ok _) (tCons_ok (tI_ok _) (tCons_ok (tI_ok _) (tCons_ok (tI_ok _) (tOne_ok (tI_ok _)))))))))) (tOne_ok (tP_ok (tOne_ok (tI_ok _))))) tB_ok (fun _ => rfl)
theorem world.RemoveBody_2.eq (p0_0 : Int) (p0_1 : Int) (p0_2 : Int) (p0_3 : Int) (p0_4 : Int) (p0_5 : Int) (p0_6 : Int) (p0_7 : Int) (p1_0 : Int) : world.RemoveBody_2.f ((p0_0, p0_1, p0_2, p0_3, p0_4, p0_5, p0_6, p0_7), p1_0) =
  bif (p0_1 == p1_0) then
    some true
  else
  some (p0_2 == p1_0) := by kernel_rfl
/-! ### slices.IndexFunc[[]bagatelle/api.Joint,bagatelle/api.Joint] -/
noncomputable def slices.IndexFunc_lJoint_Joint.cs : List (Nat × Fw.Summ) := [(51, world.RemoveBody_2.s)]
theorem slices.IndexFunc_lJoint_Joint.cs_ok : SumsOk Tryz.prog slices.IndexFunc_lJoint_Joint.cs := .cons world.RemoveBody_2.ok (.nil)
def slices.IndexFunc_lJoint_Joint.hs : List (Nat × LHint) := [(0, { mat := [], live := [0, 1, 7, 8], ren := [] })]
noncomputable def slices.IndexFunc_lJoint_Joint.G : Ctx := ⟨Tryz.prog, sumAt slices.IndexFunc_lJoint_Joint.cs, lookH slices.IndexFunc_lJoint_Joint.hs⟩
noncomputable def slices.IndexFunc_lJoint_Joint.g (k0 : Nat) (x : ((Nat × (Nat → List AV)) × Int)) : Option Int := evF slices.IndexFunc_lJoint_Joint.G k0 Tryz.f101 ((tCons (tLz 8 (Riiiiiiii.enc (0, 0, 0, 0, 0, 0, 0, 0))) (tOne (tF 51 (tOne (tP (tOne (tI .i64))))))).enc x) (tI .i64).dec
noncomputable def slices.IndexFunc_lJoint_Joint.f (x : ((Nat × (Nat → List AV)) × Int)) : Option Int := slices.IndexFunc_lJoint_Joint.g (1000000) x
noncomputable def slices.IndexFunc_lJoint_Joint.s : Fw.Summ := .mk' (tCons (tLz 8 (Riiiiiiii.enc (0, 0, 0, 0, 0, 0, 0, 0))) (tOne (tF 51 (tOne (tP (tOne (tI .i64))))))) (tI .i64) slices.IndexFunc_lJoint_Joint.f
theorem slices.IndexFunc_lJoint_Joint.ok : slices.IndexFunc_lJoint_Joint.s.Ok Tryz.prog 101 :=
  summ_ok (hint := lookH slices.IndexFunc_lJoint_Joint.hs) (fn := Tryz.f101) (fun x => 1000000) slices.IndexFunc_lJoint_Joint.cs_ok (by kernel_rfl) (by kernel_rfl) (by kernel_rfl) (by kernel_rfl) (tCons_ok (tLz_ok _ _) (tOne_ok (tF_ok _ (tOne_ok (tP_ok (tOne_ok (tI_ok _))))))) (tI_ok _) (fun _ => rfl)
noncomputable def slices.IndexFunc_lJoint_Joint.l0 (k0 k1 : Nat) (v1 : Nat) (v2 : Nat → List AV) (v3 : Int) (v4 : Int) (v5 : Int) : Option Int :=
  evLoop (lookH slices.IndexFunc_lJoint_Joint.hs 0) 0 (ev slices.IndexFunc_lJoint_Joint.G k0 (codeAt [1, 0, 1, 0, 0] (bodyOf Tryz.f101)) 0) k1
  ⟨[.lst 8 v1 none v2, .fn 51 [.rp [.val (.int .i64 v3)] 0], .top, .top, .top, .top, .top, .val (.int .i64 v4), .val (.int .i64 v5), .top, .top, .top, .top, .top, .top, .top, .top, .top, .top], []⟩
  (kBlock 0 (kSeq slices.IndexFunc_lJoint_Joint.G k0 (codeAt [1, 1] (bodyOf Tryz.f101)) 0 (kFin slices.IndexFunc_lJoint_Joint.G Tryz.f101 (tI .i64).dec)))
theorem slices.IndexFunc_lJoint_Joint.l0_eq (k0 k1 : Nat) (v1 : Nat) (v2 : Nat → (Int × Int × Int × Int × Int × Int × Int × Int)) (v3 : Int) (v4 : Int) (v5 : Int) : slices.IndexFunc_lJoint_Joint.l0 k0 (k1 + 1) v1 (fun i => Riiiiiiii.enc (v2 i)) v3 v4 v5 =
  bif (decide (v5 < v4)) then
    bif ((decide (0 ≤ v5)) && (decide (v5 < ((v1 : Nat) : Int)))) then
    (world.RemoveBody_2.f (((v2 (Int.toNat v5)).1, (v2 (Int.toNat v5)).2.1, (v2 (Int.toNat v5)).2.2.1, (v2 (Int.toNat v5)).2.2.2.1, (v2 (Int.toNat v5)).2.2.2.2.1, (v2 (Int.toNat v5)).2.2.2.2.2.1, (v2 (Int.toNat v5)).2.2.2.2.2.2.1, (v2 (Int.toNat v5)).2.2.2.2.2.2.2), v3)).bind fun r1 =>
    bif r1 then
      some v5
    else
    slices.IndexFunc_lJoint_Joint.l0 k0 k1 v1 (fun i => Riiiiiiii.enc (v2 i)) v3 v4 (IntKind.i64.wrap (v5 + 1))
    else none
  else
  some (-1) := by kernel_rfl
theorem slices.IndexFunc_lJoint_Joint.eq (k0 : Nat) (p0_n : Nat) (p0_g : Nat → (Int × Int × Int × Int × Int × Int × Int × Int)) (p1_0_0 : Int) : slices.IndexFunc_lJoint_Joint.g k0 ((p0_n, (fun i => Riiiiiiii.enc (p0_g i))), p1_0_0) =
  slices.IndexFunc_lJoint_Joint.l0 k0 k0 p0_n (fun i => Riiiiiiii.enc (p0_g i)) p1_0_0 ((p0_n : Nat) : Int) 0 := by kernel_rfl
/-! ### slices.DeleteFunc[[]bagatelle/api.Joint,bagatelle/api.Joint] -/
noncomputable def slices.DeleteFunc_lJoint_Joint.cs : List (Nat × Fw.Summ) := [(101, slices.IndexFunc_lJoint_Joint.s), (51, world.RemoveBody_2.s)]
theorem slices.DeleteFunc_lJoint_Joint.cs_ok : SumsOk Tryz.prog slices.DeleteFunc_lJoint_Joint.cs := .cons slices.IndexFunc_lJoint_Joint.ok (.cons world.RemoveBody_2.ok (.nil))
def slices.DeleteFunc_lJoint_Joint.hs : List (Nat × LHint) := [(0, { mat := [], live := [0, 1, 5, 6], ren := [] })]
noncomputable def slices.DeleteFunc_lJoint_Joint.G : Ctx := ⟨Tryz.prog, sumAt slices.DeleteFunc_lJoint_Joint.cs, lookH slices.DeleteFunc_lJoint_Joint.hs⟩
noncomputable def slices.DeleteFunc_lJoint_Joint.g (k0 : Nat) (x : (Nat × (Nat → List AV)) × Int) : Option (Nat × (Nat → (Int × Int × Int × Int × Int × Int × Int × Int))) := evT slices.DeleteFunc_lJoint_Joint.G k0 Tryz.f81 ⟨true, 57, 8, x.1.1, x.1.2, none⟩ ((tOne (tF 51 (tOne (tP (tOne (tI .i64)))))).enc x.2) (RowT.mk Riiiiiiii 57 8 (0, 0, 0, 0, 0, 0, 0, 0)).dec
noncomputable def slices.DeleteFunc_lJoint_Joint.f (x : (Nat × (Nat → List AV)) × Int) : Option (Nat × (Nat → (Int × Int × Int × Int × Int × Int × Int × Int))) := slices.DeleteFunc_lJoint_Joint.g (1000000) x
noncomputable def slices.DeleteFunc_lJoint_Joint.s : Fw.Summ := .mkT (tOne (tF 51 (tOne (tP (tOne (tI .i64)))))) (RowT.mk Riiiiiiii 57 8 (0, 0, 0, 0, 0, 0, 0, 0)) slices.DeleteFunc_lJoint_Joint.f
theorem slices.DeleteFunc_lJoint_Joint.ok : slices.DeleteFunc_lJoint_Joint.s.Ok Tryz.prog 81 :=
  tsumm_ok (hint := lookH slices.DeleteFunc_lJoint_Joint.hs) (fn := Tryz.f81) (fun x => 1000000) slices.DeleteFunc_lJoint_Joint.cs_ok (by kernel_rfl) (by kernel_rfl) (by kernel_rfl) (by kernel_rfl) (tOne_ok (tF_ok _ (tOne_ok (tP_ok (tOne_ok (tI_ok _)))))) Riiiiiiii_ok (fun _ => rfl)
noncomputable def slices.DeleteFunc_lJoint_Joint.l0 (k0 k1 : Nat) (v1 : Nat) (v2 : Nat → List AV) (v3 : Int) (v4 : Int) (v5 : Int) : Option (Nat × (Nat → (Int × Int × Int × Int × Int × Int × Int × Int))) :=
  evLoop (lookH slices.DeleteFunc_lJoint_Joint.hs 0) 1 (ev slices.DeleteFunc_lJoint_Joint.G k0 (codeAt [1, 1, 1, 0, 1, 0, 0] (bodyOf Tryz.f81)) 0) k1
  ⟨[.slc 0 0 none none, .fn 51 [.rp [.val (.int .i64 v3)] 0], .top, .top, .top, .val (.int .i64 v4), .val (.int .i64 v5), .top, .top, .top, .top, .top, .top, .top, .top, .top, .top, .top, .top, .top, .top, .top, .top, .top, .top, .top, .top, .top, .top, .top, .top, .top, .top, .top, .top, .top, .top, .top, .top, .top, .top, .top], [.live ⟨true, 57, 8, v1, v2, none⟩]⟩
  (kBlock 0 (kSeq slices.DeleteFunc_lJoint_Joint.G k0 (codeAt [1, 1, 1, 1] (bodyOf Tryz.f81)) 0 (kFinT slices.DeleteFunc_lJoint_Joint.G Tryz.f81 (RowT.mk Riiiiiiii 57 8 (0, 0, 0, 0, 0, 0, 0, 0)).dec)))
theorem slices.DeleteFunc_lJoint_Joint.l0_eq (k0 k1 : Nat) (v1 : Nat) (v2 : Nat → (Int × Int × Int × Int × Int × Int × Int × Int)) (v3 : Int) (v4 : Int) (v5 : Int) : slices.DeleteFunc_lJoint_Joint.l0 k0 (k1 + 1) v1 (fun i => Riiiiiiii.enc (v2 i)) v3 v4 v5 =
  bif (decide (v5 < ((v1 : Nat) : Int))) then
    bif ((decide (0 ≤ v5)) && (decide (v5 < ((v1 : Nat) : Int)))) then
    (world.RemoveBody_2.f (((v2 (Int.toNat v5)).1, (v2 (Int.toNat v5)).2.1, (v2 (Int.toNat v5)).2.2.1, (v2 (Int.toNat v5)).2.2.2.1, (v2 (Int.toNat v5)).2.2.2.2.1, (v2 (Int.toNat v5)).2.2.2.2.2.1, (v2 (Int.toNat v5)).2.2.2.2.2.2.1, (v2 (Int.toNat v5)).2.2.2.2.2.2.2), v3)).bind fun r2 =>
    bif (!r2) then
      bif ((decide (0 ≤ v4)) && (decide (v4 < ((v1 : Nat) : Int)))) then
      slices.DeleteFunc_lJoint_Joint.l0 k0 k1 v1 (fun i => renL (lookF [] 1) (if i = (Int.toNat v4) then Riiiiiiii.enc ((v2 (Int.toNat v5)).1, (v2 (Int.toNat v5)).2.1, (v2 (Int.toNat v5)).2.2.1, (v2 (Int.toNat v5)).2.2.2.1, (v2 (Int.toNat v5)).2.2.2.2.1, (v2 (Int.toNat v5)).2.2.2.2.2.1, (v2 (Int.toNat v5)).2.2.2.2.2.2.1, (v2 (Int.toNat v5)).2.2.2.2.2.2.2) else Riiiiiiii.enc (v2 i))) v3 (IntKind.i64.wrap (v4 + 1)) (IntKind.i64.wrap (v5 + 1))
      else none
    else
    slices.DeleteFunc_lJoint_Joint.l0 k0 k1 v1 (fun i => Riiiiiiii.enc (v2 i)) v3 v4 (IntKind.i64.wrap (v5 + 1))
    else none
  else
  bif ((decide (0 ≤ v4)) && (decide (v4 < ((v1 : Nat) : Int)))) then
  bif ((decide (0 ≤ v4)) && (decide (v4 ≤ ((v1 : Nat) : Int)))) then
  (RowT.mk Riiiiiiii 57 8 (0, 0, 0, 0, 0, 0, 0, 0)).dec (.slc 0 0 none none) ⟨true, 57, 8, (Int.toNat v4), (fun i => cloL (if i < (Int.toNat v4) then Riiiiiiii.enc (v2 i) else [.val (.int .i64 0), .val (.int .i64 0), .val (.int .i64 0), .val (.int .i64 0), .val (.int .i64 0), .val (.int .i64 0), .val (.int .i64 0), .val (.int .i64 0)])), none⟩
  else none
  else none := by kernel_rfl
theorem slices.DeleteFunc_lJoint_Joint.eq (k0 : Nat) (p0_n : Nat) (p0_g : Nat → (Int × Int × Int × Int × Int × Int × Int × Int)) (p1_0_0 : Int) : slices.DeleteFunc_lJoint_Joint.g k0 ((p0_n, (fun i => Riiiiiiii.enc (p0_g i))), p1_0_0) =
  (slices.IndexFunc_lJoint_Joint.f ((p0_n, (fun i => Riiiiiiii.enc (p0_g i))), p1_0_0)).bind fun r1 =>
  bif (r1 == (-1)) then
    (RowT.mk Riiiiiiii 57 8 (0, 0, 0, 0, 0, 0, 0, 0)).dec (.slc 0 0 none none) ⟨true, 57, 8, p0_n, (fun i => Riiiiiiii.enc (p0_g i)), none⟩
  else
  slices.DeleteFunc_lJoint_Joint.l0 k0 k0 p0_n (fun i => Riiiiiiii.enc (p0_g i)) p1_0_0 r1 (IntKind.i64.wrap (r1 + 1)) := by kernel_rfl
/-! ### bagatelle/world.without[bagatelle/api.Joint] -/
noncomputable def world.without_Joint.cs : List (Nat × Fw.Summ) := [(41, slices.Clone_lJoint_Joint.s), (81, slices.DeleteFunc_lJoint_Joint.s)]
theorem world.without_Joint.cs_ok : SumsOk Tryz.prog world.without_Joint.cs := .cons slices.Clone_lJoint_Joint.ok (.cons slices.DeleteFunc_lJoint_Joint.ok (.nil))
def world.without_Joint.hs : List (Nat × LHint) := []
noncomputable def world.without_Joint.G : Ctx := ⟨Tryz.prog, sumAt world.without_Joint.cs, lookH world.without_Joint.hs⟩
noncomputable def world.without_Joint.f (x : ((Nat × (Nat → List AV)) × Int)) : Option (Nat × (Nat → (Int × Int × Int × Int × Int × Int × Int × Int))) := evF world.without_Joint.G 0 Tryz.f50 ((tCons (tLz 8 (Riiiiiiii.enc (0, 0, 0, 0, 0, 0, 0, 0))) (tOne (tF 51 (tOne (tP (tOne (tI .i64))))))).enc x) (tTL Riiiiiiii 8 (0, 0, 0, 0, 0, 0, 0, 0)).dec
noncomputable def world.without_Joint.s : Fw.Summ := .mk' (tCons (tLz 8 (Riiiiiiii.enc (0, 0, 0, 0, 0, 0, 0, 0))) (tOne (tF 51 (tOne (tP (tOne (tI .i64))))))) (tTL Riiiiiiii 8 (0, 0, 0, 0, 0, 0, 0, 0)) world.without_Joint.f
theorem world.without_Joint.ok : world.without_Joint.s.Ok Tryz.prog 50 :=
  summ_ok (hint := lookH world.without_Joint.hs) (fn := Tryz.f50) (fun x => 0) world.without_Joint.cs_ok (by kernel_rfl) (by kernel_rfl) (by kernel_rfl) (by kernel_rfl) (tCons_ok (tLz_ok _ _) (tOne_ok (tF_ok _ (tOne_ok (tP_ok (tOne_ok (tI_ok _))))))) (tTL_ok Riiiiiiii_ok _ _) (fun _ => rfl)
theorem world.without_Joint.eq (p0_n : Nat) (p0_g : Nat → (Int × Int × Int × Int × Int × Int × Int × Int)) (p1_0_0 : Int) : world.without_Joint.f ((p0_n, (fun i => Riiiiiiii.enc (p0_g i))), p1_0_0) =
  (slices.Clone_lJoint_Joint.f (p0_n, (fun i => Riiiiiiii.enc (p0_g i)))).bind fun r1 =>
  (slices.DeleteFunc_lJoint_Joint.f ((r1.1, (fun i => Riiiiiiii.enc (r1.2 i))), p1_0_0)).bind fun r2 =>
  (tTL Riiiiiiii 8 (0, 0, 0, 0, 0, 0, 0, 0)).dec (.lst 8 r2.1 none (fun i => Riiiiiiii.enc (r2.2 i))) := by kernel_rfl
/-! ### bagatelle/world.RemoveBody$3 -/
noncomputable def world.RemoveBody_3.cs : List (Nat × Fw.Summ) := []
theorem world.RemoveBody_3.cs_ok : SumsOk Tryz.prog world.RemoveBody_3.cs := .nil
def world.RemoveBody_3.hs : List (Nat × LHint) := []
noncomputable def world.RemoveBody_3.G : Ctx := ⟨Tryz.prog, sumAt world.RemoveBody_3.cs, lookH world.RemoveBody_3.hs⟩
noncomputable def world.RemoveBody_3.f (x : ((Int × Int × Int × Int × Int) × Int)) : Option Bool := evF world.RemoveBody_3.G 0 Tryz.f53 ((tCons (tG (tCons (tI .i64) (tCons (tI .i64) (tCons (tI .i64) (tCons (tI .i64) (tOne (tI .i64))))))) (tOne (tP (tOne (tI .i64))))).enc x) tB.dec
noncomputable def world.RemoveBody_3.s : Fw.Summ := .mk' (tCons (tG (tCons (tI .i64) (tCons (tI .i64) (tCons (tI .i64) (tCons (tI .i64) (tOne (tI .i64))))))) (tOne (tP (tOne (tI .i64))))) tB world.RemoveBody_3.f
theorem world.RemoveBody_3.ok : world.RemoveBody_3.s.Ok Tryz.prog 53 :=
  summ_ok (hint := lookH world.RemoveBody_3.hs) (fn := Tryz.f53) (fun x => 0) world.RemoveBody_3.cs_ok (by kernel_rfl) (by kernel_rfl) (by kernel_rfl) (by kernel_rfl) (tCons_ok (tG_ok (tCons_ok (tI_ok _) (tCons_ok (tI_ok _) (tCons_ok (tI_ok _) (tCons_ok (tI_ok _) (tOne_ok (tI_ok _))))))) (tOne_ok (tP_ok (tOne_ok (tI_ok _))))) tB_ok (fun _ => rfl)
theorem world.RemoveBody_3.eq (p0_0 : Int) (p0_1 : Int) (p0_2 : Int) (p0_3 : Int) (p0_4 : Int) (p1_0 : Int) : world.RemoveBody_3.f ((p0_0, p0_1, p0_2, p0_3, p0_4), p1_0) =
  bif (p0_0 == p1_0) then
    some true
  else
  some (p0_1 == p1_0) := by kernel_rfl
/-! ### slices.IndexFunc[[]bagatelle/api.Contact,bagatelle/api.Contact] -/
noncomputable def slices.IndexFunc_lContact_Contact.cs : List (Nat × Fw.Summ) := [(53, world.RemoveBody_3.s)]
theorem slices.IndexFunc_lContact_Contact.cs_ok : SumsOk Tryz.prog slices.IndexFunc_lContact_Contact.cs := .cons world.RemoveBody_3.ok (.nil)
def slices.IndexFunc_lContact_Contact.hs : List (Nat × LHint) := [(0, { mat := [], live := [0, 1, 7, 8], ren := [] })]
noncomputable def slices.IndexFunc_lContact_Contact.G : Ctx := ⟨Tryz.prog, sumAt slices.IndexFunc_lContact_Contact.cs, lookH slices.IndexFunc_lContact_Contact.hs⟩
noncomputable def slices.IndexFunc_lContact_Contact.g (k0 : Nat) (x : ((Nat × (Nat → List AV)) × Int)) : Option Int := evF slices.IndexFunc_lContact_Contact.G k0 Tryz.f102 ((tCons (tLz 5 (Riiiii.enc (0, 0, 0, 0, 0))) (tOne (tF 53 (tOne (tP (tOne (tI .i64))))))).enc x) (tI .i64).dec
noncomputable def slices.IndexFunc_lContact_Contact.f (x : ((Nat × (Nat → List AV)) × Int)) : Option Int := slices.IndexFunc_lContact_Contact.g (1000000) x
noncomputable def slices.IndexFunc_lContact_Contact.s : Fw.Summ := .mk' (tCons (tLz 5 (Riiiii.enc (0, 0, 0, 0, 0))) (tOne (tF 53 (tOne (tP (tOne (tI .i64))))))) (tI .i64) slices.IndexFunc_lContact_Contact.f
theorem slices.IndexFunc_lContact_Contact.ok : slices.IndexFunc_lContact_Contact.s.Ok Tryz.prog 102 :=
  summ_ok (hint := lookH slices.IndexFunc_lContact_Contact.hs) (fn := Tryz.f102) (fun x => 1000000) slices.IndexFunc_lContact_Contact.cs_ok (by kernel_rfl) (by kernel_rfl) (by kernel_rfl) (by kernel_rfl) (tCons_ok (tLz_ok _ _) (tOne_ok (tF_ok _ (tOne_ok (tP_ok (tOne_ok (tI_ok _))))))) (tI_ok _) (fun _ => rfl)
noncomputable def slices.IndexFunc_lContact_Contact.l0 (k0 k1 : Nat) (v1 : Nat) (v2 : Nat → List AV) (v3 : Int) (v4 : Int) (v5 : Int) : Option Int :=
  evLoop (lookH slices.IndexFunc_lContact_Contact.hs 0) 0 (ev slices.IndexFunc_lContact_Contact.G k0 (codeAt [1, 0, 1, 0, 0] (bodyOf Tryz.f102)) 0) k1
  ⟨[.lst 5 v1 none v2, .fn 53 [.rp [.val (.int .i64 v3)] 0], .top, .top, .top, .top, .top, .val (.int .i64 v4), .val (.int .i64 v5), .top, .top, .top, .top, .top, .top, .top, .top, .top, .top], []⟩
  (kBlock 0 (kSeq slices.IndexFunc_lContact_Contact.G k0 (codeAt [1, 1] (bodyOf Tryz.f102)) 0 (kFin slices.IndexFunc_lContact_Contact.G Tryz.f102 (tI .i64).dec)))
theorem slices.IndexFunc_lContact_Contact.l0_eq (k0 k1 : Nat) (v1 : Nat) (v2 : Nat → (Int × Int × Int × Int × Int)) (v3 : Int) (v4 : Int) (v5 : Int) : slices.IndexFunc_lContact_Contact.l0 k0 (k1 + 1) v1 (fun i => Riiiii.enc (v2 i)) v3 v4 v5 =
  bif (decide (v5 < v4)) then
    bif ((decide (0 ≤ v5)) && (decide (v5 < ((v1 : Nat) : Int)))) then
    (world.RemoveBody_3.f (((v2 (Int.toNat v5)).1, (v2 (Int.toNat v5)).2.1, (v2 (Int.toNat v5)).2.2.1, (v2 (Int.toNat v5)).2.2.2.1, (v2 (Int.toNat v5)).2.2.2.2), v3)).bind fun r1 =>
    bif r1 then
      some v5
    else
    slices.IndexFunc_lContact_Contact.l0 k0 k1 v1 (fun i => Riiiii.enc (v2 i)) v3 v4 (IntKind.i64.wrap (v5 + 1))
    else none
  else
  some (-1) := by kernel_rfl
theorem slices.IndexFunc_lContact_Contact.eq (k0 : Nat) (p0_n : Nat) (p0_g : Nat → (Int × Int × Int × Int × Int)) (p1_0_0 : Int) : slices.IndexFunc_lContact_Contact.g k0 ((p0_n, (fun i => Riiiii.enc (p0_g i))), p1_0_0) =
  slices.IndexFunc_lContact_Contact.l0 k0 k0 p0_n (fun i => Riiiii.enc (p0_g i)) p1_0_0 ((p0_n : Nat) : Int) 0 := by kernel_rfl
/-! ### slices.DeleteFunc[[]bagatelle/api.Contact,bagatelle/api.Contact] -/
noncomputable def slices.DeleteFunc_lContact_Contact.cs : List (Nat × Fw.Summ) := [(102, slices.IndexFunc_lContact_Contact.s), (53, world.RemoveBody_3.s)]
theorem slices.DeleteFunc_lContact_Contact.cs_ok : SumsOk Tryz.prog slices.DeleteFunc_lContact_Contact.cs := .cons slices.IndexFunc_lContact_Contact.ok (.cons world.RemoveBody_3.ok (.nil))
def slices.DeleteFunc_lContact_Contact.hs : List (Nat × LHint) := [(0, { mat := [], live := [0, 1, 5, 6], ren := [] })]
noncomputable def slices.DeleteFunc_lContact_Contact.G : Ctx := ⟨Tryz.prog, sumAt slices.DeleteFunc_lContact_Contact.cs, lookH slices.DeleteFunc_lContact_Contact.hs⟩
noncomputable def slices.DeleteFunc_lContact_Contact.g (k0 : Nat) (x : (Nat × (Nat → List AV)) × Int) : Option (Nat × (Nat → (Int × Int × Int × Int × Int))) := evT slices.DeleteFunc_lContact_Contact.G k0 Tryz.f82 ⟨true, 94, 5, x.1.1, x.1.2, none⟩ ((tOne (tF 53 (tOne (tP (tOne (tI .i64)))))).enc x.2) (RowT.mk Riiiii 94 5 (0, 0, 0, 0, 0)).dec
noncomputable def slices.DeleteFunc_lContact_Contact.f (x : (Nat × (Nat → List AV)) × Int) : Option (Nat × (Nat → (Int × Int × Int × Int × Int))) := slices.DeleteFunc_lContact_Contact.g (1000000) x
noncomputable def slices.DeleteFunc_lContact_Contact.s : Fw.Summ := .mkT (tOne (tF 53 (tOne (tP (tOne (tI .i64)))))) (RowT.mk Riiiii 94 5 (0, 0, 0, 0, 0)) slices.DeleteFunc_lContact_Contact.f
theorem slices.DeleteFunc_lContact_Contact.ok : slices.DeleteFunc_lContact_Contact.s.Ok Tryz.prog 82 :=
  tsumm_ok (hint := lookH slices.DeleteFunc_lContact_Contact.hs) (fn := Tryz.f82) (fun x => 1000000) slices.DeleteFunc_lContact_Contact.cs_ok (by kernel_rfl) (by kernel_rfl) (by kernel_rfl) (by kernel_rfl) (tOne_ok (tF_ok _ (tOne_ok (tP_ok (tOne_ok (tI_ok _)))))) Riiiii_ok (fun _ => rfl)
noncomputable def slices.DeleteFunc_lContact_Contact.l0 (k0 k1 : Nat) (v1 : Nat) (v2 : Nat → List AV) (v3 : Int) (v4 : Int) (v5 : Int) : Option (Nat × (Nat → (Int × Int × Int × Int × Int))) :=
  evLoop (lookH slices.DeleteFunc_lContact_Contact.hs 0) 1 (ev slices.DeleteFunc_lContact_Contact.G k0 (codeAt [1, 1, 1, 0, 1, 0, 0] (bodyOf Tryz.f82)) 0) k1
  ⟨[.slc 0 0 none none, .fn 53 [.rp [.val (.int .i64 v3)] 0], .top, .top, .top, .val (.int .i64 v4), .val (.int .i64 v5), .top, .top, .top, .top, .top, .top, .top, .top, .top, .top, .top, .top, .top, .top, .top, .top, .top, .top, .top, .top, .top, .top, .top, .top, .top, .top, .top, .top, .top, .top, .top, .top, .top, .top, .top], [.live ⟨true, 94, 5, v1, v2, none⟩]⟩
  (kBlock 0 (kSeq slices.DeleteFunc_lContact_Contact.G k0 (codeAt [1, 1, 1, 1] (bodyOf Tryz.f82)) 0 (kFinT slices.DeleteFunc_lContact_Contact.G Tryz.f82 (RowT.mk Riiiii 94 5 (0, 0, 0, 0, 0)).dec)))
theorem slices.DeleteFunc_lContact_Contact.l0_eq (k0 k1 : Nat) (v1 : Nat) (v2 : Nat → (Int × Int × Int × Int × Int)) (v3 : Int) (v4 : Int) (v5 : Int) : slices.DeleteFunc_lContact_Contact.l0 k0 (k1 + 1) v1 (fun i => Riiiii.enc (v2 i)) v3 v4 v5 =
  bif (decide (v5 < ((v1 : Nat) : Int))) then
    bif ((decide (0 ≤ v5)) && (decide (v5 < ((v1 : Nat) : Int)))) then
    (world.RemoveBody_3.f (((v2 (Int.toNat v5)).1, (v2 (Int.toNat v5)).2.1, (v2 (Int.toNat v5)).2.2.1, (v2 (Int.toNat v5)).2.2.2.1, (v2 (Int.toNat v5)).2.2.2.2), v3)).bind fun r2 =>
    bif (!r2) then
      bif ((decide (0 ≤ v4)) && (decide (v4 < ((v1 : Nat) : Int)))) then
      slices.DeleteFunc_lContact_Contact.l0 k0 k1 v1 (fun i => renL (lookF [] 1) (if i = (Int.toNat v4) then Riiiii.enc ((v2 (Int.toNat v5)).1, (v2 (Int.toNat v5)).2.1, (v2 (Int.toNat v5)).2.2.1, (v2 (Int.toNat v5)).2.2.2.1, (v2 (Int.toNat v5)).2.2.2.2) else Riiiii.enc (v2 i))) v3 (IntKind.i64.wrap (v4 + 1)) (IntKind.i64.wrap (v5 + 1))
      else none
    else
    slices.DeleteFunc_lContact_Contact.l0 k0 k1 v1 (fun i => Riiiii.enc (v2 i)) v3 v4 (IntKind.i64.wrap (v5 + 1))
    else none
  else
  bif ((decide (0 ≤ v4)) && (decide (v4 < ((v1 : Nat) : Int)))) then
  bif ((decide (0 ≤ v4)) && (decide (v4 ≤ ((v1 : Nat) : Int)))) then
  (RowT.mk Riiiii 94 5 (0, 0, 0, 0, 0)).dec (.slc 0 0 none none) ⟨true, 94, 5, (Int.toNat v4), (fun i => cloL (if i < (Int.toNat v4) then Riiiii.enc (v2 i) else [.val (.int .i64 0), .val (.int .i64 0), .val (.int .i64 0), .val (.int .i64 0), .val (.int .i64 0)])), none⟩
  else none
  else none := by kernel_rfl
theorem slices.DeleteFunc_lContact_Contact.eq (k0 : Nat) (p0_n : Nat) (p0_g : Nat → (Int × Int × Int × Int × Int)) (p1_0_0 : Int) : slices.DeleteFunc_lContact_Contact.g k0 ((p0_n, (fun i => Riiiii.enc (p0_g i))), p1_0_0) =
  (slices.IndexFunc_lContact_Contact.f ((p0_n, (fun i => Riiiii.enc (p0_g i))), p1_0_0)).bind fun r1 =>
  bif (r1 == (-1)) then
    (RowT.mk Riiiii 94 5 (0, 0, 0, 0, 0)).dec (.slc 0 0 none none) ⟨true, 94, 5, p0_n, (fun i => Riiiii.enc (p0_g i)), none⟩
  else
  slices.DeleteFunc_lContact_Contact.l0 k0 k0 p0_n (fun i => Riiiii.enc (p0_g i)) p1_0_0 r1 (IntKind.i64.wrap (r1 + 1)) := by kernel_rfl
/-! ### bagatelle/world.without[bagatelle/api.Contact] -/
noncomputable def world.without_Contact.cs : List (Nat × Fw.Summ) := [(42, slices.Clone_lContact_Contact.s), (82, slices.DeleteFunc_lContact_Contact.s)]
theorem world.without_Contact.cs_ok : SumsOk Tryz.prog world.without_Contact.cs := .cons slices.Clone_lContact_Contact.ok (.cons slices.DeleteFunc_lContact_Contact.ok (.nil))
def world.without_Contact.hs : List (Nat × LHint) := []
noncomputable def world.without_Contact.G : Ctx := ⟨Tryz.prog, sumAt world.without_Contact.cs, lookH world.without_Contact.hs⟩
noncomputable def world.without_Contact.f (x : ((Nat × (Nat → List AV)) × Int)) : Option (Nat × (Nat → (Int × Int × Int × Int × Int))) := evF world.without_Contact.G 0 Tryz.f52 ((tCons (tLz 5 (Riiiii.enc (0, 0, 0, 0, 0))) (tOne (tF 53 (tOne (tP (tOne (tI .i64))))))).enc x) (tTL Riiiii 5 (0, 0, 0, 0, 0)).dec
noncomputable def world.without_Contact.s : Fw.Summ := .mk' (tCons (tLz 5 (Riiiii.enc (0, 0, 0, 0, 0))) (tOne (tF 53 (tOne (tP (tOne (tI .i64))))))) (tTL Riiiii 5 (0, 0, 0, 0, 0)) world.without_Contact.f
theorem world.without_Contact.ok : world.without_Contact.s.Ok Tryz.prog 52 :=
  summ_ok (hint := lookH world.without_Contact.hs) (fn := Tryz.f52) (fun x => 0) world.without_Contact.cs_ok (by kernel_rfl) (by kernel_rfl) (by kernel_rfl) (by kernel_rfl) (tCons_ok (tLz_ok _ _) (tOne_ok (tF_ok _ (tOne_ok (tP_ok (tOne_ok (tI_ok _))))))) (tTL_ok Riiiii_ok _ _) (fun _ => rfl)
theorem world.without_Contact.eq (p0_n : Nat) (p0_g : Nat → (Int × Int × Int × Int × Int)) (p1_0_0 : Int) : world.without_Contact.f ((p0_n, (fun i => Riiiii.enc (p0_g i))), p1_0_0) =
  (slices.Clone_lContact_Contact.f (p0_n, (fun i => Riiiii.enc (p0_g i)))).bind fun r1 =>
  (slices.DeleteFunc_lContact_Contact.f ((r1.1, (fun i => Riiiii.enc (r1.2 i))), p1_0_0)).bind fun r2 =>
  (tTL Riiiii 5 (0, 0, 0, 0, 0)).dec (.lst 5 r2.1 none (fun i => Riiiii.enc (r2.2 i))) := by kernel_rfl
/-! ### bagatelle/world.RemoveBody -/
noncomputable def world.RemoveBody.cs : List (Nat × Fw.Summ) := [(46, world.Body.s), (48, world.without_Body.s), (50, world.without_Joint.s), (52, world.without_Contact.s)]
theorem world.RemoveBody.cs_ok : SumsOk Tryz.prog world.RemoveBody.cs := .cons world.Body.ok (.cons world.without_Body.ok (.cons world.without_Joint.ok (.cons world.without_Contact.ok (.nil))))
noncomputable def world.RemoveBody.G : Ctx := ⟨Tryz.prog, sumAt world.RemoveBody.cs, fun _ => { unroll := true }⟩
noncomputable def world.RemoveBody.f (x : (Int × Int × Int × Int × Int × (Nat × (Nat → List AV)) × (Nat × (Nat → List AV)) × (Nat × (Nat → List AV))) × Int) : Option (Bool × (Int × Int × Int × Int × Int × (Nat × (Nat → (Int × Int × Int × Int × Int × Int × Int × Int × Int × Int × (Nat × (Nat → List AV))))) × (Nat × (Nat → (Int × Int × Int × Int × Int × Int × Int × Int))) × (Nat × (Nat → (Int × Int × Int × Int × Int))))) := evG world.RemoveBody.G Tryz.f15 42 ((tCons (tI .i64) (tCons (tI .i64) (tCons (tI .i64) (tCons (tI .i64) (tCons (tI .i64) (tCons (tLz 11 (RiiiiiiiiiiL2.enc (0, 0, 0, 0, 0, 0, 0, 0, 0, 0, (0, fun _ => [])))) (tCons (tLz 8 (Riiiiiiii.enc (0, 0, 0, 0, 0, 0, 0, 0))) (tOne (tLz 5 (Riiiii.enc (0, 0, 0, 0, 0))))))))))).enc x.1) ((tOne (tI .i64)).enc x.2) (outD tB (tCons (tI .i64) (tCons (tI .i64) (tCons (tI .i64) (tCons (tI .i64) (tCons (tI .i64) (tCons (tTL RiiiiiiiiiiL2 11 (0, 0, 0, 0, 0, 0, 0, 0, 0, 0, (0, fun _ => []))) (tCons (tTL Riiiiiiii 8 (0, 0, 0, 0, 0, 0, 0, 0)) (tOne (tTL Riiiii 5 (0, 0, 0, 0, 0)))))))))))
noncomputable def world.RemoveBody.s : Fw.Summ := .mkO2 42 (tCons (tI .i64) (tCons (tI .i64) (tCons (tI .i64) (tCons (tI .i64) (tCons (tI .i64) (tCons (tLz 11 (RiiiiiiiiiiL2.enc (0, 0, 0, 0, 0, 0, 0, 0, 0, 0, (0, fun _ => [])))) (tCons (tLz 8 (Riiiiiiii.enc (0, 0, 0, 0, 0, 0, 0, 0))) (tOne (tLz 5 (Riiiii.enc (0, 0, 0, 0, 0))))))))))) (tCons (tI .i64) (tCons (tI .i64) (tCons (tI .i64) (tCons (tI .i64) (tCons (tI .i64) (tCons (tTL RiiiiiiiiiiL2 11 (0, 0, 0, 0, 0, 0, 0, 0, 0, 0, (0, fun _ => []))) (tCons (tTL Riiiiiiii 8 (0, 0, 0, 0, 0, 0, 0, 0)) (tOne (tTL Riiiii 5 (0, 0, 0, 0, 0)))))))))) (tOne (tI .i64)) tB world.RemoveBody.f
theorem world.RemoveBody.ok : world.RemoveBody.s.Ok Tryz.prog 15 :=
  osumm2_ok (fn := Tryz.f15) world.RemoveBody.cs_ok (by kernel_rfl) (by kernel_rfl) (by kernel_rfl) (by kernel_rfl) (tCons_ok (tI_ok _) (tCons_ok (tI_ok _) (tCons_ok (tI_ok _) (tCons_ok (tI_ok _) (tCons_ok (tI_ok _) (tCons_ok (tLz_ok _ _) (tCons_ok (tLz_ok _ _) (tOne_ok (tLz_ok _ _))))))))) (tCons_ok (tI_ok _) (tCons_ok (tI_ok _) (tCons_ok (tI_ok _) (tCons_ok (tI_ok _) (tCons_ok (tI_ok _) (tCons_ok (tTL_ok RiiiiiiiiiiL2_ok _ _) (tCons_ok (tTL_ok Riiiiiiii_ok _ _) (tOne_ok (tTL_ok Riiiii_ok _ _))))))))) (tOne_ok (tI_ok _)) tB_ok (fun _ => rfl)
theorem world.RemoveBody.eq (o_0 : Int) (o_1 : Int) (o_2 : Int) (o_3 : Int) (o_4 : Int) (o_5_n : Nat) (o_5_g : Nat → (Int × Int × Int × Int × Int × Int × Int × Int × Int × Int × (Nat × (Nat → List AV)))) (o_6_n : Nat) (o_6_g : Nat → (Int × Int × Int × Int × Int × Int × Int × Int)) (o_7_n : Nat) (o_7_g : Nat → (Int × Int × Int × Int × Int)) (p0 : Int) : world.RemoveBody.f ((o_0, o_1, o_2, o_3, o_4, (o_5_n, (fun i => RiiiiiiiiiiL2.enc (o_5_g i))), (o_6_n, (fun i => Riiiiiiii.enc (o_6_g i))), (o_7_n, (fun i => Riiiii.enc (o_7_g i)))), p0) =
  (world.Body.f ((o_0, o_1, o_2, o_3, o_4, (o_5_n, (fun i => RiiiiiiiiiiL2.enc (o_5_g i))), (o_6_n, (fun i => Riiiiiiii.enc (o_6_g i))), (o_7_n, (fun i => Riiiii.enc (o_7_g i)))), p0)).bind fun r1 =>
  bif (!r1.2) then
    outD tB (tCons (tI .i64) (tCons (tI .i64) (tCons (tI .i64) (tCons (tI .i64) (tCons (tI .i64) (tCons (tTL RiiiiiiiiiiL2 11 (0, 0, 0, 0, 0, 0, 0, 0, 0, 0, (0, fun _ => []))) (tCons (tTL Riiiiiiii 8 (0, 0, 0, 0, 0, 0, 0, 0)) (tOne (tTL Riiiii 5 (0, 0, 0, 0, 0)))))))))) (.val (.bool false)) [.val (.int .i64 o_0), .val (.int .i64 o_1), .val (.int .i64 o_2), .val (.int .i64 o_3), .val (.int .i64 o_4), .lst 11 o_5_n none (fun i => RiiiiiiiiiiL2.enc (o_5_g i)), .lst 8 o_6_n none (fun i => Riiiiiiii.enc (o_6_g i)), .lst 5 o_7_n none (fun i => Riiiii.enc (o_7_g i))]
  else
  (world.without_Body.f ((o_5_n, (fun i => RiiiiiiiiiiL2.enc (o_5_g i))), p0)).bind fun r2 =>
  (world.without_Joint.f ((o_6_n, (fun i => Riiiiiiii.enc (o_6_g i))), p0)).bind fun r3 =>
  (world.without_Contact.f ((o_7_n, (fun i => Riiiii.enc (o_7_g i))), p0)).bind fun r4 =>
  outD tB (tCons (tI .i64) (tCons (tI .i64) (tCons (tI .i64) (tCons (tI .i64) (tCons (tI .i64) (tCons (tTL RiiiiiiiiiiL2 11 (0, 0, 0, 0, 0, 0, 0, 0, 0, 0, (0, fun _ => []))) (tCons (tTL Riiiiiiii 8 (0, 0, 0, 0, 0, 0, 0, 0)) (tOne (tTL Riiiii 5 (0, 0, 0, 0, 0)))))))))) (.val (.bool true)) [.val (.int .i64 o_0), .val (.int .i64 o_1), .val (.int .i64 o_2), .val (.int .i64 o_3), .val (.int .i64 o_4), .lst 11 r2.1 none (fun i => RiiiiiiiiiiL2.enc (r2.2 i)), .lst 8 r3.1 none (fun i => Riiiiiiii.enc (r3.2 i)), .lst 5 r4.1 none (fun i => Riiiii.enc (r4.2 i))] := by kernel_rfl
/-! ### slices.Clip[[]bagatelle/api.Joint,bagatelle/api.Joint] -/
noncomputable def slices.Clip_lJoint_Joint.cs : List (Nat × Fw.Summ) := []
theorem slices.Clip_lJoint_Joint.cs_ok : SumsOk Tryz.prog slices.Clip_lJoint_Joint.cs := .nil
def slices.Clip_lJoint_Joint.hs : List (Nat × LHint) := []
noncomputable def slices.Clip_lJoint_Joint.G : Ctx := ⟨Tryz.prog, sumAt slices.Clip_lJoint_Joint.cs, lookH slices.Clip_lJoint_Joint.hs⟩
noncomputable def slices.Clip_lJoint_Joint.f (x : (Nat × (Nat → List AV))) : Option (Nat × (Nat → (Int × Int × Int × Int × Int × Int × Int × Int))) := evF slices.Clip_lJoint_Joint.G 0 Tryz.f47 ((tOne (tLz 8 (Riiiiiiii.enc (0, 0, 0, 0, 0, 0, 0, 0)))).enc x) (tTC Riiiiiiii 8 (0, 0, 0, 0, 0, 0, 0, 0)).dec
noncomputable def slices.Clip_lJoint_Joint.s : Fw.Summ := .mk' (tOne (tLz 8 (Riiiiiiii.enc (0, 0, 0, 0, 0, 0, 0, 0)))) (tTC Riiiiiiii 8 (0, 0, 0, 0, 0, 0, 0, 0)) slices.Clip_lJoint_Joint.f
theorem slices.Clip_lJoint_Joint.ok : slices.Clip_lJoint_Joint.s.Ok Tryz.prog 47 :=
  summ_ok (hint := lookH slices.Clip_lJoint_Joint.hs) (fn := Tryz.f47) (fun x => 0) slices.Clip_lJoint_Joint.cs_ok (by kernel_rfl) (by kernel_rfl) (by kernel_rfl) (by kernel_rfl) (tOne_ok (tLz_ok _ _)) (tTC_ok Riiiiiiii_ok _ _) (fun _ => rfl)
theorem slices.Clip_lJoint_Joint.eq (p0_n : Nat) (p0_g : Nat → (Int × Int × Int × Int × Int × Int × Int × Int)) : slices.Clip_lJoint_Joint.f (p0_n, (fun i => Riiiiiiii.enc (p0_g i))) =
  bif (((decide (0 ≤ ((p0_n : Nat) : Int))) && (decide (((p0_n : Nat) : Int) ≤ ((p0_n : Nat) : Int)))) && (decide (((p0_n : Nat) : Int) ≤ ((p0_n : Nat) : Int)))) then
  (tTC Riiiiiiii 8 (0, 0, 0, 0, 0, 0, 0, 0)).dec (.lst 8 (Int.toNat ((p0_n : Nat) : Int)) (some (Int.toNat ((p0_n : Nat) : Int))) (fun i => Riiiiiiii.enc (p0_g i)))
  else none := by kernel_rfl
/-! ### bagatelle/world.AddJoint -/
noncomputable def world.AddJoint.cs : List (Nat × Fw.Summ) := [(35, world.RightJoint.s), (46, world.Body.s), (47, slices.Clip_lJoint_Joint.s)]
theorem world.AddJoint.cs_ok : SumsOk Tryz.prog world.AddJoint.cs := .cons world.RightJoint.ok (.cons world.Body.ok (.cons slices.Clip_lJoint_Joint.ok (.nil)))
noncomputable def world.AddJoint.G : Ctx := ⟨Tryz.prog, sumAt world.AddJoint.cs, fun _ => { unroll := true }⟩
noncomputable def world.AddJoint.f (x : (Int × Int × Int × Int × Int × (Nat × (Nat → List AV)) × (Nat × (Nat → List AV)) × (Nat × (Nat → List AV))) × (Int × Int × Int × Int × Int × Int × Int × Int)) : Option ((Int × Int) × (Int × Int × Int × Int × Int × (Nat × (Nat → (Int × Int × Int × Int × Int × Int × Int × Int × Int × Int × (Nat × (Nat → List AV))))) × (Nat × (Nat → (Int × Int × Int × Int × Int × Int × Int × Int))) × (Nat × (Nat → (Int × Int × Int × Int × Int))))) := evG world.AddJoint.G Tryz.f13 42 ((tCons (tI .i64) (tCons (tI .i64) (tCons (tI .i64) (tCons (tI .i64) (tCons (tI .i64) (tCons (tLz 11 (RiiiiiiiiiiL2.enc (0, 0, 0, 0, 0, 0, 0, 0, 0, 0, (0, fun _ => [])))) (tCons (tLz 8 (Riiiiiiii.enc (0, 0, 0, 0, 0, 0, 0, 0))) (tOne (tLz 5 (Riiiii.enc (0, 0, 0, 0, 0))))))))))).enc x.1) ((tOne (tG (tCons (tI .i64) (tCons (tI .i64) (tCons (tI .i64) (tCons (tI .i64) (tCons (tI .i64) (tCons (tI .i64) (tCons (tI .i64) (tOne (tI .i64))))))))))).enc x.2) (outD (tT (tCons (tI .i64) (tOne (tI .i64)))) (tCons (tI .i64) (tCons (tI .i64) (tCons (tI .i64) (tCons (tI .i64) (tCons (tI .i64) (tCons (tTL RiiiiiiiiiiL2 11 (0, 0, 0, 0, 0, 0, 0, 0, 0, 0, (0, fun _ => []))) (tCons (tTL Riiiiiiii 8 (0, 0, 0, 0, 0, 0, 0, 0)) (tOne (tTL Riiiii 5 (0, 0, 0, 0, 0)))))))))))
noncomputable def world.AddJoint.s : Fw.Summ := .mkO2 42 (tCons (tI .i64) (tCons (tI .i64) (tCons (tI .i64) (tCons (tI .i64) (tCons (tI .i64) (tCons (tLz 11 (RiiiiiiiiiiL2.enc (0, 0, 0, 0, 0, 0, 0, 0, 0, 0, (0, fun _ => [])))) (tCons (tLz 8 (Riiiiiiii.enc (0, 0, 0, 0, 0, 0, 0, 0))) (tOne (tLz 5 (Riiiii.enc (0, 0, 0, 0, 0))))))))))) (tCons (tI .i64) (tCons (tI .i64) (tCons (tI .i64) (tCons (tI .i64) (tCons (tI .i64) (tCons (tTL RiiiiiiiiiiL2 11 (0, 0, 0, 0, 0, 0, 0, 0, 0, 0, (0, fun _ => []))) (tCons (tTL Riiiiiiii 8 (0, 0, 0, 0, 0, 0, 0, 0)) (tOne (tTL Riiiii 5 (0, 0, 0, 0, 0)))))))))) (tOne (tG (tCons (tI .i64) (tCons (tI .i64) (tCons (tI .i64) (tCons (tI .i64) (tCons (tI .i64) (tCons (tI .i64) (tCons (tI .i64) (tOne (tI .i64))))))))))) (tT (tCons (tI .i64) (tOne (tI .i64)))) world.AddJoint.f
theorem world.AddJoint.ok : world.AddJoint.s.Ok Tryz.prog 13 :=
  osumm2_ok (fn := Tryz.f13) world.AddJoint.cs_ok (by kernel_rfl) (by kernel_rfl) (by kernel_rfl) (by kernel_rfl) (tCons_ok (tI_ok _) (tCons_ok (tI_ok _) (tCons_ok (tI_ok _) (tCons_ok (tI_ok _) (tCons_ok (tI_ok _) (tCons_ok (tLz_ok _ _) (tCons_ok (tLz_ok _ _) (tOne_ok (tLz_ok _ _))))))))) (tCons_ok (tI_ok _) (tCons_ok (tI_ok _) (tCons_ok (tI_ok _) (tCons_ok (tI_ok _) (tCons_ok (tI_ok _) (tCons_ok (tTL_ok RiiiiiiiiiiL2_ok _ _) (tCons_ok (tTL_ok Riiiiiiii_ok _ _) (tOne_ok (tTL_ok Riiiii_ok _ _))))))))) (tOne_ok (tG_ok (tCons_ok (tI_ok _) (tCons_ok (tI_ok _) (tCons_ok (tI_ok _) (tCons_ok (tI_ok _) (tCons_ok (tI_ok _) (tCons_ok (tI_ok _) (tCons_ok (tI_ok _) (tOne_ok (tI_ok _))))))))))) (tT_ok (tCons_ok (tI_ok _) (tOne_ok (tI_ok _)))) (fun _ => rfl)
theorem world.AddJoint.eq (o_0 : Int) (o_1 : Int) (o_2 : Int) (o_3 : Int) (o_4 : Int) (o_5_n : Nat) (o_5_g : Nat → (Int × Int × Int × Int × Int × Int × Int × Int × Int × Int × (Nat × (Nat → List AV)))) (o_6_n : Nat) (o_6_g : Nat → (Int × Int × Int × Int × Int × Int × Int × Int)) (o_7_n : Nat) (o_7_g : Nat → (Int × Int × Int × Int × Int)) (p0_0 : Int) (p0_1 : Int) (p0_2 : Int) (p0_3 : Int) (p0_4 : Int) (p0_5 : Int) (p0_6 : Int) (p0_7 : Int) : world.AddJoint.f ((o_0, o_1, o_2, o_3, o_4, (o_5_n, (fun i => RiiiiiiiiiiL2.enc (o_5_g i))), (o_6_n, (fun i => Riiiiiiii.enc (o_6_g i))), (o_7_n, (fun i => Riiiii.enc (o_7_g i)))), (p0_0, p0_1, p0_2, p0_3, p0_4, p0_5, p0_6, p0_7)) =
  (world.RightJoint.f (p0_0, p0_1, p0_2, p0_3, p0_4, p0_5, p0_6, p0_7)).bind fun r1 =>
  bif (!r1) then
    outD (tT (tCons (tI .i64) (tOne (tI .i64)))) (tCons (tI .i64) (tCons (tI .i64) (tCons (tI .i64) (tCons (tI .i64) (tCons (tI .i64) (tCons (tTL RiiiiiiiiiiL2 11 (0, 0, 0, 0, 0, 0, 0, 0, 0, 0, (0, fun _ => []))) (tCons (tTL Riiiiiiii 8 (0, 0, 0, 0, 0, 0, 0, 0)) (tOne (tTL Riiiii 5 (0, 0, 0, 0, 0)))))))))) (.tup [.val (.int .i64 0), .val (.int .i64 2)]) [.val (.int .i64 o_0), .val (.int .i64 o_1), .val (.int .i64 o_2), .val (.int .i64 o_3), .val (.int .i64 o_4), .lst 11 o_5_n none (fun i => RiiiiiiiiiiL2.enc (o_5_g i)), .lst 8 o_6_n none (fun i => Riiiiiiii.enc (o_6_g i)), .lst 5 o_7_n none (fun i => Riiiii.enc (o_7_g i))]
  else
  (world.Body.f ((o_0, o_1, o_2, o_3, o_4, (o_5_n, (fun i => RiiiiiiiiiiL2.enc (o_5_g i))), (o_6_n, (fun i => Riiiiiiii.enc (o_6_g i))), (o_7_n, (fun i => Riiiii.enc (o_7_g i)))), p0_1)).bind fun r2 =>
  (world.Body.f ((o_0, o_1, o_2, o_3, o_4, (o_5_n, (fun i => RiiiiiiiiiiL2.enc (o_5_g i))), (o_6_n, (fun i => Riiiiiiii.enc (o_6_g i))), (o_7_n, (fun i => Riiiii.enc (o_7_g i)))), p0_2)).bind fun r3 =>
  bif (!r2.2) then
    outD (tT (tCons (tI .i64) (tOne (tI .i64)))) (tCons (tI .i64) (tCons (tI .i64) (tCons (tI .i64) (tCons (tI .i64) (tCons (tI .i64) (tCons (tTL RiiiiiiiiiiL2 11 (0, 0, 0, 0, 0, 0, 0, 0, 0, 0, (0, fun _ => []))) (tCons (tTL Riiiiiiii 8 (0, 0, 0, 0, 0, 0, 0, 0)) (tOne (tTL Riiiii 5 (0, 0, 0, 0, 0)))))))))) (.tup [.val (.int .i64 0), .val (.int .i64 4)]) [.val (.int .i64 o_0), .val (.int .i64 o_1), .val (.int .i64 o_2), .val (.int .i64 o_3), .val (.int .i64 o_4), .lst 11 o_5_n none (fun i => RiiiiiiiiiiL2.enc (o_5_g i)), .lst 8 o_6_n none (fun i => Riiiiiiii.enc (o_6_g i)), .lst 5 o_7_n none (fun i => Riiiii.enc (o_7_g i))]
  else
  bif (!r3.2) then
    outD (tT (tCons (tI .i64) (tOne (tI .i64)))) (tCons (tI .i64) (tCons (tI .i64) (tCons (tI .i64) (tCons (tI .i64) (tCons (tI .i64) (tCons (tTL RiiiiiiiiiiL2 11 (0, 0, 0, 0, 0, 0, 0, 0, 0, 0, (0, fun _ => []))) (tCons (tTL Riiiiiiii 8 (0, 0, 0, 0, 0, 0, 0, 0)) (tOne (tTL Riiiii 5 (0, 0, 0, 0, 0)))))))))) (.tup [.val (.int .i64 0), .val (.int .i64 4)]) [.val (.int .i64 o_0), .val (.int .i64 o_1), .val (.int .i64 o_2), .val (.int .i64 o_3), .val (.int .i64 o_4), .lst 11 o_5_n none (fun i => RiiiiiiiiiiL2.enc (o_5_g i)), .lst 8 o_6_n none (fun i => Riiiiiiii.enc (o_6_g i)), .lst 5 o_7_n none (fun i => Riiiii.enc (o_7_g i))]
  else
  bif (decide (((o_6_n : Nat) : Int) ≥ 1024)) then
    outD (tT (tCons (tI .i64) (tOne (tI .i64)))) (tCons (tI .i64) (tCons (tI .i64) (tCons (tI .i64) (tCons (tI .i64) (tCons (tI .i64) (tCons (tTL RiiiiiiiiiiL2 11 (0, 0, 0, 0, 0, 0, 0, 0, 0, 0, (0, fun _ => []))) (tCons (tTL Riiiiiiii 8 (0, 0, 0, 0, 0, 0, 0, 0)) (tOne (tTL Riiiii 5 (0, 0, 0, 0, 0)))))))))) (.tup [.val (.int .i64 0), .val (.int .i64 3)]) [.val (.int .i64 o_0), .val (.int .i64 o_1), .val (.int .i64 o_2), .val (.int .i64 o_3), .val (.int .i64 o_4), .lst 11 o_5_n none (fun i => RiiiiiiiiiiL2.enc (o_5_g i)), .lst 8 o_6_n none (fun i => Riiiiiiii.enc (o_6_g i)), .lst 5 o_7_n none (fun i => Riiiii.enc (o_7_g i))]
  else
  bif (decide (o_2 ≥ 4611686018427387904)) then
    outD (tT (tCons (tI .i64) (tOne (tI .i64)))) (tCons (tI .i64) (tCons (tI .i64) (tCons (tI .i64) (tCons (tI .i64) (tCons (tI .i64) (tCons (tTL RiiiiiiiiiiL2 11 (0, 0, 0, 0, 0, 0, 0, 0, 0, 0, (0, fun _ => []))) (tCons (tTL Riiiiiiii 8 (0, 0, 0, 0, 0, 0, 0, 0)) (tOne (tTL Riiiii 5 (0, 0, 0, 0, 0)))))))))) (.tup [.val (.int .i64 0), .val (.int .i64 3)]) [.val (.int .i64 o_0), .val (.int .i64 o_1), .val (.int .i64 o_2), .val (.int .i64 o_3), .val (.int .i64 o_4), .lst 11 o_5_n none (fun i => RiiiiiiiiiiL2.enc (o_5_g i)), .lst 8 o_6_n none (fun i => Riiiiiiii.enc (o_6_g i)), .lst 5 o_7_n none (fun i => Riiiii.enc (o_7_g i))]
  else
  (slices.Clip_lJoint_Joint.f (o_6_n, (fun i => Riiiiiiii.enc (o_6_g i)))).bind fun r4 =>
  bif ((decide (r4.1 ≤ r4.1)) && (decide ((r4.1 + 1) * 64 ≤ 140737488355328))) then
  outD (tT (tCons (tI .i64) (tOne (tI .i64)))) (tCons (tI .i64) (tCons (tI .i64) (tCons (tI .i64) (tCons (tI .i64) (tCons (tI .i64) (tCons (tTL RiiiiiiiiiiL2 11 (0, 0, 0, 0, 0, 0, 0, 0, 0, 0, (0, fun _ => []))) (tCons (tTL Riiiiiiii 8 (0, 0, 0, 0, 0, 0, 0, 0)) (tOne (tTL Riiiii 5 (0, 0, 0, 0, 0)))))))))) (.tup [.val (.int .i64 o_2), .val (.int .i64 0)]) [.val (.int .i64 o_0), .val (.int .i64 o_1), .val (.int .i64 (IntKind.i64.wrap (o_2 + 1))), .val (.int .i64 o_3), .val (.int .i64 o_4), .lst 11 o_5_n none (fun i => RiiiiiiiiiiL2.enc (o_5_g i)), .lst 8 (r4.1 + 1) none (fun i => cloL (if i = r4.1 then Riiiiiiii.enc (o_2, p0_1, p0_2, p0_3, p0_4, p0_5, p0_6, p0_7) else Riiiiiiii.enc (r4.2 i))), .lst 5 o_7_n none (fun i => Riiiii.enc (o_7_g i))]
  else none := by kernel_rfl
/-! ### bagatelle/world.Joint$1 -/
noncomputable def world.Joint_1.cs : List (Nat × Fw.Summ) := []
theorem world.Joint_1.cs_ok : SumsOk Tryz.prog world.Joint_1.cs := .nil
def world.Joint_1.hs : List (Nat × LHint) := []
noncomputable def world.Joint_1.G : Ctx := ⟨Tryz.prog, sumAt world.Joint_1.cs, lookH world.Joint_1.hs⟩
noncomputable def world.Joint_1.f (x : (Int × Int × Int × Int × Int × Int × Int × Int)) : Option Int := evF world.Joint_1.G 0 Tryz.f84 ((tOne (tG (tCons (tI .i64) (tCons (tI .i64) (tCons (tI .i64) (tCons (tI .i64) (tCons (tI .i64) (tCons (tI .i64) (tCons (tI .i64) (tOne (tI .i64))))))))))).enc x) (tI .i64).dec
noncomputable def world.Joint_1.s : Fw.Summ := .mk' (tOne (tG (tCons (tI .i64) (tCons (tI .i64) (tCons (tI .i64) (tCons (tI .i64) (tCons (tI .i64) (tCons (tI .i64) (tCons (tI .i64) (tOne (tI .i64))))))))))) (tI .i64) world.Joint_1.f
theorem world.Joint_1.ok : world.Joint_1.s.Ok Tryz.prog 84 :=
  summ_ok (hint := lookH world.Joint_1.hs) (fn := Tryz.f84) (fun x => 0) world.Joint_1.cs_ok (by kernel_rfl) (by kernel_rfl) (by kernel_rfl) (by kernel_rfl) (tOne_ok (tG_ok (tCons_ok (tI_ok _) (tCons_ok (tI_ok _) (tCons_ok (tI_ok _) (tCons_ok (tI_ok _) (tCons_ok (tI_ok _) (tCons_ok (tI_ok _) (tCons_ok (tI_ok _) (tOne_ok (tI_ok _))))))))))) (tI_ok _) (fun _ => rfl)
theorem world.Joint_1.eq (p0_0 : Int) (p0_1 : Int) (p0_2 : Int) (p0_3 : Int) (p0_4 : Int) (p0_5 : Int) (p0_6 : Int) (p0_7 : Int) : world.Joint_1.f (p0_0, p0_1, p0_2, p0_3, p0_4, p0_5, p0_6, p0_7) =
  some p0_0 := by kernel_rfl
/-! ### bagatelle/world.find[bagatelle/api.Joint]$1 -/
noncomputable def world.find_Joint_1.cs : List (Nat × Fw.Summ) := [(84, world.Joint_1.s), (92, cmp.Compare_int.s)]
theorem world.find_Joint_1.cs_ok : SumsOk Tryz.prog world.find_Joint_1.cs := .cons world.Joint_1.ok (.cons cmp.Compare_int.ok (.nil))
def world.find_Joint_1.hs : List (Nat × LHint) := []
noncomputable def world.find_Joint_1.G : Ctx := ⟨Tryz.prog, sumAt world.find_Joint_1.cs, lookH world.find_Joint_1.hs⟩
noncomputable def world.find_Joint_1.f (x : ((Int × Int × Int × Int × Int × Int × Int × Int) × Int × Unit)) : Option Int := evF world.find_Joint_1.G 0 Tryz.f104 ((tCons (tG (tCons (tI .i64) (tCons (tI .i64) (tCons (tI .i64) (tCons (tI .i64) (tCons (tI .i64) (tCons (tI .i64) (tCons (tI .i64) (tOne (tI .i64)))))))))) (tCons (tI .i64) (tOne (tP (tOne (tF 84 tNil)))))).enc x) (tI .i64).dec
noncomputable def world.find_Joint_1.s : Fw.Summ := .mk' (tCons (tG (tCons (tI .i64) (tCons (tI .i64) (tCons (tI .i64) (tCons (tI .i64) (tCons (tI .i64) (tCons (tI .i64) (tCons (tI .i64) (tOne (tI .i64)))))))))) (tCons (tI .i64) (tOne (tP (tOne (tF 84 tNil)))))) (tI .i64) world.find_Joint_1.f
theorem world.find_Joint_1.ok : world.find_Joint_1.s.Ok Tryz.prog 104 :=
  summ_ok (hint := lookH world.find_Joint_1.hs) (fn := Tryz.f104) (fun x => 0) world.find_Joint_1.cs_ok (by kernel_rfl) (by kernel_rfl) (by kernel_rfl) (by kernel_rfl) (tCons_ok (tG_ok (tCons_ok (tI_ok _) (tCons_ok (tI_ok _) (tCons_ok (tI_ok _) (tCons_ok (tI_ok _) (tCons_ok (tI_ok _) (tCons_ok (tI_ok _) (tCons_ok (tI_ok _) (tOne_ok (tI_ok _)))))))))) (tCons_ok (tI_ok _) (tOne_ok (tP_ok (tOne_ok (tF_ok _ tNil_ok)))))) (tI_ok _) (fun _ => rfl)
theorem world.find_Joint_1.eq (p0_0 : Int) (p0_1 : Int) (p0_2 : Int) (p0_3 : Int) (p0_4 : Int) (p0_5 : Int) (p0_6 : Int) (p0_7 : Int) (p1 : Int) : world.find_Joint_1.f ((p0_0, p0_1, p0_2, p0_3, p0_4, p0_5, p0_6, p0_7), p1, ()) =
  (world.Joint_1.f (p0_0, p0_1, p0_2, p0_3, p0_4, p0_5, p0_6, p0_7)).bind fun r1 =>
  (cmp.Compare_int.f (r1, p1)).bind fun r2 =>
  some r2 := by kernel_rfl
/-! ### slices.BinarySearchFunc[[]bagatelle/api.Joint,bagatelle/api.Joint,int] -/
noncomputable def slices.BinarySearchFunc_lJoint_Joint_int.cs : List (Nat × Fw.Summ) := [(104, world.find_Joint_1.s)]
theorem slices.BinarySearchFunc_lJoint_Joint_int.cs_ok : SumsOk Tryz.prog slices.BinarySearchFunc_lJoint_Joint_int.cs := .cons world.find_Joint_1.ok (.nil)
def slices.BinarySearchFunc_lJoint_Joint_int.hs : List (Nat × LHint) := [(0, { mat := [], live := [0, 1, 2, 8, 9, 10], ren := [] })]
noncomputable def slices.BinarySearchFunc_lJoint_Joint_int.G : Ctx := ⟨Tryz.prog, sumAt slices.BinarySearchFunc_lJoint_Joint_int.cs, lookH slices.BinarySearchFunc_lJoint_Joint_int.hs⟩
noncomputable def slices.BinarySearchFunc_lJoint_Joint_int.g (k0 : Nat) (x : ((Nat × (Nat → List AV)) × Int × Unit)) : Option (Int × Bool) := evF slices.BinarySearchFunc_lJoint_Joint_int.G k0 Tryz.f103 ((tCons (tLz 8 (Riiiiiiii.enc (0, 0, 0, 0, 0, 0, 0, 0))) (tCons (tI .i64) (tOne (tF 104 (tOne (tP (tOne (tF 84 tNil)))))))).enc x) (tT (tCons (tI .i64) (tOne tB))).dec
noncomputable def slices.BinarySearchFunc_lJoint_Joint_int.f (x : ((Nat × (Nat → List AV)) × Int × Unit)) : Option (Int × Bool) := slices.BinarySearchFunc_lJoint_Joint_int.g (1000000) x
noncomputable def slices.BinarySearchFunc_lJoint_Joint_int.s : Fw.Summ := .mk' (tCons (tLz 8 (Riiiiiiii.enc (0, 0, 0, 0, 0, 0, 0, 0))) (tCons (tI .i64) (tOne (tF 104 (tOne (tP (tOne (tF 84 tNil)))))))) (tT (tCons (tI .i64) (tOne tB))) slices.BinarySearchFunc_lJoint_Joint_int.f
theorem slices.BinarySearchFunc_lJoint_Joint_int.ok : slices.BinarySearchFunc_lJoint_Joint_int.s.Ok Tryz.prog 103 :=
  summ_ok (hint := lookH slices.BinarySearchFunc_lJoint_Joint_int.hs) (fn := Tryz.f103) (fun x => 1000000) slices.BinarySearchFunc_lJoint_Joint_int.cs_ok (by kernel_rfl) (by kernel_rfl) (by kernel_rfl) (by kernel_rfl) (tCons_ok (tLz_ok _ _) (tCons_ok (tI_ok _) (tOne_ok (tF_ok _ (tOne_ok (tP_ok (tOne_ok (tF_ok _ tNil_ok)))))))) (tT_ok (tCons_ok (tI_ok _) (tOne_ok tB_ok))) (fun _ => rfl)
noncomputable def slices.BinarySearchFunc_lJoint_Joint_int.l0 (k0 k1 : Nat) (v1 : Nat) (v2 : Nat → List AV) (v3 : Int) (v4 : Int) (v5 : Int) (v6 : Int) : Option (Int × Bool) :=
  evLoop (lookH slices.BinarySearchFunc_lJoint_Joint_int.hs 0) 0 (ev slices.BinarySearchFunc_lJoint_Joint_int.G k0 (codeAt [1, 1, 1, 0, 0, 0] (bodyOf Tryz.f103)) 0) k1
  ⟨[.lst 8 v1 none v2, .val (.int .i64 v3), .fn 104 [.rp [.fn 84 []] 0], .top, .top, .top, .top, .top, .val (.int .i64 v4), .val (.int .i64 v5), .val (.int .i64 v6), .top, .top, .top, .top, .top, .top, .top, .top, .top, .top, .top, .top, .top, .top, .top, .top, .top, .top, .top, .top, .top, .top, .top, .top, .top, .top, .top, .top, .top, .top, .top, .top, .top, .top, .top, .top, .top, .top], []⟩
  (kBlock 0 (kSeq slices.BinarySearchFunc_lJoint_Joint_int.G k0 (codeAt [1, 1, 1, 1] (bodyOf Tryz.f103)) 0 (kFin slices.BinarySearchFunc_lJoint_Joint_int.G Tryz.f103 (tT (tCons (tI .i64) (tOne tB))).dec)))
theorem slices.BinarySearchFunc_lJoint_Joint_int.l0_eq (k0 k1 : Nat) (v1 : Nat) (v2 : Nat → (Int × Int × Int × Int × Int × Int × Int × Int)) (v3 : Int) (v4 : Int) (v5 : Int) (v6 : Int) : slices.BinarySearchFunc_lJoint_Joint_int.l0 k0 (k1 + 1) v1 (fun i => Riiiiiiii.enc (v2 i)) v3 v4 v5 v6 =
  bif (decide (v5 < v6)) then
    bif ((decide (0 ≤ (IntKind.i64.wrap (Int.fdiv (IntKind.u64.wrap (IntKind.i64.wrap (v5 + v6))) (2 ^ 1))))) && (decide ((IntKind.i64.wrap (Int.fdiv (IntKind.u64.wrap (IntKind.i64.wrap (v5 + v6))) (2 ^ 1))) < ((v1 : Nat) : Int)))) then
    (world.find_Joint_1.f (((v2 (Int.toNat (IntKind.i64.wrap (Int.fdiv (IntKind.u64.wrap (IntKind.i64.wrap (v5 + v6))) (2 ^ 1))))).1, (v2 (Int.toNat (IntKind.i64.wrap (Int.fdiv (IntKind.u64.wrap (IntKind.i64.wrap (v5 + v6))) (2 ^ 1))))).2.1, (v2 (Int.toNat (IntKind.i64.wrap (Int.fdiv (IntKind.u64.wrap (IntKind.i64.wrap (v5 + v6))) (2 ^ 1))))).2.2.1, (v2 (Int.toNat (IntKind.i64.wrap (Int.fdiv (IntKind.u64.wrap (IntKind.i64.wrap (v5 + v6))) (2 ^ 1))))).2.2.2.1, (v2 (Int.toNat (IntKind.i64.wrap (Int.fdiv (IntKind.u64.wrap (IntKind.i64.wrap (v5 + v6))) (2 ^ 1))))).2.2.2.2.1, (v2 (Int.toNat (IntKind.i64.wrap (Int.fdiv (IntKind.u64.wrap (IntKind.i64.wrap (v5 + v6))) (2 ^ 1))))).2.2.2.2.2.1, (v2 (Int.toNat (IntKind.i64.wrap (Int.fdiv (IntKind.u64.wrap (IntKind.i64.wrap (v5 + v6))) (2 ^ 1))))).2.2.2.2.2.2.1, (v2 (Int.toNat (IntKind.i64.wrap (Int.fdiv (IntKind.u64.wrap (IntKind.i64.wrap (v5 + v6))) (2 ^ 1))))).2.2.2.2.2.2.2), v3, ())).bind fun r1 =>
    bif (decide (r1 < 0)) then
      slices.BinarySearchFunc_lJoint_Joint_int.l0 k0 k1 v1 (fun i => Riiiiiiii.enc (v2 i)) v3 v4 (IntKind.i64.wrap ((IntKind.i64.wrap (Int.fdiv (IntKind.u64.wrap (IntKind.i64.wrap (v5 + v6))) (2 ^ 1))) + 1)) v6
    else
    slices.BinarySearchFunc_lJoint_Joint_int.l0 k0 k1 v1 (fun i => Riiiiiiii.enc (v2 i)) v3 v4 v5 (IntKind.i64.wrap (Int.fdiv (IntKind.u64.wrap (IntKind.i64.wrap (v5 + v6))) (2 ^ 1)))
    else none
  else
  bif (decide (v5 < v4)) then
    bif ((decide (0 ≤ v5)) && (decide (v5 < ((v1 : Nat) : Int)))) then
    (world.find_Joint_1.f (((v2 (Int.toNat v5)).1, (v2 (Int.toNat v5)).2.1, (v2 (Int.toNat v5)).2.2.1, (v2 (Int.toNat v5)).2.2.2.1, (v2 (Int.toNat v5)).2.2.2.2.1, (v2 (Int.toNat v5)).2.2.2.2.2.1, (v2 (Int.toNat v5)).2.2.2.2.2.2.1, (v2 (Int.toNat v5)).2.2.2.2.2.2.2), v3, ())).bind fun r2 =>
    some (v5, (r2 == 0))
    else none
  else
  some (v5, false) := by kernel_rfl
theorem slices.BinarySearchFunc_lJoint_Joint_int.eq (k0 : Nat) (p0_n : Nat) (p0_g : Nat → (Int × Int × Int × Int × Int × Int × Int × Int)) (p1 : Int) : slices.BinarySearchFunc_lJoint_Joint_int.g k0 ((p0_n, (fun i => Riiiiiiii.enc (p0_g i))), p1, ()) =
  slices.BinarySearchFunc_lJoint_Joint_int.l0 k0 k0 p0_n (fun i => Riiiiiiii.enc (p0_g i)) p1 ((p0_n : Nat) : Int) 0 ((p0_n : Nat) : Int) := by kernel_rfl
/-! ### bagatelle/world.find[bagatelle/api.Joint] -/
noncomputable def world.find_Joint.cs : List (Nat × Fw.Summ) := [(103, slices.BinarySearchFunc_lJoint_Joint_int.s)]
theorem world.find_Joint.cs_ok : SumsOk Tryz.prog world.find_Joint.cs := .cons slices.BinarySearchFunc_lJoint_Joint_int.ok (.nil)
def world.find_Joint.hs : List (Nat × LHint) := []
noncomputable def world.find_Joint.G : Ctx := ⟨Tryz.prog, sumAt world.find_Joint.cs, lookH world.find_Joint.hs⟩
noncomputable def world.find_Joint.f (x : ((Nat × (Nat → List AV)) × Int × Unit)) : Option (Int × Bool) := evF world.find_Joint.G 0 Tryz.f83 ((tCons (tLz 8 (Riiiiiiii.enc (0, 0, 0, 0, 0, 0, 0, 0))) (tCons (tI .i64) (tOne (tF 84 tNil)))).enc x) (tT (tCons (tI .i64) (tOne tB))).dec
noncomputable def world.find_Joint.s : Fw.Summ := .mk' (tCons (tLz 8 (Riiiiiiii.enc (0, 0, 0, 0, 0, 0, 0, 0))) (tCons (tI .i64) (tOne (tF 84 tNil)))) (tT (tCons (tI .i64) (tOne tB))) world.find_Joint.f
theorem world.find_Joint.ok : world.find_Joint.s.Ok Tryz.prog 83 :=
  summ_ok (hint := lookH world.find_Joint.hs) (fn := Tryz.f83) (fun x => 0) world.find_Joint.cs_ok (by kernel_rfl) (by kernel_rfl) (by kernel_rfl) (by kernel_rfl) (tCons_ok (tLz_ok _ _) (tCons_ok (tI_ok _) (tOne_ok (tF_ok _ tNil_ok)))) (tT_ok (tCons_ok (tI_ok _) (tOne_ok tB_ok))) (fun _ => rfl)
theorem world.find_Joint.eq (p0_n : Nat) (p0_g : Nat → (Int × Int × Int × Int × Int × Int × Int × Int)) (p1 : Int) : world.find_Joint.f ((p0_n, (fun i => Riiiiiiii.enc (p0_g i))), p1, ()) =
  (slices.BinarySearchFunc_lJoint_Joint_int.f ((p0_n, (fun i => Riiiiiiii.enc (p0_g i))), p1, ())).bind fun r1 =>
  bif (!r1.2) then
    some (0, false)
  else
  some (r1.1, true) := by kernel_rfl
/-! ### bagatelle/world.Joint -/
noncomputable def world.Joint.cs : List (Nat × Fw.Summ) := [(83, world.find_Joint.s)]
theorem world.Joint.cs_ok : SumsOk Tryz.prog world.Joint.cs := .cons world.find_Joint.ok (.nil)
def world.Joint.hs : List (Nat × LHint) := []
noncomputable def world.Joint.G : Ctx := ⟨Tryz.prog, sumAt world.Joint.cs, lookH world.Joint.hs⟩
noncomputable def world.Joint.f (x : ((Int × Int × Int × Int × Int × (Nat × (Nat → List AV)) × (Nat × (Nat → List AV)) × (Nat × (Nat → List AV))) × Int)) : Option (Int × Bool) := evF world.Joint.G 0 Tryz.f54 ((tCons (tG (tCons (tI .i64) (tCons (tI .i64) (tCons (tI .i64) (tCons (tI .i64) (tCons (tI .i64) (tCons (tLz 11 (RiiiiiiiiiiL2.enc (0, 0, 0, 0, 0, 0, 0, 0, 0, 0, (0, fun _ => [])))) (tCons (tLz 8 (Riiiiiiii.enc (0, 0, 0, 0, 0, 0, 0, 0))) (tOne (tLz 5 (Riiiii.enc (0, 0, 0, 0, 0)))))))))))) (tOne (tI .i64))).enc x) (tT (tCons (tI .i64) (tOne tB))).dec
noncomputable def world.Joint.s : Fw.Summ := .mk' (tCons (tG (tCons (tI .i64) (tCons (tI .i64) (tCons (tI .i64) (tCons (tI .i64) (tCons (tI .i64) (tCons (tLz 11 (RiiiiiiiiiiL2.enc (0, 0, 0, 0, 0, 0, 0, 0, 0, 0, (0, fun _ => [])))) (tCons (tLz 8 (Riiiiiiii.enc (0, 0, 0, 0, 0, 0, 0, 0))) (tOne (tLz 5 (Riiiii.enc (0, 0, 0, 0, 0)))))))))))) (tOne (tI .i64))) (tT (tCons (tI .i64) (tOne tB))) world.Joint.f
theorem world.Joint.ok : world.Joint.s.Ok Tryz.prog 54 :=
  summ_ok (hint := lookH world.Joint.hs) (fn := Tryz.f54) (fun x => 0) world.Joint.cs_ok (by kernel_rfl) (by kernel_rfl) (by kernel_rfl) (by kernel_rfl) (tCons_ok (tG_ok (tCons_ok (tI_ok _) (tCons_ok (tI_ok _) (tCons_ok (tI_ok _) (tCons_ok (tI_ok _) (tCons_ok (tI_ok _) (tCons_ok (tLz_ok _ _) (tCons_ok (tLz_ok _ _) (tOne_ok (tLz_ok _ _)))))))))) (tOne_ok (tI_ok _))) (tT_ok (tCons_ok (tI_ok _) (tOne_ok tB_ok))) (fun _ => rfl)
theorem world.Joint.eq (p0_0 : Int) (p0_1 : Int) (p0_2 : Int) (p0_3 : Int) (p0_4 : Int) (p0_5_n : Nat) (p0_5_g : Nat → (Int × Int × Int × Int × Int × Int × Int × Int × Int × Int × (Nat × (Nat → List AV)))) (p0_6_n : Nat) (p0_6_g : Nat → (Int × Int × Int × Int × Int × Int × Int × Int)) (p0_7_n : Nat) (p0_7_g : Nat → (Int × Int × Int × Int × Int)) (p1 : Int) : world.Joint.f ((p0_0, p0_1, p0_2, p0_3, p0_4, (p0_5_n, (fun i => RiiiiiiiiiiL2.enc (p0_5_g i))), (p0_6_n, (fun i => Riiiiiiii.enc (p0_6_g i))), (p0_7_n, (fun i => Riiiii.enc (p0_7_g i)))), p1) =
  (world.find_Joint.f ((p0_6_n, (fun i => Riiiiiiii.enc (p0_6_g i))), p1, ())).bind fun r1 =>
  some (r1.1, r1.2) := by kernel_rfl
/-! ### bagatelle/world.RemoveJoint$1 -/
noncomputable def world.RemoveJoint_1.cs : List (Nat × Fw.Summ) := []
theorem world.RemoveJoint_1.cs_ok : SumsOk Tryz.prog world.RemoveJoint_1.cs := .nil
def world.RemoveJoint_1.hs : List (Nat × LHint) := []
noncomputable def world.RemoveJoint_1.G : Ctx := ⟨Tryz.prog, sumAt world.RemoveJoint_1.cs, lookH world.RemoveJoint_1.hs⟩
noncomputable def world.RemoveJoint_1.f (x : ((Int × Int × Int × Int × Int × Int × Int × Int) × Int)) : Option Bool := evF world.RemoveJoint_1.G 0 Tryz.f55 ((tCons (tG (tCons (tI .i64) (tCons (tI .i64) (tCons (tI .i64) (tCons (tI .i64) (tCons (tI .i64) (tCons (tI .i64) (tCons (tI .i64) (tOne (tI .i64)))))))))) (tOne (tP (tOne (tI .i64))))).enc x) tB.dec
noncomputable def world.RemoveJoint_1.s : Fw.Summ := .mk' (tCons (tG (tCons (tI .i64) (tCons (tI .i64) (tCons (tI .i64) (tCons (tI .i64) (tCons (tI .i64) (tCons (tI .i64) (tCons (tI .i64) (tOne (tI .i64)))))))))) (tOne (tP (tOne (tI .i64))))) tB world.RemoveJoint_1.f
theorem world.RemoveJoint_1.ok : world.RemoveJoint_1.s.Ok Tryz.prog 55 :=
  summ_ok (hint := lookH world.RemoveJoint_1.hs) (fn := Tryz.f55) (fun x => 0) world.RemoveJoint_1.cs_ok (by kernel_rfl) (by kernel_rfl) (by kernel_rfl) (by kernel_rfl) (tCons_ok (tG_ok (tCons_ok (tI_ok _) (tCons_ok (tI_ok _) (tCons_ok (tI_ok _) (tCons_ok (tI_ok _) (tCons_ok (tI_ok _) (tCons_ok (tI_ok _) (tCons_ok (tI_ok _) (tOne_ok (tI_ok _)))))))))) (tOne_ok (tP_ok (tOne_ok (tI_ok _))))) tB_ok (fun _ => rfl)
theorem world.RemoveJoint_1.eq (p0_0 : Int) (p0_1 : Int) (p0_2 : Int) (p0_3 : Int) (p0_4 : Int) (p0_5 : Int) (p0_6 : Int) (p0_7 : Int) (p1_0 : Int) : world.RemoveJoint_1.f ((p0_0, p0_1, p0_2, p0_3, p0_4, p0_5, p0_6, p0_7), p1_0) =
  some (p0_0 == p1_0) := by kernel_rfl
/-! ### slices.IndexFunc[[]bagatelle/api.Joint,bagatelle/api.Joint] -/
noncomputable def slices.IndexFunc_lJoint_Joint_v1.cs : List (Nat × Fw.Summ) := [(55, world.RemoveJoint_1.s)]
theorem slices.IndexFunc_lJoint_Joint_v1.cs_ok : SumsOk Tryz.prog slices.IndexFunc_lJoint_Joint_v1.cs := .cons world.RemoveJoint_1.ok (.nil)
def slices.IndexFunc_lJoint_Joint_v1.hs : List (Nat × LHint) := [(0, { mat := [], live := [0, 1, 7, 8], ren := [] })]
noncomputable def slices.IndexFunc_lJoint_Joint_v1.G : Ctx := ⟨Tryz.prog, sumAt slices.IndexFunc_lJoint_Joint_v1.cs, lookH slices.IndexFunc_lJoint_Joint_v1.hs⟩
noncomputable def slices.IndexFunc_lJoint_Joint_v1.g (k0 : Nat) (x : ((Nat × (Nat → List AV)) × Int)) : Option Int := evF slices.IndexFunc_lJoint_Joint_v1.G k0 Tryz.f101 ((tCons (tLz 8 (Riiiiiiii.enc (0, 0, 0, 0, 0, 0, 0, 0))) (tOne (tF 55 (tOne (tP (tOne (tI .i64))))))).enc x) (tI .i64).dec
noncomputable def slices.IndexFunc_lJoint_Joint_v1.f (x : ((Nat × (Nat → List AV)) × Int)) : Option Int := slices.IndexFunc_lJoint_Joint_v1.g (1000000) x
noncomputable def slices.IndexFunc_lJoint_Joint_v1.s : Fw.Summ := .mk' (tCons (tLz 8 (Riiiiiiii.enc (0, 0, 0, 0, 0, 0, 0, 0))) (tOne (tF 55 (tOne (tP (tOne (tI .i64))))))) (tI .i64) slices.IndexFunc_lJoint_Joint_v1.f
theorem slices.IndexFunc_lJoint_Joint_v1.ok : slices.IndexFunc_lJoint_Joint_v1.s.Ok Tryz.prog 101 :=
  summ_ok (hint := lookH slices.IndexFunc_lJoint_Joint_v1.hs) (fn := Tryz.f101) (fun x => 1000000) slices.IndexFunc_lJoint_Joint_v1.cs_ok (by kernel_rfl) (by kernel_rfl) (by kernel_rfl) (by kernel_rfl) (tCons_ok (tLz_ok _ _) (tOne_ok (tF_ok _ (tOne_ok (tP_ok (tOne_ok (tI_ok _))))))) (tI_ok _) (fun _ => rfl)
noncomputable def slices.IndexFunc_lJoint_Joint_v1.l0 (k0 k1 : Nat) (v1 : Nat) (v2 : Nat → List AV) (v3 : Int) (v4 : Int) (v5 : Int) : Option Int :=
  evLoop (lookH slices.IndexFunc_lJoint_Joint_v1.hs 0) 0 (ev slices.IndexFunc_lJoint_Joint_v1.G k0 (codeAt [1, 0, 1, 0, 0] (bodyOf Tryz.f101)) 0) k1
  ⟨[.lst 8 v1 none v2, .fn 55 [.rp [.val (.int .i64 v3)] 0], .top, .top, .top, .top, .top, .val (.int .i64 v4), .val (.int .i64 v5), .top, .top, .top, .top, .top, .top, .top, .top, .top, .top], []⟩
  (kBlock 0 (kSeq slices.IndexFunc_lJoint_Joint_v1.G k0 (codeAt [1, 1] (bodyOf Tryz.f101)) 0 (kFin slices.IndexFunc_lJoint_Joint_v1.G Tryz.f101 (tI .i64).dec)))
theorem slices.IndexFunc_lJoint_Joint_v1.l0_eq (k0 k1 : Nat) (v1 : Nat) (v2 : Nat → (Int × Int × Int × Int × Int × Int × Int × Int)) (v3 : Int) (v4 : Int) (v5 : Int) : slices.IndexFunc_lJoint_Joint_v1.l0 k0 (k1 + 1) v1 (fun i => Riiiiiiii.enc (v2 i)) v3 v4 v5 =
  bif (decide (v5 < v4)) then
    bif ((decide (0 ≤ v5)) && (decide (v5 < ((v1 : Nat) : Int)))) then
    (world.RemoveJoint_1.f (((v2 (Int.toNat v5)).1, (v2 (Int.toNat v5)).2.1, (v2 (Int.toNat v5)).2.2.1, (v2 (Int.toNat v5)).2.2.2.1, (v2 (Int.toNat v5)).2.2.2.2.1, (v2 (Int.toNat v5)).2.2.2.2.2.1, (v2 (Int.toNat v5)).2.2.2.2.2.2.1, (v2 (Int.toNat v5)).2.2.2.2.2.2.2), v3)).bind fun r1 =>
    bif r1 then
      some v5
    else
    slices.IndexFunc_lJoint_Joint_v1.l0 k0 k1 v1 (fun i => Riiiiiiii.enc (v2 i)) v3 v4 (IntKind.i64.wrap (v5 + 1))
    else none
  else
  some (-1) := by kernel_rfl
theorem slices.IndexFunc_lJoint_Joint_v1.eq (k0 : Nat) (p0_n : Nat) (p0_g : Nat → (Int × Int × Int × Int × Int × Int × Int × Int)) (p1_0_0 : Int) : slices.IndexFunc_lJoint_Joint_v1.g k0 ((p0_n, (fun i => Riiiiiiii.enc (p0_g i))), p1_0_0) =
  slices.IndexFunc_lJoint_Joint_v1.l0 k0 k0 p0_n (fun i => Riiiiiiii.enc (p0_g i)) p1_0_0 ((p0_n : Nat) : Int) 0 := by kernel_rfl
/-! ### slices.DeleteFunc[[]bagatelle/api.Joint,bagatelle/api.Joint] -/
noncomputable def slices.DeleteFunc_lJoint_Joint_v1.cs : List (Nat × Fw.Summ) := [(101, slices.IndexFunc_lJoint_Joint_v1.s), (55, world.RemoveJoint_1.s)]
theorem slices.DeleteFunc_lJoint_Joint_v1.cs_ok : SumsOk Tryz.prog slices.DeleteFunc_lJoint_Joint_v1.cs := .cons slices.IndexFunc_lJoint_Joint_v1.ok (.cons world.RemoveJoint_1.ok (.nil))
def slices.DeleteFunc_lJoint_Joint_v1.hs : List (Nat × LHint) := [(0, { mat := [], live := [0, 1, 5, 6], ren := [] })]
noncomputable def slices.DeleteFunc_lJoint_Joint_v1.G : Ctx := ⟨Tryz.prog, sumAt slices.DeleteFunc_lJoint_Joint_v1.cs, lookH slices.DeleteFunc_lJoint_Joint_v1.hs⟩
noncomputable def slices.DeleteFunc_lJoint_Joint_v1.g (k0 : Nat) (x : (Nat × (Nat → List AV)) × Int) : Option (Nat × (Nat → (Int × Int × Int × Int × Int × Int × Int × Int))) := evT slices.DeleteFunc_lJoint_Joint_v1.G k0 Tryz.f81 ⟨true, 57, 8, x.1.1, x.1.2, none⟩ ((tOne (tF 55 (tOne (tP (tOne (tI .i64)))))).enc x.2) (RowT.mk Riiiiiiii 57 8 (0, 0, 0, 0, 0, 0, 0, 0)).dec
noncomputable def slices.DeleteFunc_lJoint_Joint_v1.f (x : (Nat × (Nat → List AV)) × Int) : Option (Nat × (Nat → (Int × Int × Int × Int × Int × Int × Int × Int))) := slices.DeleteFunc_lJoint_Joint_v1.g (1000000) x
noncomputable def slices.DeleteFunc_lJoint_Joint_v1.s : Fw.Summ := .mkT (tOne (tF 55 (tOne (tP (tOne (tI .i64)))))) (RowT.mk Riiiiiiii 57 8 (0, 0, 0, 0, 0, 0, 0, 0)) slices.DeleteFunc_lJoint_Joint_v1.f
theorem slices.DeleteFunc_lJoint_Joint_v1.ok : slices.DeleteFunc_lJoint_Joint_v1.s.Ok Tryz.prog 81 :=
  tsumm_ok (hint := lookH slices.DeleteFunc_lJoint_Joint_v1.hs) (fn := Tryz.f81) (fun x => 1000000) slices.DeleteFunc_lJoint_Joint_v1.cs_ok (by kernel_rfl) (by kernel_rfl) (by kernel_rfl) (by kernel_rfl) (tOne_ok (tF_ok _ (tOne_ok (tP_ok (tOne_ok (tI_ok _)))))) Riiiiiiii_ok (fun _ => rfl)
noncomputable def slices.DeleteFunc_lJoint_Joint_v1.l0 (k0 k1 : Nat) (v1 : Nat) (v2 : Nat → List AV) (v3 : Int) (v4 : Int) (v5 : Int) : Option (Nat × (Nat → (Int × Int × Int × Int × Int × Int × Int × Int))) :=
  evLoop (lookH slices.DeleteFunc_lJoint_Joint_v1.hs 0) 1 (ev slices.DeleteFunc_lJoint_Joint_v1.G k0 (codeAt [1, 1, 1, 0, 1, 0, 0] (bodyOf Tryz.f81)) 0) k1
  ⟨[.slc 0 0 none none, .fn 55 [.rp [.val (.int .i64 v3)] 0], .top, .top, .top, .val (.int .i64 v4), .val (.int .i64 v5), .top, .top, .top, .top, .top, .top, .top, .top, .top, .top, .top, .top, .top, .top, .top, .top, .top, .top, .top, .top, .top, .top, .top, .top, .top, .top, .top, .top, .top, .top, .top, .top, .top, .top, .top], [.live ⟨true, 57, 8, v1, v2, none⟩]⟩
  (kBlock 0 (kSeq slices.DeleteFunc_lJoint_Joint_v1.G k0 (codeAt [1, 1, 1, 1] (bodyOf Tryz.f81)) 0 (kFinT slices.DeleteFunc_lJoint_Joint_v1.G Tryz.f81 (RowT.mk Riiiiiiii 57 8 (0, 0, 0, 0, 0, 0, 0, 0)).dec)))
theorem slices.DeleteFunc_lJoint_Joint_v1.l0_eq (k0 k1 : Nat) (v1 : Nat) (v2 : Nat → (Int × Int × Int × Int × Int × Int × Int × Int)) (v3 : Int) (v4 : Int) (v5 : Int) : slices.DeleteFunc_lJoint_Joint_v1.l0 k0 (k1 + 1) v1 (fun i => Riiiiiiii.enc (v2 i)) v3 v4 v5 =
  bif (decide (v5 < ((v1 : Nat) : Int))) then
    bif ((decide (0 ≤ v5)) && (decide (v5 < ((v1 : Nat) : Int)))) then
    (world.RemoveJoint_1.f (((v2 (Int.toNat v5)).1, (v2 (Int.toNat v5)).2.1, (v2 (Int.toNat v5)).2.2.1, (v2 (Int.toNat v5)).2.2.2.1, (v2 (Int.toNat v5)).2.2.2.2.1, (v2 (Int.toNat v5)).2.2.2.2.2.1, (v2 (Int.toNat v5)).2.2.2.2.2.2.1, (v2 (Int.toNat v5)).2.2.2.2.2.2.2), v3)).bind fun r2 =>
    bif (!r2) then
      bif ((decide (0 ≤ v4)) && (decide (v4 < ((v1 : Nat) : Int)))) then
      slices.DeleteFunc_lJoint_Joint_v1.l0 k0 k1 v1 (fun i => renL (lookF [] 1) (if i = (Int.toNat v4) then Riiiiiiii.enc ((v2 (Int.toNat v5)).1, (v2 (Int.toNat v5)).2.1, (v2 (Int.toNat v5)).2.2.1, (v2 (Int.toNat v5)).2.2.2.1, (v2 (Int.toNat v5)).2.2.2.2.1, (v2 (Int.toNat v5)).2.2.2.2.2.1, (v2 (Int.toNat v5)).2.2.2.2.2.2.1, (v2 (Int.toNat v5)).2.2.2.2.2.2.2) else Riiiiiiii.enc (v2 i))) v3 (IntKind.i64.wrap (v4 + 1)) (IntKind.i64.wrap (v5 + 1))
      else none
    else
    slices.DeleteFunc_lJoint_Joint_v1.l0 k0 k1 v1 (fun i => Riiiiiiii.enc (v2 i)) v3 v4 (IntKind.i64.wrap (v5 + 1))
    else none
  else
  bif ((decide (0 ≤ v4)) && (decide (v4 < ((v1 : Nat) : Int)))) then
  bif ((decide (0 ≤ v4)) && (decide (v4 ≤ ((v1 : Nat) : Int)))) then
  (RowT.mk Riiiiiiii 57 8 (0, 0, 0, 0, 0, 0, 0, 0)).dec (.slc 0 0 none none) ⟨true, 57, 8, (Int.toNat v4), (fun i => cloL (if i < (Int.toNat v4) then Riiiiiiii.enc (v2 i) else [.val (.int .i64 0), .val (.int .i64 0), .val (.int .i64 0), .val (.int .i64 0), .val (.int .i64 0), .val (.int .i64 0), .val (.int .i64 0), .val (.int .i64 0)])), none⟩
  else none
  else none := by kernel_rfl
theorem slices.DeleteFunc_lJoint_Joint_v1.eq (k0 : Nat) (p0_n : Nat) (p0_g : Nat → (Int × Int × Int × Int × Int × Int × Int × Int)) (p1_0_0 : Int) : slices.DeleteFunc_lJoint_Joint_v1.g k0 ((p0_n, (fun i => Riiiiiiii.enc (p0_g i))), p1_0_0) =
  (slices.IndexFunc_lJoint_Joint_v1.f ((p0_n, (fun i => Riiiiiiii.enc (p0_g i))), p1_0_0)).bind fun r1 =>
  bif (r1 == (-1)) then
    (RowT.mk Riiiiiiii 57 8 (0, 0, 0, 0, 0, 0, 0, 0)).dec (.slc 0 0 none none) ⟨true, 57, 8, p0_n, (fun i => Riiiiiiii.enc (p0_g i)), none⟩
  else
  slices.DeleteFunc_lJoint_Joint_v1.l0 k0 k0 p0_n (fun i => Riiiiiiii.enc (p0_g i)) p1_0_0 r1 (IntKind.i64.wrap (r1 + 1)) := by kernel_rfl
/-! ### bagatelle/world.without[bagatelle/api.Joint] -/
noncomputable def world.without_Joint_v1.cs : List (Nat × Fw.Summ) := [(41, slices.Clone_lJoint_Joint.s), (81, slices.DeleteFunc_lJoint_Joint_v1.s)]
theorem world.without_Joint_v1.cs_ok : SumsOk Tryz.prog world.without_Joint_v1.cs := .cons slices.Clone_lJoint_Joint.ok (.cons slices.DeleteFunc_lJoint_Joint_v1.ok (.nil))
def world.without_Joint_v1.hs : List (Nat × LHint) := []
noncomputable def world.without_Joint_v1.G : Ctx := ⟨Tryz.prog, sumAt world.without_Joint_v1.cs, lookH world.without_Joint_v1.hs⟩
noncomputable def world.without_Joint_v1.f (x : ((Nat × (Nat → List AV)) × Int)) : Option (Nat × (Nat → (Int × Int × Int × Int × Int × Int × Int × Int))) := evF world.without_Joint_v1.G 0 Tryz.f50 ((tCons (tLz 8 (Riiiiiiii.enc (0, 0, 0, 0, 0, 0, 0, 0))) (tOne (tF 55 (tOne (tP (tOne (tI .i64))))))).enc x) (tTL Riiiiiiii 8 (0, 0, 0, 0, 0, 0, 0, 0)).dec
noncomputable def world.without_Joint_v1.s : Fw.Summ := .mk' (tCons (tLz 8 (Riiiiiiii.enc (0, 0, 0, 0, 0, 0, 0, 0))) (tOne (tF 55 (tOne (tP (tOne (tI .i64))))))) (tTL Riiiiiiii 8 (0, 0, 0, 0, 0, 0, 0, 0)) world.without_Joint_v1.f
theorem world.without_Joint_v1.ok : world.without_Joint_v1.s.Ok Tryz.prog 50 :=
  summ_ok (hint := lookH world.without_Joint_v1.hs) (fn := Tryz.f50) (fun x => 0) world.without_Joint_v1.cs_ok (by kernel_rfl) (by kernel_rfl) (by kernel_rfl) (by kernel_rfl) (tCons_ok (tLz_ok _ _) (tOne_ok (tF_ok _ (tOne_ok (tP_ok (tOne_ok (tI_ok _))))))) (tTL_ok Riiiiiiii_ok _ _) (fun _ => rfl)
theorem world.without_Joint_v1.eq (p0_n : Nat) (p0_g : Nat → (Int × Int × Int × Int × Int × Int × Int × Int)) (p1_0_0 : Int) : world.without_Joint_v1.f ((p0_n, (fun i => Riiiiiiii.enc (p0_g i))), p1_0_0) =
  (slices.Clone_lJoint_Joint.f (p0_n, (fun i => Riiiiiiii.enc (p0_g i)))).bind fun r1 =>
  (slices.DeleteFunc_lJoint_Joint_v1.f ((r1.1, (fun i => Riiiiiiii.enc (r1.2 i))), p1_0_0)).bind fun r2 =>
  (tTL Riiiiiiii 8 (0, 0, 0, 0, 0, 0, 0, 0)).dec (.lst 8 r2.1 none (fun i => Riiiiiiii.enc (r2.2 i))) := by kernel_rfl
/-! ### bagatelle/world.RemoveJoint -/
noncomputable def world.RemoveJoint.cs : List (Nat × Fw.Summ) := [(54, world.Joint.s), (50, world.without_Joint_v1.s)]
theorem world.RemoveJoint.cs_ok : SumsOk Tryz.prog world.RemoveJoint.cs := .cons world.Joint.ok (.cons world.without_Joint_v1.ok (.nil))
noncomputable def world.RemoveJoint.G : Ctx := ⟨Tryz.prog, sumAt world.RemoveJoint.cs, fun _ => { unroll := true }⟩
noncomputable def world.RemoveJoint.f (x : (Int × Int × Int × Int × Int × (Nat × (Nat → List AV)) × (Nat × (Nat → List AV)) × (Nat × (Nat → List AV))) × Int) : Option (Bool × (Int × Int × Int × Int × Int × (Nat × (Nat → (Int × Int × Int × Int × Int × Int × Int × Int × Int × Int × (Nat × (Nat → List AV))))) × (Nat × (Nat → (Int × Int × Int × Int × Int × Int × Int × Int))) × (Nat × (Nat → (Int × Int × Int × Int × Int))))) := evG world.RemoveJoint.G Tryz.f16 42 ((tCons (tI .i64) (tCons (tI .i64) (tCons (tI .i64) (tCons (tI .i64) (tCons (tI .i64) (tCons (tLz 11 (RiiiiiiiiiiL2.enc (0, 0, 0, 0, 0, 0, 0, 0, 0, 0, (0, fun _ => [])))) (tCons (tLz 8 (Riiiiiiii.enc (0, 0, 0, 0, 0, 0, 0, 0))) (tOne (tLz 5 (Riiiii.enc (0, 0, 0, 0, 0))))))))))).enc x.1) ((tOne (tI .i64)).enc x.2) (outD tB (tCons (tI .i64) (tCons (tI .i64) (tCons (tI .i64) (tCons (tI .i64) (tCons (tI .i64) (tCons (tTL RiiiiiiiiiiL2 11 (0, 0, 0, 0, 0, 0, 0, 0, 0, 0, (0, fun _ => []))) (tCons (tTL Riiiiiiii 8 (0, 0, 0, 0, 0, 0, 0, 0)) (tOne (tTL Riiiii 5 (0, 0, 0, 0, 0)))))))))))
noncomputable def world.RemoveJoint.s : Fw.Summ := .mkO2 42 (tCons (tI .i64) (tCons (tI .i64) (tCons (tI .i64) (tCons (tI .i64) (tCons (tI .i64) (tCons (tLz 11 (RiiiiiiiiiiL2.enc (0, 0, 0, 0, 0, 0, 0, 0, 0, 0, (0, fun _ => [])))) (tCons (tLz 8 (Riiiiiiii.enc (0, 0, 0, 0, 0, 0, 0, 0))) (tOne (tLz 5 (Riiiii.enc (0, 0, 0, 0, 0))))))))))) (tCons (tI .i64) (tCons (tI .i64) (tCons (tI .i64) (tCons (tI .i64) (tCons (tI .i64) (tCons (tTL RiiiiiiiiiiL2 11 (0, 0, 0, 0, 0, 0, 0, 0, 0, 0, (0, fun _ => []))) (tCons (tTL Riiiiiiii 8 (0, 0, 0, 0, 0, 0, 0, 0)) (tOne (tTL Riiiii 5 (0, 0, 0, 0, 0)))))))))) (tOne (tI .i64)) tB world.RemoveJoint.f
theorem world.RemoveJoint.ok : world.RemoveJoint.s.Ok Tryz.prog 16 :=
  osumm2_ok (fn := Tryz.f16) world.RemoveJoint.cs_ok (by kernel_rfl) (by kernel_rfl) (by kernel_rfl) (by kernel_rfl) (tCons_ok (tI_ok _) (tCons_ok (tI_ok _) (tCons_ok (tI_ok _) (tCons_ok (tI_ok _) (tCons_ok (tI_ok _) (tCons_ok (tLz_ok _ _) (tCons_ok (tLz_ok _ _) (tOne_ok (tLz_ok _ _))))))))) (tCons_ok (tI_ok _) (tCons_ok (tI_ok _) (tCons_ok (tI_ok _) (tCons_ok (tI_ok _) (tCons_ok (tI_ok _) (tCons_ok (tTL_ok RiiiiiiiiiiL2_ok _ _) (tCons_ok (tTL_ok Riiiiiiii_ok _ _) (tOne_ok (tTL_ok Riiiii_ok _ _))))))))) (tOne_ok (tI_ok _)) tB_ok (fun _ => rfl)
theorem world.RemoveJoint.eq (o_0 : Int) (o_1 : Int) (o_2 : Int) (o_3 : Int) (o_4 : Int) (o_5_n : Nat) (o_5_g : Nat → (Int × Int × Int × Int × Int × Int × Int × Int × Int × Int × (Nat × (Nat → List AV)))) (o_6_n : Nat) (o_6_g : Nat → (Int × Int × Int × Int × Int × Int × Int × Int)) (o_7_n : Nat) (o_7_g : Nat → (Int × Int × Int × Int × Int)) (p0 : Int) : world.RemoveJoint.f ((o_0, o_1, o_2, o_3, o_4, (o_5_n, (fun i => RiiiiiiiiiiL2.enc (o_5_g i))), (o_6_n, (fun i => Riiiiiiii.enc (o_6_g i))), (o_7_n, (fun i => Riiiii.enc (o_7_g i)))), p0) =
  (world.Joint.f ((o_0, o_1, o_2, o_3, o_4, (o_5_n, (fun i => RiiiiiiiiiiL2.enc (o_5_g i))), (o_6_n, (fun i => Riiiiiiii.enc (o_6_g i))), (o_7_n, (fun i => Riiiii.enc (o_7_g i)))), p0)).bind fun r1 =>
  bif (!r1.2) then
    outD tB (tCons (tI .i64) (tCons (tI .i64) (tCons (tI .i64) (tCons (tI .i64) (tCons (tI .i64) (tCons (tTL RiiiiiiiiiiL2 11 (0, 0, 0, 0, 0, 0, 0, 0, 0, 0, (0, fun _ => []))) (tCons (tTL Riiiiiiii 8 (0, 0, 0, 0, 0, 0, 0, 0)) (tOne (tTL Riiiii 5 (0, 0, 0, 0, 0)))))))))) (.val (.bool false)) [.val (.int .i64 o_0), .val (.int .i64 o_1), .val (.int .i64 o_2), .val (.int .i64 o_3), .val (.int .i64 o_4), .lst 11 o_5_n none (fun i => RiiiiiiiiiiL2.enc (o_5_g i)), .lst 8 o_6_n none (fun i => Riiiiiiii.enc (o_6_g i)), .lst 5 o_7_n none (fun i => Riiiii.enc (o_7_g i))]
  else
  (world.without_Joint_v1.f ((o_6_n, (fun i => Riiiiiiii.enc (o_6_g i))), p0)).bind fun r2 =>
  outD tB (tCons (tI .i64) (tCons (tI .i64) (tCons (tI .i64) (tCons (tI .i64) (tCons (tI .i64) (tCons (tTL RiiiiiiiiiiL2 11 (0, 0, 0, 0, 0, 0, 0, 0, 0, 0, (0, fun _ => []))) (tCons (tTL Riiiiiiii 8 (0, 0, 0, 0, 0, 0, 0, 0)) (tOne (tTL Riiiii 5 (0, 0, 0, 0, 0)))))))))) (.val (.bool true)) [.val (.int .i64 o_0), .val (.int .i64 o_1), .val (.int .i64 o_2), .val (.int .i64 o_3), .val (.int .i64 o_4), .lst 11 o_5_n none (fun i => RiiiiiiiiiiL2.enc (o_5_g i)), .lst 8 r2.1 none (fun i => Riiiiiiii.enc (r2.2 i)), .lst 5 o_7_n none (fun i => Riiiii.enc (o_7_g i))] := by kernel_rfl
/-! ### bagatelle/mass.sides -/
noncomputable def mass.sides.cs : List (Nat × Fw.Summ) := []
theorem mass.sides.cs_ok : SumsOk Tryz.prog mass.sides.cs := .nil
noncomputable def mass.sides.G : Ctx := ⟨Tryz.prog, sumAt mass.sides.cs, fun _ => { unroll := true }⟩
noncomputable def mass.sides.s : Fw.Summ := .mkI mass.sides.G Tryz.f85
theorem mass.sides.ok : mass.sides.s.Ok Tryz.prog 85 := isumm_ok mass.sides.cs_ok (by kernel_rfl) (by kernel_rfl) (by kernel_rfl) (by kernel_rfl)
/-! ### bagatelle/fix.Of -/
noncomputable def fix.Of.cs : List (Nat × Fw.Summ) := []
theorem fix.Of.cs_ok : SumsOk Tryz.prog fix.Of.cs := .nil
def fix.Of.hs : List (Nat × LHint) := []
noncomputable def fix.Of.G : Ctx := ⟨Tryz.prog, sumAt fix.Of.cs, lookH fix.Of.hs⟩
noncomputable def fix.Of.f (x : Int) : Option Int := evF fix.Of.G 0 Tryz.f87 ((tOne (tI .i64)).enc x) (tI .i64).dec
noncomputable def fix.Of.s : Fw.Summ := .mk' (tOne (tI .i64)) (tI .i64) fix.Of.f
theorem fix.Of.ok : fix.Of.s.Ok Tryz.prog 87 :=
  summ_ok (hint := lookH fix.Of.hs) (fn := Tryz.f87) (fun x => 0) fix.Of.cs_ok (by kernel_rfl) (by kernel_rfl) (by kernel_rfl) (by kernel_rfl) (tOne_ok (tI_ok _)) (tI_ok _) (fun _ => rfl)
theorem fix.Of.eq (p0 : Int) : fix.Of.f p0 =
  bif (decide (p0 ≥ 2147483648)) then
    some 9223372036854775807
  else
  bif (decide (p0 ≤ (-2147483648))) then
    some (-9223372036854775807)
  else
  some (IntKind.i64.wrap (p0 * 2 ^ 32)) := by kernel_rfl
/-! ### math/bits.Len64 -/
noncomputable def bits.Len64.cs : List (Nat × Fw.Summ) := []
theorem bits.Len64.cs_ok : SumsOk Tryz.prog bits.Len64.cs := .nil
def bits.Len64.hs : List (Nat × LHint) := []
noncomputable def bits.Len64.G : Ctx := ⟨Tryz.prog, sumAt bits.Len64.cs, lookH bits.Len64.hs⟩
noncomputable def bits.Len64.f (x : Int) : Option Int := evF bits.Len64.G 0 Tryz.f109 ((tOne (tI .u64)).enc x) (tI .i64).dec
noncomputable def bits.Len64.s : Fw.Summ := .mk' (tOne (tI .u64)) (tI .i64) bits.Len64.f
theorem bits.Len64.ok : bits.Len64.s.Ok Tryz.prog 109 :=
  summ_ok (hint := lookH bits.Len64.hs) (fn := Tryz.f109) (fun x => 0) bits.Len64.cs_ok (by kernel_rfl) (by kernel_rfl) (by kernel_rfl) (by kernel_rfl) (tOne_ok (tI_ok _)) (tI_ok _) (fun _ => rfl)
theorem bits.Len64.eq (p0 : Int) : bits.Len64.f p0 =
  bif (decide (p0 ≥ 4294967296)) then
    bif (decide ((Int.fdiv p0 (2 ^ 32)) ≥ 65536)) then
      bif (decide ((Int.fdiv (Int.fdiv p0 (2 ^ 32)) (2 ^ 16)) ≥ 256)) then
        bif ((decide (0 ≤ (IntKind.u8.wrap (Int.fdiv (Int.fdiv (Int.fdiv p0 (2 ^ 32)) (2 ^ 16)) (2 ^ 8))))) && (decide ((IntKind.u8.wrap (Int.fdiv (Int.fdiv (Int.fdiv p0 (2 ^ 32)) (2 ^ 16)) (2 ^ 8))) < 256))) then
        some (IntKind.i64.wrap (56 + (IntKind.i64.wrap (strB Str11c1601c (Int.toNat (IntKind.u8.wrap (Int.fdiv (Int.fdiv (Int.fdiv p0 (2 ^ 32)) (2 ^ 16)) (2 ^ 8))))))))
        else none
      else
      bif ((decide (0 ≤ (IntKind.u8.wrap (Int.fdiv (Int.fdiv p0 (2 ^ 32)) (2 ^ 16))))) && (decide ((IntKind.u8.wrap (Int.fdiv (Int.fdiv p0 (2 ^ 32)) (2 ^ 16))) < 256))) then
      some (IntKind.i64.wrap (48 + (IntKind.i64.wrap (strB Str11c1601c (Int.toNat (IntKind.u8.wrap (Int.fdiv (Int.fdiv p0 (2 ^ 32)) (2 ^ 16))))))))
      else none
    else
    bif (decide ((Int.fdiv p0 (2 ^ 32)) ≥ 256)) then
      bif ((decide (0 ≤ (IntKind.u8.wrap (Int.fdiv (Int.fdiv p0 (2 ^ 32)) (2 ^ 8))))) && (decide ((IntKind.u8.wrap (Int.fdiv (Int.fdiv p0 (2 ^ 32)) (2 ^ 8))) < 256))) then
      some (IntKind.i64.wrap (40 + (IntKind.i64.wrap (strB Str11c1601c (Int.toNat (IntKind.u8.wrap (Int.fdiv (Int.fdiv p0 (2 ^ 32)) (2 ^ 8))))))))
      else none
    else
    bif ((decide (0 ≤ (IntKind.u8.wrap (Int.fdiv p0 (2 ^ 32))))) && (decide ((IntKind.u8.wrap (Int.fdiv p0 (2 ^ 32))) < 256))) then
    some (IntKind.i64.wrap (32 + (IntKind.i64.wrap (strB Str11c1601c (Int.toNat (IntKind.u8.wrap (Int.fdiv p0 (2 ^ 32))))))))
    else none
  else
  bif (decide (p0 ≥ 65536)) then
    bif (decide ((Int.fdiv p0 (2 ^ 16)) ≥ 256)) then
      bif ((decide (0 ≤ (IntKind.u8.wrap (Int.fdiv (Int.fdiv p0 (2 ^ 16)) (2 ^ 8))))) && (decide ((IntKind.u8.wrap (Int.fdiv (Int.fdiv p0 (2 ^ 16)) (2 ^ 8))) < 256))) then
      some (IntKind.i64.wrap (24 + (IntKind.i64.wrap (strB Str11c1601c (Int.toNat (IntKind.u8.wrap (Int.fdiv (Int.fdiv p0 (2 ^ 16)) (2 ^ 8))))))))
      else none
    else
    bif ((decide (0 ≤ (IntKind.u8.wrap (Int.fdiv p0 (2 ^ 16))))) && (decide ((IntKind.u8.wrap (Int.fdiv p0 (2 ^ 16))) < 256))) then
    some (IntKind.i64.wrap (16 + (IntKind.i64.wrap (strB Str11c1601c (Int.toNat (IntKind.u8.wrap (Int.fdiv p0 (2 ^ 16))))))))
    else none
  else
  bif (decide (p0 ≥ 256)) then
    bif ((decide (0 ≤ (IntKind.u8.wrap (Int.fdiv p0 (2 ^ 8))))) && (decide ((IntKind.u8.wrap (Int.fdiv p0 (2 ^ 8))) < 256))) then
    some (IntKind.i64.wrap (8 + (IntKind.i64.wrap (strB Str11c1601c (Int.toNat (IntKind.u8.wrap (Int.fdiv p0 (2 ^ 8))))))))
    else none
  else
  bif ((decide (0 ≤ (IntKind.u8.wrap p0))) && (decide ((IntKind.u8.wrap p0) < 256))) then
  some (IntKind.i64.wrap (0 + (IntKind.i64.wrap (strB Str11c1601c (Int.toNat (IntKind.u8.wrap p0))))))
  else none := by kernel_rfl
/-! ### math/bits.LeadingZeros64 -/
noncomputable def bits.LeadingZeros64.cs : List (Nat × Fw.Summ) := [(109, bits.Len64.s)]
theorem bits.LeadingZeros64.cs_ok : SumsOk Tryz.prog bits.LeadingZeros64.cs := .cons bits.Len64.ok (.nil)
def bits.LeadingZeros64.hs : List (Nat × LHint) := []
noncomputable def bits.LeadingZeros64.G : Ctx := ⟨Tryz.prog, sumAt bits.LeadingZeros64.cs, lookH bits.LeadingZeros64.hs⟩
noncomputable def bits.LeadingZeros64.f (x : Int) : Option Int := evF bits.LeadingZeros64.G 0 Tryz.f107 ((tOne (tI .u64)).enc x) (tI .i64).dec
noncomputable def bits.LeadingZeros64.s : Fw.Summ := .mk' (tOne (tI .u64)) (tI .i64) bits.LeadingZeros64.f
theorem bits.LeadingZeros64.ok : bits.LeadingZeros64.s.Ok Tryz.prog 107 :=
  summ_ok (hint := lookH bits.LeadingZeros64.hs) (fn := Tryz.f107) (fun x => 0) bits.LeadingZeros64.cs_ok (by kernel_rfl) (by kernel_rfl) (by kernel_rfl) (by kernel_rfl) (tOne_ok (tI_ok _)) (tI_ok _) (fun _ => rfl)
theorem bits.LeadingZeros64.eq (p0 : Int) : bits.LeadingZeros64.f p0 =
  (bits.Len64.f p0).bind fun r1 =>
  some (IntKind.i64.wrap (64 - r1)) := by kernel_rfl
/-! ### math/bits.Div64 -/
noncomputable def bits.Div64.cs : List (Nat × Fw.Summ) := [(107, bits.LeadingZeros64.s)]
theorem bits.Div64.cs_ok : SumsOk Tryz.prog bits.Div64.cs := .cons bits.LeadingZeros64.ok (.nil)
def bits.Div64.hs : List (Nat × LHint) := [(0, { mat := [], live := [2, 8, 9, 10, 11, 13, 14, 15, 16], ren := [] }), (2, { mat := [], live := [2, 8, 9, 10, 14, 15, 16, 17, 18], ren := [] })]
noncomputable def bits.Div64.G : Ctx := ⟨Tryz.prog, sumAt bits.Div64.cs, lookH bits.Div64.hs⟩
noncomputable def bits.Div64.g (k0 : Nat) (x : (Int × Int × Int)) : Option (Int × Int) := evF bits.Div64.G k0 Tryz.f90 ((tCons (tI .u64) (tCons (tI .u64) (tOne (tI .u64)))).enc x) (tT (tCons (tI .u64) (tOne (tI .u64)))).dec
noncomputable def bits.Div64.f (x : (Int × Int × Int)) : Option (Int × Int) := bits.Div64.g (1000000) x
noncomputable def bits.Div64.s : Fw.Summ := .mk' (tCons (tI .u64) (tCons (tI .u64) (tOne (tI .u64)))) (tT (tCons (tI .u64) (tOne (tI .u64)))) bits.Div64.f
theorem bits.Div64.ok : bits.Div64.s.Ok Tryz.prog 90 :=
  summ_ok (hint := lookH bits.Div64.hs) (fn := Tryz.f90) (fun x => 1000000) bits.Div64.cs_ok (by kernel_rfl) (by kernel_rfl) (by kernel_rfl) (by kernel_rfl) (tCons_ok (tI_ok _) (tCons_ok (tI_ok _) (tOne_ok (tI_ok _)))) (tT_ok (tCons_ok (tI_ok _) (tOne_ok (tI_ok _)))) (fun _ => rfl)
noncomputable def bits.Div64.l1 (k0 k1 : Nat) (v1 : Int) (v2 : Int) (v3 : Int) (v4 : Int) (v5 : Int) (v6 : Int) (v7 : Int) (v8 : Int) (v9 : Int) : Option (Int × Int) :=
  evLoop (lookH bits.Div64.hs 2) 0 (ev bits.Div64.G k0 (codeAt [1, 1, 1, 1, 1, 1, 1, 1, 1, 1, 1, 1, 1, 1, 1, 1, 1, 1, 0, 0, 0] (bodyOf Tryz.f90)) 2) k1
  ⟨[.top, .top, .val (.int .u64 v1), .top, .top, .top, .top, .top, .val (.int .u64 v2), .val (.int .u64 v3), .val (.int .u64 v4), .top, .top, .top, .val (.int .u64 v5), .val (.int .u64 v6), .val (.int .u64 v7), .val (.int .u64 v8), .val (.int .u64 v9), .top, .top, .top, .top, .top, .top, .top, .top, .top, .top, .top, .top, .top, .top, .top, .top, .top, .top, .top, .top, .top, .top, .top, .top, .top, .top, .top, .top, .top, .top, .top, .top, .top, .top, .top, .top, .top, .top, .top, .top, .top, .top, .top, .top, .top, .top, .top, .top, .top, .top, .top, .top, .top, .top, .top, .top, .top, .top, .top, .top, .top, .top, .top, .top, .top, .top, .top, .top, .top, .top, .top, .top, .top, .top, .top, .top, .top, .top, .top, .top, .top, .top, .top, .top, .top, .top, .top, .top, .top, .top, .top, .top, .top, .top, .top, .top, .top, .top, .top, .top, .top, .top, .top, .top, .top, .top, .top, .top, .top, .top, .top, .top, .top, .top, .top, .top], []⟩
  (kBlock 2 (kSeq bits.Div64.G k0 (codeAt [1, 1, 1, 1, 1, 1, 1, 1, 1, 1, 1, 1, 1, 1, 1, 1, 1, 1, 1] (bodyOf Tryz.f90)) 0 (kFin bits.Div64.G Tryz.f90 (tT (tCons (tI .u64) (tOne (tI .u64)))).dec)))
noncomputable def bits.Div64.l0 (k0 k1 : Nat) (v1 : Int) (v2 : Int) (v3 : Int) (v4 : Int) (v5 : Int) (v6 : Int) (v7 : Int) (v8 : Int) (v9 : Int) : Option (Int × Int) :=
  evLoop (lookH bits.Div64.hs 0) 0 (ev bits.Div64.G k0 (codeAt [1, 1, 1, 1, 1, 1, 1, 1, 1, 1, 1, 1, 1, 1, 0, 0, 0] (bodyOf Tryz.f90)) 0) k1
  ⟨[.top, .top, .val (.int .u64 v1), .top, .top, .top, .top, .top, .val (.int .u64 v2), .val (.int .u64 v3), .val (.int .u64 v4), .val (.int .u64 v5), .top, .val (.int .u64 v6), .val (.int .u64 v7), .val (.int .u64 v8), .val (.int .u64 v9), .top, .top, .top, .top, .top, .top, .top, .top, .top, .top, .top, .top, .top, .top, .top, .top, .top, .top, .top, .top, .top, .top, .top, .top, .top, .top, .top, .top, .top, .top, .top, .top, .top, .top, .top, .top, .top, .top, .top, .top, .top, .top, .top, .top, .top, .top, .top, .top, .top, .top, .top, .top, .top, .top, .top, .top, .top, .top, .top, .top, .top, .top, .top, .top, .top, .top, .top, .top, .top, .top, .top, .top, .top, .top, .top, .top, .top, .top, .top, .top, .top, .top, .top, .top, .top, .top, .top, .top, .top, .top, .top, .top, .top, .top, .top, .top, .top, .top, .top, .top, .top, .top, .top, .top, .top, .top, .top, .top, .top, .top, .top, .top, .top, .top, .top, .top, .top, .top], []⟩
  (kBlock 0 (kSeq bits.Div64.G k0 (codeAt [1, 1, 1, 1, 1, 1, 1, 1, 1, 1, 1, 1, 1, 1, 1] (bodyOf Tryz.f90)) 0 (kFin bits.Div64.G Tryz.f90 (tT (tCons (tI .u64) (tOne (tI .u64)))).dec)))
theorem bits.Div64.l1_eq (k0 k1 : Nat) (v1 : Int) (v2 : Int) (v3 : Int) (v4 : Int) (v5 : Int) (v6 : Int) (v7 : Int) (v8 : Int) (v9 : Int) : bits.Div64.l1 k0 (k1 + 1) v1 v2 v3 v4 v5 v6 v7 v8 v9 =
  bif (decide (v9 ≥ 4294967296)) then
    bif (decide ((IntKind.u64.wrap (v7 + v3)) ≥ 4294967296)) then
      bif (decide (0 ≤ v2)) then
      some ((IntKind.u64.wrap ((IntKind.u64.wrap (v6 * 4294967296)) + (IntKind.u64.wrap (v9 - 1)))), (Int.fdiv (IntKind.u64.wrap ((IntKind.u64.wrap ((IntKind.u64.wrap (v8 * 4294967296)) + v5)) - (IntKind.u64.wrap ((IntKind.u64.wrap (v9 - 1)) * v1)))) (2 ^ (min (Int.toNat v2) 64))))
      else none
    else
    bits.Div64.l1 k0 k1 v1 v2 v3 v4 v5 v6 (IntKind.u64.wrap (v7 + v3)) v8 (IntKind.u64.wrap (v9 - 1))
  else
  bif (decide ((IntKind.u64.wrap (v9 * v4)) > (IntKind.u64.wrap ((IntKind.u64.wrap (4294967296 * v7)) + v5)))) then
    bif (decide ((IntKind.u64.wrap (v7 + v3)) ≥ 4294967296)) then
      bif (decide (0 ≤ v2)) then
      some ((IntKind.u64.wrap ((IntKind.u64.wrap (v6 * 4294967296)) + (IntKind.u64.wrap (v9 - 1)))), (Int.fdiv (IntKind.u64.wrap ((IntKind.u64.wrap ((IntKind.u64.wrap (v8 * 4294967296)) + v5)) - (IntKind.u64.wrap ((IntKind.u64.wrap (v9 - 1)) * v1)))) (2 ^ (min (Int.toNat v2) 64))))
      else none
    else
    bits.Div64.l1 k0 k1 v1 v2 v3 v4 v5 v6 (IntKind.u64.wrap (v7 + v3)) v8 (IntKind.u64.wrap (v9 - 1))
  else
  bif (decide (0 ≤ v2)) then
  some ((IntKind.u64.wrap ((IntKind.u64.wrap (v6 * 4294967296)) + v9)), (Int.fdiv (IntKind.u64.wrap ((IntKind.u64.wrap ((IntKind.u64.wrap (v8 * 4294967296)) + v5)) - (IntKind.u64.wrap (v9 * v1)))) (2 ^ (min (Int.toNat v2) 64))))
  else none := by kernel_rfl
theorem bits.Div64.l0_eq (k0 k1 : Nat) (v1 : Int) (v2 : Int) (v3 : Int) (v4 : Int) (v5 : Int) (v6 : Int) (v7 : Int) (v8 : Int) (v9 : Int) : bits.Div64.l0 k0 (k1 + 1) v1 v2 v3 v4 v5 v6 v7 v8 v9 =
  bif (decide (v8 ≥ 4294967296)) then
    bif (decide ((IntKind.u64.wrap (v9 + v3)) ≥ 4294967296)) then
      bif (decide (v3 ≠ 0)) then
      bits.Div64.l1 k0 k0 v1 v2 v3 v4 v7 (IntKind.u64.wrap (v8 - 1)) (IntKind.u64.wrap ((IntKind.u64.wrap ((IntKind.u64.wrap ((IntKind.u64.wrap (v5 * 4294967296)) + v6)) - (IntKind.u64.wrap ((IntKind.u64.wrap (v8 - 1)) * v1)))) - (IntKind.u64.wrap ((IntKind.u64.wrap (Int.tdiv (IntKind.u64.wrap ((IntKind.u64.wrap ((IntKind.u64.wrap (v5 * 4294967296)) + v6)) - (IntKind.u64.wrap ((IntKind.u64.wrap (v8 - 1)) * v1)))) v3)) * v3)))) (IntKind.u64.wrap ((IntKind.u64.wrap ((IntKind.u64.wrap (v5 * 4294967296)) + v6)) - (IntKind.u64.wrap ((IntKind.u64.wrap (v8 - 1)) * v1)))) (IntKind.u64.wrap (Int.tdiv (IntKind.u64.wrap ((IntKind.u64.wrap ((IntKind.u64.wrap (v5 * 4294967296)) + v6)) - (IntKind.u64.wrap ((IntKind.u64.wrap (v8 - 1)) * v1)))) v3))
      else none
    else
    bits.Div64.l0 k0 k1 v1 v2 v3 v4 v5 v6 v7 (IntKind.u64.wrap (v8 - 1)) (IntKind.u64.wrap (v9 + v3))
  else
  bif (decide ((IntKind.u64.wrap (v8 * v4)) > (IntKind.u64.wrap ((IntKind.u64.wrap (4294967296 * v9)) + v6)))) then
    bif (decide ((IntKind.u64.wrap (v9 + v3)) ≥ 4294967296)) then
      bif (decide (v3 ≠ 0)) then
      bits.Div64.l1 k0 k0 v1 v2 v3 v4 v7 (IntKind.u64.wrap (v8 - 1)) (IntKind.u64.wrap ((IntKind.u64.wrap ((IntKind.u64.wrap ((IntKind.u64.wrap (v5 * 4294967296)) + v6)) - (IntKind.u64.wrap ((IntKind.u64.wrap (v8 - 1)) * v1)))) - (IntKind.u64.wrap ((IntKind.u64.wrap (Int.tdiv (IntKind.u64.wrap ((IntKind.u64.wrap ((IntKind.u64.wrap (v5 * 4294967296)) + v6)) - (IntKind.u64.wrap ((IntKind.u64.wrap (v8 - 1)) * v1)))) v3)) * v3)))) (IntKind.u64.wrap ((IntKind.u64.wrap ((IntKind.u64.wrap (v5 * 4294967296)) + v6)) - (IntKind.u64.wrap ((IntKind.u64.wrap (v8 - 1)) * v1)))) (IntKind.u64.wrap (Int.tdiv (IntKind.u64.wrap ((IntKind.u64.wrap ((IntKind.u64.wrap (v5 * 4294967296)) + v6)) - (IntKind.u64.wrap ((IntKind.u64.wrap (v8 - 1)) * v1)))) v3))
      else none
    else
    bits.Div64.l0 k0 k1 v1 v2 v3 v4 v5 v6 v7 (IntKind.u64.wrap (v8 - 1)) (IntKind.u64.wrap (v9 + v3))
  else
  bif (decide (v3 ≠ 0)) then
  bits.Div64.l1 k0 k0 v1 v2 v3 v4 v7 v8 (IntKind.u64.wrap ((IntKind.u64.wrap ((IntKind.u64.wrap ((IntKind.u64.wrap (v5 * 4294967296)) + v6)) - (IntKind.u64.wrap (v8 * v1)))) - (IntKind.u64.wrap ((IntKind.u64.wrap (Int.tdiv (IntKind.u64.wrap ((IntKind.u64.wrap ((IntKind.u64.wrap (v5 * 4294967296)) + v6)) - (IntKind.u64.wrap (v8 * v1)))) v3)) * v3)))) (IntKind.u64.wrap ((IntKind.u64.wrap ((IntKind.u64.wrap (v5 * 4294967296)) + v6)) - (IntKind.u64.wrap (v8 * v1)))) (IntKind.u64.wrap (Int.tdiv (IntKind.u64.wrap ((IntKind.u64.wrap ((IntKind.u64.wrap (v5 * 4294967296)) + v6)) - (IntKind.u64.wrap (v8 * v1)))) v3))
  else none := by kernel_rfl
theorem bits.Div64.eq (k0 : Nat) (p0 : Int) (p1 : Int) (p2 : Int) : bits.Div64.g k0 (p0, p1, p2) =
  bif (p2 == 0) then
    none
  else
  bif (decide (p2 ≤ p0)) then
    none
  else
  bif (p0 == 0) then
    bif (decide (p2 ≠ 0)) then
    bif (decide (p2 ≠ 0)) then
    some ((IntKind.u64.wrap (Int.tdiv p1 p2)), (Int.tmod p1 p2))
    else none
    else none
  else
  (bits.LeadingZeros64.f p2).bind fun r1 =>
  bif (decide (0 ≤ (IntKind.u64.wrap r1))) then
  bif (decide (0 ≤ (IntKind.u64.wrap r1))) then
  bif (decide (0 ≤ (IntKind.u64.wrap (64 - (IntKind.u64.wrap r1))))) then
  bif (decide (0 ≤ (IntKind.u64.wrap r1))) then
  bif (decide ((Int.fdiv (IntKind.u64.wrap (p2 * 2 ^ (min (Int.toNat (IntKind.u64.wrap r1)) 64))) (2 ^ 32)) ≠ 0)) then
  bits.Div64.l0 k0 k0 (IntKind.u64.wrap (p2 * 2 ^ (min (Int.toNat (IntKind.u64.wrap r1)) 64))) (IntKind.u64.wrap r1) (Int.fdiv (IntKind.u64.wrap (p2 * 2 ^ (min (Int.toNat (IntKind.u64.wrap r1)) 64))) (2 ^ 32)) (Go.bits .and .u64 (IntKind.u64.wrap (p2 * 2 ^ (min (Int.toNat (IntKind.u64.wrap r1)) 64))) 4294967295) (Go.bits .or .u64 (IntKind.u64.wrap (p0 * 2 ^ (min (Int.toNat (IntKind.u64.wrap r1)) 64))) (Int.fdiv p1 (2 ^ (min (Int.toNat (IntKind.u64.wrap (64 - (IntKind.u64.wrap r1)))) 64)))) (Int.fdiv (IntKind.u64.wrap (p1 * 2 ^ (min (Int.toNat (IntKind.u64.wrap r1)) 64))) (2 ^ 32)) (Go.bits .and .u64 (IntKind.u64.wrap (p1 * 2 ^ (min (Int.toNat (IntKind.u64.wrap r1)) 64))) 4294967295) (IntKind.u64.wrap (Int.tdiv (Go.bits .or .u64 (IntKind.u64.wrap (p0 * 2 ^ (min (Int.toNat (IntKind.u64.wrap r1)) 64))) (Int.fdiv p1 (2 ^ (min (Int.toNat (IntKind.u64.wrap (64 - (IntKind.u64.wrap r1)))) 64)))) (Int.fdiv (IntKind.u64.wrap (p2 * 2 ^ (min (Int.toNat (IntKind.u64.wrap r1)) 64))) (2 ^ 32)))) (IntKind.u64.wrap ((Go.bits .or .u64 (IntKind.u64.wrap (p0 * 2 ^ (min (Int.toNat (IntKind.u64.wrap r1)) 64))) (Int.fdiv p1 (2 ^ (min (Int.toNat (IntKind.u64.wrap (64 - (IntKind.u64.wrap r1)))) 64)))) - (IntKind.u64.wrap ((IntKind.u64.wrap (Int.tdiv (Go.bits .or .u64 (IntKind.u64.wrap (p0 * 2 ^ (min (Int.toNat (IntKind.u64.wrap r1)) 64))) (Int.fdiv p1 (2 ^ (min (Int.toNat (IntKind.u64.wrap (64 - (IntKind.u64.wrap r1)))) 64)))) (Int.fdiv (IntKind.u64.wrap (p2 * 2 ^ (min (Int.toNat (IntKind.u64.wrap r1)) 64))) (2 ^ 32)))) * (Int.fdiv (IntKind.u64.wrap (p2 * 2 ^ (min (Int.toNat (IntKind.u64.wrap r1)) 64))) (2 ^ 32))))))
  else none
  else none
  else none
  else none
  else none := by kernel_rfl
/-! ### bagatelle/fix.Div -/
noncomputable def fix.Div.cs : List (Nat × Fw.Summ) := [(59, fix.whole.s), (38, fix.Abs.s), (61, fix.signed.s), (90, bits.Div64.s)]
theorem fix.Div.cs_ok : SumsOk Tryz.prog fix.Div.cs := .cons fix.whole.ok (.cons fix.Abs.ok (.cons fix.signed.ok (.cons bits.Div64.ok (.nil))))
def fix.Div.hs : List (Nat × LHint) := []
noncomputable def fix.Div.G : Ctx := ⟨Tryz.prog, sumAt fix.Div.cs, lookH fix.Div.hs⟩
noncomputable def fix.Div.f (x : (Int × Int)) : Option Int := evF fix.Div.G 0 Tryz.f58 ((tCons (tI .i64) (tOne (tI .i64))).enc x) (tI .i64).dec
noncomputable def fix.Div.s : Fw.Summ := .mk' (tCons (tI .i64) (tOne (tI .i64))) (tI .i64) fix.Div.f
theorem fix.Div.ok : fix.Div.s.Ok Tryz.prog 58 :=
  summ_ok (hint := lookH fix.Div.hs) (fn := Tryz.f58) (fun x => 0) fix.Div.cs_ok (by kernel_rfl) (by kernel_rfl) (by kernel_rfl) (by kernel_rfl) (tCons_ok (tI_ok _) (tOne_ok (tI_ok _))) (tI_ok _) (fun _ => rfl)
theorem fix.Div.eq (p0 : Int) (p1 : Int) : fix.Div.f (p0, p1) =
  (fix.whole.f p0).bind fun r1 =>
  (fix.whole.f p1).bind fun r2 =>
  (fix.Abs.f r1).bind fun r3 =>
  (fix.Abs.f r2).bind fun r4 =>
  bif ((IntKind.u64.wrap r3) == 0) then
    some 0
  else
  bif (decide ((Int.fdiv (IntKind.u64.wrap r3) (2 ^ 32)) ≥ (IntKind.u64.wrap r4))) then
    (fix.signed.f (1, 0, (!((decide (r1 < 0)) == (decide (r2 < 0)))))).bind fun r5 =>
    some r5
  else
  (bits.Div64.f ((Int.fdiv (IntKind.u64.wrap r3) (2 ^ 32)), (IntKind.u64.wrap ((IntKind.u64.wrap r3) * 2 ^ 32)), (IntKind.u64.wrap r4))).bind fun r6 =>
  (fix.signed.f (0, r6.1, (!((decide (r1 < 0)) == (decide (r2 < 0)))))).bind fun r7 =>
  some r7 := by kernel_rfl
/-! ### bagatelle/mass.Area -/
noncomputable def mass.Area.cs : List (Nat × Fw.Summ) := [(23, fix.Mul.s), (85, mass.sides.s), (86, vec.Cross.s), (87, fix.Of.s), (58, fix.Div.s), (22, fix.Add.s)]
theorem mass.Area.cs_ok : SumsOk Tryz.prog mass.Area.cs := .cons fix.Mul.ok (.cons mass.sides.ok (.cons vec.Cross.ok (.cons fix.Of.ok (.cons fix.Div.ok (.cons fix.Add.ok (.nil))))))
def mass.Area.hs : List (Nat × LHint) := []
noncomputable def mass.Area.G : Ctx := ⟨Tryz.prog, sumAt mass.Area.cs, lookH mass.Area.hs⟩
noncomputable def mass.Area.its : List (Nat × Iter) := [(105, It.sidesIt)]
theorem mass.Area.its_ok : ItsOk Tryz.prog mass.Area.its := .cons It.sidesIt_ok (.nil)
noncomputable def mass.Area.f (x : (Int × Int × (Nat × (Nat → List AV)))) : Option Int := evXF mass.Area.G (itAt mass.Area.its) 0 Tryz.f56 ((tOne (tG (tCons (tI .i64) (tCons (tI .i64) (tOne (tLz 2 (Rii.enc (0, 0)))))))).enc x) (tI .i64).dec
noncomputable def mass.Area.s : Fw.Summ := .mk' (tOne (tG (tCons (tI .i64) (tCons (tI .i64) (tOne (tLz 2 (Rii.enc (0, 0)))))))) (tI .i64) mass.Area.f
theorem mass.Area.ok : mass.Area.s.Ok Tryz.prog 56 :=
  xsumm_ok (hint := lookH mass.Area.hs) (fn := Tryz.f56) (fun x => 0) mass.Area.cs_ok mass.Area.its_ok (by kernel_rfl) (by kernel_rfl) (by kernel_rfl) (by kernel_rfl) (tOne_ok (tG_ok (tCons_ok (tI_ok _) (tCons_ok (tI_ok _) (tOne_ok (tLz_ok _ _)))))) (tI_ok _) (fun _ => rfl)
noncomputable def mass.Area.r0 (k0 : Nat) (p0_0 : Int) (p0_1 : Int) (p0_2_n : Nat) (p0_2_g : Nat → (Int × Int)) (d ix : Nat) (v1 : Int) : Option Int :=
  evRange (roundE mass.Area.G k0 (asgOf (codeAt [1, 1, 1, 0, 1, 0] (bodyOf Tryz.f56))) (bdyOf (codeAt [1, 1, 1, 0, 1, 0] (bodyOf Tryz.f56))) 0)
  [.agg [.val (.int .i64 p0_0), .val (.int .i64 p0_1), .lst 2 p0_2_n none (fun i => Rii.enc (p0_2_g i))], .ptr 0 0 0, .val (.int .i64 0), .ptr 1 0 0, .tup [], .tup [], .ptr 0 0 0, .val (.int .i64 p0_0), .val (.bool (p0_0 == 1)), .tup [], .tup [], .tup [], .tup [], .tup [], .tup [], .ptr 0 0 2, .lst 2 p0_2_n none (fun i => Rii.enc (p0_2_g i)), .fn 105 [.rp [.lst 2 p0_2_n none (fun i => Rii.enc (p0_2_g i))] 0], .tup [], .tup [], .tup [], .tup [], .tup [], .tup [], .tup [], .tup [], .tup [], .tup []]
  [18, 19] (fun i => [.agg ((fun i => Rii.enc (p0_2_g i)) i), .agg ((fun i => Rii.enc (p0_2_g i)) ((i + 1) % p0_2_n))]) 3 d ix
  [.live ⟨false, 32, 3, 1, fun _ => [.val (.int .i64 p0_0), .val (.int .i64 p0_1), .lst 2 p0_2_n none (fun i => Rii.enc (p0_2_g i))], none⟩, .live ⟨false, 25, 1, 1, fun _ => [.val (.int .i64 v1)], none⟩, .dead]
  fun H => (kBlock 0 (kSeq mass.Area.G k0 (codeAt [1, 1, 1, 1] (bodyOf Tryz.f56)) 0 (kFin mass.Area.G Tryz.f56 (tI .i64).dec))) .normal ⟨[.agg [.val (.int .i64 p0_0), .val (.int .i64 p0_1), .lst 2 p0_2_n none (fun i => Rii.enc (p0_2_g i))], .ptr 0 0 0, .val (.int .i64 0), .ptr 1 0 0, .tup [], .tup [], .ptr 0 0 0, .val (.int .i64 p0_0), .val (.bool (p0_0 == 1)), .tup [], .tup [], .tup [], .tup [], .tup [], .tup [], .ptr 0 0 2, .lst 2 p0_2_n none (fun i => Rii.enc (p0_2_g i)), .fn 105 [.rp [.lst 2 p0_2_n none (fun i => Rii.enc (p0_2_g i))] 0], .tup [], .tup [], .tup [], .tup [], .tup [], .tup [], .tup [], .tup [], .tup [], .tup []], H⟩
theorem mass.Area.r0_eq (k0 : Nat) (p0_0 : Int) (p0_1 : Int) (p0_2_n : Nat) (p0_2_g : Nat → (Int × Int)) (d ix : Nat) (v1 : Int) : mass.Area.r0 k0 p0_0 p0_1 p0_2_n p0_2_g (d + 1) ix v1 =
  (vec.Cross.f (((p0_2_g ix).1, (p0_2_g ix).2), ((p0_2_g ((ix + 1) % p0_2_n)).1, (p0_2_g ((ix + 1) % p0_2_n)).2))).bind fun r3 =>
  (fix.Of.f 2).bind fun r4 =>
  (fix.Div.f (r3, r4)).bind fun r5 =>
  (fix.Add.f (v1, r5)).bind fun r6 =>
  mass.Area.r0 k0 p0_0 p0_1 p0_2_n p0_2_g d (ix + 1) r6 := by kernel_rfl
theorem mass.Area.r0_end (k0 : Nat) (p0_0 : Int) (p0_1 : Int) (p0_2_n : Nat) (p0_2_g : Nat → (Int × Int)) (ix : Nat) (v1 : Int) : mass.Area.r0 k0 p0_0 p0_1 p0_2_n p0_2_g 0 ix v1 =
  some v1 := by kernel_rfl
theorem mass.Area.eq (p0_0 : Int) (p0_1 : Int) (p0_2_n : Nat) (p0_2_g : Nat → (Int × Int)) : mass.Area.f (p0_0, p0_1, (p0_2_n, (fun i => Rii.enc (p0_2_g i)))) =
  bif (p0_0 == 1) then
    (fix.Mul.f (p0_1, p0_1)).bind fun r1 =>
    (fix.Mul.f (13493037705, r1)).bind fun r2 =>
    some r2
  else
  bif (decide (p0_2_n ≤ 4611686018427387904)) then
  mass.Area.r0 0 p0_0 p0_1 p0_2_n p0_2_g p0_2_n 0 0
  else none := by kernel_rfl
/-! ### bagatelle/vec.Dot -/
noncomputable def vec.Dot.cs : List (Nat × Fw.Summ) := [(23, fix.Mul.s), (22, fix.Add.s)]
theorem vec.Dot.cs_ok : SumsOk Tryz.prog vec.Dot.cs := .cons fix.Mul.ok (.cons fix.Add.ok (.nil))
def vec.Dot.hs : List (Nat × LHint) := []
noncomputable def vec.Dot.G : Ctx := ⟨Tryz.prog, sumAt vec.Dot.cs, lookH vec.Dot.hs⟩
noncomputable def vec.Dot.f (x : ((Int × Int) × (Int × Int))) : Option Int := evF vec.Dot.G 0 Tryz.f89 ((tCons (tG (tCons (tI .i64) (tOne (tI .i64)))) (tOne (tG (tCons (tI .i64) (tOne (tI .i64)))))).enc x) (tI .i64).dec
noncomputable def vec.Dot.s : Fw.Summ := .mk' (tCons (tG (tCons (tI .i64) (tOne (tI .i64)))) (tOne (tG (tCons (tI .i64) (tOne (tI .i64)))))) (tI .i64) vec.Dot.f
theorem vec.Dot.ok : vec.Dot.s.Ok Tryz.prog 89 :=
  summ_ok (hint := lookH vec.Dot.hs) (fn := Tryz.f89) (fun x => 0) vec.Dot.cs_ok (by kernel_rfl) (by kernel_rfl) (by kernel_rfl) (by kernel_rfl) (tCons_ok (tG_ok (tCons_ok (tI_ok _) (tOne_ok (tI_ok _)))) (tOne_ok (tG_ok (tCons_ok (tI_ok _) (tOne_ok (tI_ok _)))))) (tI_ok _) (fun _ => rfl)
theorem vec.Dot.eq (p0_0 : Int) (p0_1 : Int) (p1_0 : Int) (p1_1 : Int) : vec.Dot.f ((p0_0, p0_1), (p1_0, p1_1)) =
  (fix.Mul.f (p0_0, p1_0)).bind fun r1 =>
  (fix.Mul.f (p0_1, p1_1)).bind fun r2 =>
  (fix.Add.f (r1, r2)).bind fun r3 =>
  some r3 := by kernel_rfl
/-! ### bagatelle/fix.Sum -/
noncomputable def fix.Sum.cs : List (Nat × Fw.Summ) := [(22, fix.Add.s)]
theorem fix.Sum.cs_ok : SumsOk Tryz.prog fix.Sum.cs := .cons fix.Add.ok (.nil)
def fix.Sum.hs : List (Nat × LHint) := [(0, { mat := [], live := [3, 6, 7, 8], ren := [] })]
noncomputable def fix.Sum.G : Ctx := ⟨Tryz.prog, sumAt fix.Sum.cs, lookH fix.Sum.hs⟩
noncomputable def fix.Sum.g (k0 : Nat) (x : (Nat × (Nat → List AV))) : Option Int := evF fix.Sum.G k0 Tryz.f88 ((tOne (tLz 1 (Ri.enc 0))).enc x) (tI .i64).dec
noncomputable def fix.Sum.f (x : (Nat × (Nat → List AV))) : Option Int := fix.Sum.g (1000000) x
noncomputable def fix.Sum.s : Fw.Summ := .mk' (tOne (tLz 1 (Ri.enc 0))) (tI .i64) fix.Sum.f
theorem fix.Sum.ok : fix.Sum.s.Ok Tryz.prog 88 :=
  summ_ok (hint := lookH fix.Sum.hs) (fn := Tryz.f88) (fun x => 1000000) fix.Sum.cs_ok (by kernel_rfl) (by kernel_rfl) (by kernel_rfl) (by kernel_rfl) (tOne_ok (tLz_ok _ _)) (tI_ok _) (fun _ => rfl)
noncomputable def fix.Sum.l0 (k0 k1 : Nat) (v1 : Int) (v2 : Nat) (v3 : Nat → List AV) (v4 : Int) (v5 : Int) : Option Int :=
  evLoop (lookH fix.Sum.hs 0) 0 (ev fix.Sum.G k0 (codeAt [1, 1, 0, 1, 0, 0] (bodyOf Tryz.f88)) 0) k1
  ⟨[.top, .top, .top, .val (.int .i64 v1), .top, .top, .lst 1 v2 none v3, .val (.int .i64 v4), .val (.int .i64 v5), .top, .top, .top, .top, .top, .top, .top, .top], []⟩
  (kBlock 0 (kSeq fix.Sum.G k0 (codeAt [1, 1, 1] (bodyOf Tryz.f88)) 0 (kFin fix.Sum.G Tryz.f88 (tI .i64).dec)))
theorem fix.Sum.l0_eq (k0 k1 : Nat) (v1 : Int) (v2 : Nat) (v3 : Nat → Int) (v4 : Int) (v5 : Int) : fix.Sum.l0 k0 (k1 + 1) v1 v2 (fun i => Ri.enc (v3 i)) v4 v5 =
  bif (decide (v5 < v4)) then
    bif ((decide (0 ≤ v5)) && (decide (v5 < ((v2 : Nat) : Int)))) then
    (fix.Add.f (v1, (v3 (Int.toNat v5)))).bind fun r1 =>
    fix.Sum.l0 k0 k1 r1 v2 (fun i => Ri.enc (v3 i)) v4 (IntKind.i64.wrap (v5 + 1))
    else none
  else
  some v1 := by kernel_rfl
theorem fix.Sum.eq (k0 : Nat) (p0_n : Nat) (p0_g : Nat → Int) : fix.Sum.g k0 (p0_n, (fun i => Ri.enc (p0_g i))) =
  fix.Sum.l0 k0 k0 0 p0_n (fun i => Ri.enc (p0_g i)) ((p0_n : Nat) : Int) 0 := by kernel_rfl
/-! ### bagatelle/mass.Round -/
noncomputable def mass.Round.cs : List (Nat × Fw.Summ) := [(56, mass.Area.s), (23, fix.Mul.s), (87, fix.Of.s), (58, fix.Div.s), (85, mass.sides.s), (89, vec.Dot.s), (88, fix.Sum.s), (86, vec.Cross.s), (22, fix.Add.s)]
theorem mass.Round.cs_ok : SumsOk Tryz.prog mass.Round.cs := .cons mass.Area.ok (.cons fix.Mul.ok (.cons fix.Of.ok (.cons fix.Div.ok (.cons mass.sides.ok (.cons vec.Dot.ok (.cons fix.Sum.ok (.cons vec.Cross.ok (.cons fix.Add.ok (.nil)))))))))
def mass.Round.hs : List (Nat × LHint) := []
noncomputable def mass.Round.G : Ctx := ⟨Tryz.prog, sumAt mass.Round.cs, lookH mass.Round.hs⟩
noncomputable def mass.Round.its : List (Nat × Iter) := [(105, It.sidesIt)]
theorem mass.Round.its_ok : ItsOk Tryz.prog mass.Round.its := .cons It.sidesIt_ok (.nil)
noncomputable def mass.Round.f (x : (Int × Int × (Nat × (Nat → List AV)))) : Option Int := evXF mass.Round.G (itAt mass.Round.its) 0 Tryz.f57 ((tOne (tG (tCons (tI .i64) (tCons (tI .i64) (tOne (tLz 2 (Rii.enc (0, 0)))))))).enc x) (tI .i64).dec
noncomputable def mass.Round.s : Fw.Summ := .mk' (tOne (tG (tCons (tI .i64) (tCons (tI .i64) (tOne (tLz 2 (Rii.enc (0, 0)))))))) (tI .i64) mass.Round.f
theorem mass.Round.ok : mass.Round.s.Ok Tryz.prog 57 :=
  xsumm_ok (hint := lookH mass.Round.hs) (fn := Tryz.f57) (fun x => 0) mass.Round.cs_ok mass.Round.its_ok (by kernel_rfl) (by kernel_rfl) (by kernel_rfl) (by kernel_rfl) (tOne_ok (tG_ok (tCons_ok (tI_ok _) (tCons_ok (tI_ok _) (tOne_ok (tLz_ok _ _)))))) (tI_ok _) (fun _ => rfl)
noncomputable def mass.Round.r0 (k0 : Nat) (p0_0 : Int) (p0_1 : Int) (p0_2_n : Nat) (p0_2_g : Nat → (Int × Int)) (d ix : Nat) (v1 : Int) : Option Int :=
  evRange (roundE mass.Round.G k0 (asgOf (codeAt [1, 1, 1, 0, 1, 0] (bodyOf Tryz.f57))) (bdyOf (codeAt [1, 1, 1, 0, 1, 0] (bodyOf Tryz.f57))) 0)
  [.agg [.val (.int .i64 p0_0), .val (.int .i64 p0_1), .lst 2 p0_2_n none (fun i => Rii.enc (p0_2_g i))], .ptr 0 0 0, .val (.int .i64 0), .ptr 1 0 0, .tup [], .tup [], .tup [], .ptr 0 0 0, .val (.int .i64 p0_0), .val (.bool (p0_0 == 1)), .tup [], .tup [], .tup [], .tup [], .tup [], .tup [], .tup [], .tup [], .tup [], .tup [], .ptr 0 0 2, .lst 2 p0_2_n none (fun i => Rii.enc (p0_2_g i)), .fn 105 [.rp [.lst 2 p0_2_n none (fun i => Rii.enc (p0_2_g i))] 0], .tup [], .tup [], .tup [], .tup [], .tup [], .tup [], .tup [], .tup [], .tup [], .tup [], .tup [], .tup [], .tup [], .tup [], .tup [], .tup [], .tup [], .tup [], .tup [], .tup [], .tup [], .tup [], .tup []]
  [23, 24] (fun i => [.agg ((fun i => Rii.enc (p0_2_g i)) i), .agg ((fun i => Rii.enc (p0_2_g i)) ((i + 1) % p0_2_n))]) 3 d ix
  [.live ⟨false, 32, 3, 1, fun _ => [.val (.int .i64 p0_0), .val (.int .i64 p0_1), .lst 2 p0_2_n none (fun i => Rii.enc (p0_2_g i))], none⟩, .live ⟨false, 25, 1, 1, fun _ => [.val (.int .i64 v1)], none⟩, .dead]
  fun H => (kBlock 0 (kSeq mass.Round.G k0 (codeAt [1, 1, 1, 1] (bodyOf Tryz.f57)) 0 (kFin mass.Round.G Tryz.f57 (tI .i64).dec))) .normal ⟨[.agg [.val (.int .i64 p0_0), .val (.int .i64 p0_1), .lst 2 p0_2_n none (fun i => Rii.enc (p0_2_g i))], .ptr 0 0 0, .val (.int .i64 0), .ptr 1 0 0, .tup [], .tup [], .tup [], .ptr 0 0 0, .val (.int .i64 p0_0), .val (.bool (p0_0 == 1)), .tup [], .tup [], .tup [], .tup [], .tup [], .tup [], .tup [], .tup [], .tup [], .tup [], .ptr 0 0 2, .lst 2 p0_2_n none (fun i => Rii.enc (p0_2_g i)), .fn 105 [.rp [.lst 2 p0_2_n none (fun i => Rii.enc (p0_2_g i))] 0], .tup [], .tup [], .tup [], .tup [], .tup [], .tup [], .tup [], .tup [], .tup [], .tup [], .tup [], .tup [], .tup [], .tup [], .tup [], .tup [], .tup [], .tup [], .tup [], .tup [], .tup [], .tup [], .tup []], H⟩
theorem mass.Round.r0_eq (k0 : Nat) (p0_0 : Int) (p0_1 : Int) (p0_2_n : Nat) (p0_2_g : Nat → (Int × Int)) (d ix : Nat) (v1 : Int) : mass.Round.r0 k0 p0_0 p0_1 p0_2_n p0_2_g (d + 1) ix v1 =
  (vec.Dot.f (((p0_2_g ix).1, (p0_2_g ix).2), ((p0_2_g ix).1, (p0_2_g ix).2))).bind fun r6 =>
  (vec.Dot.f (((p0_2_g ix).1, (p0_2_g ix).2), ((p0_2_g ((ix + 1) % p0_2_n)).1, (p0_2_g ((ix + 1) % p0_2_n)).2))).bind fun r7 =>
  (vec.Dot.f (((p0_2_g ((ix + 1) % p0_2_n)).1, (p0_2_g ((ix + 1) % p0_2_n)).2), ((p0_2_g ((ix + 1) % p0_2_n)).1, (p0_2_g ((ix + 1) % p0_2_n)).2))).bind fun r8 =>
  (fix.Sum.f (3, (fun i => cloL (List.getD (List.map Ri.enc [r6, r7, r8]) i (Ri.enc 0))))).bind fun r9 =>
  (vec.Cross.f (((p0_2_g ix).1, (p0_2_g ix).2), ((p0_2_g ((ix + 1) % p0_2_n)).1, (p0_2_g ((ix + 1) % p0_2_n)).2))).bind fun r10 =>
  (fix.Mul.f (r10, r9)).bind fun r11 =>
  (fix.Of.f 12).bind fun r12 =>
  (fix.Div.f (r11, r12)).bind fun r13 =>
  (fix.Add.f (v1, r13)).bind fun r14 =>
  mass.Round.r0 k0 p0_0 p0_1 p0_2_n p0_2_g d (ix + 1) r14 := by kernel_rfl
theorem mass.Round.r0_end (k0 : Nat) (p0_0 : Int) (p0_1 : Int) (p0_2_n : Nat) (p0_2_g : Nat → (Int × Int)) (ix : Nat) (v1 : Int) : mass.Round.r0 k0 p0_0 p0_1 p0_2_n p0_2_g 0 ix v1 =
  some v1 := by kernel_rfl
theorem mass.Round.eq (p0_0 : Int) (p0_1 : Int) (p0_2_n : Nat) (p0_2_g : Nat → (Int × Int)) : mass.Round.f (p0_0, p0_1, (p0_2_n, (fun i => Rii.enc (p0_2_g i)))) =
  bif (p0_0 == 1) then
    (mass.Area.f (p0_0, p0_1, (p0_2_n, (fun i => Rii.enc (p0_2_g i))))).bind fun r1 =>
    (fix.Mul.f (p0_1, p0_1)).bind fun r2 =>
    (fix.Mul.f (r1, r2)).bind fun r3 =>
    (fix.Of.f 2).bind fun r4 =>
    (fix.Div.f (r3, r4)).bind fun r5 =>
    some r5
  else
  bif (decide (p0_2_n ≤ 4611686018427387904)) then
  mass.Round.r0 0 p0_0 p0_1 p0_2_n p0_2_g p0_2_n 0 0
  else none := by kernel_rfl
/-! ### bagatelle/mass.Of -/
noncomputable def mass.Of.cs : List (Nat × Fw.Summ) := [(56, mass.Area.s), (23, fix.Mul.s), (57, mass.Round.s), (58, fix.Div.s)]
theorem mass.Of.cs_ok : SumsOk Tryz.prog mass.Of.cs := .cons mass.Area.ok (.cons fix.Mul.ok (.cons mass.Round.ok (.cons fix.Div.ok (.nil))))
def mass.Of.hs : List (Nat × LHint) := []
noncomputable def mass.Of.G : Ctx := ⟨Tryz.prog, sumAt mass.Of.cs, lookH mass.Of.hs⟩
noncomputable def mass.Of.f (x : (Int × Int × Int × Int × Int × Int × Int × Int × Int × Int × (Nat × (Nat → List AV)))) : Option (Int × Int × Int × Int) := evF mass.Of.G 0 Tryz.f17 ((tOne (tG (tCons (tI .i64) (tCons (tI .i64) (tCons (tI .i64) (tCons (tI .i64) (tCons (tI .i64) (tCons (tI .i64) (tCons (tI .i64) (tCons (tI .i64) (tCons (tI .i64) (tCons (tI .i64) (tOne (tLz 2 (Rii.enc (0, 0)))))))))))))))).enc x) (tG (tCons (tI .i64) (tCons (tI .i64) (tCons (tI .i64) (tOne (tI .i64)))))).dec
noncomputable def mass.Of.s : Fw.Summ := .mk' (tOne (tG (tCons (tI .i64) (tCons (tI .i64) (tCons (tI .i64) (tCons (tI .i64) (tCons (tI .i64) (tCons (tI .i64) (tCons (tI .i64) (tCons (tI .i64) (tCons (tI .i64) (tCons (tI .i64) (tOne (tLz 2 (Rii.enc (0, 0)))))))))))))))) (tG (tCons (tI .i64) (tCons (tI .i64) (tCons (tI .i64) (tOne (tI .i64)))))) mass.Of.f
theorem mass.Of.ok : mass.Of.s.Ok Tryz.prog 17 :=
  summ_ok (hint := lookH mass.Of.hs) (fn := Tryz.f17) (fun x => 0) mass.Of.cs_ok (by kernel_rfl) (by kernel_rfl) (by kernel_rfl) (by kernel_rfl) (tOne_ok (tG_ok (tCons_ok (tI_ok _) (tCons_ok (tI_ok _) (tCons_ok (tI_ok _) (tCons_ok (tI_ok _) (tCons_ok (tI_ok _) (tCons_ok (tI_ok _) (tCons_ok (tI_ok _) (tCons_ok (tI_ok _) (tCons_ok (tI_ok _) (tCons_ok (tI_ok _) (tOne_ok (tLz_ok _ _)))))))))))))) (tG_ok (tCons_ok (tI_ok _) (tCons_ok (tI_ok _) (tCons_ok (tI_ok _) (tOne_ok (tI_ok _)))))) (fun _ => rfl)
theorem mass.Of.eq (p0_0 : Int) (p0_1 : Int) (p0_2 : Int) (p0_3 : Int) (p0_4 : Int) (p0_5 : Int) (p0_6 : Int) (p0_7 : Int) (p0_8 : Int) (p0_9 : Int) (p0_10_n : Nat) (p0_10_g : Nat → (Int × Int)) : mass.Of.f (p0_0, p0_1, p0_2, p0_3, p0_4, p0_5, p0_6, p0_7, p0_8, p0_9, (p0_10_n, (fun i => Rii.enc (p0_10_g i)))) =
  bif (decide (p0_7 ≤ 0)) then
    some (0, 0, 0, 0)
  else
  (mass.Area.f (p0_8, p0_9, (p0_10_n, (fun i => Rii.enc (p0_10_g i))))).bind fun r1 =>
  (fix.Mul.f (p0_7, r1)).bind fun r2 =>
  (mass.Round.f (p0_8, p0_9, (p0_10_n, (fun i => Rii.enc (p0_10_g i))))).bind fun r3 =>
  (fix.Mul.f (p0_7, r3)).bind fun r4 =>
  (fix.Div.f (4294967296, (if 1 > r2 then 1 else r2))).bind fun r5 =>
  (fix.Div.f (4294967296, (if 1 > r4 then 1 else r4))).bind fun r6 =>
  some ((if 1 > r2 then 1 else r2), (if 1 > r4 then 1 else r4), r5, r6) := by kernel_rfl
/-! ### bagatelle/vec.Scale -/
noncomputable def vec.Scale.cs : List (Nat × Fw.Summ) := [(23, fix.Mul.s)]
theorem vec.Scale.cs_ok : SumsOk Tryz.prog vec.Scale.cs := .cons fix.Mul.ok (.nil)
def vec.Scale.hs : List (Nat × LHint) := []
noncomputable def vec.Scale.G : Ctx := ⟨Tryz.prog, sumAt vec.Scale.cs, lookH vec.Scale.hs⟩
noncomputable def vec.Scale.f (x : ((Int × Int) × Int)) : Option (Int × Int) := evF vec.Scale.G 0 Tryz.f20 ((tCons (tG (tCons (tI .i64) (tOne (tI .i64)))) (tOne (tI .i64))).enc x) (tG (tCons (tI .i64) (tOne (tI .i64)))).dec
noncomputable def vec.Scale.s : Fw.Summ := .mk' (tCons (tG (tCons (tI .i64) (tOne (tI .i64)))) (tOne (tI .i64))) (tG (tCons (tI .i64) (tOne (tI .i64)))) vec.Scale.f
theorem vec.Scale.ok : vec.Scale.s.Ok Tryz.prog 20 :=
  summ_ok (hint := lookH vec.Scale.hs) (fn := Tryz.f20) (fun x => 0) vec.Scale.cs_ok (by kernel_rfl) (by kernel_rfl) (by kernel_rfl) (by kernel_rfl) (tCons_ok (tG_ok (tCons_ok (tI_ok _) (tOne_ok (tI_ok _)))) (tOne_ok (tI_ok _))) (tG_ok (tCons_ok (tI_ok _) (tOne_ok (tI_ok _)))) (fun _ => rfl)
theorem vec.Scale.eq (p0_0 : Int) (p0_1 : Int) (p1 : Int) : vec.Scale.f ((p0_0, p0_1), p1) =
  (fix.Mul.f (p0_0, p1)).bind fun r1 =>
  (fix.Mul.f (p0_1, p1)).bind fun r2 =>
  some (r1, r2) := by kernel_rfl
/-! ### bagatelle/vec.Add -/
noncomputable def vec.Add.cs : List (Nat × Fw.Summ) := [(22, fix.Add.s)]
theorem vec.Add.cs_ok : SumsOk Tryz.prog vec.Add.cs := .cons fix.Add.ok (.nil)
def vec.Add.hs : List (Nat × LHint) := []
noncomputable def vec.Add.G : Ctx := ⟨Tryz.prog, sumAt vec.Add.cs, lookH vec.Add.hs⟩
noncomputable def vec.Add.f (x : ((Int × Int) × (Int × Int))) : Option (Int × Int) := evF vec.Add.G 0 Tryz.f19 ((tCons (tG (tCons (tI .i64) (tOne (tI .i64)))) (tOne (tG (tCons (tI .i64) (tOne (tI .i64)))))).enc x) (tG (tCons (tI .i64) (tOne (tI .i64)))).dec
noncomputable def vec.Add.s : Fw.Summ := .mk' (tCons (tG (tCons (tI .i64) (tOne (tI .i64)))) (tOne (tG (tCons (tI .i64) (tOne (tI .i64)))))) (tG (tCons (tI .i64) (tOne (tI .i64)))) vec.Add.f
theorem vec.Add.ok : vec.Add.s.Ok Tryz.prog 19 :=
  summ_ok (hint := lookH vec.Add.hs) (fn := Tryz.f19) (fun x => 0) vec.Add.cs_ok (by kernel_rfl) (by kernel_rfl) (by kernel_rfl) (by kernel_rfl) (tCons_ok (tG_ok (tCons_ok (tI_ok _) (tOne_ok (tI_ok _)))) (tOne_ok (tG_ok (tCons_ok (tI_ok _) (tOne_ok (tI_ok _)))))) (tG_ok (tCons_ok (tI_ok _) (tOne_ok (tI_ok _)))) (fun _ => rfl)
theorem vec.Add.eq (p0_0 : Int) (p0_1 : Int) (p1_0 : Int) (p1_1 : Int) : vec.Add.f ((p0_0, p0_1), (p1_0, p1_1)) =
  (fix.Add.f (p0_0, p1_0)).bind fun r1 =>
  (fix.Add.f (p0_1, p1_1)).bind fun r2 =>
  some (r1, r2) := by kernel_rfl
/-! ### bagatelle/fix.Bring -/
noncomputable def fix.Bring.cs : List (Nat × Fw.Summ) := [(59, fix.whole.s)]
theorem fix.Bring.cs_ok : SumsOk Tryz.prog fix.Bring.cs := .cons fix.whole.ok (.nil)
def fix.Bring.hs : List (Nat × LHint) := []
noncomputable def fix.Bring.G : Ctx := ⟨Tryz.prog, sumAt fix.Bring.cs, lookH fix.Bring.hs⟩
noncomputable def fix.Bring.f (x : (Int × Int × Int)) : Option Int := evF fix.Bring.G 0 Tryz.f21 ((tCons (tI .i64) (tCons (tI .i64) (tOne (tI .i64)))).enc x) (tI .i64).dec
noncomputable def fix.Bring.s : Fw.Summ := .mk' (tCons (tI .i64) (tCons (tI .i64) (tOne (tI .i64)))) (tI .i64) fix.Bring.f
theorem fix.Bring.ok : fix.Bring.s.Ok Tryz.prog 21 :=
  summ_ok (hint := lookH fix.Bring.hs) (fn := Tryz.f21) (fun x => 0) fix.Bring.cs_ok (by kernel_rfl) (by kernel_rfl) (by kernel_rfl) (by kernel_rfl) (tCons_ok (tI_ok _) (tCons_ok (tI_ok _) (tOne_ok (tI_ok _)))) (tI_ok _) (fun _ => rfl)
theorem fix.Bring.eq (p0 : Int) (p1 : Int) (p2 : Int) : fix.Bring.f (p0, p1, p2) =
  (fix.whole.f p0).bind fun r1 =>
  some (if p2 < (if p1 > r1 then p1 else r1) then p2 else (if p1 > r1 then p1 else r1)) := by kernel_rfl
/-! ### bagatelle/vec.Bring -/
noncomputable def vec.Bring.cs : List (Nat × Fw.Summ) := [(21, fix.Bring.s)]
theorem vec.Bring.cs_ok : SumsOk Tryz.prog vec.Bring.cs := .cons fix.Bring.ok (.nil)
def vec.Bring.hs : List (Nat × LHint) := []
noncomputable def vec.Bring.G : Ctx := ⟨Tryz.prog, sumAt vec.Bring.cs, lookH vec.Bring.hs⟩
noncomputable def vec.Bring.f (x : ((Int × Int) × Int)) : Option (Int × Int) := evF vec.Bring.G 0 Tryz.f18 ((tCons (tG (tCons (tI .i64) (tOne (tI .i64)))) (tOne (tI .i64))).enc x) (tG (tCons (tI .i64) (tOne (tI .i64)))).dec
noncomputable def vec.Bring.s : Fw.Summ := .mk' (tCons (tG (tCons (tI .i64) (tOne (tI .i64)))) (tOne (tI .i64))) (tG (tCons (tI .i64) (tOne (tI .i64)))) vec.Bring.f
theorem vec.Bring.ok : vec.Bring.s.Ok Tryz.prog 18 :=
  summ_ok (hint := lookH vec.Bring.hs) (fn := Tryz.f18) (fun x => 0) vec.Bring.cs_ok (by kernel_rfl) (by kernel_rfl) (by kernel_rfl) (by kernel_rfl) (tCons_ok (tG_ok (tCons_ok (tI_ok _) (tOne_ok (tI_ok _)))) (tOne_ok (tI_ok _))) (tG_ok (tCons_ok (tI_ok _) (tOne_ok (tI_ok _)))) (fun _ => rfl)
theorem vec.Bring.eq (p0_0 : Int) (p0_1 : Int) (p1 : Int) : vec.Bring.f ((p0_0, p0_1), p1) =
  (fix.Bring.f (p0_0, (IntKind.i64.wrap (0 - p1)), p1)).bind fun r1 =>
  (fix.Bring.f (p0_1, (IntKind.i64.wrap (0 - p1)), p1)).bind fun r2 =>
  some (r1, r2) := by kernel_rfl
end Go.Proofs.YtghhecijpghfhaaGreat.E
