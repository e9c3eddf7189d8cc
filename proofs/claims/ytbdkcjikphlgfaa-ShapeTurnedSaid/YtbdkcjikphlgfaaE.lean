import Derived.Test.YtbdkcjikphlgfaaFwW
import Derived.Test.YtbdkcjikphlgfaaProg
namespace Go.Proofs.Ytbdkcjikphlgfaa.E
open Go Go.Proofs Go.Proofs.Ytbdkcjikphlgfaa.Fw Go.RowKit
set_option maxRecDepth 100000
set_option linter.unusedVariables false
def Str11c1601c : ByteArray := ByteArray.mk #[0, 1, 2, 2, 3, 3, 3, 3, 4, 4, 4, 4, 4, 4, 4, 4, 5, 5, 5, 5, 5, 5, 5, 5, 5, 5, 5, 5, 5, 5, 5, 5, 6, 6, 6, 6, 6, 6, 6, 6, 6, 6, 6, 6, 6, 6, 6, 6, 6, 6, 6, 6, 6, 6, 6, 6, 6, 6, 6, 6, 6, 6, 6, 6, 7, 7, 7, 7, 7, 7, 7, 7, 7, 7, 7, 7, 7, 7, 7, 7, 7, 7, 7, 7, 7, 7, 7, 7, 7, 7, 7, 7, 7, 7, 7, 7, 7, 7, 7, 7, 7, 7, 7, 7, 7, 7, 7, 7, 7, 7, 7, 7, 7, 7, 7, 7, 7, 7, 7, 7, 7, 7, 7, 7, 7, 7, 7, 7, 8, 8, 8, 8, 8, 8, 8, 8, 8, 8, 8, 8, 8, 8, 8, 8, 8, 8, 8, 8, 8, 8, 8, 8, 8, 8, 8, 8, 8, 8, 8, 8, 8, 8, 8, 8, 8, 8, 8, 8, 8, 8, 8, 8, 8, 8, 8, 8, 8, 8, 8, 8, 8, 8, 8, 8, 8, 8, 8, 8, 8, 8, 8, 8, 8, 8, 8, 8, 8, 8, 8, 8, 8, 8, 8, 8, 8, 8, 8, 8, 8, 8, 8, 8, 8, 8, 8, 8, 8, 8, 8, 8, 8, 8, 8, 8, 8, 8, 8, 8, 8, 8, 8, 8, 8, 8, 8, 8, 8, 8, 8, 8, 8, 8, 8, 8, 8, 8, 8, 8, 8, 8, 8, 8, 8, 8, 8, 8]
def Rii : TyL (Int × Int) := (tCons (tI .i64) (tOne (tI .i64)))
theorem Rii_ok : Rii.Ok := (tCons_ok (tI_ok _) (tOne_ok (tI_ok _)))
theorem Rii_ren (f : Nat → Option Nat) (x : (Int × Int)) : renL f (Rii.enc x) = Rii.enc x := by kernel_rfl
theorem Rii_clo (x : (Int × Int)) : cloL (Rii.enc x) = Rii.enc x := by kernel_rfl
theorem Rii_dec (x : (Int × Int)) : Rii.dec (Rii.enc x) = some x := by kernel_rfl
/-! ### bagatelle/fix.whole -/
noncomputable def fix.whole.cs : List (Nat × Fw.Summ) := []
theorem fix.whole.cs_ok : SumsOk Try.prog fix.whole.cs := .nil
def fix.whole.hs : List (Nat × LHint) := []
noncomputable def fix.whole.G : Ctx := ⟨Try.prog, sumAt fix.whole.cs, lookH fix.whole.hs⟩
noncomputable def fix.whole.f (x : Int) : Option Int := evF fix.whole.G 0 Try.f38 ((tOne (tI .i64)).enc x) (tI .i64).dec
noncomputable def fix.whole.s : Fw.Summ := .mk' (tOne (tI .i64)) (tI .i64) fix.whole.f
theorem fix.whole.ok : fix.whole.s.Ok Try.prog 38 :=
  summ_ok (hint := lookH fix.whole.hs) (fn := Try.f38) (fun x => 0) fix.whole.cs_ok (by kernel_rfl) (by kernel_rfl) (by kernel_rfl) (by kernel_rfl) (tOne_ok (tI_ok _)) (tI_ok _) (fun _ => rfl)
theorem fix.whole.eq (p0 : Int) : fix.whole.f p0 =
  some (if (-9223372036854775807) > p0 then (-9223372036854775807) else p0) := by kernel_rfl
/-! ### bagatelle/fix.Neg -/
noncomputable def fix.Neg.cs : List (Nat × Fw.Summ) := [(38, fix.whole.s)]
theorem fix.Neg.cs_ok : SumsOk Try.prog fix.Neg.cs := .cons fix.whole.ok (.nil)
def fix.Neg.hs : List (Nat × LHint) := []
noncomputable def fix.Neg.G : Ctx := ⟨Try.prog, sumAt fix.Neg.cs, lookH fix.Neg.hs⟩
noncomputable def fix.Neg.f (x : Int) : Option Int := evF fix.Neg.G 0 Try.f28 ((tOne (tI .i64)).enc x) (tI .i64).dec
noncomputable def fix.Neg.s : Fw.Summ := .mk' (tOne (tI .i64)) (tI .i64) fix.Neg.f
theorem fix.Neg.ok : fix.Neg.s.Ok Try.prog 28 :=
  summ_ok (hint := lookH fix.Neg.hs) (fn := Try.f28) (fun x => 0) fix.Neg.cs_ok (by kernel_rfl) (by kernel_rfl) (by kernel_rfl) (by kernel_rfl) (tOne_ok (tI_ok _)) (tI_ok _) (fun _ => rfl)
theorem fix.Neg.eq (p0 : Int) : fix.Neg.f p0 =
  (fix.whole.f p0).bind fun r1 =>
  some (IntKind.i64.wrap (0 - r1)) := by kernel_rfl
/-! ### bagatelle/shape.Box -/
noncomputable def shape.Box.cs : List (Nat × Fw.Summ) := [(28, fix.Neg.s)]
theorem shape.Box.cs_ok : SumsOk Try.prog shape.Box.cs := .cons fix.Neg.ok (.nil)
def shape.Box.hs : List (Nat × LHint) := []
noncomputable def shape.Box.G : Ctx := ⟨Try.prog, sumAt shape.Box.cs, lookH shape.Box.hs⟩
noncomputable def shape.Box.f (x : (Int × Int)) : Option (Int × Int × (Nat × (Nat → (Int × Int)))) := evF shape.Box.G 0 Try.f17 ((tCons (tI .i64) (tOne (tI .i64))).enc x) (tG (tCons (tI .i64) (tCons (tI .i64) (tOne (tTL Rii 2 (0, 0)))))).dec
noncomputable def shape.Box.s : Fw.Summ := .mk' (tCons (tI .i64) (tOne (tI .i64))) (tG (tCons (tI .i64) (tCons (tI .i64) (tOne (tTL Rii 2 (0, 0)))))) shape.Box.f
theorem shape.Box.ok : shape.Box.s.Ok Try.prog 17 :=
  summ_ok (hint := lookH shape.Box.hs) (fn := Try.f17) (fun x => 0) shape.Box.cs_ok (by kernel_rfl) (by kernel_rfl) (by kernel_rfl) (by kernel_rfl) (tCons_ok (tI_ok _) (tOne_ok (tI_ok _))) (tG_ok (tCons_ok (tI_ok _) (tCons_ok (tI_ok _) (tOne_ok (tTL_ok Rii_ok _ _))))) (fun _ => rfl)
theorem shape.Box.eq (p0 : Int) (p1 : Int) : shape.Box.f (p0, p1) =
  (fix.Neg.f p0).bind fun r1 =>
  (fix.Neg.f p1).bind fun r2 =>
  (fix.Neg.f p1).bind fun r3 =>
  (fix.Neg.f p0).bind fun r4 =>
  (tG (tCons (tI .i64) (tCons (tI .i64) (tOne (tTL Rii 2 (0, 0)))))).dec (.agg [.val (.int .i64 2), .val (.int .i64 0), .lst 2 4 (some 4) (fun i => cloL (List.getD (List.map Rii.enc [(r1, r2), (p0, r3), (p0, p1), (r4, p1)]) i (Rii.enc (0, 0))))]) := by kernel_rfl
/-! ### bagatelle/fix.Abs -/
noncomputable def fix.Abs.cs : List (Nat × Fw.Summ) := [(28, fix.Neg.s)]
theorem fix.Abs.cs_ok : SumsOk Try.prog fix.Abs.cs := .cons fix.Neg.ok (.nil)
def fix.Abs.hs : List (Nat × LHint) := []
noncomputable def fix.Abs.G : Ctx := ⟨Try.prog, sumAt fix.Abs.cs, lookH fix.Abs.hs⟩
noncomputable def fix.Abs.f (x : Int) : Option Int := evF fix.Abs.G 0 Try.f33 ((tOne (tI .i64)).enc x) (tI .i64).dec
noncomputable def fix.Abs.s : Fw.Summ := .mk' (tOne (tI .i64)) (tI .i64) fix.Abs.f
theorem fix.Abs.ok : fix.Abs.s.Ok Try.prog 33 :=
  summ_ok (hint := lookH fix.Abs.hs) (fn := Try.f33) (fun x => 0) fix.Abs.cs_ok (by kernel_rfl) (by kernel_rfl) (by kernel_rfl) (by kernel_rfl) (tOne_ok (tI_ok _)) (tI_ok _) (fun _ => rfl)
theorem fix.Abs.eq (p0 : Int) : fix.Abs.f p0 =
  bif (decide (p0 < 0)) then
    (fix.Neg.f p0).bind fun r1 =>
    some r1
  else
  some p0 := by kernel_rfl
/-! ### bagatelle/shape.within -/
noncomputable def shape.within.cs : List (Nat × Fw.Summ) := [(33, fix.Abs.s)]
theorem shape.within.cs_ok : SumsOk Try.prog shape.within.cs := .cons fix.Abs.ok (.nil)
def shape.within.hs : List (Nat × LHint) := []
noncomputable def shape.within.G : Ctx := ⟨Try.prog, sumAt shape.within.cs, lookH shape.within.hs⟩
noncomputable def shape.within.f (x : (Int × Int)) : Option Bool := evF shape.within.G 0 Try.f25 ((tOne (tG (tCons (tI .i64) (tOne (tI .i64))))).enc x) tB.dec
noncomputable def shape.within.s : Fw.Summ := .mk' (tOne (tG (tCons (tI .i64) (tOne (tI .i64))))) tB shape.within.f
theorem shape.within.ok : shape.within.s.Ok Try.prog 25 :=
  summ_ok (hint := lookH shape.within.hs) (fn := Try.f25) (fun x => 0) shape.within.cs_ok (by kernel_rfl) (by kernel_rfl) (by kernel_rfl) (by kernel_rfl) (tOne_ok (tG_ok (tCons_ok (tI_ok _) (tOne_ok (tI_ok _))))) tB_ok (fun _ => rfl)
theorem shape.within.eq (p0_0 : Int) (p0_1 : Int) : shape.within.f (p0_0, p0_1) =
  (fix.Abs.f p0_0).bind fun r1 =>
  bif (decide (r1 ≤ 274877906944)) then
    (fix.Abs.f p0_1).bind fun r2 =>
    some (decide (r2 ≤ 274877906944))
  else
  some false := by kernel_rfl
/-! ### bagatelle/fix.Add -/
noncomputable def fix.Add.cs : List (Nat × Fw.Summ) := [(38, fix.whole.s)]
theorem fix.Add.cs_ok : SumsOk Try.prog fix.Add.cs := .cons fix.whole.ok (.nil)
def fix.Add.hs : List (Nat × LHint) := []
noncomputable def fix.Add.G : Ctx := ⟨Try.prog, sumAt fix.Add.cs, lookH fix.Add.hs⟩
noncomputable def fix.Add.f (x : (Int × Int)) : Option Int := evF fix.Add.G 0 Try.f31 ((tCons (tI .i64) (tOne (tI .i64))).enc x) (tI .i64).dec
noncomputable def fix.Add.s : Fw.Summ := .mk' (tCons (tI .i64) (tOne (tI .i64))) (tI .i64) fix.Add.f
theorem fix.Add.ok : fix.Add.s.Ok Try.prog 31 :=
  summ_ok (hint := lookH fix.Add.hs) (fn := Try.f31) (fun x => 0) fix.Add.cs_ok (by kernel_rfl) (by kernel_rfl) (by kernel_rfl) (by kernel_rfl) (tCons_ok (tI_ok _) (tOne_ok (tI_ok _))) (tI_ok _) (fun _ => rfl)
theorem fix.Add.eq (p0 : Int) (p1 : Int) : fix.Add.f (p0, p1) =
  (fix.whole.f p0).bind fun r1 =>
  (fix.whole.f p1).bind fun r2 =>
  bif (decide (r1 > 0)) then
    bif (decide (r2 > 0)) then
      bif (decide ((IntKind.i64.wrap (r1 + r2)) < 0)) then
        some 9223372036854775807
      else
      bif (decide (r1 < 0)) then
        bif (decide (r2 < 0)) then
          bif (decide ((IntKind.i64.wrap (r1 + r2)) ≥ 0)) then
            some (-9223372036854775807)
          else
          (fix.whole.f (IntKind.i64.wrap (r1 + r2))).bind fun r3 =>
          some r3
        else
        (fix.whole.f (IntKind.i64.wrap (r1 + r2))).bind fun r4 =>
        some r4
      else
      (fix.whole.f (IntKind.i64.wrap (r1 + r2))).bind fun r5 =>
      some r5
    else
    bif (decide (r1 < 0)) then
      bif (decide (r2 < 0)) then
        bif (decide ((IntKind.i64.wrap (r1 + r2)) ≥ 0)) then
          some (-9223372036854775807)
        else
        (fix.whole.f (IntKind.i64.wrap (r1 + r2))).bind fun r6 =>
        some r6
      else
      (fix.whole.f (IntKind.i64.wrap (r1 + r2))).bind fun r7 =>
      some r7
    else
    (fix.whole.f (IntKind.i64.wrap (r1 + r2))).bind fun r8 =>
    some r8
  else
  bif (decide (r1 < 0)) then
    bif (decide (r2 < 0)) then
      bif (decide ((IntKind.i64.wrap (r1 + r2)) ≥ 0)) then
        some (-9223372036854775807)
      else
      (fix.whole.f (IntKind.i64.wrap (r1 + r2))).bind fun r9 =>
      some r9
    else
    (fix.whole.f (IntKind.i64.wrap (r1 + r2))).bind fun r10 =>
    some r10
  else
  (fix.whole.f (IntKind.i64.wrap (r1 + r2))).bind fun r11 =>
  some r11 := by kernel_rfl
/-! ### bagatelle/fix.Sub -/
noncomputable def fix.Sub.cs : List (Nat × Fw.Summ) := [(28, fix.Neg.s), (31, fix.Add.s)]
theorem fix.Sub.cs_ok : SumsOk Try.prog fix.Sub.cs := .cons fix.Neg.ok (.cons fix.Add.ok (.nil))
def fix.Sub.hs : List (Nat × LHint) := []
noncomputable def fix.Sub.G : Ctx := ⟨Try.prog, sumAt fix.Sub.cs, lookH fix.Sub.hs⟩
noncomputable def fix.Sub.f (x : (Int × Int)) : Option Int := evF fix.Sub.G 0 Try.f29 ((tCons (tI .i64) (tOne (tI .i64))).enc x) (tI .i64).dec
noncomputable def fix.Sub.s : Fw.Summ := .mk' (tCons (tI .i64) (tOne (tI .i64))) (tI .i64) fix.Sub.f
theorem fix.Sub.ok : fix.Sub.s.Ok Try.prog 29 :=
  summ_ok (hint := lookH fix.Sub.hs) (fn := Try.f29) (fun x => 0) fix.Sub.cs_ok (by kernel_rfl) (by kernel_rfl) (by kernel_rfl) (by kernel_rfl) (tCons_ok (tI_ok _) (tOne_ok (tI_ok _))) (tI_ok _) (fun _ => rfl)
theorem fix.Sub.eq (p0 : Int) (p1 : Int) : fix.Sub.f (p0, p1) =
  (fix.Neg.f p1).bind fun r1 =>
  (fix.Add.f (p0, r1)).bind fun r2 =>
  some r2 := by kernel_rfl
/-! ### bagatelle/vec.Sub -/
noncomputable def vec.Sub.cs : List (Nat × Fw.Summ) := [(29, fix.Sub.s)]
theorem vec.Sub.cs_ok : SumsOk Try.prog vec.Sub.cs := .cons fix.Sub.ok (.nil)
def vec.Sub.hs : List (Nat × LHint) := []
noncomputable def vec.Sub.G : Ctx := ⟨Try.prog, sumAt vec.Sub.cs, lookH vec.Sub.hs⟩
noncomputable def vec.Sub.f (x : ((Int × Int) × (Int × Int))) : Option (Int × Int) := evF vec.Sub.G 0 Try.f13 ((tCons (tG (tCons (tI .i64) (tOne (tI .i64)))) (tOne (tG (tCons (tI .i64) (tOne (tI .i64)))))).enc x) (tG (tCons (tI .i64) (tOne (tI .i64)))).dec
noncomputable def vec.Sub.s : Fw.Summ := .mk' (tCons (tG (tCons (tI .i64) (tOne (tI .i64)))) (tOne (tG (tCons (tI .i64) (tOne (tI .i64)))))) (tG (tCons (tI .i64) (tOne (tI .i64)))) vec.Sub.f
theorem vec.Sub.ok : vec.Sub.s.Ok Try.prog 13 :=
  summ_ok (hint := lookH vec.Sub.hs) (fn := Try.f13) (fun x => 0) vec.Sub.cs_ok (by kernel_rfl) (by kernel_rfl) (by kernel_rfl) (by kernel_rfl) (tCons_ok (tG_ok (tCons_ok (tI_ok _) (tOne_ok (tI_ok _)))) (tOne_ok (tG_ok (tCons_ok (tI_ok _) (tOne_ok (tI_ok _)))))) (tG_ok (tCons_ok (tI_ok _) (tOne_ok (tI_ok _)))) (fun _ => rfl)
theorem vec.Sub.eq (p0_0 : Int) (p0_1 : Int) (p1_0 : Int) (p1_1 : Int) : vec.Sub.f ((p0_0, p0_1), (p1_0, p1_1)) =
  (fix.Sub.f (p0_0, p1_0)).bind fun r1 =>
  (fix.Sub.f (p0_1, p1_1)).bind fun r2 =>
  some (r1, r2) := by kernel_rfl
/-! ### math/bits.Mul64 -/
noncomputable def bits.Mul64.cs : List (Nat × Fw.Summ) := []
theorem bits.Mul64.cs_ok : SumsOk Try.prog bits.Mul64.cs := .nil
def bits.Mul64.hs : List (Nat × LHint) := []
noncomputable def bits.Mul64.G : Ctx := ⟨Try.prog, sumAt bits.Mul64.cs, lookH bits.Mul64.hs⟩
noncomputable def bits.Mul64.f (x : (Int × Int)) : Option (Int × Int) := evF bits.Mul64.G 0 Try.f32 ((tCons (tI .u64) (tOne (tI .u64))).enc x) (tT (tCons (tI .u64) (tOne (tI .u64)))).dec
noncomputable def bits.Mul64.s : Fw.Summ := .mk' (tCons (tI .u64) (tOne (tI .u64))) (tT (tCons (tI .u64) (tOne (tI .u64)))) bits.Mul64.f
theorem bits.Mul64.ok : bits.Mul64.s.Ok Try.prog 32 :=
  summ_ok (hint := lookH bits.Mul64.hs) (fn := Try.f32) (fun x => 0) bits.Mul64.cs_ok (by kernel_rfl) (by kernel_rfl) (by kernel_rfl) (by kernel_rfl) (tCons_ok (tI_ok _) (tOne_ok (tI_ok _))) (tT_ok (tCons_ok (tI_ok _) (tOne_ok (tI_ok _)))) (fun _ => rfl)
theorem bits.Mul64.eq (p0 : Int) (p1 : Int) : bits.Mul64.f (p0, p1) =
  some ((IntKind.u64.wrap ((IntKind.u64.wrap ((IntKind.u64.wrap ((Int.fdiv p0 (2 ^ 32)) * (Int.fdiv p1 (2 ^ 32)))) + (Int.fdiv (IntKind.u64.wrap ((IntKind.u64.wrap ((Int.fdiv p0 (2 ^ 32)) * (Go.bits .and .u64 p1 4294967295))) + (Int.fdiv (IntKind.u64.wrap ((Go.bits .and .u64 p0 4294967295) * (Go.bits .and .u64 p1 4294967295))) (2 ^ 32)))) (2 ^ 32)))) + (Int.fdiv (IntKind.u64.wrap ((Go.bits .and .u64 (IntKind.u64.wrap ((IntKind.u64.wrap ((Int.fdiv p0 (2 ^ 32)) * (Go.bits .and .u64 p1 4294967295))) + (Int.fdiv (IntKind.u64.wrap ((Go.bits .and .u64 p0 4294967295) * (Go.bits .and .u64 p1 4294967295))) (2 ^ 32)))) 4294967295) + (IntKind.u64.wrap ((Go.bits .and .u64 p0 4294967295) * (Int.fdiv p1 (2 ^ 32)))))) (2 ^ 32)))), (IntKind.u64.wrap (p0 * p1))) := by kernel_rfl
/-! ### bagatelle/fix.signed -/
noncomputable def fix.signed.cs : List (Nat × Fw.Summ) := []
theorem fix.signed.cs_ok : SumsOk Try.prog fix.signed.cs := .nil
def fix.signed.hs : List (Nat × LHint) := []
noncomputable def fix.signed.G : Ctx := ⟨Try.prog, sumAt fix.signed.cs, lookH fix.signed.hs⟩
noncomputable def fix.signed.f (x : (Int × Int × Bool)) : Option Int := evF fix.signed.G 0 Try.f34 ((tCons (tI .u64) (tCons (tI .u64) (tOne tB))).enc x) (tI .i64).dec
noncomputable def fix.signed.s : Fw.Summ := .mk' (tCons (tI .u64) (tCons (tI .u64) (tOne tB))) (tI .i64) fix.signed.f
theorem fix.signed.ok : fix.signed.s.Ok Try.prog 34 :=
  summ_ok (hint := lookH fix.signed.hs) (fn := Try.f34) (fun x => 0) fix.signed.cs_ok (by kernel_rfl) (by kernel_rfl) (by kernel_rfl) (by kernel_rfl) (tCons_ok (tI_ok _) (tCons_ok (tI_ok _) (tOne_ok tB_ok))) (tI_ok _) (fun _ => rfl)
theorem fix.signed.eq (p0 : Int) (p1 : Int) (p2 : Bool) : fix.signed.f (p0, p1, p2) =
  bif (p0 == 0) then
    bif (decide (p1 < 9223372036854775808)) then
      bif p2 then
        some (IntKind.i64.wrap (0 - (IntKind.i64.wrap p1)))
      else
      some (IntKind.i64.wrap p1)
    else
    bif p2 then
      some (-9223372036854775807)
    else
    some 9223372036854775807
  else
  bif p2 then
    some (-9223372036854775807)
  else
  some 9223372036854775807 := by kernel_rfl
/-! ### bagatelle/fix.Mul -/
noncomputable def fix.Mul.cs : List (Nat × Fw.Summ) := [(33, fix.Abs.s), (32, bits.Mul64.s), (34, fix.signed.s)]
theorem fix.Mul.cs_ok : SumsOk Try.prog fix.Mul.cs := .cons fix.Abs.ok (.cons bits.Mul64.ok (.cons fix.signed.ok (.nil)))
def fix.Mul.hs : List (Nat × LHint) := []
noncomputable def fix.Mul.G : Ctx := ⟨Try.prog, sumAt fix.Mul.cs, lookH fix.Mul.hs⟩
noncomputable def fix.Mul.f (x : (Int × Int)) : Option Int := evF fix.Mul.G 0 Try.f16 ((tCons (tI .i64) (tOne (tI .i64))).enc x) (tI .i64).dec
noncomputable def fix.Mul.s : Fw.Summ := .mk' (tCons (tI .i64) (tOne (tI .i64))) (tI .i64) fix.Mul.f
theorem fix.Mul.ok : fix.Mul.s.Ok Try.prog 16 :=
  summ_ok (hint := lookH fix.Mul.hs) (fn := Try.f16) (fun x => 0) fix.Mul.cs_ok (by kernel_rfl) (by kernel_rfl) (by kernel_rfl) (by kernel_rfl) (tCons_ok (tI_ok _) (tOne_ok (tI_ok _))) (tI_ok _) (fun _ => rfl)
theorem fix.Mul.eq (p0 : Int) (p1 : Int) : fix.Mul.f (p0, p1) =
  (fix.Abs.f p0).bind fun r1 =>
  (fix.Abs.f p1).bind fun r2 =>
  (bits.Mul64.f ((IntKind.u64.wrap r1), (IntKind.u64.wrap r2))).bind fun r3 =>
  (fix.signed.f ((Int.fdiv r3.1 (2 ^ 32)), (Go.bits .or .u64 (IntKind.u64.wrap (r3.1 * 2 ^ 32)) (Int.fdiv r3.2 (2 ^ 32))), (!((decide (p0 < 0)) == (decide (p1 < 0)))))).bind fun r4 =>
  some r4 := by kernel_rfl
/-! ### bagatelle/vec.Cross -/
noncomputable def vec.Cross.cs : List (Nat × Fw.Summ) := [(16, fix.Mul.s), (29, fix.Sub.s)]
theorem vec.Cross.cs_ok : SumsOk Try.prog vec.Cross.cs := .cons fix.Mul.ok (.cons fix.Sub.ok (.nil))
def vec.Cross.hs : List (Nat × LHint) := []
noncomputable def vec.Cross.G : Ctx := ⟨Try.prog, sumAt vec.Cross.cs, lookH vec.Cross.hs⟩
noncomputable def vec.Cross.f (x : ((Int × Int) × (Int × Int))) : Option Int := evF vec.Cross.G 0 Try.f26 ((tCons (tG (tCons (tI .i64) (tOne (tI .i64)))) (tOne (tG (tCons (tI .i64) (tOne (tI .i64)))))).enc x) (tI .i64).dec
noncomputable def vec.Cross.s : Fw.Summ := .mk' (tCons (tG (tCons (tI .i64) (tOne (tI .i64)))) (tOne (tG (tCons (tI .i64) (tOne (tI .i64)))))) (tI .i64) vec.Cross.f
theorem vec.Cross.ok : vec.Cross.s.Ok Try.prog 26 :=
  summ_ok (hint := lookH vec.Cross.hs) (fn := Try.f26) (fun x => 0) vec.Cross.cs_ok (by kernel_rfl) (by kernel_rfl) (by kernel_rfl) (by kernel_rfl) (tCons_ok (tG_ok (tCons_ok (tI_ok _) (tOne_ok (tI_ok _)))) (tOne_ok (tG_ok (tCons_ok (tI_ok _) (tOne_ok (tI_ok _)))))) (tI_ok _) (fun _ => rfl)
theorem vec.Cross.eq (p0_0 : Int) (p0_1 : Int) (p1_0 : Int) (p1_1 : Int) : vec.Cross.f ((p0_0, p0_1), (p1_0, p1_1)) =
  (fix.Mul.f (p0_0, p1_1)).bind fun r1 =>
  (fix.Mul.f (p0_1, p1_0)).bind fun r2 =>
  (fix.Sub.f (r1, r2)).bind fun r3 =>
  some r3 := by kernel_rfl
/-! ### bagatelle/shape.Right -/
noncomputable def shape.Right.cs : List (Nat × Fw.Summ) := [(25, shape.within.s), (13, vec.Sub.s), (26, vec.Cross.s)]
theorem shape.Right.cs_ok : SumsOk Try.prog shape.Right.cs := .cons shape.within.ok (.cons vec.Sub.ok (.cons vec.Cross.ok (.nil)))
def shape.Right.hs : List (Nat × LHint) := [(1, { mat := [], live := [1, 3, 48, 49, 50], ren := [] }), (3, { mat := [], live := [1, 3, 59, 60, 61], ren := [] }), (5, { mat := [], live := [1, 3, 6, 7, 8, 59, 60, 61, 71, 72, 73], ren := [] })]
noncomputable def shape.Right.G : Ctx := ⟨Try.prog, sumAt shape.Right.cs, lookH shape.Right.hs⟩
noncomputable def shape.Right.g (k0 : Nat) (x : (Int × Int × (Nat × (Nat → List AV)))) : Option Bool := evF shape.Right.G k0 Try.f9 ((tOne (tG (tCons (tI .i64) (tCons (tI .i64) (tOne (tL 2)))))).enc x) tB.dec
noncomputable def shape.Right.f (x : (Int × Int × (Nat × (Nat → List AV)))) : Option Bool := shape.Right.g (1000000) x
noncomputable def shape.Right.s : Fw.Summ := .mk' (tOne (tG (tCons (tI .i64) (tCons (tI .i64) (tOne (tL 2)))))) tB shape.Right.f
theorem shape.Right.ok : shape.Right.s.Ok Try.prog 9 :=
  summ_ok (hint := lookH shape.Right.hs) (fn := Try.f9) (fun x => 1000000) shape.Right.cs_ok (by kernel_rfl) (by kernel_rfl) (by kernel_rfl) (by kernel_rfl) (tOne_ok (tG_ok (tCons_ok (tI_ok _) (tCons_ok (tI_ok _) (tOne_ok (tL_ok _)))))) tB_ok (fun _ => rfl)
noncomputable def shape.Right.l2 (k0 k1 k2 : Nat) (v1 : Int) (v2 : Int) (v3 : Nat) (v4 : Nat → List AV) (v5 : Int) (v6 : Int) (v7 : Int) (v8 : Int) (v9 : Int) (v10 : Nat) (v11 : Nat → List AV) (v12 : Int) (v13 : Int) (v14 : Int) : Option Bool :=
  evLoop (lookH shape.Right.hs 5) 2 (ev shape.Right.G k0 (codeAt [1, 0, 1, 1, 1, 1, 0, 1, 0, 0, 1, 1, 0, 0, 1, 1, 1, 0, 0] (bodyOf Try.f9)) 5) k2
  ⟨[.top, .ptr 0 0 0, .top, .val (.int .i64 v7), .top, .top, .val (.int .i64 v8), .ptr 1 0 0, .val (.int .i64 v9), .top, .top, .top, .top, .top, .top, .top, .top, .top, .top, .top, .top, .top, .top, .top, .top, .top, .top, .top, .top, .top, .top, .top, .top, .top, .top, .top, .top, .top, .top, .top, .top, .top, .top, .top, .top, .top, .top, .top, .top, .top, .top, .top, .top, .top, .top, .top, .top, .top, .top, .lst 2 v10 none v11, .val (.int .i64 v12), .val (.int .i64 v8), .top, .top, .top, .top, .top, .top, .top, .top, .top, .lst 2 v3 none v4, .val (.int .i64 v13), .val (.int .i64 v14), .top, .top, .top, .top, .top, .top, .top, .top, .top, .top, .top, .top, .top, .top, .top, .top, .top, .top, .top, .top, .top, .top, .top, .top, .top, .top, .top, .top], [.live ⟨false, 25, 3, 1, fun _ => [.val (.int .i64 v1), .val (.int .i64 v2), .lst 2 v3 none v4], none⟩, .live ⟨false, 34, 2, 1, fun _ => [.val (.int .i64 v5), .val (.int .i64 v6)], none⟩]⟩
  (kBlock 5 (kBlock 4 (kSeq shape.Right.G k0 (codeAt [1, 0, 1, 1, 1, 1, 0, 1, 0, 0, 1, 1, 1] (bodyOf Try.f9)) 3 (kLoop (lookH shape.Right.hs 3) 1 (ev shape.Right.G k0 (codeAt [1, 0, 1, 1, 1, 1, 0, 1, 0, 0] (bodyOf Try.f9)) 3) k1 (kBlock 3 (kSeq shape.Right.G k0 (codeAt [1, 0, 1, 1, 1, 1, 1] (bodyOf Try.f9)) 0 (kFin shape.Right.G Try.f9 tB.dec)))))))
noncomputable def shape.Right.l1 (k0 k1 : Nat) (v1 : Int) (v2 : Int) (v3 : Nat) (v4 : Nat → List AV) (v5 : Int) (v6 : Nat) (v7 : Nat → List AV) (v8 : Int) (v9 : Int) : Option Bool :=
  evLoop (lookH shape.Right.hs 3) 1 (ev shape.Right.G k0 (codeAt [1, 0, 1, 1, 1, 1, 0, 1, 0, 0] (bodyOf Try.f9)) 3) k1
  ⟨[.top, .ptr 0 0 0, .top, .val (.int .i64 v5), .top, .top, .top, .top, .top, .top, .top, .top, .top, .top, .top, .top, .top, .top, .top, .top, .top, .top, .top, .top, .top, .top, .top, .top, .top, .top, .top, .top, .top, .top, .top, .top, .top, .top, .top, .top, .top, .top, .top, .top, .top, .top, .top, .top, .top, .top, .top, .top, .top, .top, .top, .top, .top, .top, .top, .lst 2 v6 none v7, .val (.int .i64 v8), .val (.int .i64 v9), .top, .top, .top, .top, .top, .top, .top, .top, .top, .top, .top, .top, .top, .top, .top, .top, .top, .top, .top, .top, .top, .top, .top, .top, .top, .top, .top, .top, .top, .top, .top, .top, .top, .top, .top, .top, .top, .top, .top, .top], [.live ⟨false, 25, 3, 1, fun _ => [.val (.int .i64 v1), .val (.int .i64 v2), .lst 2 v3 none v4], none⟩]⟩
  (kBlock 3 (kSeq shape.Right.G k0 (codeAt [1, 0, 1, 1, 1, 1, 1] (bodyOf Try.f9)) 0 (kFin shape.Right.G Try.f9 tB.dec)))
noncomputable def shape.Right.l0 (k0 k1 : Nat) (v1 : Int) (v2 : Int) (v3 : Nat) (v4 : Nat → List AV) (v5 : Int) (v6 : Int) : Option Bool :=
  evLoop (lookH shape.Right.hs 1) 1 (ev shape.Right.G k0 (codeAt [1, 0, 1, 1, 0, 1, 0, 0] (bodyOf Try.f9)) 1) k1
  ⟨[.top, .ptr 0 0 0, .top, .val (.int .i64 v5), .top, .top, .top, .top, .top, .top, .top, .top, .top, .top, .top, .top, .top, .top, .top, .top, .top, .top, .top, .top, .top, .top, .top, .top, .top, .top, .top, .top, .top, .top, .top, .top, .top, .top, .top, .top, .top, .top, .top, .top, .top, .top, .top, .top, .lst 2 v3 none v4, .val (.int .i64 v5), .val (.int .i64 v6), .top, .top, .top, .top, .top, .top, .top, .top, .top, .top, .top, .top, .top, .top, .top, .top, .top, .top, .top, .top, .top, .top, .top, .top, .top, .top, .top, .top, .top, .top, .top, .top, .top, .top, .top, .top, .top, .top, .top, .top, .top, .top, .top, .top, .top, .top, .top, .top, .top, .top, .top], [.live ⟨false, 25, 3, 1, fun _ => [.val (.int .i64 v1), .val (.int .i64 v2), .lst 2 v3 none v4], none⟩]⟩
  (kBlock 1 (kSeq shape.Right.G k0 (codeAt [1, 0, 1, 1, 1] (bodyOf Try.f9)) 0 (kFin shape.Right.G Try.f9 tB.dec)))
theorem shape.Right.l2_eq (k0 k1 k2 : Nat) (v1 : Int) (v2 : Int) (v3 : Nat) (v4 : Nat → (Int × Int)) (v5 : Int) (v6 : Int) (v7 : Int) (v8 : Int) (v9 : Int) (v10 : Nat) (v11 : Nat → (Int × Int)) (v12 : Int) (v13 : Int) (v14 : Int) : shape.Right.l2 k0 k1 (k2 + 1) v1 v2 v3 (fun i => Rii.enc (v4 i)) v5 v6 v7 v8 v9 v10 (fun i => Rii.enc (v11 i)) v12 v13 v14 =
  bif (decide (v14 < v13)) then
    bif ((decide (0 ≤ v14)) && (decide (v14 < ((v3 : Nat) : Int)))) then
    bif (v14 == v8) then
      shape.Right.l2 k0 k1 k2 v1 v2 v3 (fun i => Rii.enc (v4 i)) v5 v6 v7 v8 v9 v10 (fun i => Rii.enc (v11 i)) v12 v13 (IntKind.i64.wrap (v14 + 1))
    else
    bif (v14 == v9) then
      shape.Right.l2 k0 k1 k2 v1 v2 v3 (fun i => Rii.enc (v4 i)) v5 v6 v7 v8 v9 v10 (fun i => Rii.enc (v11 i)) v12 v13 (IntKind.i64.wrap (v14 + 1))
    else
    bif ((decide (0 ≤ v9)) && (decide (v9 < ((v3 : Nat) : Int)))) then
    (vec.Sub.f (((v4 (Int.toNat v9)).1, (v4 (Int.toNat v9)).2), (v5, v6))).bind fun r2 =>
    (vec.Sub.f (((v4 (Int.toNat v14)).1, (v4 (Int.toNat v14)).2), (v5, v6))).bind fun r3 =>
    (vec.Cross.f ((r2.1, r2.2), (r3.1, r3.2))).bind fun r4 =>
    bif (decide (r4 ≤ 0)) then
      some false
    else
    bif (v7 == 3) then
      shape.Right.l1 k0 k1 v1 v2 v3 (fun i => Rii.enc (v4 i)) v7 v10 (fun i => Rii.enc (v11 i)) v12 (IntKind.i64.wrap (v8 + 1))
    else
    shape.Right.l2 k0 k1 k2 v1 v2 v3 (fun i => Rii.enc (v4 i)) v5 v6 v7 v8 v9 v10 (fun i => Rii.enc (v11 i)) v12 v13 (IntKind.i64.wrap (v14 + 1))
    else none
    else none
  else
  shape.Right.l1 k0 k1 v1 v2 v3 (fun i => Rii.enc (v4 i)) v7 v10 (fun i => Rii.enc (v11 i)) v12 (IntKind.i64.wrap (v8 + 1)) := by kernel_rfl
theorem shape.Right.l1_eq (k0 k1 : Nat) (v1 : Int) (v2 : Int) (v3 : Nat) (v4 : Nat → (Int × Int)) (v5 : Int) (v6 : Nat) (v7 : Nat → (Int × Int)) (v8 : Int) (v9 : Int) : shape.Right.l1 k0 (k1 + 1) v1 v2 v3 (fun i => Rii.enc (v4 i)) v5 v6 (fun i => Rii.enc (v7 i)) v8 v9 =
  bif (decide (v9 < v8)) then
    bif ((decide (0 ≤ v9)) && (decide (v9 < ((v6 : Nat) : Int)))) then
    bif (decide (v5 ≠ 0)) then
    shape.Right.l2 k0 k1 k0 v1 v2 v3 (fun i => Rii.enc (v4 i)) (v7 (Int.toNat v9)).1 (v7 (Int.toNat v9)).2 v5 v9 (Int.tmod (IntKind.i64.wrap (v9 + 1)) v5) v6 (fun i => Rii.enc (v7 i)) v8 ((v3 : Nat) : Int) 0
    else none
    else none
  else
  some true := by kernel_rfl
theorem shape.Right.l0_eq (k0 k1 : Nat) (v1 : Int) (v2 : Int) (v3 : Nat) (v4 : Nat → (Int × Int)) (v5 : Int) (v6 : Int) : shape.Right.l0 k0 (k1 + 1) v1 v2 v3 (fun i => Rii.enc (v4 i)) v5 v6 =
  bif (decide (v6 < v5)) then
    bif ((decide (0 ≤ v6)) && (decide (v6 < ((v3 : Nat) : Int)))) then
    (shape.within.f ((v4 (Int.toNat v6)).1, (v4 (Int.toNat v6)).2)).bind fun r1 =>
    bif (!r1) then
      some false
    else
    shape.Right.l0 k0 k1 v1 v2 v3 (fun i => Rii.enc (v4 i)) v5 (IntKind.i64.wrap (v6 + 1))
    else none
  else
  shape.Right.l1 k0 k0 v1 v2 v3 (fun i => Rii.enc (v4 i)) v5 v3 (fun i => Rii.enc (v4 i)) ((v3 : Nat) : Int) 0 := by kernel_rfl
theorem shape.Right.eq (k0 : Nat) (p0_0 : Int) (p0_1 : Int) (p0_2_n : Nat) (p0_2_g : Nat → (Int × Int)) : shape.Right.g k0 (p0_0, p0_1, (p0_2_n, (fun i => Rii.enc (p0_2_g i)))) =
  bif (p0_0 == 1) then
    bif (((p0_2_n : Nat) : Int) == 0) then
      bif (decide (p0_1 ≥ 16777216)) then
        some (decide (p0_1 ≤ 274877906944))
      else
      some false
    else
    some false
  else
  bif (p0_0 != 2) then
    some false
  else
  bif (p0_1 != 0) then
    some false
  else
  bif (decide (((p0_2_n : Nat) : Int) < 3)) then
    some false
  else
  bif (decide (((p0_2_n : Nat) : Int) > 8)) then
    some false
  else
  shape.Right.l0 k0 k0 p0_0 p0_1 p0_2_n (fun i => Rii.enc (p0_2_g i)) ((p0_2_n : Nat) : Int) 0 := by kernel_rfl
/-! ### bagatelle/vec.Dot -/
noncomputable def vec.Dot.cs : List (Nat × Fw.Summ) := [(16, fix.Mul.s), (31, fix.Add.s)]
theorem vec.Dot.cs_ok : SumsOk Try.prog vec.Dot.cs := .cons fix.Mul.ok (.cons fix.Add.ok (.nil))
def vec.Dot.hs : List (Nat × LHint) := []
noncomputable def vec.Dot.G : Ctx := ⟨Try.prog, sumAt vec.Dot.cs, lookH vec.Dot.hs⟩
noncomputable def vec.Dot.f (x : ((Int × Int) × (Int × Int))) : Option Int := evF vec.Dot.G 0 Try.f15 ((tCons (tG (tCons (tI .i64) (tOne (tI .i64)))) (tOne (tG (tCons (tI .i64) (tOne (tI .i64)))))).enc x) (tI .i64).dec
noncomputable def vec.Dot.s : Fw.Summ := .mk' (tCons (tG (tCons (tI .i64) (tOne (tI .i64)))) (tOne (tG (tCons (tI .i64) (tOne (tI .i64)))))) (tI .i64) vec.Dot.f
theorem vec.Dot.ok : vec.Dot.s.Ok Try.prog 15 :=
  summ_ok (hint := lookH vec.Dot.hs) (fn := Try.f15) (fun x => 0) vec.Dot.cs_ok (by kernel_rfl) (by kernel_rfl) (by kernel_rfl) (by kernel_rfl) (tCons_ok (tG_ok (tCons_ok (tI_ok _) (tOne_ok (tI_ok _)))) (tOne_ok (tG_ok (tCons_ok (tI_ok _) (tOne_ok (tI_ok _)))))) (tI_ok _) (fun _ => rfl)
theorem vec.Dot.eq (p0_0 : Int) (p0_1 : Int) (p1_0 : Int) (p1_1 : Int) : vec.Dot.f ((p0_0, p0_1), (p1_0, p1_1)) =
  (fix.Mul.f (p0_0, p1_0)).bind fun r1 =>
  (fix.Mul.f (p0_1, p1_1)).bind fun r2 =>
  (fix.Add.f (r1, r2)).bind fun r3 =>
  some r3 := by kernel_rfl
/-! ### bagatelle/fix.Sqrt -/
noncomputable def fix.Sqrt.cs : List (Nat × Fw.Summ) := [(32, bits.Mul64.s)]
theorem fix.Sqrt.cs_ok : SumsOk Try.prog fix.Sqrt.cs := .cons bits.Mul64.ok (.nil)
def fix.Sqrt.hs : List (Nat × LHint) := [(0, { mat := [], live := [3, 4, 5, 6], ren := [] })]
noncomputable def fix.Sqrt.G : Ctx := ⟨Try.prog, sumAt fix.Sqrt.cs, lookH fix.Sqrt.hs⟩
noncomputable def fix.Sqrt.g (k0 : Nat) (x : Int) : Option Int := evF fix.Sqrt.G k0 Try.f37 ((tOne (tI .i64)).enc x) (tI .i64).dec
noncomputable def fix.Sqrt.f (x : Int) : Option Int := fix.Sqrt.g (1000000) x
noncomputable def fix.Sqrt.s : Fw.Summ := .mk' (tOne (tI .i64)) (tI .i64) fix.Sqrt.f
theorem fix.Sqrt.ok : fix.Sqrt.s.Ok Try.prog 37 :=
  summ_ok (hint := lookH fix.Sqrt.hs) (fn := Try.f37) (fun x => 1000000) fix.Sqrt.cs_ok (by kernel_rfl) (by kernel_rfl) (by kernel_rfl) (by kernel_rfl) (tOne_ok (tI_ok _)) (tI_ok _) (fun _ => rfl)
noncomputable def fix.Sqrt.l0 (k0 k1 : Nat) (v1 : Int) (v2 : Int) (v3 : Int) (v4 : Int) : Option Int :=
  evLoop (lookH fix.Sqrt.hs 0) 0 (ev fix.Sqrt.G k0 (codeAt [1, 1, 1, 1, 0, 1, 0, 0] (bodyOf Try.f37)) 0) k1
  ⟨[.top, .top, .top, .val (.int .u64 v1), .val (.int .u64 v2), .val (.int .u64 v3), .val (.int .i64 v4), .top, .top, .top, .top, .top, .top, .top, .top, .top, .top, .top, .top, .top, .top, .top, .top, .top, .top, .top, .top, .top, .top, .top, .top, .top, .top, .top, .top, .top, .top, .top, .top, .top, .top, .top, .top, .top, .top, .top, .top, .top], []⟩
  (kBlock 0 (kSeq fix.Sqrt.G k0 (codeAt [1, 1, 1, 1, 1] (bodyOf Try.f37)) 0 (kFin fix.Sqrt.G Try.f37 (tI .i64).dec)))
theorem fix.Sqrt.l0_eq (k0 k1 : Nat) (v1 : Int) (v2 : Int) (v3 : Int) (v4 : Int) : fix.Sqrt.l0 k0 (k1 + 1) v1 v2 v3 v4 =
  bif (decide (v4 ≥ 0)) then
    bif (decide (0 ≤ v4)) then
    (bits.Mul64.f ((Go.bits .or .u64 v3 (IntKind.u64.wrap (1 * 2 ^ (min (Int.toNat v4) 64)))), (Go.bits .or .u64 v3 (IntKind.u64.wrap (1 * 2 ^ (min (Int.toNat v4) 64)))))).bind fun r1 =>
    bif (decide (r1.1 < v1)) then
      fix.Sqrt.l0 k0 k1 v1 v2 (Go.bits .or .u64 v3 (IntKind.u64.wrap (1 * 2 ^ (min (Int.toNat v4) 64)))) (IntKind.i64.wrap (v4 - 1))
    else
    bif (r1.1 == v1) then
      bif (decide (r1.2 ≤ v2)) then
        fix.Sqrt.l0 k0 k1 v1 v2 (Go.bits .or .u64 v3 (IntKind.u64.wrap (1 * 2 ^ (min (Int.toNat v4) 64)))) (IntKind.i64.wrap (v4 - 1))
      else
      fix.Sqrt.l0 k0 k1 v1 v2 v3 (IntKind.i64.wrap (v4 - 1))
    else
    fix.Sqrt.l0 k0 k1 v1 v2 v3 (IntKind.i64.wrap (v4 - 1))
    else none
  else
  some (IntKind.i64.wrap v3) := by kernel_rfl
theorem fix.Sqrt.eq (k0 : Nat) (p0 : Int) : fix.Sqrt.g k0 p0 =
  bif (decide (p0 ≤ 0)) then
    some 0
  else
  fix.Sqrt.l0 k0 k0 (Int.fdiv (IntKind.u64.wrap p0) (2 ^ 32)) (IntKind.u64.wrap ((IntKind.u64.wrap p0) * 2 ^ 32)) 0 47 := by kernel_rfl
/-! ### bagatelle/vec.Len -/
noncomputable def vec.Len.cs : List (Nat × Fw.Summ) := [(15, vec.Dot.s), (37, fix.Sqrt.s)]
theorem vec.Len.cs_ok : SumsOk Try.prog vec.Len.cs := .cons vec.Dot.ok (.cons fix.Sqrt.ok (.nil))
def vec.Len.hs : List (Nat × LHint) := []
noncomputable def vec.Len.G : Ctx := ⟨Try.prog, sumAt vec.Len.cs, lookH vec.Len.hs⟩
noncomputable def vec.Len.f (x : (Int × Int)) : Option Int := evF vec.Len.G 0 Try.f24 ((tOne (tG (tCons (tI .i64) (tOne (tI .i64))))).enc x) (tI .i64).dec
noncomputable def vec.Len.s : Fw.Summ := .mk' (tOne (tG (tCons (tI .i64) (tOne (tI .i64))))) (tI .i64) vec.Len.f
theorem vec.Len.ok : vec.Len.s.Ok Try.prog 24 :=
  summ_ok (hint := lookH vec.Len.hs) (fn := Try.f24) (fun x => 0) vec.Len.cs_ok (by kernel_rfl) (by kernel_rfl) (by kernel_rfl) (by kernel_rfl) (tOne_ok (tG_ok (tCons_ok (tI_ok _) (tOne_ok (tI_ok _))))) (tI_ok _) (fun _ => rfl)
theorem vec.Len.eq (p0_0 : Int) (p0_1 : Int) : vec.Len.f (p0_0, p0_1) =
  (vec.Dot.f ((p0_0, p0_1), (p0_0, p0_1))).bind fun r1 =>
  (fix.Sqrt.f r1).bind fun r2 =>
  some r2 := by kernel_rfl
/-! ### bagatelle/shape.Reach -/
noncomputable def shape.Reach.cs : List (Nat × Fw.Summ) := [(24, vec.Len.s)]
theorem shape.Reach.cs_ok : SumsOk Try.prog shape.Reach.cs := .cons vec.Len.ok (.nil)
def shape.Reach.hs : List (Nat × LHint) := [(0, { mat := [], live := [3, 12, 13, 14], ren := [] })]
noncomputable def shape.Reach.G : Ctx := ⟨Try.prog, sumAt shape.Reach.cs, lookH shape.Reach.hs⟩
noncomputable def shape.Reach.g (k0 : Nat) (x : (Int × Int × (Nat × (Nat → List AV)))) : Option Int := evF shape.Reach.G k0 Try.f19 ((tOne (tG (tCons (tI .i64) (tCons (tI .i64) (tOne (tL 2)))))).enc x) (tI .i64).dec
noncomputable def shape.Reach.f (x : (Int × Int × (Nat × (Nat → List AV)))) : Option Int := shape.Reach.g (1000000) x
noncomputable def shape.Reach.s : Fw.Summ := .mk' (tOne (tG (tCons (tI .i64) (tCons (tI .i64) (tOne (tL 2)))))) (tI .i64) shape.Reach.f
theorem shape.Reach.ok : shape.Reach.s.Ok Try.prog 19 :=
  summ_ok (hint := lookH shape.Reach.hs) (fn := Try.f19) (fun x => 1000000) shape.Reach.cs_ok (by kernel_rfl) (by kernel_rfl) (by kernel_rfl) (by kernel_rfl) (tOne_ok (tG_ok (tCons_ok (tI_ok _) (tCons_ok (tI_ok _) (tOne_ok (tL_ok _)))))) (tI_ok _) (fun _ => rfl)
noncomputable def shape.Reach.l0 (k0 k1 : Nat) (v1 : Int) (v2 : Int) (v3 : Nat) (v4 : Nat → List AV) (v5 : Int) (v6 : Int) (v7 : Int) : Option Int :=
  evLoop (lookH shape.Reach.hs 0) 1 (ev shape.Reach.G k0 (codeAt [1, 1, 1, 0, 1, 0, 0] (bodyOf Try.f19)) 0) k1
  ⟨[.top, .top, .top, .val (.int .i64 v5), .top, .top, .top, .top, .top, .top, .top, .top, .lst 2 v3 none v4, .val (.int .i64 v6), .val (.int .i64 v7), .top, .top, .top, .top, .top, .top, .top, .top, .top], [.live ⟨false, 25, 3, 1, fun _ => [.val (.int .i64 v1), .val (.int .i64 v2), .lst 2 v3 none v4], none⟩]⟩
  (kBlock 0 (kSeq shape.Reach.G k0 (codeAt [1, 1, 1, 1] (bodyOf Try.f19)) 0 (kFin shape.Reach.G Try.f19 (tI .i64).dec)))
theorem shape.Reach.l0_eq (k0 k1 : Nat) (v1 : Int) (v2 : Int) (v3 : Nat) (v4 : Nat → (Int × Int)) (v5 : Int) (v6 : Int) (v7 : Int) : shape.Reach.l0 k0 (k1 + 1) v1 v2 v3 (fun i => Rii.enc (v4 i)) v5 v6 v7 =
  bif (decide (v7 < v6)) then
    bif ((decide (0 ≤ v7)) && (decide (v7 < ((v3 : Nat) : Int)))) then
    (vec.Len.f ((v4 (Int.toNat v7)).1, (v4 (Int.toNat v7)).2)).bind fun r1 =>
    shape.Reach.l0 k0 k1 v1 v2 v3 (fun i => Rii.enc (v4 i)) (if r1 > v5 then r1 else v5) v6 (IntKind.i64.wrap (v7 + 1))
    else none
  else
  some v5 := by kernel_rfl
theorem shape.Reach.eq (k0 : Nat) (p0_0 : Int) (p0_1 : Int) (p0_2_n : Nat) (p0_2_g : Nat → (Int × Int)) : shape.Reach.g k0 (p0_0, p0_1, (p0_2_n, (fun i => Rii.enc (p0_2_g i)))) =
  bif (p0_0 == 1) then
    some p0_1
  else
  shape.Reach.l0 k0 k0 p0_0 p0_1 p0_2_n (fun i => Rii.enc (p0_2_g i)) 0 ((p0_2_n : Nat) : Int) 0 := by kernel_rfl
/-! ### math/bits.Len64 -/
noncomputable def bits.Len64.cs : List (Nat × Fw.Summ) := []
theorem bits.Len64.cs_ok : SumsOk Try.prog bits.Len64.cs := .nil
def bits.Len64.hs : List (Nat × LHint) := []
noncomputable def bits.Len64.G : Ctx := ⟨Try.prog, sumAt bits.Len64.cs, lookH bits.Len64.hs⟩
noncomputable def bits.Len64.f (x : Int) : Option Int := evF bits.Len64.G 0 Try.f43 ((tOne (tI .u64)).enc x) (tI .i64).dec
noncomputable def bits.Len64.s : Fw.Summ := .mk' (tOne (tI .u64)) (tI .i64) bits.Len64.f
theorem bits.Len64.ok : bits.Len64.s.Ok Try.prog 43 :=
  summ_ok (hint := lookH bits.Len64.hs) (fn := Try.f43) (fun x => 0) bits.Len64.cs_ok (by kernel_rfl) (by kernel_rfl) (by kernel_rfl) (by kernel_rfl) (tOne_ok (tI_ok _)) (tI_ok _) (fun _ => rfl)
theorem bits.Len64.eq (p0 : Int) : bits.Len64.f p0 =
  bif (decide (p0 ≥ 4294967296)) then
    bif (decide ((Int.fdiv p0 (2 ^ 32)) ≥ 65536)) then
      bif (decide ((Int.fdiv (Int.fdiv p0 (2 ^ 32)) (2 ^ 16)) ≥ 256)) then
        bif ((decide (0 ≤ (IntKind.u8.wrap (Int.fdiv (Int.fdiv (Int.fdiv p0 (2 ^ 32)) (2 ^ 16)) (2 ^ 8))))) && (decide ((IntKind.u8.wrap (Int.fdiv (Int.fdiv (Int.fdiv p0 (2 ^ 32)) (2 ^ 16)) (2 ^ 8))) < 256))) then
        some (IntKind.i64.wrap (56 + (IntKind.i64.wrap (((ByteArray.data Str11c1601c).getD (Int.toNat (IntKind.u8.wrap (Int.fdiv (Int.fdiv (Int.fdiv p0 (2 ^ 32)) (2 ^ 16)) (2 ^ 8)))) 0).toNat : Nat))))
        else none
      else
      bif ((decide (0 ≤ (IntKind.u8.wrap (Int.fdiv (Int.fdiv p0 (2 ^ 32)) (2 ^ 16))))) && (decide ((IntKind.u8.wrap (Int.fdiv (Int.fdiv p0 (2 ^ 32)) (2 ^ 16))) < 256))) then
      some (IntKind.i64.wrap (48 + (IntKind.i64.wrap (((ByteArray.data Str11c1601c).getD (Int.toNat (IntKind.u8.wrap (Int.fdiv (Int.fdiv p0 (2 ^ 32)) (2 ^ 16)))) 0).toNat : Nat))))
      else none
    else
    bif (decide ((Int.fdiv p0 (2 ^ 32)) ≥ 256)) then
      bif ((decide (0 ≤ (IntKind.u8.wrap (Int.fdiv (Int.fdiv p0 (2 ^ 32)) (2 ^ 8))))) && (decide ((IntKind.u8.wrap (Int.fdiv (Int.fdiv p0 (2 ^ 32)) (2 ^ 8))) < 256))) then
      some (IntKind.i64.wrap (40 + (IntKind.i64.wrap (((ByteArray.data Str11c1601c).getD (Int.toNat (IntKind.u8.wrap (Int.fdiv (Int.fdiv p0 (2 ^ 32)) (2 ^ 8)))) 0).toNat : Nat))))
      else none
    else
    bif ((decide (0 ≤ (IntKind.u8.wrap (Int.fdiv p0 (2 ^ 32))))) && (decide ((IntKind.u8.wrap (Int.fdiv p0 (2 ^ 32))) < 256))) then
    some (IntKind.i64.wrap (32 + (IntKind.i64.wrap (((ByteArray.data Str11c1601c).getD (Int.toNat (IntKind.u8.wrap (Int.fdiv p0 (2 ^ 32)))) 0).toNat : Nat))))
    else none
  else
  bif (decide (p0 ≥ 65536)) then
    bif (decide ((Int.fdiv p0 (2 ^ 16)) ≥ 256)) then
      bif ((decide (0 ≤ (IntKind.u8.wrap (Int.fdiv (Int.fdiv p0 (2 ^ 16)) (2 ^ 8))))) && (decide ((IntKind.u8.wrap (Int.fdiv (Int.fdiv p0 (2 ^ 16)) (2 ^ 8))) < 256))) then
      some (IntKind.i64.wrap (24 + (IntKind.i64.wrap (((ByteArray.data Str11c1601c).getD (Int.toNat (IntKind.u8.wrap (Int.fdiv (Int.fdiv p0 (2 ^ 16)) (2 ^ 8)))) 0).toNat : Nat))))
      else none
    else
    bif ((decide (0 ≤ (IntKind.u8.wrap (Int.fdiv p0 (2 ^ 16))))) && (decide ((IntKind.u8.wrap (Int.fdiv p0 (2 ^ 16))) < 256))) then
    some (IntKind.i64.wrap (16 + (IntKind.i64.wrap (((ByteArray.data Str11c1601c).getD (Int.toNat (IntKind.u8.wrap (Int.fdiv p0 (2 ^ 16)))) 0).toNat : Nat))))
    else none
  else
  bif (decide (p0 ≥ 256)) then
    bif ((decide (0 ≤ (IntKind.u8.wrap (Int.fdiv p0 (2 ^ 8))))) && (decide ((IntKind.u8.wrap (Int.fdiv p0 (2 ^ 8))) < 256))) then
    some (IntKind.i64.wrap (8 + (IntKind.i64.wrap (((ByteArray.data Str11c1601c).getD (Int.toNat (IntKind.u8.wrap (Int.fdiv p0 (2 ^ 8)))) 0).toNat : Nat))))
    else none
  else
  bif ((decide (0 ≤ (IntKind.u8.wrap p0))) && (decide ((IntKind.u8.wrap p0) < 256))) then
  some (IntKind.i64.wrap (0 + (IntKind.i64.wrap (((ByteArray.data Str11c1601c).getD (Int.toNat (IntKind.u8.wrap p0)) 0).toNat : Nat))))
  else none := by kernel_rfl
/-! ### math/bits.LeadingZeros64 -/
noncomputable def bits.LeadingZeros64.cs : List (Nat × Fw.Summ) := [(43, bits.Len64.s)]
theorem bits.LeadingZeros64.cs_ok : SumsOk Try.prog bits.LeadingZeros64.cs := .cons bits.Len64.ok (.nil)
def bits.LeadingZeros64.hs : List (Nat × LHint) := []
noncomputable def bits.LeadingZeros64.G : Ctx := ⟨Try.prog, sumAt bits.LeadingZeros64.cs, lookH bits.LeadingZeros64.hs⟩
noncomputable def bits.LeadingZeros64.f (x : Int) : Option Int := evF bits.LeadingZeros64.G 0 Try.f42 ((tOne (tI .u64)).enc x) (tI .i64).dec
noncomputable def bits.LeadingZeros64.s : Fw.Summ := .mk' (tOne (tI .u64)) (tI .i64) bits.LeadingZeros64.f
theorem bits.LeadingZeros64.ok : bits.LeadingZeros64.s.Ok Try.prog 42 :=
  summ_ok (hint := lookH bits.LeadingZeros64.hs) (fn := Try.f42) (fun x => 0) bits.LeadingZeros64.cs_ok (by kernel_rfl) (by kernel_rfl) (by kernel_rfl) (by kernel_rfl) (tOne_ok (tI_ok _)) (tI_ok _) (fun _ => rfl)
theorem bits.LeadingZeros64.eq (p0 : Int) : bits.LeadingZeros64.f p0 =
  (bits.Len64.f p0).bind fun r1 =>
  some (IntKind.i64.wrap (64 - r1)) := by kernel_rfl
/-! ### math/bits.Div64 -/
noncomputable def bits.Div64.cs : List (Nat × Fw.Summ) := [(42, bits.LeadingZeros64.s)]
theorem bits.Div64.cs_ok : SumsOk Try.prog bits.Div64.cs := .cons bits.LeadingZeros64.ok (.nil)
def bits.Div64.hs : List (Nat × LHint) := [(0, { mat := [], live := [2, 8, 9, 10, 11, 13, 14, 15, 16], ren := [] }), (2, { mat := [], live := [2, 8, 9, 10, 14, 15, 16, 17, 18], ren := [] })]
noncomputable def bits.Div64.G : Ctx := ⟨Try.prog, sumAt bits.Div64.cs, lookH bits.Div64.hs⟩
noncomputable def bits.Div64.g (k0 : Nat) (x : (Int × Int × Int)) : Option (Int × Int) := evF bits.Div64.G k0 Try.f39 ((tCons (tI .u64) (tCons (tI .u64) (tOne (tI .u64)))).enc x) (tT (tCons (tI .u64) (tOne (tI .u64)))).dec
noncomputable def bits.Div64.f (x : (Int × Int × Int)) : Option (Int × Int) := bits.Div64.g (1000000) x
noncomputable def bits.Div64.s : Fw.Summ := .mk' (tCons (tI .u64) (tCons (tI .u64) (tOne (tI .u64)))) (tT (tCons (tI .u64) (tOne (tI .u64)))) bits.Div64.f
theorem bits.Div64.ok : bits.Div64.s.Ok Try.prog 39 :=
  summ_ok (hint := lookH bits.Div64.hs) (fn := Try.f39) (fun x => 1000000) bits.Div64.cs_ok (by kernel_rfl) (by kernel_rfl) (by kernel_rfl) (by kernel_rfl) (tCons_ok (tI_ok _) (tCons_ok (tI_ok _) (tOne_ok (tI_ok _)))) (tT_ok (tCons_ok (tI_ok _) (tOne_ok (tI_ok _)))) (fun _ => rfl)
noncomputable def bits.Div64.l1 (k0 k1 : Nat) (v1 : Int) (v2 : Int) (v3 : Int) (v4 : Int) (v5 : Int) (v6 : Int) (v7 : Int) (v8 : Int) (v9 : Int) : Option (Int × Int) :=
  evLoop (lookH bits.Div64.hs 2) 0 (ev bits.Div64.G k0 (codeAt [1, 1, 1, 1, 1, 1, 1, 1, 1, 1, 1, 1, 1, 1, 1, 1, 1, 1, 0, 0, 0] (bodyOf Try.f39)) 2) k1
  ⟨[.top, .top, .val (.int .u64 v1), .top, .top, .top, .top, .top, .val (.int .u64 v2), .val (.int .u64 v3), .val (.int .u64 v4), .top, .top, .top, .val (.int .u64 v5), .val (.int .u64 v6), .val (.int .u64 v7), .val (.int .u64 v8), .val (.int .u64 v9), .top, .top, .top, .top, .top, .top, .top, .top, .top, .top, .top, .top, .top, .top, .top, .top, .top, .top, .top, .top, .top, .top, .top, .top, .top, .top, .top, .top, .top, .top, .top, .top, .top, .top, .top, .top, .top, .top, .top, .top, .top, .top, .top, .top, .top, .top, .top, .top, .top, .top, .top, .top, .top, .top, .top, .top, .top, .top, .top, .top, .top, .top, .top, .top, .top, .top, .top, .top, .top, .top, .top, .top, .top, .top, .top, .top, .top, .top, .top, .top, .top, .top, .top, .top, .top, .top, .top, .top, .top, .top, .top, .top, .top, .top, .top, .top, .top, .top, .top, .top, .top, .top, .top, .top, .top, .top, .top, .top, .top, .top, .top, .top, .top, .top, .top, .top], []⟩
  (kBlock 2 (kSeq bits.Div64.G k0 (codeAt [1, 1, 1, 1, 1, 1, 1, 1, 1, 1, 1, 1, 1, 1, 1, 1, 1, 1, 1] (bodyOf Try.f39)) 0 (kFin bits.Div64.G Try.f39 (tT (tCons (tI .u64) (tOne (tI .u64)))).dec)))
noncomputable def bits.Div64.l0 (k0 k1 : Nat) (v1 : Int) (v2 : Int) (v3 : Int) (v4 : Int) (v5 : Int) (v6 : Int) (v7 : Int) (v8 : Int) (v9 : Int) : Option (Int × Int) :=
  evLoop (lookH bits.Div64.hs 0) 0 (ev bits.Div64.G k0 (codeAt [1, 1, 1, 1, 1, 1, 1, 1, 1, 1, 1, 1, 1, 1, 0, 0, 0] (bodyOf Try.f39)) 0) k1
  ⟨[.top, .top, .val (.int .u64 v1), .top, .top, .top, .top, .top, .val (.int .u64 v2), .val (.int .u64 v3), .val (.int .u64 v4), .val (.int .u64 v5), .top, .val (.int .u64 v6), .val (.int .u64 v7), .val (.int .u64 v8), .val (.int .u64 v9), .top, .top, .top, .top, .top, .top, .top, .top, .top, .top, .top, .top, .top, .top, .top, .top, .top, .top, .top, .top, .top, .top, .top, .top, .top, .top, .top, .top, .top, .top, .top, .top, .top, .top, .top, .top, .top, .top, .top, .top, .top, .top, .top, .top, .top, .top, .top, .top, .top, .top, .top, .top, .top, .top, .top, .top, .top, .top, .top, .top, .top, .top, .top, .top, .top, .top, .top, .top, .top, .top, .top, .top, .top, .top, .top, .top, .top, .top, .top, .top, .top, .top, .top, .top, .top, .top, .top, .top, .top, .top, .top, .top, .top, .top, .top, .top, .top, .top, .top, .top, .top, .top, .top, .top, .top, .top, .top, .top, .top, .top, .top, .top, .top, .top, .top, .top, .top, .top], []⟩
  (kBlock 0 (kSeq bits.Div64.G k0 (codeAt [1, 1, 1, 1, 1, 1, 1, 1, 1, 1, 1, 1, 1, 1, 1] (bodyOf Try.f39)) 0 (kFin bits.Div64.G Try.f39 (tT (tCons (tI .u64) (tOne (tI .u64)))).dec)))
theorem bits.Div64.l1_eq (k0 k1 : Nat) (v1 : Int) (v2 : Int) (v3 : Int) (v4 : Int) (v5 : Int) (v6 : Int) (v7 : Int) (v8 : Int) (v9 : Int) : bits.Div64.l1 k0 (k1 + 1) v1 v2 v3 v4 v5 v6 v7 v8 v9 =
  bif (decide (v9 ≥ 4294967296)) then
    bif (decide ((IntKind.u64.wrap (v7 + v3)) ≥ 4294967296)) then
      bif (decide (0 ≤ v2)) then
      some ((IntKind.u64.wrap ((IntKind.u64.wrap (v6 * 4294967296)) + (IntKind.u64.wrap (v9 - 1)))), (Int.fdiv (IntKind.u64.wrap ((IntKind.u64.wrap ((IntKind.u64.wrap (v8 * 4294967296)) + v5)) - (IntKind.u64.wrap ((IntKind.u64.wrap (v9 - 1)) * v1)))) (2 ^ (min (Int.toNat v2) 64))))
      else none
    else
    bits.Div64.l1 k0 k1 v1 v2 v3 v4 v5 v6 (IntKind.u64.wrap (v7 + v3)) v8 (IntKind.u64.wrap (v9 - 1))
  else
  bif (decide ((IntKind.u64.wrap (v9 * v4)) > (IntKind.u64.wrap ((IntKind.u64.wrap (4294967296 * v7)) + v5)))) then
    bif (decide ((IntKind.u64.wrap (v7 + v3)) ≥ 4294967296)) then
      bif (decide (0 ≤ v2)) then
      some ((IntKind.u64.wrap ((IntKind.u64.wrap (v6 * 4294967296)) + (IntKind.u64.wrap (v9 - 1)))), (Int.fdiv (IntKind.u64.wrap ((IntKind.u64.wrap ((IntKind.u64.wrap (v8 * 4294967296)) + v5)) - (IntKind.u64.wrap ((IntKind.u64.wrap (v9 - 1)) * v1)))) (2 ^ (min (Int.toNat v2) 64))))
      else none
    else
    bits.Div64.l1 k0 k1 v1 v2 v3 v4 v5 v6 (IntKind.u64.wrap (v7 + v3)) v8 (IntKind.u64.wrap (v9 - 1))
  else
  bif (decide (0 ≤ v2)) then
  some ((IntKind.u64.wrap ((IntKind.u64.wrap (v6 * 4294967296)) + v9)), (Int.fdiv (IntKind.u64.wrap ((IntKind.u64.wrap ((IntKind.u64.wrap (v8 * 4294967296)) + v5)) - (IntKind.u64.wrap (v9 * v1)))) (2 ^ (min (Int.toNat v2) 64))))
  else none := by kernel_rfl
theorem bits.Div64.l0_eq (k0 k1 : Nat) (v1 : Int) (v2 : Int) (v3 : Int) (v4 : Int) (v5 : Int) (v6 : Int) (v7 : Int) (v8 : Int) (v9 : Int) : bits.Div64.l0 k0 (k1 + 1) v1 v2 v3 v4 v5 v6 v7 v8 v9 =
  bif (decide (v8 ≥ 4294967296)) then
    bif (decide ((IntKind.u64.wrap (v9 + v3)) ≥ 4294967296)) then
      bif (decide (v3 ≠ 0)) then
      bits.Div64.l1 k0 k0 v1 v2 v3 v4 v7 (IntKind.u64.wrap (v8 - 1)) (IntKind.u64.wrap ((IntKind.u64.wrap ((IntKind.u64.wrap ((IntKind.u64.wrap (v5 * 4294967296)) + v6)) - (IntKind.u64.wrap ((IntKind.u64.wrap (v8 - 1)) * v1)))) - (IntKind.u64.wrap ((IntKind.u64.wrap (Int.tdiv (IntKind.u64.wrap ((IntKind.u64.wrap ((IntKind.u64.wrap (v5 * 4294967296)) + v6)) - (IntKind.u64.wrap ((IntKind.u64.wrap (v8 - 1)) * v1)))) v3)) * v3)))) (IntKind.u64.wrap ((IntKind.u64.wrap ((IntKind.u64.wrap (v5 * 4294967296)) + v6)) - (IntKind.u64.wrap ((IntKind.u64.wrap (v8 - 1)) * v1)))) (IntKind.u64.wrap (Int.tdiv (IntKind.u64.wrap ((IntKind.u64.wrap ((IntKind.u64.wrap (v5 * 4294967296)) + v6)) - (IntKind.u64.wrap ((IntKind.u64.wrap (v8 - 1)) * v1)))) v3))
      else none
    else
    bits.Div64.l0 k0 k1 v1 v2 v3 v4 v5 v6 v7 (IntKind.u64.wrap (v8 - 1)) (IntKind.u64.wrap (v9 + v3))
  else
  bif (decide ((IntKind.u64.wrap (v8 * v4)) > (IntKind.u64.wrap ((IntKind.u64.wrap (4294967296 * v9)) + v6)))) then
    bif (decide ((IntKind.u64.wrap (v9 + v3)) ≥ 4294967296)) then
      bif (decide (v3 ≠ 0)) then
      bits.Div64.l1 k0 k0 v1 v2 v3 v4 v7 (IntKind.u64.wrap (v8 - 1)) (IntKind.u64.wrap ((IntKind.u64.wrap ((IntKind.u64.wrap ((IntKind.u64.wrap (v5 * 4294967296)) + v6)) - (IntKind.u64.wrap ((IntKind.u64.wrap (v8 - 1)) * v1)))) - (IntKind.u64.wrap ((IntKind.u64.wrap (Int.tdiv (IntKind.u64.wrap ((IntKind.u64.wrap ((IntKind.u64.wrap (v5 * 4294967296)) + v6)) - (IntKind.u64.wrap ((IntKind.u64.wrap (v8 - 1)) * v1)))) v3)) * v3)))) (IntKind.u64.wrap ((IntKind.u64.wrap ((IntKind.u64.wrap (v5 * 4294967296)) + v6)) - (IntKind.u64.wrap ((IntKind.u64.wrap (v8 - 1)) * v1)))) (IntKind.u64.wrap (Int.tdiv (IntKind.u64.wrap ((IntKind.u64.wrap ((IntKind.u64.wrap (v5 * 4294967296)) + v6)) - (IntKind.u64.wrap ((IntKind.u64.wrap (v8 - 1)) * v1)))) v3))
      else none
    else
    bits.Div64.l0 k0 k1 v1 v2 v3 v4 v5 v6 v7 (IntKind.u64.wrap (v8 - 1)) (IntKind.u64.wrap (v9 + v3))
  else
  bif (decide (v3 ≠ 0)) then
  bits.Div64.l1 k0 k0 v1 v2 v3 v4 v7 v8 (IntKind.u64.wrap ((IntKind.u64.wrap ((IntKind.u64.wrap ((IntKind.u64.wrap (v5 * 4294967296)) + v6)) - (IntKind.u64.wrap (v8 * v1)))) - (IntKind.u64.wrap ((IntKind.u64.wrap (Int.tdiv (IntKind.u64.wrap ((IntKind.u64.wrap ((IntKind.u64.wrap (v5 * 4294967296)) + v6)) - (IntKind.u64.wrap (v8 * v1)))) v3)) * v3)))) (IntKind.u64.wrap ((IntKind.u64.wrap ((IntKind.u64.wrap (v5 * 4294967296)) + v6)) - (IntKind.u64.wrap (v8 * v1)))) (IntKind.u64.wrap (Int.tdiv (IntKind.u64.wrap ((IntKind.u64.wrap ((IntKind.u64.wrap (v5 * 4294967296)) + v6)) - (IntKind.u64.wrap (v8 * v1)))) v3))
  else none := by kernel_rfl
theorem bits.Div64.eq (k0 : Nat) (p0 : Int) (p1 : Int) (p2 : Int) : bits.Div64.g k0 (p0, p1, p2) =
  bif (p2 == 0) then
    none
  else
  bif (decide (p2 ≤ p0)) then
    none
  else
  bif (p0 == 0) then
    bif (decide (p2 ≠ 0)) then
    bif (decide (p2 ≠ 0)) then
    some ((IntKind.u64.wrap (Int.tdiv p1 p2)), (Int.tmod p1 p2))
    else none
    else none
  else
  (bits.LeadingZeros64.f p2).bind fun r1 =>
  bif (decide (0 ≤ (IntKind.u64.wrap r1))) then
  bif (decide (0 ≤ (IntKind.u64.wrap r1))) then
  bif (decide (0 ≤ (IntKind.u64.wrap (64 - (IntKind.u64.wrap r1))))) then
  bif (decide (0 ≤ (IntKind.u64.wrap r1))) then
  bif (decide ((Int.fdiv (IntKind.u64.wrap (p2 * 2 ^ (min (Int.toNat (IntKind.u64.wrap r1)) 64))) (2 ^ 32)) ≠ 0)) then
  bits.Div64.l0 k0 k0 (IntKind.u64.wrap (p2 * 2 ^ (min (Int.toNat (IntKind.u64.wrap r1)) 64))) (IntKind.u64.wrap r1) (Int.fdiv (IntKind.u64.wrap (p2 * 2 ^ (min (Int.toNat (IntKind.u64.wrap r1)) 64))) (2 ^ 32)) (Go.bits .and .u64 (IntKind.u64.wrap (p2 * 2 ^ (min (Int.toNat (IntKind.u64.wrap r1)) 64))) 4294967295) (Go.bits .or .u64 (IntKind.u64.wrap (p0 * 2 ^ (min (Int.toNat (IntKind.u64.wrap r1)) 64))) (Int.fdiv p1 (2 ^ (min (Int.toNat (IntKind.u64.wrap (64 - (IntKind.u64.wrap r1)))) 64)))) (Int.fdiv (IntKind.u64.wrap (p1 * 2 ^ (min (Int.toNat (IntKind.u64.wrap r1)) 64))) (2 ^ 32)) (Go.bits .and .u64 (IntKind.u64.wrap (p1 * 2 ^ (min (Int.toNat (IntKind.u64.wrap r1)) 64))) 4294967295) (IntKind.u64.wrap (Int.tdiv (Go.bits .or .u64 (IntKind.u64.wrap (p0 * 2 ^ (min (Int.toNat (IntKind.u64.wrap r1)) 64))) (Int.fdiv p1 (2 ^ (min (Int.toNat (IntKind.u64.wrap (64 - (IntKind.u64.wrap r1)))) 64)))) (Int.fdiv (IntKind.u64.wrap (p2 * 2 ^ (min (Int.toNat (IntKind.u64.wrap r1)) 64))) (2 ^ 32)))) (IntKind.u64.wrap ((Go.bits .or .u64 (IntKind.u64.wrap (p0 * 2 ^ (min (Int.toNat (IntKind.u64.wrap r1)) 64))) (Int.fdiv p1 (2 ^ (min (Int.toNat (IntKind.u64.wrap (64 - (IntKind.u64.wrap r1)))) 64)))) - (IntKind.u64.wrap ((IntKind.u64.wrap (Int.tdiv (Go.bits .or .u64 (IntKind.u64.wrap (p0 * 2 ^ (min (Int.toNat (IntKind.u64.wrap r1)) 64))) (Int.fdiv p1 (2 ^ (min (Int.toNat (IntKind.u64.wrap (64 - (IntKind.u64.wrap r1)))) 64)))) (Int.fdiv (IntKind.u64.wrap (p2 * 2 ^ (min (Int.toNat (IntKind.u64.wrap r1)) 64))) (2 ^ 32)))) * (Int.fdiv (IntKind.u64.wrap (p2 * 2 ^ (min (Int.toNat (IntKind.u64.wrap r1)) 64))) (2 ^ 32))))))
  else none
  else none
  else none
  else none
  else none := by kernel_rfl
/-! ### bagatelle/fix.Div -/
noncomputable def fix.Div.cs : List (Nat × Fw.Summ) := [(38, fix.whole.s), (33, fix.Abs.s), (34, fix.signed.s), (39, bits.Div64.s)]
theorem fix.Div.cs_ok : SumsOk Try.prog fix.Div.cs := .cons fix.whole.ok (.cons fix.Abs.ok (.cons fix.signed.ok (.cons bits.Div64.ok (.nil))))
def fix.Div.hs : List (Nat × LHint) := []
noncomputable def fix.Div.G : Ctx := ⟨Try.prog, sumAt fix.Div.cs, lookH fix.Div.hs⟩
noncomputable def fix.Div.f (x : (Int × Int)) : Option Int := evF fix.Div.G 0 Try.f30 ((tCons (tI .i64) (tOne (tI .i64))).enc x) (tI .i64).dec
noncomputable def fix.Div.s : Fw.Summ := .mk' (tCons (tI .i64) (tOne (tI .i64))) (tI .i64) fix.Div.f
theorem fix.Div.ok : fix.Div.s.Ok Try.prog 30 :=
  summ_ok (hint := lookH fix.Div.hs) (fn := Try.f30) (fun x => 0) fix.Div.cs_ok (by kernel_rfl) (by kernel_rfl) (by kernel_rfl) (by kernel_rfl) (tCons_ok (tI_ok _) (tOne_ok (tI_ok _))) (tI_ok _) (fun _ => rfl)
theorem fix.Div.eq (p0 : Int) (p1 : Int) : fix.Div.f (p0, p1) =
  (fix.whole.f p0).bind fun r1 =>
  (fix.whole.f p1).bind fun r2 =>
  (fix.Abs.f r1).bind fun r3 =>
  (fix.Abs.f r2).bind fun r4 =>
  bif ((IntKind.u64.wrap r3) == 0) then
    some 0
  else
  bif (decide ((Int.fdiv (IntKind.u64.wrap r3) (2 ^ 32)) ≥ (IntKind.u64.wrap r4))) then
    (fix.signed.f (1, 0, (!((decide (r1 < 0)) == (decide (r2 < 0)))))).bind fun r5 =>
    some r5
  else
  (bits.Div64.f ((Int.fdiv (IntKind.u64.wrap r3) (2 ^ 32)), (IntKind.u64.wrap ((IntKind.u64.wrap r3) * 2 ^ 32)), (IntKind.u64.wrap r4))).bind fun r6 =>
  (fix.signed.f (0, r6.1, (!((decide (r1 < 0)) == (decide (r2 < 0)))))).bind fun r7 =>
  some r7 := by kernel_rfl
/-! ### bagatelle/vec.Unit -/
noncomputable def vec.Unit.cs : List (Nat × Fw.Summ) := [(24, vec.Len.s), (30, fix.Div.s)]
theorem vec.Unit.cs_ok : SumsOk Try.prog vec.Unit.cs := .cons vec.Len.ok (.cons fix.Div.ok (.nil))
def vec.Unit.hs : List (Nat × LHint) := []
noncomputable def vec.Unit.G : Ctx := ⟨Try.prog, sumAt vec.Unit.cs, lookH vec.Unit.hs⟩
noncomputable def vec.Unit.f (x : (Int × Int)) : Option ((Int × Int) × Bool) := evF vec.Unit.G 0 Try.f14 ((tOne (tG (tCons (tI .i64) (tOne (tI .i64))))).enc x) (tT (tCons (tG (tCons (tI .i64) (tOne (tI .i64)))) (tOne tB))).dec
noncomputable def vec.Unit.s : Fw.Summ := .mk' (tOne (tG (tCons (tI .i64) (tOne (tI .i64))))) (tT (tCons (tG (tCons (tI .i64) (tOne (tI .i64)))) (tOne tB))) vec.Unit.f
theorem vec.Unit.ok : vec.Unit.s.Ok Try.prog 14 :=
  summ_ok (hint := lookH vec.Unit.hs) (fn := Try.f14) (fun x => 0) vec.Unit.cs_ok (by kernel_rfl) (by kernel_rfl) (by kernel_rfl) (by kernel_rfl) (tOne_ok (tG_ok (tCons_ok (tI_ok _) (tOne_ok (tI_ok _))))) (tT_ok (tCons_ok (tG_ok (tCons_ok (tI_ok _) (tOne_ok (tI_ok _)))) (tOne_ok tB_ok))) (fun _ => rfl)
theorem vec.Unit.eq (p0_0 : Int) (p0_1 : Int) : vec.Unit.f (p0_0, p0_1) =
  (vec.Len.f (p0_0, p0_1)).bind fun r1 =>
  bif (r1 == 0) then
    some ((0, 0), false)
  else
  (fix.Div.f (p0_0, r1)).bind fun r2 =>
  (fix.Div.f (p0_1, r1)).bind fun r3 =>
  some ((r2, r3), true) := by kernel_rfl
/-! ### bagatelle/shape.Normals -/
noncomputable def shape.Normals.cs : List (Nat × Fw.Summ) := [(13, vec.Sub.s), (28, fix.Neg.s), (14, vec.Unit.s)]
theorem shape.Normals.cs_ok : SumsOk Try.prog shape.Normals.cs := .cons vec.Sub.ok (.cons fix.Neg.ok (.cons vec.Unit.ok (.nil)))
def shape.Normals.hs : List (Nat × LHint) := [(0, { mat := [(.tmp 3, 34)], live := [0, 3, 9, 10, 11], ren := [(.tmp 3, 0)] })]
noncomputable def shape.Normals.G : Ctx := ⟨Try.prog, sumAt shape.Normals.cs, lookH shape.Normals.hs⟩
noncomputable def shape.Normals.g (k0 : Nat) (x : (Nat × (Nat → List AV))) : Option (Nat × (Nat → (Int × Int))) := evF shape.Normals.G k0 Try.f12 ((tOne (tL 2)).enc x) (tTL Rii 2 (0, 0)).dec
noncomputable def shape.Normals.f (x : (Nat × (Nat → List AV))) : Option (Nat × (Nat → (Int × Int))) := shape.Normals.g (1000000) x
noncomputable def shape.Normals.s : Fw.Summ := .mk' (tOne (tL 2)) (tTL Rii 2 (0, 0)) shape.Normals.f
theorem shape.Normals.ok : shape.Normals.s.Ok Try.prog 12 :=
  summ_ok (hint := lookH shape.Normals.hs) (fn := Try.f12) (fun x => 1000000) shape.Normals.cs_ok (by kernel_rfl) (by kernel_rfl) (by kernel_rfl) (by kernel_rfl) (tOne_ok (tL_ok _)) (tTL_ok Rii_ok _ _) (fun _ => rfl)
noncomputable def shape.Normals.l2 (k0 k1 : Nat) (v1 : Nat) (v2 : Nat → List AV) (v3 : Nat) (v4 : Nat → List AV) (v5 : Int) (v6 : Int) : Option (Nat × (Nat → (Int × Int))) :=
  evLoop (lookH shape.Normals.hs 0) 1 (ev shape.Normals.G k0 (codeAt [1, 1, 0, 1, 0, 0] (bodyOf Try.f12)) 0) k1
  ⟨[.lst 2 v3 none v4, .top, .top, .slc 0 0 none none, .top, .top, .top, .top, .top, .lst 2 v3 none v4, .val (.int .i64 v5), .val (.int .i64 v6), .top, .top, .top, .top, .top, .top, .top, .top, .top, .top, .top, .top, .top, .top, .top, .top, .top, .top, .top, .top, .top, .top, .top, .top, .top, .top, .top, .top, .top, .top], [.live ⟨true, 34, 2, v1, v2, none⟩]⟩
  (kBlock 0 (kSeq shape.Normals.G k0 (codeAt [1, 1, 1] (bodyOf Try.f12)) 0 (kFin shape.Normals.G Try.f12 (tTL Rii 2 (0, 0)).dec)))
theorem shape.Normals.l2_eq (k0 k1 : Nat) (v1 : Nat) (v2 : Nat → (Int × Int)) (v3 : Nat) (v4 : Nat → (Int × Int)) (v5 : Int) (v6 : Int) : shape.Normals.l2 k0 (k1 + 1) v1 (fun i => Rii.enc (v2 i)) v3 (fun i => Rii.enc (v4 i)) v5 v6 =
  bif (decide (v6 < v5)) then
    bif ((decide (0 ≤ v6)) && (decide (v6 < ((v3 : Nat) : Int)))) then
    bif (decide (((v3 : Nat) : Int) ≠ 0)) then
    bif ((decide (0 ≤ (Int.tmod (IntKind.i64.wrap (v6 + 1)) ((v3 : Nat) : Int)))) && (decide ((Int.tmod (IntKind.i64.wrap (v6 + 1)) ((v3 : Nat) : Int)) < ((v3 : Nat) : Int)))) then
    (vec.Sub.f (((v4 (Int.toNat (Int.tmod (IntKind.i64.wrap (v6 + 1)) ((v3 : Nat) : Int)))).1, (v4 (Int.toNat (Int.tmod (IntKind.i64.wrap (v6 + 1)) ((v3 : Nat) : Int)))).2), ((v4 (Int.toNat v6)).1, (v4 (Int.toNat v6)).2))).bind fun r1 =>
    (fix.Neg.f r1.1).bind fun r2 =>
    (vec.Unit.f (r1.2, r2)).bind fun r3 =>
    bif (decide ((v1 + 1) * 16 ≤ 140737488355328)) then
    shape.Normals.l2 k0 k1 (v1 + 1) (fun i => renL (lookF [(28, 0)] 1) (if i = v1 then Rii.enc (r3.1.1, r3.1.2) else Rii.enc (v2 i))) v3 (fun i => Rii.enc (v4 i)) v5 (IntKind.i64.wrap (v6 + 1))
    else none
    else none
    else none
    else none
  else
  (tTL Rii 2 (0, 0)).dec (.lst 2 v1 none (fun i => Rii.enc (v2 i))) := by kernel_rfl
theorem shape.Normals.eq (k0 : Nat) (p0_n : Nat) (p0_g : Nat → (Int × Int)) : shape.Normals.g k0 (p0_n, (fun i => Rii.enc (p0_g i))) =
  shape.Normals.l2 k0 k0 0 (fun _ => Rii.enc (0, 0)) p0_n (fun i => Rii.enc (p0_g i)) ((p0_n : Nat) : Int) 0 := by kernel_rfl
/-! ### bagatelle/bagatellelaw04.fit -/
noncomputable def law04.fit.cs : List (Nat × Fw.Summ) := [(17, shape.Box.s), (9, shape.Right.s), (19, shape.Reach.s), (12, shape.Normals.s)]
theorem law04.fit.cs_ok : SumsOk Try.prog law04.fit.cs := .cons shape.Box.ok (.cons shape.Right.ok (.cons shape.Reach.ok (.cons shape.Normals.ok (.nil))))
def law04.fit.hs : List (Nat × LHint) := []
noncomputable def law04.fit.G : Ctx := ⟨Try.prog, sumAt law04.fit.cs, lookH law04.fit.hs⟩
noncomputable def law04.fit.f (x : Unit) : Option Bool := evF law04.fit.G 0 Try.f8 (tNil.enc x) tB.dec
noncomputable def law04.fit.s : Fw.Summ := .mk' tNil tB law04.fit.f
theorem law04.fit.ok : law04.fit.s.Ok Try.prog 8 :=
  summ_ok (hint := lookH law04.fit.hs) (fn := Try.f8) (fun x => 0) law04.fit.cs_ok (by kernel_rfl) (by kernel_rfl) (by kernel_rfl) (by kernel_rfl) tNil_ok tB_ok (fun _ => rfl)
theorem law04.fit.eq  : law04.fit.f () =
  (shape.Box.f (4294967296, 4294967296)).bind fun r1 =>
  bif (((r1.2.2.1 : Nat) : Int) == 4) then
    (shape.Right.f (r1.1, r1.2.1, (r1.2.2.1, (fun i => Rii.enc (r1.2.2.2 i))))).bind fun r2 =>
    bif r2 then
      (shape.Right.f (2, 0, (0, fun _ => []))).bind fun r3 =>
      bif (!r3) then
        (shape.Reach.f (1, 5, (0, fun _ => []))).bind fun r4 =>
        bif (r4 == 5) then
          (shape.Normals.f (r1.2.2.1, (fun i => Rii.enc (r1.2.2.2 i)))).bind fun r5 =>
          some (((r5.1 : Nat) : Int) == 4)
        else
        some false
      else
      some false
    else
    some false
  else
  some false := by kernel_rfl
/-! ### bagatelle/bagatellelaw04.right -/
noncomputable def law04.right.cs : List (Nat × Fw.Summ) := [(13, vec.Sub.s), (26, vec.Cross.s)]
theorem law04.right.cs_ok : SumsOk Try.prog law04.right.cs := .cons vec.Sub.ok (.cons vec.Cross.ok (.nil))
def law04.right.hs : List (Nat × LHint) := [(0, { mat := [], live := [1, 3, 43, 44, 45], ren := [] }), (2, { mat := [], live := [1, 3, 4, 5, 6, 43, 44, 45, 74, 75], ren := [] })]
noncomputable def law04.right.G : Ctx := ⟨Try.prog, sumAt law04.right.cs, lookH law04.right.hs⟩
noncomputable def law04.right.g (k0 : Nat) (x : (Int × Int × (Nat × (Nat → List AV)))) : Option Bool := evF law04.right.G k0 Try.f10 ((tOne (tG (tCons (tI .i64) (tCons (tI .i64) (tOne (tL 2)))))).enc x) tB.dec
noncomputable def law04.right.f (x : (Int × Int × (Nat × (Nat → List AV)))) : Option Bool := law04.right.g (1000000) x
noncomputable def law04.right.s : Fw.Summ := .mk' (tOne (tG (tCons (tI .i64) (tCons (tI .i64) (tOne (tL 2)))))) tB law04.right.f
theorem law04.right.ok : law04.right.s.Ok Try.prog 10 :=
  summ_ok (hint := lookH law04.right.hs) (fn := Try.f10) (fun x => 1000000) law04.right.cs_ok (by kernel_rfl) (by kernel_rfl) (by kernel_rfl) (by kernel_rfl) (tOne_ok (tG_ok (tCons_ok (tI_ok _) (tCons_ok (tI_ok _) (tOne_ok (tL_ok _)))))) tB_ok (fun _ => rfl)
noncomputable def law04.right.l1 (k0 k1 k2 : Nat) (v1 : Int) (v2 : Int) (v3 : Nat) (v4 : Nat → List AV) (v5 : Int) (v6 : Int) (v7 : Int) (v8 : Int) (v9 : Int) (v10 : Int) (v11 : Nat) (v12 : Nat → List AV) (v13 : Int) (v14 : Int) (v15 : Int) : Option Bool :=
  evLoop (lookH law04.right.hs 2) 12 (ev law04.right.G k0 (codeAt [1, 1, 1, 1, 0, 1, 0, 0, 1, 1, 0, 0, 1, 1, 1, 1, 0, 0] (bodyOf Try.f10)) 2) k2
  ⟨[.top, .ptr 0 0 0, .top, .val (.int .i64 v9), .val (.int .i64 v10), .ptr 1 0 0, .ptr 10 0 0, .top, .top, .top, .top, .top, .top, .top, .top, .top, .top, .top, .top, .top, .top, .top, .top, .top, .top, .top, .top, .top, .top, .top, .top, .top, .top, .top, .top, .top, .top, .top, .top, .top, .top, .top, .top, .lst 2 v11 none v12, .val (.int .i64 v13), .val (.int .i64 v10), .top, .top, .top, .top, .top, .top, .top, .top, .top, .top, .top, .top, .top, .top, .top, .top, .top, .top, .top, .top, .top, .top, .top, .top, .top, .top, .top, .top, .val (.int .i64 v14), .val (.int .i64 v15), .top, .top, .top, .top, .top, .top, .top, .top, .top, .top, .top, .top, .top, .top, .top, .top, .top, .top, .top, .top, .top, .top, .top, .top, .top, .top, .top, .top, .top], [.live ⟨false, 25, 3, 1, fun _ => [.val (.int .i64 v1), .val (.int .i64 v2), .lst 2 v3 none v4], none⟩, .live ⟨false, 34, 2, 1, fun _ => [.val (.int .i64 v5), .val (.int .i64 v6)], none⟩, .free, .free, .free, .free, .free, .free, .free, .free, .live ⟨false, 34, 2, 1, fun _ => [.val (.int .i64 v7), .val (.int .i64 v8)], none⟩, .free]⟩
  (kBlock 2 (kBlock 1 (kSeq law04.right.G k0 (codeAt [1, 1, 1, 1, 0, 1, 0, 0, 1, 1, 1] (bodyOf Try.f10)) 0 (kLoop (lookH law04.right.hs 0) 1 (ev law04.right.G k0 (codeAt [1, 1, 1, 1, 0, 1, 0, 0] (bodyOf Try.f10)) 0) k1 (kBlock 0 (kSeq law04.right.G k0 (codeAt [1, 1, 1, 1, 1] (bodyOf Try.f10)) 0 (kFin law04.right.G Try.f10 tB.dec)))))))
noncomputable def law04.right.l0 (k0 k1 : Nat) (v1 : Int) (v2 : Int) (v3 : Nat) (v4 : Nat → List AV) (v5 : Int) (v6 : Nat) (v7 : Nat → List AV) (v8 : Int) (v9 : Int) : Option Bool :=
  evLoop (lookH law04.right.hs 0) 1 (ev law04.right.G k0 (codeAt [1, 1, 1, 1, 0, 1, 0, 0] (bodyOf Try.f10)) 0) k1
  ⟨[.top, .ptr 0 0 0, .top, .val (.int .i64 v5), .top, .top, .top, .top, .top, .top, .top, .top, .top, .top, .top, .top, .top, .top, .top, .top, .top, .top, .top, .top, .top, .top, .top, .top, .top, .top, .top, .top, .top, .top, .top, .top, .top, .top, .top, .top, .top, .top, .top, .lst 2 v6 none v7, .val (.int .i64 v8), .val (.int .i64 v9), .top, .top, .top, .top, .top, .top, .top, .top, .top, .top, .top, .top, .top, .top, .top, .top, .top, .top, .top, .top, .top, .top, .top, .top, .top, .top, .top, .top, .top, .top, .top, .top, .top, .top, .top, .top, .top, .top, .top, .top, .top, .top, .top, .top, .top, .top, .top, .top, .top, .top, .top, .top, .top, .top, .top, .top, .top, .top, .top], [.live ⟨false, 25, 3, 1, fun _ => [.val (.int .i64 v1), .val (.int .i64 v2), .lst 2 v3 none v4], none⟩]⟩
  (kBlock 0 (kSeq law04.right.G k0 (codeAt [1, 1, 1, 1, 1] (bodyOf Try.f10)) 0 (kFin law04.right.G Try.f10 tB.dec)))
theorem law04.right.l1_eq (k0 k1 k2 : Nat) (v1 : Int) (v2 : Int) (v3 : Nat) (v4 : Nat → (Int × Int)) (v5 : Int) (v6 : Int) (v7 : Int) (v8 : Int) (v9 : Int) (v10 : Int) (v11 : Nat) (v12 : Nat → (Int × Int)) (v13 : Int) (v14 : Int) (v15 : Int) : law04.right.l1 k0 k1 (k2 + 1) v1 v2 v3 (fun i => Rii.enc (v4 i)) v5 v6 v7 v8 v9 v10 v11 (fun i => Rii.enc (v12 i)) v13 v14 v15 =
  bif (decide (v15 < v14)) then
    bif (v15 != v10) then
      bif (decide (v9 ≠ 0)) then
      bif (v15 != (Int.tmod (IntKind.i64.wrap (v10 + 1)) v9)) then
        (vec.Sub.f ((v7, v8), (v5, v6))).bind fun r1 =>
        bif ((decide (0 ≤ v15)) && (decide (v15 < ((v3 : Nat) : Int)))) then
        (vec.Sub.f (((v4 (Int.toNat v15)).1, (v4 (Int.toNat v15)).2), (v5, v6))).bind fun r2 =>
        (vec.Cross.f ((r1.1, r1.2), (r2.1, r2.2))).bind fun r3 =>
        bif (decide (r3 ≤ 0)) then
          some false
        else
        law04.right.l1 k0 k1 k2 v1 v2 v3 (fun i => Rii.enc (v4 i)) v5 v6 v7 v8 v9 v10 v11 (fun i => Rii.enc (v12 i)) v13 v14 (IntKind.i64.wrap (v15 + 1))
        else none
      else
      law04.right.l1 k0 k1 k2 v1 v2 v3 (fun i => Rii.enc (v4 i)) v5 v6 v7 v8 v9 v10 v11 (fun i => Rii.enc (v12 i)) v13 v14 (IntKind.i64.wrap (v15 + 1))
      else none
    else
    law04.right.l1 k0 k1 k2 v1 v2 v3 (fun i => Rii.enc (v4 i)) v5 v6 v7 v8 v9 v10 v11 (fun i => Rii.enc (v12 i)) v13 v14 (IntKind.i64.wrap (v15 + 1))
  else
  law04.right.l0 k0 k1 v1 v2 v3 (fun i => Rii.enc (v4 i)) v9 v11 (fun i => Rii.enc (v12 i)) v13 (IntKind.i64.wrap (v10 + 1)) := by kernel_rfl
theorem law04.right.l0_eq (k0 k1 : Nat) (v1 : Int) (v2 : Int) (v3 : Nat) (v4 : Nat → (Int × Int)) (v5 : Int) (v6 : Nat) (v7 : Nat → (Int × Int)) (v8 : Int) (v9 : Int) : law04.right.l0 k0 (k1 + 1) v1 v2 v3 (fun i => Rii.enc (v4 i)) v5 v6 (fun i => Rii.enc (v7 i)) v8 v9 =
  bif (decide (v9 < v8)) then
    bif ((decide (0 ≤ v9)) && (decide (v9 < ((v6 : Nat) : Int)))) then
    bif (decide ((if (v7 (Int.toNat v9)).2 > (v7 (Int.toNat v9)).1 then (v7 (Int.toNat v9)).2 else (v7 (Int.toNat v9)).1) > 274877906944)) then
      some false
    else
    bif (decide ((if (v7 (Int.toNat v9)).2 < (v7 (Int.toNat v9)).1 then (v7 (Int.toNat v9)).2 else (v7 (Int.toNat v9)).1) < (-274877906944))) then
      some false
    else
    bif (decide (v5 ≠ 0)) then
    bif ((decide (0 ≤ (Int.tmod (IntKind.i64.wrap (v9 + 1)) v5))) && (decide ((Int.tmod (IntKind.i64.wrap (v9 + 1)) v5) < ((v3 : Nat) : Int)))) then
    law04.right.l1 k0 k1 k0 v1 v2 v3 (fun i => Rii.enc (v4 i)) (v7 (Int.toNat v9)).1 (v7 (Int.toNat v9)).2 (v4 (Int.toNat (Int.tmod (IntKind.i64.wrap (v9 + 1)) v5))).1 (v4 (Int.toNat (Int.tmod (IntKind.i64.wrap (v9 + 1)) v5))).2 v5 v9 v6 (fun i => Rii.enc (v7 i)) v8 ((v3 : Nat) : Int) 0
    else none
    else none
    else none
  else
  some true := by kernel_rfl
theorem law04.right.eq (k0 : Nat) (p0_0 : Int) (p0_1 : Int) (p0_2_n : Nat) (p0_2_g : Nat → (Int × Int)) : law04.right.g k0 (p0_0, p0_1, (p0_2_n, (fun i => Rii.enc (p0_2_g i)))) =
  bif (p0_0 == 1) then
    bif (((p0_2_n : Nat) : Int) == 0) then
      bif (decide (p0_1 ≥ 16777216)) then
        some (decide (p0_1 ≤ 274877906944))
      else
      some false
    else
    some false
  else
  bif (p0_0 != 2) then
    some false
  else
  bif (p0_1 != 0) then
    some false
  else
  bif (decide (((p0_2_n : Nat) : Int) < 3)) then
    some false
  else
  bif (decide (((p0_2_n : Nat) : Int) > 8)) then
    some false
  else
  law04.right.l0 k0 k0 p0_0 p0_1 p0_2_n (fun i => Rii.enc (p0_2_g i)) ((p0_2_n : Nat) : Int) p0_2_n (fun i => Rii.enc (p0_2_g i)) ((p0_2_n : Nat) : Int) 0 := by kernel_rfl
/-! ### bagatelle/bagatellelaw04.ring -/
noncomputable def law04.ring.cs : List (Nat × Fw.Summ) := []
theorem law04.ring.cs_ok : SumsOk Try.prog law04.ring.cs := .nil
def law04.ring.hs : List (Nat × LHint) := []
noncomputable def law04.ring.G : Ctx := ⟨Try.prog, sumAt law04.ring.cs, lookH law04.ring.hs⟩
noncomputable def law04.ring.f (x : Unit) : Option (Nat × (Nat → (Int × Int))) := evF law04.ring.G 0 Try.f27 (tNil.enc x) (tTL Rii 2 (0, 0)).dec
noncomputable def law04.ring.s : Fw.Summ := .mk' tNil (tTL Rii 2 (0, 0)) law04.ring.f
theorem law04.ring.ok : law04.ring.s.Ok Try.prog 27 :=
  summ_ok (hint := lookH law04.ring.hs) (fn := Try.f27) (fun x => 0) law04.ring.cs_ok (by kernel_rfl) (by kernel_rfl) (by kernel_rfl) (by kernel_rfl) tNil_ok (tTL_ok Rii_ok _ _) (fun _ => rfl)
theorem law04.ring.eq  : law04.ring.f () =
  (tTL Rii 2 (0, 0)).dec (.lst 2 10 (some 10) (fun i => cloL (List.getD (List.map Rii.enc [(65, 0), (52, 39), (25, 60), ((-25), 60), ((-52), 39), ((-65), 0), ((-52), (-39)), ((-25), (-60)), (25, (-60)), (52, (-39))]) i (Rii.enc (0, 0))))) := by kernel_rfl
/-! ### (bagatelle/bagatellelaw04.Seed).Shape -/
noncomputable def law04.Seed.Shape.cs : List (Nat × Fw.Summ) := [(17, shape.Box.s), (27, law04.ring.s)]
theorem law04.Seed.Shape.cs_ok : SumsOk Try.prog law04.Seed.Shape.cs := .cons shape.Box.ok (.cons law04.ring.ok (.nil))
def law04.Seed.Shape.hs : List (Nat × LHint) := [(1, { mat := [(.cell 2 0 2, 34)], live := [1, 2, 3, 4, 5, 6, 39, 40], ren := [(.cell 2 0 2, 3)] })]
noncomputable def law04.Seed.Shape.G : Ctx := ⟨Try.prog, sumAt law04.Seed.Shape.cs, lookH law04.Seed.Shape.hs⟩
noncomputable def law04.Seed.Shape.g (k0 : Nat) (x : (Int × Int × Int × Int)) : Option (Int × Int × (Nat × (Nat → (Int × Int)))) := evF law04.Seed.Shape.G k0 Try.f11 ((tOne (tG (tCons (tI .i64) (tCons (tI .i64) (tCons (tI .i64) (tOne (tI .i64))))))).enc x) (tG (tCons (tI .i64) (tCons (tI .i64) (tOne (tTL Rii 2 (0, 0)))))).dec
noncomputable def law04.Seed.Shape.f (x : (Int × Int × Int × Int)) : Option (Int × Int × (Nat × (Nat → (Int × Int)))) := law04.Seed.Shape.g (1000000) x
noncomputable def law04.Seed.Shape.s : Fw.Summ := .mk' (tOne (tG (tCons (tI .i64) (tCons (tI .i64) (tCons (tI .i64) (tOne (tI .i64))))))) (tG (tCons (tI .i64) (tCons (tI .i64) (tOne (tTL Rii 2 (0, 0)))))) law04.Seed.Shape.f
theorem law04.Seed.Shape.ok : law04.Seed.Shape.s.Ok Try.prog 11 :=
  summ_ok (hint := lookH law04.Seed.Shape.hs) (fn := Try.f11) (fun x => 1000000) law04.Seed.Shape.cs_ok (by kernel_rfl) (by kernel_rfl) (by kernel_rfl) (by kernel_rfl) (tOne_ok (tG_ok (tCons_ok (tI_ok _) (tCons_ok (tI_ok _) (tCons_ok (tI_ok _) (tOne_ok (tI_ok _))))))) (tG_ok (tCons_ok (tI_ok _) (tCons_ok (tI_ok _) (tOne_ok (tTL_ok Rii_ok _ _))))) (fun _ => rfl)
noncomputable def law04.Seed.Shape.l2 (k0 k1 : Nat) (v1 : Int) (v2 : Int) (v3 : Int) (v4 : Int) (v5 : Nat) (v6 : Nat → List AV) (v7 : Int) (v8 : Int) (v9 : Nat) (v10 : Nat → List AV) (v11 : Int) : Option (Int × Int × (Nat × (Nat → (Int × Int)))) :=
  evLoop (lookH law04.Seed.Shape.hs 1) 4 (ev law04.Seed.Shape.G k0 (codeAt [1, 1, 1, 1, 1, 1, 0, 1, 0, 0] (bodyOf Try.f11)) 1) k1
  ⟨[.top, .ptr 0 0 0, .ptr 1 0 0, .val (.int .i64 v7), .val (.int .i64 v8), .ptr 2 0 0, .lst 2 v9 none v10, .top, .top, .top, .top, .top, .top, .top, .top, .top, .top, .top, .top, .top, .top, .top, .top, .top, .top, .top, .top, .top, .top, .top, .top, .top, .top, .top, .top, .top, .top, .top, .top, .val (.int .i64 v8), .val (.int .i64 v11), .top, .top, .top, .top, .top, .top, .top, .top, .top, .top, .top, .top, .top, .top, .top, .top, .top, .top, .top, .top, .top, .top, .top, .top, .top, .top, .top, .top, .top, .top, .top, .top], [.live ⟨false, 27, 4, 1, fun _ => [.val (.int .i64 v1), .val (.int .i64 v2), .val (.int .i64 v3), .val (.int .i64 v4)], none⟩, .live ⟨false, 25, 3, 1, fun _ => [.val (.int .i64 0), .val (.int .i64 0), .val (.slice none 0 0)], none⟩, .live ⟨false, 25, 3, 1, fun _ => [.val (.int .i64 2), .val (.int .i64 0), .slc 3 0 none none], none⟩, .live ⟨true, 34, 2, v5, v6, none⟩]⟩
  (kBlock 1 (kSeq law04.Seed.Shape.G k0 (codeAt [1, 1, 1, 1, 1, 1, 1] (bodyOf Try.f11)) 0 (kFin law04.Seed.Shape.G Try.f11 (tG (tCons (tI .i64) (tCons (tI .i64) (tOne (tTL Rii 2 (0, 0)))))).dec)))
theorem law04.Seed.Shape.l2_eq (k0 k1 : Nat) (v1 : Int) (v2 : Int) (v3 : Int) (v4 : Int) (v5 : Nat) (v6 : Nat → (Int × Int)) (v7 : Int) (v8 : Int) (v9 : Nat) (v10 : Nat → (Int × Int)) (v11 : Int) : law04.Seed.Shape.l2 k0 (k1 + 1) v1 v2 v3 v4 v5 (fun i => Rii.enc (v6 i)) v7 v8 v9 (fun i => Rii.enc (v10 i)) v11 =
  bif (decide (v11 < v8)) then
    bif (decide (v8 ≠ 0)) then
    bif ((decide (0 ≤ (Int.tmod (IntKind.i64.wrap ((IntKind.i64.wrap (Int.tdiv (IntKind.i64.wrap (v11 * 10)) v8)) + (Go.bits .and .i64 v4 255))) 10))) && (decide ((Int.tmod (IntKind.i64.wrap ((IntKind.i64.wrap (Int.tdiv (IntKind.i64.wrap (v11 * 10)) v8)) + (Go.bits .and .i64 v4 255))) 10) < ((v9 : Nat) : Int)))) then
    bif (decide ((v5 + 1) * 16 ≤ 140737488355328)) then
    law04.Seed.Shape.l2 k0 k1 v1 v2 v3 v4 (v5 + 1) (fun i => renL (lookF [(19, 3)] 4) (if i = v5 then Rii.enc ((IntKind.i64.wrap (Int.tdiv (IntKind.i64.wrap ((v10 (Int.toNat (Int.tmod (IntKind.i64.wrap ((IntKind.i64.wrap (Int.tdiv (IntKind.i64.wrap (v11 * 10)) v8)) + (Go.bits .and .i64 v4 255))) 10))).1 * v7)) 64)), (IntKind.i64.wrap (Int.tdiv (IntKind.i64.wrap ((v10 (Int.toNat (Int.tmod (IntKind.i64.wrap ((IntKind.i64.wrap (Int.tdiv (IntKind.i64.wrap (v11 * 10)) v8)) + (Go.bits .and .i64 v4 255))) 10))).2 * v7)) 64))) else Rii.enc (v6 i))) v7 v8 v9 (fun i => Rii.enc (v10 i)) (IntKind.i64.wrap (v11 + 1))
    else none
    else none
    else none
  else
  (tG (tCons (tI .i64) (tCons (tI .i64) (tOne (tTL Rii 2 (0, 0)))))).dec (.agg [.val (.int .i64 2), .val (.int .i64 0), .lst 2 v5 none (fun i => Rii.enc (v6 i))]) := by kernel_rfl
theorem law04.Seed.Shape.eq (k0 : Nat) (p0_0 : Int) (p0_1 : Int) (p0_2 : Int) (p0_3 : Int) : law04.Seed.Shape.g k0 (p0_0, p0_1, p0_2, p0_3) =
  bif ((Go.bits .and .i64 p0_0 3) == 0) then
    (tG (tCons (tI .i64) (tCons (tI .i64) (tOne (tTL Rii 2 (0, 0)))))).dec (.agg [.val (.int .i64 1), .val (.int .i64 (IntKind.i64.wrap (Int.tdiv (IntKind.i64.wrap ((IntKind.i64.wrap (1 + (Go.bits .and .i64 p0_2 63))) * 4294967296)) 16))), .val (.slice none 0 0)])
  else
  bif ((Go.bits .and .i64 p0_0 3) == 1) then
    (shape.Box.f ((IntKind.i64.wrap (Int.tdiv (IntKind.i64.wrap ((IntKind.i64.wrap (1 + (Go.bits .and .i64 p0_2 63))) * 4294967296)) 16)), (IntKind.i64.wrap (Int.tdiv (IntKind.i64.wrap ((IntKind.i64.wrap (1 + (Go.bits .and .i64 p0_3 31))) * 4294967296)) 16)))).bind fun r1 =>
    (tG (tCons (tI .i64) (tCons (tI .i64) (tOne (tTL Rii 2 (0, 0)))))).dec (.agg [.val (.int .i64 r1.1), .val (.int .i64 r1.2.1), .lst 2 r1.2.2.1 none (fun i => Rii.enc (r1.2.2.2 i))])
  else
  (law04.ring.f ()).bind fun r2 =>
  law04.Seed.Shape.l2 k0 k0 p0_0 p0_1 p0_2 p0_3 0 (fun _ => Rii.enc (0, 0)) (IntKind.i64.wrap (Int.tdiv (IntKind.i64.wrap ((IntKind.i64.wrap (1 + (Go.bits .and .i64 p0_2 63))) * 4294967296)) 16)) (IntKind.i64.wrap (3 + (Int.tmod (Go.bits .and .i64 p0_1 255) 6))) r2.1 (fun i => Rii.enc (r2.2 i)) 0 := by kernel_rfl
/-! ### bagatelle/bagatellelaw04.ShapeRights -/
noncomputable def law04.ShapeRights.cs : List (Nat × Fw.Summ) := [(8, law04.fit.s), (9, shape.Right.s), (10, law04.right.s), (11, law04.Seed.Shape.s)]
theorem law04.ShapeRights.cs_ok : SumsOk Try.prog law04.ShapeRights.cs := .cons law04.fit.ok (.cons shape.Right.ok (.cons law04.right.ok (.cons law04.Seed.Shape.ok (.nil))))
def law04.ShapeRights.hs : List (Nat × LHint) := []
noncomputable def law04.ShapeRights.G : Ctx := ⟨Try.prog, sumAt law04.ShapeRights.cs, lookH law04.ShapeRights.hs⟩
noncomputable def law04.ShapeRights.f (x : ((Int × Int × (Nat × (Nat → List AV))) × (Int × Int × Int × Int))) : Option Bool := evF law04.ShapeRights.G 0 Try.f3 ((tCons (tG (tCons (tI .i64) (tCons (tI .i64) (tOne (tL 2))))) (tOne (tG (tCons (tI .i64) (tCons (tI .i64) (tCons (tI .i64) (tOne (tI .i64)))))))).enc x) tB.dec
noncomputable def law04.ShapeRights.s : Fw.Summ := .mk' (tCons (tG (tCons (tI .i64) (tCons (tI .i64) (tOne (tL 2))))) (tOne (tG (tCons (tI .i64) (tCons (tI .i64) (tCons (tI .i64) (tOne (tI .i64)))))))) tB law04.ShapeRights.f
theorem law04.ShapeRights.ok : law04.ShapeRights.s.Ok Try.prog 3 :=
  summ_ok (hint := lookH law04.ShapeRights.hs) (fn := Try.f3) (fun x => 0) law04.ShapeRights.cs_ok (by kernel_rfl) (by kernel_rfl) (by kernel_rfl) (by kernel_rfl) (tCons_ok (tG_ok (tCons_ok (tI_ok _) (tCons_ok (tI_ok _) (tOne_ok (tL_ok _))))) (tOne_ok (tG_ok (tCons_ok (tI_ok _) (tCons_ok (tI_ok _) (tCons_ok (tI_ok _) (tOne_ok (tI_ok _)))))))) tB_ok (fun _ => rfl)
theorem law04.ShapeRights.eq (p0_0 : Int) (p0_1 : Int) (p0_2_n : Nat) (p0_2_g : Nat → (Int × Int)) (p1_0 : Int) (p1_1 : Int) (p1_2 : Int) (p1_3 : Int) : law04.ShapeRights.f ((p0_0, p0_1, (p0_2_n, (fun i => Rii.enc (p0_2_g i)))), (p1_0, p1_1, p1_2, p1_3)) =
  (law04.fit.f ()).bind fun r1 =>
  bif (!r1) then
    some false
  else
  bif (decide (((p0_2_n : Nat) : Int) > 12)) then
    some true
  else
  (shape.Right.f (p0_0, p0_1, (p0_2_n, (fun i => Rii.enc (p0_2_g i))))).bind fun r2 =>
  (law04.right.f (p0_0, p0_1, (p0_2_n, (fun i => Rii.enc (p0_2_g i))))).bind fun r3 =>
  bif (r2 == r3) then
    (law04.Seed.Shape.f (p1_0, p1_1, p1_2, p1_3)).bind fun r4 =>
    (shape.Right.f (r4.1, r4.2.1, (r4.2.2.1, (fun i => Rii.enc (r4.2.2.2 i))))).bind fun r5 =>
    bif r5 then
      (law04.Seed.Shape.f (p1_0, p1_1, p1_2, p1_3)).bind fun r6 =>
      (law04.right.f (r6.1, r6.2.1, (r6.2.2.1, (fun i => Rii.enc (r6.2.2.2 i))))).bind fun r7 =>
      some r7
    else
    some false
  else
  some false := by kernel_rfl
/-! ### bagatelle/shape.Copy -/
noncomputable def shape.Copy.cs : List (Nat × Fw.Summ) := []
theorem shape.Copy.cs_ok : SumsOk Try.prog shape.Copy.cs := .nil
def shape.Copy.hs : List (Nat × LHint) := []
noncomputable def shape.Copy.G : Ctx := ⟨Try.prog, sumAt shape.Copy.cs, lookH shape.Copy.hs⟩
noncomputable def shape.Copy.g (k0 : Nat) (x : (Int × Int × (Nat × (Nat → List AV)))) : Option ((Int × Int) × (Nat × (Nat → (Int × Int)))) := evW shape.Copy.G k0 Try.f18 ((tOne (tG (tCons (tI .i64) (tCons (tI .i64) (tOne (tL 2)))))).enc x) (OwnT.mk (tCons (tI .i64) (tOne (tI .i64))) Rii 34 2 (0, 0)).dec
noncomputable def shape.Copy.f (x : (Int × Int × (Nat × (Nat → List AV)))) : Option ((Int × Int) × (Nat × (Nat → (Int × Int)))) := shape.Copy.g (0) x
noncomputable def shape.Copy.s : Fw.Summ := .mkW (tOne (tG (tCons (tI .i64) (tCons (tI .i64) (tOne (tL 2)))))) (OwnT.mk (tCons (tI .i64) (tOne (tI .i64))) Rii 34 2 (0, 0)) shape.Copy.f
theorem shape.Copy.ok : shape.Copy.s.Ok Try.prog 18 :=
  wsumm_ok (hint := lookH shape.Copy.hs) (fn := Try.f18) (fun x => 0) shape.Copy.cs_ok (by kernel_rfl) (by kernel_rfl) (by kernel_rfl) (by kernel_rfl) (tOne_ok (tG_ok (tCons_ok (tI_ok _) (tCons_ok (tI_ok _) (tOne_ok (tL_ok _)))))) ⟨(tCons_ok (tI_ok _) (tOne_ok (tI_ok _))), Rii_ok⟩ (fun _ => rfl)
theorem shape.Copy.eq (k0 : Nat) (p0_0 : Int) (p0_1 : Int) (p0_2_n : Nat) (p0_2_g : Nat → (Int × Int)) : shape.Copy.g k0 (p0_0, p0_1, (p0_2_n, (fun i => Rii.enc (p0_2_g i)))) =
  bif (decide (p0_2_n * 16 ≤ 140737488355328)) then
  (OwnT.mk (tCons (tI .i64) (tOne (tI .i64))) Rii 34 2 (0, 0)).dec (.agg [.val (.int .i64 p0_0), .val (.int .i64 p0_1), .slc 0 0 none none]) ⟨true, 34, 2, p0_2_n, (fun i => cloL (if i < 0 then (fun _ => Rii.enc (0, 0)) i else (fun i => Rii.enc (p0_2_g i)) (i - 0))), none⟩
  else none := by kernel_rfl
/-! ### bagatelle/bagatellelaw04.ShapeTurned -/
noncomputable def law04.ShapeTurned.cs : List (Nat × Fw.Summ) := [(8, law04.fit.s), (11, law04.Seed.Shape.s), (9, shape.Right.s), (18, shape.Copy.s), (19, shape.Reach.s)]
theorem law04.ShapeTurned.cs_ok : SumsOk Try.prog law04.ShapeTurned.cs := .cons law04.fit.ok (.cons law04.Seed.Shape.ok (.cons shape.Right.ok (.cons shape.Copy.ok (.cons shape.Reach.ok (.nil)))))
def law04.ShapeTurned.hs : List (Nat × LHint) := [(0, { mat := [], live := [1, 5, 6, 7, 25, 26], ren := [] })]
noncomputable def law04.ShapeTurned.G : Ctx := ⟨Try.prog, sumAt law04.ShapeTurned.cs, lookH law04.ShapeTurned.hs⟩
noncomputable def law04.ShapeTurned.g (k0 : Nat) (x : ((Int × Int × Int × Int) × Int)) : Option Bool := evF law04.ShapeTurned.G k0 Try.f6 ((tCons (tG (tCons (tI .i64) (tCons (tI .i64) (tCons (tI .i64) (tOne (tI .i64)))))) (tOne (tI .i64))).enc x) tB.dec
noncomputable def law04.ShapeTurned.f (x : ((Int × Int × Int × Int) × Int)) : Option Bool := law04.ShapeTurned.g (1000000) x
noncomputable def law04.ShapeTurned.s : Fw.Summ := .mk' (tCons (tG (tCons (tI .i64) (tCons (tI .i64) (tCons (tI .i64) (tOne (tI .i64)))))) (tOne (tI .i64))) tB law04.ShapeTurned.f
theorem law04.ShapeTurned.ok : law04.ShapeTurned.s.Ok Try.prog 6 :=
  summ_ok (hint := lookH law04.ShapeTurned.hs) (fn := Try.f6) (fun x => 1000000) law04.ShapeTurned.cs_ok (by kernel_rfl) (by kernel_rfl) (by kernel_rfl) (by kernel_rfl) (tCons_ok (tG_ok (tCons_ok (tI_ok _) (tCons_ok (tI_ok _) (tCons_ok (tI_ok _) (tOne_ok (tI_ok _)))))) (tOne_ok (tI_ok _))) tB_ok (fun _ => rfl)
noncomputable def law04.ShapeTurned.l0 (k0 k1 : Nat) (v1 : Int) (v2 : Int) (v3 : Int) (v4 : Int) (v5 : Int) (v6 : Int) (v7 : Nat) (v8 : Nat → List AV) (v9 : Nat) (v10 : Nat → List AV) (v11 : Nat) (v12 : Nat → List AV) (v13 : Int) (v14 : Int) (v15 : Int) (v16 : Int) (v17 : Int) (v18 : Int) (v19 : Int) : Option Bool :=
  evLoop (lookH law04.ShapeTurned.hs 0) 10 (ev law04.ShapeTurned.G k0 (codeAt [1, 1, 1, 1, 1, 0, 1, 0, 0] (bodyOf Try.f6)) 0) k1
  ⟨[.top, .val (.int .i64 v17), .top, .top, .top, .ptr 1 0 0, .ptr 6 0 0, .ptr 7 0 0, .top, .top, .top, .top, .top, .top, .top, .top, .top, .top, .top, .top, .top, .top, .top, .top, .top, .val (.int .i64 v18), .val (.int .i64 v19), .top, .top, .top, .top, .top, .top, .top, .top, .top, .top, .top, .top, .top, .top, .top, .top, .top, .top, .top, .top, .top, .top, .top, .top, .top, .top, .top, .top, .top, .top, .top, .top, .top, .top, .top, .top, .top, .top, .top, .top, .top, .top, .top, .top, .top, .top, .top, .top, .top, .top, .top, .top, .top, .top], [.live ⟨false, 27, 4, 1, fun _ => [.val (.int .i64 v1), .val (.int .i64 v2), .val (.int .i64 v3), .val (.int .i64 v4)], none⟩, .live ⟨false, 25, 3, 1, fun _ => [.val (.int .i64 v5), .val (.int .i64 v6), .lst 2 v7 none v8], none⟩, .free, .live ⟨true, 34, 2, v9, v10, none⟩, .free, .live ⟨true, 34, 2, v11, v12, none⟩, .live ⟨false, 25, 3, 1, fun _ => [.val (.int .i64 v13), .val (.int .i64 v14), .slc 3 0 none none], none⟩, .live ⟨false, 25, 3, 1, fun _ => [.val (.int .i64 v15), .val (.int .i64 v16), .slc 5 0 none none], none⟩, .free, .free]⟩
  (kBlock 0 (kSeq law04.ShapeTurned.G k0 (codeAt [1, 1, 1, 1, 1, 1] (bodyOf Try.f6)) 0 (kFin law04.ShapeTurned.G Try.f6 tB.dec)))
theorem law04.ShapeTurned.l0_eq (k0 k1 : Nat) (v1 : Int) (v2 : Int) (v3 : Int) (v4 : Int) (v5 : Int) (v6 : Int) (v7 : Nat) (v8 : Nat → (Int × Int)) (v9 : Nat) (v10 : Nat → (Int × Int)) (v11 : Nat) (v12 : Nat → (Int × Int)) (v13 : Int) (v14 : Int) (v15 : Int) (v16 : Int) (v17 : Int) (v18 : Int) (v19 : Int) : law04.ShapeTurned.l0 k0 (k1 + 1) v1 v2 v3 v4 v5 v6 v7 (fun i => Rii.enc (v8 i)) v9 (fun i => Rii.enc (v10 i)) v11 (fun i => Rii.enc (v12 i)) v13 v14 v15 v16 v17 v18 v19 =
  bif (decide (v19 < v18)) then
    bif (decide (((v7 : Nat) : Int) ≠ 0)) then
    bif ((decide (0 ≤ (Int.tmod (IntKind.i64.wrap (v19 + (Go.bits .and .i64 v17 255))) ((v7 : Nat) : Int)))) && (decide ((Int.tmod (IntKind.i64.wrap (v19 + (Go.bits .and .i64 v17 255))) ((v7 : Nat) : Int)) < ((v7 : Nat) : Int)))) then
    bif ((decide (0 ≤ v19)) && (decide (v19 < ((v9 : Nat) : Int)))) then
    bif ((decide (0 ≤ (IntKind.i64.wrap ((IntKind.i64.wrap (((v7 : Nat) : Int) - 1)) - v19)))) && (decide ((IntKind.i64.wrap ((IntKind.i64.wrap (((v7 : Nat) : Int) - 1)) - v19)) < ((v7 : Nat) : Int)))) then
    bif ((decide (0 ≤ v19)) && (decide (v19 < ((v11 : Nat) : Int)))) then
    law04.ShapeTurned.l0 k0 k1 v1 v2 v3 v4 v5 v6 v7 (fun i => Rii.enc (v8 i)) v9 (fun i => renL (lookF [] 10) (if i = (Int.toNat v19) then Rii.enc ((v8 (Int.toNat (Int.tmod (IntKind.i64.wrap (v19 + (Go.bits .and .i64 v17 255))) ((v7 : Nat) : Int)))).1, (v8 (Int.toNat (Int.tmod (IntKind.i64.wrap (v19 + (Go.bits .and .i64 v17 255))) ((v7 : Nat) : Int)))).2) else Rii.enc (v10 i))) v11 (fun i => renL (lookF [] 10) (if i = (Int.toNat v19) then Rii.enc ((v8 (Int.toNat (IntKind.i64.wrap ((IntKind.i64.wrap (((v7 : Nat) : Int) - 1)) - v19)))).1, (v8 (Int.toNat (IntKind.i64.wrap ((IntKind.i64.wrap (((v7 : Nat) : Int) - 1)) - v19)))).2) else Rii.enc (v12 i))) v13 v14 v15 v16 v17 v18 (IntKind.i64.wrap (v19 + 1))
    else none
    else none
    else none
    else none
    else none
  else
  (shape.Right.f (v13, v14, (v9, (fun i => Rii.enc (v10 i))))).bind fun r6 =>
  bif r6 then
    (shape.Right.f (v15, v16, (v11, (fun i => Rii.enc (v12 i))))).bind fun r7 =>
    bif (!r7) then
      (shape.Reach.f (v13, v14, (v9, (fun i => Rii.enc (v10 i))))).bind fun r8 =>
      (shape.Reach.f (v5, v6, (v7, (fun i => Rii.enc (v8 i))))).bind fun r9 =>
      bif (r8 == r9) then
        (shape.Reach.f (v15, v16, (v11, (fun i => Rii.enc (v12 i))))).bind fun r10 =>
        (shape.Reach.f (v5, v6, (v7, (fun i => Rii.enc (v8 i))))).bind fun r11 =>
        some (r10 == r11)
      else
      some false
    else
    some false
  else
  some false := by kernel_rfl
theorem law04.ShapeTurned.eq (k0 : Nat) (p0_0 : Int) (p0_1 : Int) (p0_2 : Int) (p0_3 : Int) (p1 : Int) : law04.ShapeTurned.g k0 ((p0_0, p0_1, p0_2, p0_3), p1) =
  (law04.fit.f ()).bind fun r1 =>
  bif (!r1) then
    some false
  else
  (law04.Seed.Shape.f (p0_0, p0_1, p0_2, p0_3)).bind fun r2 =>
  bif (((r2.2.2.1 : Nat) : Int) == 0) then
    (shape.Right.f (r2.1, r2.2.1, (r2.2.2.1, (fun i => Rii.enc (r2.2.2.2 i))))).bind fun r3 =>
    some r3
  else
  (shape.Copy.f (r2.1, r2.2.1, (r2.2.2.1, (fun i => Rii.enc (r2.2.2.2 i))))).bind fun r4 =>
  (shape.Copy.f (r2.1, r2.2.1, (r2.2.2.1, (fun i => Rii.enc (r2.2.2.2 i))))).bind fun r5 =>
  law04.ShapeTurned.l0 k0 k0 p0_0 p0_1 p0_2 p0_3 r2.1 r2.2.1 r2.2.2.1 (fun i => Rii.enc (r2.2.2.2 i)) r4.2.1 (fun i => Rii.enc (r4.2.2 i)) r5.2.1 (fun i => Rii.enc (r5.2.2 i)) r4.1.1 r4.1.2 r5.1.1 r5.1.2 p1 ((r2.2.2.1 : Nat) : Int) 0 := by kernel_rfl
end Go.Proofs.Ytbdkcjikphlgfaa.E
