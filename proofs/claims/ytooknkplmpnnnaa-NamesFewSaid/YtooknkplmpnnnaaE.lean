import Derived.Test.YtooknkplmpnnnaaFwW
import Derived.Test.YtooknkplmpnnnaaProg
namespace Go.Proofs.Ytooknkplmpnnnaa.E
open Go Go.Proofs Go.Proofs.Ytooknkplmpnnnaa.Fw Go.RowKit
set_option maxRecDepth 100000
set_option linter.unusedVariables false
def Strc9c2d315 : ByteArray := ByteArray.mk #[99, 48, 48, 48, 48, 48, 48, 48, 48, 48, 48, 48, 48, 48, 48, 102, 102]
def Str68c4f033 : ByteArray := ByteArray.mk #[48, 49, 50, 51, 52, 53, 54, 55, 56, 57, 97, 98, 99, 100, 101, 102]
def Str763127e3 : ByteArray := ByteArray.mk #[52, 48, 48, 48, 48, 48, 48, 48, 48, 48, 48, 48, 48, 48, 48, 48]
def Ry : TyL Int := (tOne (tI .u8))
theorem Ry_ok : Ry.Ok := (tOne_ok (tI_ok _))
theorem Ry_ren (f : Nat → Option Nat) (x : Int) : renL f (Ry.enc x) = Ry.enc x := by kernel_rfl
theorem Ry_clo (x : Int) : cloL (Ry.enc x) = Ry.enc x := by kernel_rfl
theorem Ry_dec (x : Int) : Ry.dec (Ry.enc x) = some x := by kernel_rfl
/-! ### bagatelle/names.digits -/
noncomputable def names.digits.cs : List (Nat × Fw.Summ) := []
theorem names.digits.cs_ok : SumsOk Try.prog names.digits.cs := .nil
def names.digits.hs : List (Nat × LHint) := []
noncomputable def names.digits.G : Ctx := ⟨Try.prog, sumAt names.digits.cs, lookH names.digits.hs⟩
noncomputable def names.digits.f (x : Unit) : Option (Int × Int × Int × Int × Int × Int × Int × Int × Int × Int × Int × Int × Int × Int × Int × Int) := evF names.digits.G 0 Try.f15 (tNil.enc x) (tG (tCons (tI .u8) (tCons (tI .u8) (tCons (tI .u8) (tCons (tI .u8) (tCons (tI .u8) (tCons (tI .u8) (tCons (tI .u8) (tCons (tI .u8) (tCons (tI .u8) (tCons (tI .u8) (tCons (tI .u8) (tCons (tI .u8) (tCons (tI .u8) (tCons (tI .u8) (tCons (tI .u8) (tOne (tI .u8)))))))))))))))))).dec
noncomputable def names.digits.s : Fw.Summ := .mk' tNil (tG (tCons (tI .u8) (tCons (tI .u8) (tCons (tI .u8) (tCons (tI .u8) (tCons (tI .u8) (tCons (tI .u8) (tCons (tI .u8) (tCons (tI .u8) (tCons (tI .u8) (tCons (tI .u8) (tCons (tI .u8) (tCons (tI .u8) (tCons (tI .u8) (tCons (tI .u8) (tCons (tI .u8) (tOne (tI .u8)))))))))))))))))) names.digits.f
theorem names.digits.ok : names.digits.s.Ok Try.prog 15 :=
  summ_ok (hint := lookH names.digits.hs) (fn := Try.f15) (fun x => 0) names.digits.cs_ok (by kernel_rfl) (by kernel_rfl) (by kernel_rfl) (by kernel_rfl) tNil_ok (tG_ok (tCons_ok (tI_ok _) (tCons_ok (tI_ok _) (tCons_ok (tI_ok _) (tCons_ok (tI_ok _) (tCons_ok (tI_ok _) (tCons_ok (tI_ok _) (tCons_ok (tI_ok _) (tCons_ok (tI_ok _) (tCons_ok (tI_ok _) (tCons_ok (tI_ok _) (tCons_ok (tI_ok _) (tCons_ok (tI_ok _) (tCons_ok (tI_ok _) (tCons_ok (tI_ok _) (tCons_ok (tI_ok _) (tOne_ok (tI_ok _)))))))))))))))))) (fun _ => rfl)
theorem names.digits.eq  : names.digits.f () =
  some (48, 49, 50, 51, 52, 53, 54, 55, 56, 57, 97, 98, 99, 100, 101, 102) := by kernel_rfl
/-! ### bagatelle/names.name -/
noncomputable def names.name.cs : List (Nat × Fw.Summ) := [(15, names.digits.s)]
theorem names.name.cs_ok : SumsOk Try.prog names.name.cs := .cons names.digits.ok (.nil)
def names.name.hs : List (Nat × LHint) := [(0, { mat := [], live := [1, 5, 6], ren := [(.tmp 5, 0)] })]
noncomputable def names.name.G : Ctx := ⟨Try.prog, sumAt names.name.cs, lookH names.name.hs⟩
noncomputable def names.name.g (k0 : Nat) (x : (Int × Int)) : Option ByteArray := evF names.name.G k0 Try.f14 ((tCons (tI .u8) (tOne (tI .i64))).enc x) tS.dec
noncomputable def names.name.f (x : (Int × Int)) : Option ByteArray := names.name.g (1000000) x
noncomputable def names.name.s : Fw.Summ := .mk' (tCons (tI .u8) (tOne (tI .i64))) tS names.name.f
theorem names.name.ok : names.name.s.Ok Try.prog 14 :=
  summ_ok (hint := lookH names.name.hs) (fn := Try.f14) (fun x => 1000000) names.name.cs_ok (by kernel_rfl) (by kernel_rfl) (by kernel_rfl) (by kernel_rfl) (tCons_ok (tI_ok _) (tOne_ok (tI_ok _))) tS_ok (fun _ => rfl)
noncomputable def names.name.l1 (k0 k1 : Nat) (v1 : Nat) (v2 : Nat → List AV) (v3 : Int) (v4 : Int) : Option ByteArray :=
  evLoop (lookH names.name.hs 0) 1 (ev names.name.G k0 (codeAt [1, 1, 0, 1, 0, 0] (bodyOf Try.f14)) 0) k1
  ⟨[.top, .val (.int .i64 v3), .top, .top, .top, .slc 0 0 none none, .val (.int .i64 v4), .top, .top, .top, .top, .top, .top, .top, .top, .top, .top, .top, .top, .top, .top, .top, .top, .top], [.live ⟨true, 5, 1, v1, v2, none⟩]⟩
  (kBlock 0 (kSeq names.name.G k0 (codeAt [1, 1, 1] (bodyOf Try.f14)) 0 (kFin names.name.G Try.f14 tS.dec)))
theorem names.name.l1_eq (k0 k1 : Nat) (v1 : Nat) (v2 : Nat → Int) (v3 : Int) (v4 : Int) : names.name.l1 k0 (k1 + 1) v1 (fun i => Ry.enc (v2 i)) v3 v4 =
  bif (decide (v4 ≥ 0)) then
    (names.digits.f ()).bind fun r1 =>
    bif (decide (0 ≤ v4)) then
    bif ((decide (0 ≤ (Go.bits .and .i64 (Int.fdiv v3 (2 ^ (min (Int.toNat v4) 64))) 15))) && (decide ((Go.bits .and .i64 (Int.fdiv v3 (2 ^ (min (Int.toNat v4) 64))) 15) < 16))) then
    bif (decide ((v1 + 1) * 1 ≤ 140737488355328)) then
    names.name.l1 k0 k1 (v1 + 1) (fun i => renL (lookF [(9, 0)] 1) (if i = v1 then Ry.enc (List.getD [r1.1, r1.2.1, r1.2.2.1, r1.2.2.2.1, r1.2.2.2.2.1, r1.2.2.2.2.2.1, r1.2.2.2.2.2.2.1, r1.2.2.2.2.2.2.2.1, r1.2.2.2.2.2.2.2.2.1, r1.2.2.2.2.2.2.2.2.2.1, r1.2.2.2.2.2.2.2.2.2.2.1, r1.2.2.2.2.2.2.2.2.2.2.2.1, r1.2.2.2.2.2.2.2.2.2.2.2.2.1, r1.2.2.2.2.2.2.2.2.2.2.2.2.2.1, r1.2.2.2.2.2.2.2.2.2.2.2.2.2.2.1, r1.2.2.2.2.2.2.2.2.2.2.2.2.2.2.2] (Int.toNat (Go.bits .and .i64 (Int.fdiv v3 (2 ^ (min (Int.toNat v4) 64))) 15)) 0) else Ry.enc (v2 i))) v3 (IntKind.i64.wrap (v4 - 4))
    else none
    else none
    else none
  else
  bif (u8ok v1 (fun i => Ry.enc (v2 i))) then
  some (strOf v1 (fun i => Ry.enc (v2 i)))
  else none := by kernel_rfl
theorem names.name.eq (k0 : Nat) (p0 : Int) (p1 : Int) : names.name.g k0 (p0, p1) =
  names.name.l1 k0 k0 1 (fun i => renL (lookF [] 1) (List.getD (List.map Ry.enc [p0]) i (Ry.enc 0))) p1 60 := by kernel_rfl
/-! ### bagatelle/names.Segment -/
noncomputable def names.Segment.cs : List (Nat × Fw.Summ) := [(14, names.name.s)]
theorem names.Segment.cs_ok : SumsOk Try.prog names.Segment.cs := .cons names.name.ok (.nil)
def names.Segment.hs : List (Nat × LHint) := []
noncomputable def names.Segment.G : Ctx := ⟨Try.prog, sumAt names.Segment.cs, lookH names.Segment.hs⟩
noncomputable def names.Segment.f (x : Int) : Option ByteArray := evF names.Segment.G 0 Try.f10 ((tOne (tI .i64)).enc x) tS.dec
noncomputable def names.Segment.s : Fw.Summ := .mk' (tOne (tI .i64)) tS names.Segment.f
theorem names.Segment.ok : names.Segment.s.Ok Try.prog 10 :=
  summ_ok (hint := lookH names.Segment.hs) (fn := Try.f10) (fun x => 0) names.Segment.cs_ok (by kernel_rfl) (by kernel_rfl) (by kernel_rfl) (by kernel_rfl) (tOne_ok (tI_ok _)) tS_ok (fun _ => rfl)
theorem names.Segment.eq (p0 : Int) : names.Segment.f p0 =
  (names.name.f (106, p0)).bind fun r1 =>
  some r1 := by kernel_rfl
/-! ### slices.Index[[]byte,byte] -/
noncomputable def slices.Index__byte_byte.cs : List (Nat × Fw.Summ) := []
theorem slices.Index__byte_byte.cs_ok : SumsOk Try.prog slices.Index__byte_byte.cs := .nil
def slices.Index__byte_byte.hs : List (Nat × LHint) := [(0, { mat := [], live := [0, 1, 7, 8], ren := [] })]
noncomputable def slices.Index__byte_byte.G : Ctx := ⟨Try.prog, sumAt slices.Index__byte_byte.cs, lookH slices.Index__byte_byte.hs⟩
noncomputable def slices.Index__byte_byte.g (k0 : Nat) (x : ((Nat × (Nat → List AV)) × Int)) : Option Int := evF slices.Index__byte_byte.G k0 Try.f16 ((tCons (tL 1) (tOne (tI .u8))).enc x) (tI .i64).dec
noncomputable def slices.Index__byte_byte.f (x : ((Nat × (Nat → List AV)) × Int)) : Option Int := slices.Index__byte_byte.g (1000000) x
noncomputable def slices.Index__byte_byte.s : Fw.Summ := .mk' (tCons (tL 1) (tOne (tI .u8))) (tI .i64) slices.Index__byte_byte.f
theorem slices.Index__byte_byte.ok : slices.Index__byte_byte.s.Ok Try.prog 16 :=
  summ_ok (hint := lookH slices.Index__byte_byte.hs) (fn := Try.f16) (fun x => 1000000) slices.Index__byte_byte.cs_ok (by kernel_rfl) (by kernel_rfl) (by kernel_rfl) (by kernel_rfl) (tCons_ok (tL_ok _) (tOne_ok (tI_ok _))) (tI_ok _) (fun _ => rfl)
noncomputable def slices.Index__byte_byte.l0 (k0 k1 : Nat) (v1 : Nat) (v2 : Nat → List AV) (v3 : Int) (v4 : Int) (v5 : Int) : Option Int :=
  evLoop (lookH slices.Index__byte_byte.hs 0) 0 (ev slices.Index__byte_byte.G k0 (codeAt [1, 0, 1, 0, 0] (bodyOf Try.f16)) 0) k1
  ⟨[.lst 1 v1 none v2, .val (.int .u8 v3), .top, .top, .top, .top, .top, .val (.int .i64 v4), .val (.int .i64 v5), .top, .top, .top, .top, .top, .top, .top, .top, .top, .top], []⟩
  (kBlock 0 (kSeq slices.Index__byte_byte.G k0 (codeAt [1, 1] (bodyOf Try.f16)) 0 (kFin slices.Index__byte_byte.G Try.f16 (tI .i64).dec)))
theorem slices.Index__byte_byte.l0_eq (k0 k1 : Nat) (v1 : Nat) (v2 : Nat → Int) (v3 : Int) (v4 : Int) (v5 : Int) : slices.Index__byte_byte.l0 k0 (k1 + 1) v1 (fun i => Ry.enc (v2 i)) v3 v4 v5 =
  bif (decide (v5 < v4)) then
    bif ((decide (0 ≤ v5)) && (decide (v5 < ((v1 : Nat) : Int)))) then
    bif (v3 == (v2 (Int.toNat v5))) then
      some v5
    else
    slices.Index__byte_byte.l0 k0 k1 v1 (fun i => Ry.enc (v2 i)) v3 v4 (IntKind.i64.wrap (v5 + 1))
    else none
  else
  some (-1) := by kernel_rfl
theorem slices.Index__byte_byte.eq (k0 : Nat) (p0_n : Nat) (p0_g : Nat → Int) (p1 : Int) : slices.Index__byte_byte.g k0 ((p0_n, (fun i => Ry.enc (p0_g i))), p1) =
  slices.Index__byte_byte.l0 k0 k0 p0_n (fun i => Ry.enc (p0_g i)) p1 ((p0_n : Nat) : Int) 0 := by kernel_rfl
/-! ### bagatelle/names.Parse -/
noncomputable def names.Parse.cs : List (Nat × Fw.Summ) := [(15, names.digits.s), (16, slices.Index__byte_byte.s)]
theorem names.Parse.cs_ok : SumsOk Try.prog names.Parse.cs := .cons names.digits.ok (.cons slices.Index__byte_byte.ok (.nil))
def names.Parse.hs : List (Nat × LHint) := [(0, { mat := [], live := [0, 5, 25, 26, 27], ren := [] })]
noncomputable def names.Parse.G : Ctx := ⟨Try.prog, sumAt names.Parse.cs, lookH names.Parse.hs⟩
noncomputable def names.Parse.g (k0 : Nat) (x : ByteArray) : Option (Int × Int × Bool) := evF names.Parse.G k0 Try.f11 ((tOne tS).enc x) (tT (tCons (tI .u8) (tCons (tI .i64) (tOne tB)))).dec
noncomputable def names.Parse.f (x : ByteArray) : Option (Int × Int × Bool) := names.Parse.g (1000000) x
noncomputable def names.Parse.s : Fw.Summ := .mk' (tOne tS) (tT (tCons (tI .u8) (tCons (tI .i64) (tOne tB)))) names.Parse.f
theorem names.Parse.ok : names.Parse.s.Ok Try.prog 11 :=
  summ_ok (hint := lookH names.Parse.hs) (fn := Try.f11) (fun x => 1000000) names.Parse.cs_ok (by kernel_rfl) (by kernel_rfl) (by kernel_rfl) (by kernel_rfl) (tOne_ok tS_ok) (tT_ok (tCons_ok (tI_ok _) (tCons_ok (tI_ok _) (tOne_ok tB_ok)))) (fun _ => rfl)
noncomputable def names.Parse.l0 (k0 k1 : Nat) (v1 : Nat) (v2 : Nat → List AV) (v3 : ByteArray) (v4 : Int) (v5 : Int) (v6 : Int) : Option (Int × Int × Bool) :=
  evLoop (lookH names.Parse.hs 0) 1 (ev names.Parse.G k0 (codeAt [1, 1, 1, 0, 1, 0, 0] (bodyOf Try.f11)) 0) k1
  ⟨[.val (.string v3), .top, .top, .top, .top, .val (.int .u64 v4), .top, .top, .top, .top, .top, .top, .top, .top, .top, .top, .top, .top, .top, .top, .top, .top, .top, .top, .top, .slc 0 0 none none, .val (.int .i64 v5), .val (.int .i64 v6), .top, .top, .top, .top, .top, .top, .top, .top, .top, .top, .top, .top, .top, .top, .top, .top, .top, .top, .top, .top, .top], [.live ⟨true, 5, 1, v1, v2, none⟩]⟩
  (kBlock 0 (kSeq names.Parse.G k0 (codeAt [1, 1, 1, 1] (bodyOf Try.f11)) 0 (kFin names.Parse.G Try.f11 (tT (tCons (tI .u8) (tCons (tI .i64) (tOne tB)))).dec)))
theorem names.Parse.l0_eq (k0 k1 : Nat) (v1 : Nat) (v2 : Nat → Int) (v3 : ByteArray) (v4 : Int) (v5 : Int) (v6 : Int) : names.Parse.l0 k0 (k1 + 1) v1 (fun i => Ry.enc (v2 i)) v3 v4 v5 v6 =
  bif (decide (v6 < v5)) then
    bif ((decide (0 ≤ v6)) && (decide (v6 < ((v1 : Nat) : Int)))) then
    (names.digits.f ()).bind fun r1 =>
    (slices.Index__byte_byte.f ((16, (fun i => Ry.enc (List.getD [r1.1, r1.2.1, r1.2.2.1, r1.2.2.2.1, r1.2.2.2.2.1, r1.2.2.2.2.2.1, r1.2.2.2.2.2.2.1, r1.2.2.2.2.2.2.2.1, r1.2.2.2.2.2.2.2.2.1, r1.2.2.2.2.2.2.2.2.2.1, r1.2.2.2.2.2.2.2.2.2.2.1, r1.2.2.2.2.2.2.2.2.2.2.2.1, r1.2.2.2.2.2.2.2.2.2.2.2.2.1, r1.2.2.2.2.2.2.2.2.2.2.2.2.2.1, r1.2.2.2.2.2.2.2.2.2.2.2.2.2.2.1, r1.2.2.2.2.2.2.2.2.2.2.2.2.2.2.2] i 0))), (v2 (Int.toNat v6)))).bind fun r2 =>
    bif (decide (r2 < 0)) then
      some (0, 0, false)
    else
    names.Parse.l0 k0 k1 v1 (fun i => Ry.enc (v2 i)) v3 (Go.bits .or .u64 (IntKind.u64.wrap (v4 * 2 ^ 4)) (IntKind.u64.wrap r2)) v5 (IntKind.i64.wrap (v6 + 1))
    else none
  else
  bif (decide (v4 > 4611686018427387904)) then
    some (0, 0, false)
  else
  bif (decide (0 < ((ByteArray.size v3 : Nat) : Int))) then
  some ((strB v3 0), (IntKind.i64.wrap v4), true)
  else none := by kernel_rfl
theorem names.Parse.eq (k0 : Nat) (p0 : ByteArray) : names.Parse.g k0 p0 =
  bif (((ByteArray.size p0 : Nat) : Int) != 17) then
    some (0, 0, false)
  else
  bif (decide (0 < ((ByteArray.size p0 : Nat) : Int))) then
  bif ((strB p0 0) != 99) then
    bif (decide (0 < ((ByteArray.size p0 : Nat) : Int))) then
    bif ((strB p0 0) != 106) then
      some (0, 0, false)
    else
    bif (decide (1 ≤ ((ByteArray.size p0 : Nat) : Int))) then
    names.Parse.l0 k0 k0 (ByteArray.size (ByteArray.extract p0 1 (ByteArray.size p0))) (fun i => Ry.enc ((strB (ByteArray.extract p0 1 (ByteArray.size p0))) i)) p0 0 (((ByteArray.size (ByteArray.extract p0 1 (ByteArray.size p0))) : Nat) : Int) 0
    else none
    else none
  else
  bif (decide (1 ≤ ((ByteArray.size p0 : Nat) : Int))) then
  names.Parse.l0 k0 k0 (ByteArray.size (ByteArray.extract p0 1 (ByteArray.size p0))) (fun i => Ry.enc ((strB (ByteArray.extract p0 1 (ByteArray.size p0))) i)) p0 0 (((ByteArray.size (ByteArray.extract p0 1 (ByteArray.size p0))) : Nat) : Int) 0
  else none
  else none := by kernel_rfl
/-! ### bagatelle/names.Check -/
noncomputable def names.Check.cs : List (Nat × Fw.Summ) := [(14, names.name.s)]
theorem names.Check.cs_ok : SumsOk Try.prog names.Check.cs := .cons names.name.ok (.nil)
def names.Check.hs : List (Nat × LHint) := []
noncomputable def names.Check.G : Ctx := ⟨Try.prog, sumAt names.Check.cs, lookH names.Check.hs⟩
noncomputable def names.Check.f (x : Int) : Option ByteArray := evF names.Check.G 0 Try.f9 ((tOne (tI .i64)).enc x) tS.dec
noncomputable def names.Check.s : Fw.Summ := .mk' (tOne (tI .i64)) tS names.Check.f
theorem names.Check.ok : names.Check.s.Ok Try.prog 9 :=
  summ_ok (hint := lookH names.Check.hs) (fn := Try.f9) (fun x => 0) names.Check.cs_ok (by kernel_rfl) (by kernel_rfl) (by kernel_rfl) (by kernel_rfl) (tOne_ok (tI_ok _)) tS_ok (fun _ => rfl)
theorem names.Check.eq (p0 : Int) : names.Check.f p0 =
  (names.name.f (99, p0)).bind fun r1 =>
  some r1 := by kernel_rfl
/-! ### bagatelle/bagatellelaw18.fit -/
noncomputable def law18.fit.cs : List (Nat × Fw.Summ) := [(10, names.Segment.s), (11, names.Parse.s), (9, names.Check.s)]
theorem law18.fit.cs_ok : SumsOk Try.prog law18.fit.cs := .cons names.Segment.ok (.cons names.Parse.ok (.cons names.Check.ok (.nil)))
def law18.fit.hs : List (Nat × LHint) := []
noncomputable def law18.fit.G : Ctx := ⟨Try.prog, sumAt law18.fit.cs, lookH law18.fit.hs⟩
noncomputable def law18.fit.f (x : Unit) : Option Bool := evF law18.fit.G 0 Try.f7 (tNil.enc x) tB.dec
noncomputable def law18.fit.s : Fw.Summ := .mk' tNil tB law18.fit.f
theorem law18.fit.ok : law18.fit.s.Ok Try.prog 7 :=
  summ_ok (hint := lookH law18.fit.hs) (fn := Try.f7) (fun x => 0) law18.fit.cs_ok (by kernel_rfl) (by kernel_rfl) (by kernel_rfl) (by kernel_rfl) tNil_ok tB_ok (fun _ => rfl)
theorem law18.fit.eq  : law18.fit.f () =
  (names.Segment.f 255).bind fun r1 =>
  (names.Parse.f r1).bind fun r2 =>
  (names.Check.f 255).bind fun r3 =>
  bif (ByteArray.toList r3 == ByteArray.toList Strc9c2d315) then
    bif r2.2.2 then
      bif (r2.1 == 106) then
        some (r2.2.1 == 255)
      else
      some false
    else
    some false
  else
  some false := by kernel_rfl
/-! ### bagatelle/bagatellelaw18.may -/
noncomputable def law18.may.cs : List (Nat × Fw.Summ) := []
theorem law18.may.cs_ok : SumsOk Try.prog law18.may.cs := .nil
def law18.may.hs : List (Nat × LHint) := []
noncomputable def law18.may.G : Ctx := ⟨Try.prog, sumAt law18.may.cs, lookH law18.may.hs⟩
noncomputable def law18.may.f (x : Int) : Option Int := evF law18.may.G 0 Try.f8 ((tOne (tI .i64)).enc x) (tI .i64).dec
noncomputable def law18.may.s : Fw.Summ := .mk' (tOne (tI .i64)) (tI .i64) law18.may.f
theorem law18.may.ok : law18.may.s.Ok Try.prog 8 :=
  summ_ok (hint := lookH law18.may.hs) (fn := Try.f8) (fun x => 0) law18.may.cs_ok (by kernel_rfl) (by kernel_rfl) (by kernel_rfl) (by kernel_rfl) (tOne_ok (tI_ok _)) (tI_ok _) (fun _ => rfl)
theorem law18.may.eq (p0 : Int) : law18.may.f p0 =
  bif (decide (p0 < 0)) then
    some (if 4611686018427387904 < (IntKind.i64.wrap (0 - (IntKind.i64.wrap (p0 + 1)))) then 4611686018427387904 else (IntKind.i64.wrap (0 - (IntKind.i64.wrap (p0 + 1)))))
  else
  some (if 4611686018427387904 < p0 then 4611686018427387904 else p0) := by kernel_rfl
/-! ### bagatelle/bagatellelaw18.told -/
noncomputable def law18.told.cs : List (Nat × Fw.Summ) := []
theorem law18.told.cs_ok : SumsOk Try.prog law18.told.cs := .nil
def law18.told.hs : List (Nat × LHint) := [(0, { mat := [], live := [0, 1, 5, 6], ren := [] })]
noncomputable def law18.told.G : Ctx := ⟨Try.prog, sumAt law18.told.cs, lookH law18.told.hs⟩
noncomputable def law18.told.g (k0 : Nat) (x : (ByteArray × Int)) : Option ByteArray := evF law18.told.G k0 Try.f12 ((tCons tS (tOne (tI .i64))).enc x) tS.dec
noncomputable def law18.told.f (x : (ByteArray × Int)) : Option ByteArray := law18.told.g (1000000) x
noncomputable def law18.told.s : Fw.Summ := .mk' (tCons tS (tOne (tI .i64))) tS law18.told.f
theorem law18.told.ok : law18.told.s.Ok Try.prog 12 :=
  summ_ok (hint := lookH law18.told.hs) (fn := Try.f12) (fun x => 1000000) law18.told.cs_ok (by kernel_rfl) (by kernel_rfl) (by kernel_rfl) (by kernel_rfl) (tCons_ok tS_ok (tOne_ok (tI_ok _))) tS_ok (fun _ => rfl)
noncomputable def law18.told.l0 (k0 k1 : Nat) (v1 : ByteArray) (v2 : Int) (v3 : ByteArray) (v4 : Int) : Option ByteArray :=
  evLoop (lookH law18.told.hs 0) 0 (ev law18.told.G k0 (codeAt [1, 1, 0, 1, 0, 0] (bodyOf Try.f12)) 0) k1
  ⟨[.val (.string v1), .val (.int .i64 v2), .top, .top, .top, .val (.string v3), .val (.int .i64 v4), .top, .top, .top, .top, .top, .top, .top, .top, .top, .top, .top, .top, .top, .top, .top], []⟩
  (kBlock 0 (kSeq law18.told.G k0 (codeAt [1, 1, 1] (bodyOf Try.f12)) 0 (kFin law18.told.G Try.f12 tS.dec)))
theorem law18.told.l0_eq (k0 k1 : Nat) (v1 : ByteArray) (v2 : Int) (v3 : ByteArray) (v4 : Int) : law18.told.l0 k0 (k1 + 1) v1 v2 v3 v4 =
  bif (decide (v4 < 16)) then
    bif (((decide (0 ≤ (IntKind.i64.wrap ((Go.bits .and .i64 v2 15) + 1)))) && (decide ((IntKind.i64.wrap ((Go.bits .and .i64 v2 15) + 1)) ≤ 16))) && ((decide (0 ≤ (Go.bits .and .i64 v2 15))) && (decide ((Go.bits .and .i64 v2 15) ≤ (IntKind.i64.wrap ((Go.bits .and .i64 v2 15) + 1)))))) then
    bif (decide (ByteArray.size (ByteArray.extract Str68c4f033 (Int.toNat (Go.bits .and .i64 v2 15)) (Int.toNat (IntKind.i64.wrap ((Go.bits .and .i64 v2 15) + 1)))) + ByteArray.size v3 ≤ 9223372036854775807)) then
    law18.told.l0 k0 k1 v1 (Int.fdiv v2 (2 ^ 4)) ((ByteArray.extract Str68c4f033 (Int.toNat (Go.bits .and .i64 v2 15)) (Int.toNat (IntKind.i64.wrap ((Go.bits .and .i64 v2 15) + 1)))) ++ v3) (IntKind.i64.wrap (v4 + 1))
    else none
    else none
  else
  bif (decide (ByteArray.size v1 + ByteArray.size v3 ≤ 9223372036854775807)) then
  some (v1 ++ v3)
  else none := by kernel_rfl
theorem law18.told.eq (k0 : Nat) (p0 : ByteArray) (p1 : Int) : law18.told.g k0 (p0, p1) =
  law18.told.l0 k0 k0 p0 p1 (ByteArray.mk #[]) 0 := by kernel_rfl
/-! ### bagatelle/bagatellelaw18.NamesBack -/
noncomputable def law18.NamesBack.cs : List (Nat × Fw.Summ) := [(7, law18.fit.s), (8, law18.may.s), (9, names.Check.s), (10, names.Segment.s), (11, names.Parse.s), (12, law18.told.s)]
theorem law18.NamesBack.cs_ok : SumsOk Try.prog law18.NamesBack.cs := .cons law18.fit.ok (.cons law18.may.ok (.cons names.Check.ok (.cons names.Segment.ok (.cons names.Parse.ok (.cons law18.told.ok (.nil))))))
def law18.NamesBack.hs : List (Nat × LHint) := []
noncomputable def law18.NamesBack.G : Ctx := ⟨Try.prog, sumAt law18.NamesBack.cs, lookH law18.NamesBack.hs⟩
noncomputable def law18.NamesBack.f (x : (Int × Int)) : Option Bool := evF law18.NamesBack.G 0 Try.f3 ((tCons (tI .i64) (tOne (tI .i64))).enc x) tB.dec
noncomputable def law18.NamesBack.s : Fw.Summ := .mk' (tCons (tI .i64) (tOne (tI .i64))) tB law18.NamesBack.f
theorem law18.NamesBack.ok : law18.NamesBack.s.Ok Try.prog 3 :=
  summ_ok (hint := lookH law18.NamesBack.hs) (fn := Try.f3) (fun x => 0) law18.NamesBack.cs_ok (by kernel_rfl) (by kernel_rfl) (by kernel_rfl) (by kernel_rfl) (tCons_ok (tI_ok _) (tOne_ok (tI_ok _))) tB_ok (fun _ => rfl)
theorem law18.NamesBack.eq (p0 : Int) (p1 : Int) : law18.NamesBack.f (p0, p1) =
  (law18.fit.f ()).bind fun r1 =>
  bif (!r1) then
    some false
  else
  (law18.may.f p0).bind fun r2 =>
  (law18.may.f p1).bind fun r3 =>
  (names.Check.f r2).bind fun r4 =>
  (names.Segment.f r2).bind fun r5 =>
  (names.Parse.f r4).bind fun r6 =>
  (names.Parse.f r5).bind fun r7 =>
  (law18.told.f ((ByteArray.mk #[99]), r2)).bind fun r8 =>
  bif (!(ByteArray.toList r4 == ByteArray.toList r8)) then
    some false
  else
  (law18.told.f ((ByteArray.mk #[106]), r2)).bind fun r9 =>
  bif (!(ByteArray.toList r5 == ByteArray.toList r9)) then
    some false
  else
  bif (!r6.2.2) then
    some false
  else
  bif (!r7.2.2) then
    some false
  else
  bif (r6.1 != 99) then
    some false
  else
  bif (r7.1 != 106) then
    some false
  else
  bif (r6.2.1 != r2) then
    some false
  else
  bif (r7.2.1 != r2) then
    some false
  else
  (names.Check.f r3).bind fun r10 =>
  bif ((Go.Op.bytesLess (ByteArray.toList r10) (ByteArray.toList r4)) == (decide (r3 < r2))) then
    (names.Check.f r3).bind fun r11 =>
    some ((ByteArray.toList r11 == ByteArray.toList r4) == (r3 == r2))
  else
  some false := by kernel_rfl
/-! ### bagatelle/bagatellelaw18.NamesAny -/
noncomputable def law18.NamesAny.cs : List (Nat × Fw.Summ) := [(7, law18.fit.s), (11, names.Parse.s), (9, names.Check.s), (10, names.Segment.s)]
theorem law18.NamesAny.cs_ok : SumsOk Try.prog law18.NamesAny.cs := .cons law18.fit.ok (.cons names.Parse.ok (.cons names.Check.ok (.cons names.Segment.ok (.nil))))
def law18.NamesAny.hs : List (Nat × LHint) := [(0, { mat := [], live := [0, 6, 7], ren := [] })]
noncomputable def law18.NamesAny.G : Ctx := ⟨Try.prog, sumAt law18.NamesAny.cs, lookH law18.NamesAny.hs⟩
noncomputable def law18.NamesAny.g (k0 : Nat) (x : ByteArray) : Option Bool := evF law18.NamesAny.G k0 Try.f4 ((tOne tS).enc x) tB.dec
noncomputable def law18.NamesAny.f (x : ByteArray) : Option Bool := law18.NamesAny.g (1000000) x
noncomputable def law18.NamesAny.s : Fw.Summ := .mk' (tOne tS) tB law18.NamesAny.f
theorem law18.NamesAny.ok : law18.NamesAny.s.Ok Try.prog 4 :=
  summ_ok (hint := lookH law18.NamesAny.hs) (fn := Try.f4) (fun x => 1000000) law18.NamesAny.cs_ok (by kernel_rfl) (by kernel_rfl) (by kernel_rfl) (by kernel_rfl) (tOne_ok tS_ok) tB_ok (fun _ => rfl)
noncomputable def law18.NamesAny.l0 (k0 k1 : Nat) (v1 : ByteArray) (v2 : Bool) (v3 : Int) : Option Bool :=
  evLoop (lookH law18.NamesAny.hs 0) 0 (ev law18.NamesAny.G k0 (codeAt [1, 1, 1, 0, 1, 0, 1, 1, 0, 1, 0, 0] (bodyOf Try.f4)) 0) k1
  ⟨[.val (.string v1), .top, .top, .top, .top, .top, .val (.bool v2), .val (.int .i64 v3), .top, .top, .top, .top, .top, .top, .top, .top, .top, .top, .top, .top, .top, .top, .top, .top, .top, .top, .top, .top, .top, .top, .top, .top, .top, .top, .top, .top, .top, .top, .top, .top, .top, .top, .top, .top, .top, .top, .top, .top, .top, .top, .top, .top, .top, .top, .top, .top, .top, .top, .top, .top, .top, .top, .top, .top, .top, .top, .top, .top, .top, .top, .top, .top, .top, .top, .top, .top, .top, .top, .top, .top, .top, .top, .top, .top, .top, .top, .top, .top, .top, .top, .top, .top, .top, .top, .top, .top, .top, .top, .top, .top, .top, .top, .top, .top, .top], []⟩
  (kBlock 0 (kSeq law18.NamesAny.G k0 (codeAt [1, 1, 1, 0, 1, 0, 1, 1, 1] (bodyOf Try.f4)) 0 (kSeq law18.NamesAny.G k0 (codeAt [1, 1, 1, 1] (bodyOf Try.f4)) 0 (kFin law18.NamesAny.G Try.f4 tB.dec))))
theorem law18.NamesAny.l0_eq (k0 k1 : Nat) (v1 : ByteArray) (v2 : Bool) (v3 : Int) : law18.NamesAny.l0 k0 (k1 + 1) v1 v2 v3 =
  bif (decide (v3 < 17)) then
    bif v2 then
      bif ((decide (0 ≤ v3)) && (decide (v3 < ((ByteArray.size v1 : Nat) : Int)))) then
      bif (decide ((strB v1 (Int.toNat v3)) ≥ 48)) then
        bif ((decide (0 ≤ v3)) && (decide (v3 < ((ByteArray.size v1 : Nat) : Int)))) then
        bif (decide ((strB v1 (Int.toNat v3)) ≤ 57)) then
          law18.NamesAny.l0 k0 k1 v1 true (IntKind.i64.wrap (v3 + 1))
        else
        bif ((decide (0 ≤ v3)) && (decide (v3 < ((ByteArray.size v1 : Nat) : Int)))) then
        bif (decide ((strB v1 (Int.toNat v3)) ≥ 97)) then
          bif ((decide (0 ≤ v3)) && (decide (v3 < ((ByteArray.size v1 : Nat) : Int)))) then
          law18.NamesAny.l0 k0 k1 v1 (decide ((strB v1 (Int.toNat v3)) ≤ 102)) (IntKind.i64.wrap (v3 + 1))
          else none
        else
        law18.NamesAny.l0 k0 k1 v1 false (IntKind.i64.wrap (v3 + 1))
        else none
        else none
      else
      bif ((decide (0 ≤ v3)) && (decide (v3 < ((ByteArray.size v1 : Nat) : Int)))) then
      bif (decide ((strB v1 (Int.toNat v3)) ≥ 97)) then
        bif ((decide (0 ≤ v3)) && (decide (v3 < ((ByteArray.size v1 : Nat) : Int)))) then
        law18.NamesAny.l0 k0 k1 v1 (decide ((strB v1 (Int.toNat v3)) ≤ 102)) (IntKind.i64.wrap (v3 + 1))
        else none
      else
      law18.NamesAny.l0 k0 k1 v1 false (IntKind.i64.wrap (v3 + 1))
      else none
      else none
    else
    law18.NamesAny.l0 k0 k1 v1 false (IntKind.i64.wrap (v3 + 1))
  else
  bif (!v2) then
    some true
  else
  bif (decide (1 ≤ ((ByteArray.size v1 : Nat) : Int))) then
  some (!((Go.Op.bytesLess (ByteArray.toList (ByteArray.extract v1 1 (ByteArray.size v1))) (ByteArray.toList Str763127e3)) || (ByteArray.toList (ByteArray.extract v1 1 (ByteArray.size v1)) == ByteArray.toList Str763127e3)))
  else none := by kernel_rfl
theorem law18.NamesAny.eq (k0 : Nat) (p0 : ByteArray) : law18.NamesAny.g k0 p0 =
  (law18.fit.f ()).bind fun r1 =>
  bif (!r1) then
    some false
  else
  (names.Parse.f p0).bind fun r2 =>
  bif (!r2.2.2) then
    bif (r2.1 != 0) then
      bif (r2.1 == 0) then
        some (r2.2.1 == 0)
      else
      some false
    else
    bif (r2.2.1 != 0) then
      bif (r2.1 == 0) then
        some (r2.2.1 == 0)
      else
      some false
    else
    bif (((ByteArray.size p0 : Nat) : Int) != 17) then
      bif (r2.1 == 0) then
        some (r2.2.1 == 0)
      else
      some false
    else
    bif (decide (0 < ((ByteArray.size p0 : Nat) : Int))) then
    bif ((strB p0 0) == 99) then
      law18.NamesAny.l0 k0 k0 p0 true 1
    else
    bif (decide (0 < ((ByteArray.size p0 : Nat) : Int))) then
    law18.NamesAny.l0 k0 k0 p0 ((strB p0 0) == 106) 1
    else none
    else none
  else
  bif (decide (r2.2.1 ≥ 0)) then
    bif (decide (r2.2.1 ≤ 4611686018427387904)) then
      bif (r2.1 == 99) then
        (names.Check.f r2.2.1).bind fun r3 =>
        bif (ByteArray.toList r3 == ByteArray.toList p0) then
          some true
        else
        bif (r2.1 == 106) then
          (names.Segment.f r2.2.1).bind fun r4 =>
          some (ByteArray.toList r4 == ByteArray.toList p0)
        else
        some false
      else
      bif (r2.1 == 106) then
        (names.Segment.f r2.2.1).bind fun r5 =>
        some (ByteArray.toList r5 == ByteArray.toList p0)
      else
      some false
    else
    some false
  else
  some false := by kernel_rfl
/-! ### bagatelle/bagatellelaw18.NamesFew -/
noncomputable def law18.NamesFew.cs : List (Nat × Fw.Summ) := [(7, law18.fit.s), (8, law18.may.s), (10, names.Segment.s), (11, names.Parse.s)]
theorem law18.NamesFew.cs_ok : SumsOk Try.prog law18.NamesFew.cs := .cons law18.fit.ok (.cons law18.may.ok (.cons names.Segment.ok (.cons names.Parse.ok (.nil))))
def law18.NamesFew.hs : List (Nat × LHint) := []
noncomputable def law18.NamesFew.G : Ctx := ⟨Try.prog, sumAt law18.NamesFew.cs, lookH law18.NamesFew.hs⟩
noncomputable def law18.NamesFew.f (x : (Int × Int × Int)) : Option Bool := evF law18.NamesFew.G 0 Try.f5 ((tCons (tI .i64) (tCons (tI .i64) (tOne (tI .u8)))).enc x) tB.dec
noncomputable def law18.NamesFew.s : Fw.Summ := .mk' (tCons (tI .i64) (tCons (tI .i64) (tOne (tI .u8)))) tB law18.NamesFew.f
theorem law18.NamesFew.ok : law18.NamesFew.s.Ok Try.prog 5 :=
  summ_ok (hint := lookH law18.NamesFew.hs) (fn := Try.f5) (fun x => 0) law18.NamesFew.cs_ok (by kernel_rfl) (by kernel_rfl) (by kernel_rfl) (by kernel_rfl) (tCons_ok (tI_ok _) (tCons_ok (tI_ok _) (tOne_ok (tI_ok _)))) tB_ok (fun _ => rfl)
theorem law18.NamesFew.eq (p0 : Int) (p1 : Int) (p2 : Int) : law18.NamesFew.f (p0, p1, p2) =
  (law18.fit.f ()).bind fun r1 =>
  bif (!r1) then
    some false
  else
  (law18.may.f p0).bind fun r2 =>
  (names.Segment.f r2).bind fun r3 =>
  bif (decide ((((ByteArray.size r3) : Nat) : Int) ≠ 0)) then
  bif ((decide (0 ≤ (Int.tmod (Go.bits .and .i64 p1 255) (((ByteArray.size r3) : Nat) : Int)))) && (decide ((Int.tmod (Go.bits .and .i64 p1 255) (((ByteArray.size r3) : Nat) : Int)) < (((ByteArray.size r3) : Nat) : Int)))) then
  bif ((decide (0 ≤ (Int.tmod (Go.bits .and .i64 p1 255) (((ByteArray.size r3) : Nat) : Int)))) && (decide ((Int.tmod (Go.bits .and .i64 p1 255) (((ByteArray.size r3) : Nat) : Int)) < (((ByteArray.size r3) : Nat) : Int)))) then
  bif (u8ok (ByteArray.size r3) (fun i => if i = (Int.toNat (Int.tmod (Go.bits .and .i64 p1 255) (((ByteArray.size r3) : Nat) : Int))) then Ry.enc p2 else Ry.enc ((strB r3) i))) then
  (names.Parse.f (strOf (ByteArray.size r3) (fun i => if i = (Int.toNat (Int.tmod (Go.bits .and .i64 p1 255) (((ByteArray.size r3) : Nat) : Int))) then Ry.enc p2 else Ry.enc ((strB r3) i)))).bind fun r4 =>
  bif (((strB r3) (Int.toNat (Int.tmod (Go.bits .and .i64 p1 255) (((ByteArray.size r3) : Nat) : Int)))) == p2) then
    bif r4.2.2 then
      bif (r4.1 == 106) then
        some (r4.2.1 == r2)
      else
      some false
    else
    some false
  else
  bif ((decide (0 ≤ (Int.tmod (Go.bits .and .i64 p1 255) (((ByteArray.size r3) : Nat) : Int)))) && (decide ((Int.tmod (Go.bits .and .i64 p1 255) (((ByteArray.size r3) : Nat) : Int)) ≤ (((ByteArray.size r3) : Nat) : Int)))) then
  bif (u8ok (Int.toNat (Int.tmod (Go.bits .and .i64 p1 255) (((ByteArray.size r3) : Nat) : Int))) (fun i => if i = (Int.toNat (Int.tmod (Go.bits .and .i64 p1 255) (((ByteArray.size r3) : Nat) : Int))) then Ry.enc p2 else Ry.enc ((strB r3) i))) then
  (names.Parse.f (strOf (Int.toNat (Int.tmod (Go.bits .and .i64 p1 255) (((ByteArray.size r3) : Nat) : Int))) (fun i => if i = (Int.toNat (Int.tmod (Go.bits .and .i64 p1 255) (((ByteArray.size r3) : Nat) : Int))) then Ry.enc p2 else Ry.enc ((strB r3) i)))).bind fun r5 =>
  bif (!r5.2.2) then
    bif (!r4.2.2) then
      some true
    else
    bif (r4.1 != 106) then
      some true
    else
    some (r4.2.1 != r2)
  else
  some false
  else none
  else none
  else none
  else none
  else none
  else none := by kernel_rfl
end Go.Proofs.Ytooknkplmpnnnaa.E
