import Derived.Test.YtooknkplmpnnnaaFw1
import Derived.Test.YtooknkplmpnnnaaFw3
import Derived.Test.YtooknkplmpnnnaaProg
namespace Go.Proofs.Ytooknkplmpnnnaa.E
open Go Go.Proofs Go.Proofs.Ytooknkplmpnnnaa Go.Proofs.Ytooknkplmpnnnaa.Fw Go.RowKit
set_option maxRecDepth 100000
set_option linter.unusedVariables false
def Strc9c2d315 : ByteArray := ByteArray.mk #[99, 48, 48, 48, 48, 48, 48, 48, 48, 48, 48, 48, 48, 48, 48, 102, 102]
def Ry : TyL Int := (tOne (tI .u8))
theorem Ry_ok : Ry.Ok := (tOne_ok (tI_ok _))
theorem Ry_ren (f : Nat → Option Nat) (x : Int) : renL f (Ry.enc x) = Ry.enc x := by kernel_rfl
theorem Ry_clo (x : Int) : cloL (Ry.enc x) = Ry.enc x := by kernel_rfl
theorem Ry_dec (x : Int) : Ry.dec (Ry.enc x) = some x := by kernel_rfl
def Rs : TyL ByteArray := (tOne tS)
theorem Rs_ok : Rs.Ok := (tOne_ok tS_ok)
theorem Rs_ren (f : Nat → Option Nat) (x : ByteArray) : renL f (Rs.enc x) = Rs.enc x := by kernel_rfl
theorem Rs_clo (x : ByteArray) : cloL (Rs.enc x) = Rs.enc x := by kernel_rfl
theorem Rs_dec (x : ByteArray) : Rs.dec (Rs.enc x) = some x := by kernel_rfl
def Ri : TyL Int := (tOne (tI .i64))
theorem Ri_ok : Ri.Ok := (tOne_ok (tI_ok _))
theorem Ri_ren (f : Nat → Option Nat) (x : Int) : renL f (Ri.enc x) = Ri.enc x := by kernel_rfl
theorem Ri_clo (x : Int) : cloL (Ri.enc x) = Ri.enc x := by kernel_rfl
theorem Ri_dec (x : Int) : Ri.dec (Ri.enc x) = some x := by kernel_rfl
def RL1 : TyL (Nat × (Nat → List AV)) := (tOne (tLz 1 (Ri.enc 0)))
theorem RL1_ok : RL1.Ok := (tOne_ok (tLz_ok _ _))
theorem RL1_ren (f : Nat → Option Nat) (x : (Nat × (Nat → List AV))) : renL f (RL1.enc x) = RL1.enc x := by kernel_rfl
theorem RL1_clo (x : (Nat × (Nat → List AV))) : cloL (RL1.enc x) = RL1.enc x := by kernel_rfl
theorem RL1_dec (x : (Nat × (Nat → List AV))) : RL1.dec (RL1.enc x) = some x := by kernel_rfl
/-! ### bagatelle/names.digits -/
noncomputable def names.digits.cs : List (Nat × Fw.Summ) := []
theorem names.digits.cs_ok : SumsOk Try.prog names.digits.cs := .nil
def names.digits.hs : List (Nat × LHint) := []
noncomputable def names.digits.G : Ctx := ⟨Try.prog, sumAt names.digits.cs, lookH names.digits.hs, true⟩
noncomputable def names.digits.f (x : Unit) : Option (Int × Int × Int × Int × Int × Int × Int × Int × Int × Int × Int × Int × Int × Int × Int × Int) := evF names.digits.G 0 Try.f15 (tNil.enc x) (tG (tCons (tI .u8) (tCons (tI .u8) (tCons (tI .u8) (tCons (tI .u8) (tCons (tI .u8) (tCons (tI .u8) (tCons (tI .u8) (tCons (tI .u8) (tCons (tI .u8) (tCons (tI .u8) (tCons (tI .u8) (tCons (tI .u8) (tCons (tI .u8) (tCons (tI .u8) (tCons (tI .u8) (tOne (tI .u8)))))))))))))))))).dec
noncomputable def names.digits.s : Fw.Summ := .mk' tNil (tG (tCons (tI .u8) (tCons (tI .u8) (tCons (tI .u8) (tCons (tI .u8) (tCons (tI .u8) (tCons (tI .u8) (tCons (tI .u8) (tCons (tI .u8) (tCons (tI .u8) (tCons (tI .u8) (tCons (tI .u8) (tCons (tI .u8) (tCons (tI .u8) (tCons (tI .u8) (tCons (tI .u8) (tOne (tI .u8)))))))))))))))))) names.digits.f
theorem names.digits.ok : names.digits.s.Ok Try.prog 15 :=
  summ_ok (hint := lookH names.digits.hs) (fn := Try.f15) (fun x => 0) names.digits.cs_ok (by kernel_rfl) (by kernel_rfl) (by kernel_rfl) (by kernel_rfl) tNil_ok (tG_ok (tCons_ok (tI_ok _) (tCons_ok (tI_ok _) (tCons_ok (tI_ok _) (tCons_ok (tI_ok _) (tCons_ok (tI_ok _) (tCons_ok (tI_ok _) (tCons_ok (tI_ok _) (tCons_ok (tI_ok _) (tCons_ok (tI_ok _) (tCons_ok (tI_ok _) (tCons_ok (tI_ok _) (tCons_ok (tI_ok _) (tCons_ok (tI_ok _) (tCons_ok (tI_ok _) (tCons_ok (tI_ok _) (tOne_ok (tI_ok _)))))))))))))))))) (fun _ => rfl)
theorem names.digits.eq  : names.digits.f () =
  some (48, 49, 50, 51, 52, 53, 54, 55, 56, 57, 97, 98, 99, 100, 101, 102) := by kernel_rfl
/-! ### bagatelle/names.name -/
noncomputable def names.name.cs : List (Nat × Fw.Summ) := [(15, names.digits.s)]
theorem names.name.cs_ok : SumsOk Try.prog names.name.cs := .cons names.digits.ok (.nil)
def names.name.hs : List (Nat × LHint) := [(0, { mat := [], live := [1, 5, 6], ren := [(.tmp 5, 0)] })]
noncomputable def names.name.G : Ctx := ⟨Try.prog, sumAt names.name.cs, lookH names.name.hs, true⟩
noncomputable def names.name.g (k0 : Nat) (x : (Int × Int)) : Option ByteArray := evF names.name.G k0 Try.f14 ((tCons (tI .u8) (tOne (tI .i64))).enc x) tS.dec
noncomputable def names.name.f (x : (Int × Int)) : Option ByteArray := names.name.g (1000000) x
noncomputable def names.name.s : Fw.Summ := .mk' (tCons (tI .u8) (tOne (tI .i64))) tS names.name.f
theorem names.name.ok : names.name.s.Ok Try.prog 14 :=
  summ_ok (hint := lookH names.name.hs) (fn := Try.f14) (fun x => 1000000) names.name.cs_ok (by kernel_rfl) (by kernel_rfl) (by kernel_rfl) (by kernel_rfl) (tCons_ok (tI_ok _) (tOne_ok (tI_ok _))) tS_ok (fun _ => rfl)
noncomputable def names.name.l1 (k0 k1 : Nat) (v1 : Nat) (v2 : Nat → List AV) (v3 : Int) (v4 : Int) : Option ByteArray :=
  evLoop (lookH names.name.hs 0) 1 (ev names.name.G k0 (codeAt [1, 1, 0, 1, 0, 0] (bodyOf Try.f14)) 0) k1
  ⟨[.top, .val (.int .i64 v3), .top, .top, .top, .slc 0 0 none none, .val (.int .i64 v4), .top, .top, .top, .top, .top, .top, .top, .top, .top, .top, .top, .top, .top, .top, .top, .top, .top], [.live ⟨true, 5, 1, v1, v2, none⟩]⟩
  (kBlock names.name.G 0 (kSeq names.name.G k0 (codeAt [1, 1, 1] (bodyOf Try.f14)) 0 (kFin names.name.G Try.f14 tS.dec)))
theorem names.name.l1_eq (k0 k1 : Nat) (v1 : Nat) (v2 : Nat → Int) (v3 : Int) (v4 : Int) : names.name.l1 k0 (k1 + 1) v1 (fun i => Ry.enc (v2 i)) v3 v4 =
  bif (decide (v4 ≥ 0)) then
    (names.digits.f ()).bind fun r1 =>
    bif (decide (0 ≤ v4)) then
    bif ((decide (0 ≤ (Go.bits .and .i64 (Int.fdiv v3 (2 ^ (min (Int.toNat v4) 64))) 15))) && (decide ((Go.bits .and .i64 (Int.fdiv v3 (2 ^ (min (Int.toNat v4) 64))) 15) < 16))) then
    bif (decide ((v1 + 1) * 1 ≤ 140737488355328)) then
    names.name.l1 k0 k1 (v1 + 1) (fun i => renL (lookF [(9, 0)] 1) (if i = v1 then Ry.enc (List.getD [r1.1, r1.2.1, r1.2.2.1, r1.2.2.2.1, r1.2.2.2.2.1, r1.2.2.2.2.2.1, r1.2.2.2.2.2.2.1, r1.2.2.2.2.2.2.2.1, r1.2.2.2.2.2.2.2.2.1, r1.2.2.2.2.2.2.2.2.2.1, r1.2.2.2.2.2.2.2.2.2.2.1, r1.2.2.2.2.2.2.2.2.2.2.2.1, r1.2.2.2.2.2.2.2.2.2.2.2.2.1, r1.2.2.2.2.2.2.2.2.2.2.2.2.2.1, r1.2.2.2.2.2.2.2.2.2.2.2.2.2.2.1, r1.2.2.2.2.2.2.2.2.2.2.2.2.2.2.2] (Int.toNat (Go.bits .and .i64 (Int.fdiv v3 (2 ^ (min (Int.toNat v4) 64))) 15)) 0) else Ry.enc (v2 i))) v3 (IntKind.i64.wrap (v4 - 4))
    else none
    else none
    else none
  else
  bif (u8ok v1 (fun i => Ry.enc (v2 i))) then
  some (strOf v1 (fun i => Ry.enc (v2 i)))
  else none := by kernel_rfl
theorem names.name.eq (k0 : Nat) (p0 : Int) (p1 : Int) : names.name.g k0 (p0, p1) =
  names.name.l1 k0 k0 1 (fun i => renL (lookF [] 1) (List.getD (List.map Ry.enc [p0]) i (Ry.enc 0))) p1 60 := by kernel_rfl
/-! ### bagatelle/names.Segment -/
noncomputable def names.Segment.cs : List (Nat × Fw.Summ) := [(14, names.name.s)]
theorem names.Segment.cs_ok : SumsOk Try.prog names.Segment.cs := .cons names.name.ok (.nil)
def names.Segment.hs : List (Nat × LHint) := []
noncomputable def names.Segment.G : Ctx := ⟨Try.prog, sumAt names.Segment.cs, lookH names.Segment.hs, true⟩
noncomputable def names.Segment.f (x : Int) : Option ByteArray := evF names.Segment.G 0 Try.f10 ((tOne (tI .i64)).enc x) tS.dec
noncomputable def names.Segment.s : Fw.Summ := .mk' (tOne (tI .i64)) tS names.Segment.f
theorem names.Segment.ok : names.Segment.s.Ok Try.prog 10 :=
  summ_ok (hint := lookH names.Segment.hs) (fn := Try.f10) (fun x => 0) names.Segment.cs_ok (by kernel_rfl) (by kernel_rfl) (by kernel_rfl) (by kernel_rfl) (tOne_ok (tI_ok _)) tS_ok (fun _ => rfl)
theorem names.Segment.eq (p0 : Int) : names.Segment.f p0 =
  (names.name.f (106, p0)).bind fun r1 =>
  some r1 := by kernel_rfl
/-! ### slices.Index[[]byte,byte] -/
noncomputable def slices.Index__byte_byte.cs : List (Nat × Fw.Summ) := []
theorem slices.Index__byte_byte.cs_ok : SumsOk Try.prog slices.Index__byte_byte.cs := .nil
def slices.Index__byte_byte.hs : List (Nat × LHint) := [(0, { mat := [], live := [0, 1, 7, 8], ren := [] })]
noncomputable def slices.Index__byte_byte.G : Ctx := ⟨Try.prog, sumAt slices.Index__byte_byte.cs, lookH slices.Index__byte_byte.hs, true⟩
noncomputable def slices.Index__byte_byte.g (k0 : Nat) (x : ((Nat × (Nat → List AV)) × Int)) : Option Int := evF slices.Index__byte_byte.G k0 Try.f16 ((tCons (tLz 1 (Ry.enc 0)) (tOne (tI .u8))).enc x) (tI .i64).dec
noncomputable def slices.Index__byte_byte.f (x : ((Nat × (Nat → List AV)) × Int)) : Option Int := slices.Index__byte_byte.g (1000000) x
noncomputable def slices.Index__byte_byte.s : Fw.Summ := .mk' (tCons (tLz 1 (Ry.enc 0)) (tOne (tI .u8))) (tI .i64) slices.Index__byte_byte.f
theorem slices.Index__byte_byte.ok : slices.Index__byte_byte.s.Ok Try.prog 16 :=
  summ_ok (hint := lookH slices.Index__byte_byte.hs) (fn := Try.f16) (fun x => 1000000) slices.Index__byte_byte.cs_ok (by kernel_rfl) (by kernel_rfl) (by kernel_rfl) (by kernel_rfl) (tCons_ok (tLz_ok _ _) (tOne_ok (tI_ok _))) (tI_ok _) (fun _ => rfl)
noncomputable def slices.Index__byte_byte.l0 (k0 k1 : Nat) (v1 : Nat) (v2 : Nat → List AV) (v3 : Int) (v4 : Int) (v5 : Int) : Option Int :=
  evLoop (lookH slices.Index__byte_byte.hs 0) 0 (ev slices.Index__byte_byte.G k0 (codeAt [1, 0, 1, 0, 0] (bodyOf Try.f16)) 0) k1
  ⟨[.lst 1 v1 none v2, .val (.int .u8 v3), .top, .top, .top, .top, .top, .val (.int .i64 v4), .val (.int .i64 v5), .top, .top, .top, .top, .top, .top, .top, .top, .top, .top], []⟩
  (kBlock slices.Index__byte_byte.G 0 (kSeq slices.Index__byte_byte.G k0 (codeAt [1, 1] (bodyOf Try.f16)) 0 (kFin slices.Index__byte_byte.G Try.f16 (tI .i64).dec)))
theorem slices.Index__byte_byte.l0_eq (k0 k1 : Nat) (v1 : Nat) (v2 : Nat → Int) (v3 : Int) (v4 : Int) (v5 : Int) : slices.Index__byte_byte.l0 k0 (k1 + 1) v1 (fun i => Ry.enc (v2 i)) v3 v4 v5 =
  bif (decide (v5 < v4)) then
    bif ((decide (0 ≤ v5)) && (decide (v5 < ((v1 : Nat) : Int)))) then
    bif (v3 == (v2 (Int.toNat v5))) then
      some v5
    else
    slices.Index__byte_byte.l0 k0 k1 v1 (fun i => Ry.enc (v2 i)) v3 v4 (IntKind.i64.wrap (v5 + 1))
    else none
  else
  some (-1) := by kernel_rfl
theorem slices.Index__byte_byte.eq (k0 : Nat) (p0_n : Nat) (p0_g : Nat → Int) (p1 : Int) : slices.Index__byte_byte.g k0 ((p0_n, (fun i => Ry.enc (p0_g i))), p1) =
  slices.Index__byte_byte.l0 k0 k0 p0_n (fun i => Ry.enc (p0_g i)) p1 ((p0_n : Nat) : Int) 0 := by kernel_rfl
/-! ### bagatelle/names.Parse -/
noncomputable def names.Parse.cs : List (Nat × Fw.Summ) := [(15, names.digits.s), (16, slices.Index__byte_byte.s)]
theorem names.Parse.cs_ok : SumsOk Try.prog names.Parse.cs := .cons names.digits.ok (.cons slices.Index__byte_byte.ok (.nil))
def names.Parse.hs : List (Nat × LHint) := [(0, { mat := [], live := [0, 5, 25, 26, 27], ren := [] })]
noncomputable def names.Parse.G : Ctx := ⟨Try.prog, sumAt names.Parse.cs, lookH names.Parse.hs, true⟩
noncomputable def names.Parse.g (k0 : Nat) (x : ByteArray) : Option (Int × Int × Bool) := evF names.Parse.G k0 Try.f11 ((tOne tS).enc x) (tT (tCons (tI .u8) (tCons (tI .i64) (tOne tB)))).dec
noncomputable def names.Parse.f (x : ByteArray) : Option (Int × Int × Bool) := names.Parse.g (1000000) x
noncomputable def names.Parse.s : Fw.Summ := .mk' (tOne tS) (tT (tCons (tI .u8) (tCons (tI .i64) (tOne tB)))) names.Parse.f
theorem names.Parse.ok : names.Parse.s.Ok Try.prog 11 :=
  summ_ok (hint := lookH names.Parse.hs) (fn := Try.f11) (fun x => 1000000) names.Parse.cs_ok (by kernel_rfl) (by kernel_rfl) (by kernel_rfl) (by kernel_rfl) (tOne_ok tS_ok) (tT_ok (tCons_ok (tI_ok _) (tCons_ok (tI_ok _) (tOne_ok tB_ok)))) (fun _ => rfl)
noncomputable def names.Parse.l0 (k0 k1 : Nat) (v1 : Nat) (v2 : Nat → List AV) (v3 : ByteArray) (v4 : Int) (v5 : Int) (v6 : Int) : Option (Int × Int × Bool) :=
  evLoop (lookH names.Parse.hs 0) 1 (ev names.Parse.G k0 (codeAt [1, 1, 1, 0, 1, 0, 0] (bodyOf Try.f11)) 0) k1
  ⟨[.val (.string v3), .top, .top, .top, .top, .val (.int .u64 v4), .top, .top, .top, .top, .top, .top, .top, .top, .top, .top, .top, .top, .top, .top, .top, .top, .top, .top, .top, .slc 0 0 none none, .val (.int .i64 v5), .val (.int .i64 v6), .top, .top, .top, .top, .top, .top, .top, .top, .top, .top, .top, .top, .top, .top, .top, .top, .top, .top, .top, .top, .top], [.live ⟨true, 5, 1, v1, v2, none⟩]⟩
  (kBlock names.Parse.G 0 (kSeq names.Parse.G k0 (codeAt [1, 1, 1, 1] (bodyOf Try.f11)) 0 (kFin names.Parse.G Try.f11 (tT (tCons (tI .u8) (tCons (tI .i64) (tOne tB)))).dec)))
theorem names.Parse.l0_eq (k0 k1 : Nat) (v1 : Nat) (v2 : Nat → Int) (v3 : ByteArray) (v4 : Int) (v5 : Int) (v6 : Int) : names.Parse.l0 k0 (k1 + 1) v1 (fun i => Ry.enc (v2 i)) v3 v4 v5 v6 =
  bif (decide (v6 < v5)) then
    bif ((decide (0 ≤ v6)) && (decide (v6 < ((v1 : Nat) : Int)))) then
    (names.digits.f ()).bind fun r1 =>
    (slices.Index__byte_byte.f ((16, (fun i => Ry.enc (List.getD [r1.1, r1.2.1, r1.2.2.1, r1.2.2.2.1, r1.2.2.2.2.1, r1.2.2.2.2.2.1, r1.2.2.2.2.2.2.1, r1.2.2.2.2.2.2.2.1, r1.2.2.2.2.2.2.2.2.1, r1.2.2.2.2.2.2.2.2.2.1, r1.2.2.2.2.2.2.2.2.2.2.1, r1.2.2.2.2.2.2.2.2.2.2.2.1, r1.2.2.2.2.2.2.2.2.2.2.2.2.1, r1.2.2.2.2.2.2.2.2.2.2.2.2.2.1, r1.2.2.2.2.2.2.2.2.2.2.2.2.2.2.1, r1.2.2.2.2.2.2.2.2.2.2.2.2.2.2.2] i 0))), (v2 (Int.toNat v6)))).bind fun r2 =>
    bif (decide (r2 < 0)) then
      some (0, 0, false)
    else
    names.Parse.l0 k0 k1 v1 (fun i => Ry.enc (v2 i)) v3 (Go.bits .or .u64 (IntKind.u64.wrap (v4 * 2 ^ 4)) (IntKind.u64.wrap r2)) v5 (IntKind.i64.wrap (v6 + 1))
    else none
  else
  bif (decide (v4 > 4611686018427387904)) then
    some (0, 0, false)
  else
  bif (decide (0 < ((ByteArray.size v3 : Nat) : Int))) then
  some ((strB v3 0), (IntKind.i64.wrap v4), true)
  else none := by kernel_rfl
theorem names.Parse.eq (k0 : Nat) (p0 : ByteArray) : names.Parse.g k0 p0 =
  bif (((ByteArray.size p0 : Nat) : Int) != 17) then
    some (0, 0, false)
  else
  bif (decide (0 < ((ByteArray.size p0 : Nat) : Int))) then
  bif ((strB p0 0) != 99) then
    bif (decide (0 < ((ByteArray.size p0 : Nat) : Int))) then
    bif ((strB p0 0) != 106) then
      some (0, 0, false)
    else
    bif (decide (1 ≤ ((ByteArray.size p0 : Nat) : Int))) then
    names.Parse.l0 k0 k0 (ByteArray.size (ByteArray.extract p0 1 (ByteArray.size p0))) (fun i => Ry.enc ((strB (ByteArray.extract p0 1 (ByteArray.size p0))) i)) p0 0 (((ByteArray.size (ByteArray.extract p0 1 (ByteArray.size p0))) : Nat) : Int) 0
    else none
    else none
  else
  bif (decide (1 ≤ ((ByteArray.size p0 : Nat) : Int))) then
  names.Parse.l0 k0 k0 (ByteArray.size (ByteArray.extract p0 1 (ByteArray.size p0))) (fun i => Ry.enc ((strB (ByteArray.extract p0 1 (ByteArray.size p0))) i)) p0 0 (((ByteArray.size (ByteArray.extract p0 1 (ByteArray.size p0))) : Nat) : Int) 0
  else none
  else none := by kernel_rfl
/-! ### bagatelle/names.Check -/
noncomputable def names.Check.cs : List (Nat × Fw.Summ) := [(14, names.name.s)]
theorem names.Check.cs_ok : SumsOk Try.prog names.Check.cs := .cons names.name.ok (.nil)
def names.Check.hs : List (Nat × LHint) := []
noncomputable def names.Check.G : Ctx := ⟨Try.prog, sumAt names.Check.cs, lookH names.Check.hs, true⟩
noncomputable def names.Check.f (x : Int) : Option ByteArray := evF names.Check.G 0 Try.f9 ((tOne (tI .i64)).enc x) tS.dec
noncomputable def names.Check.s : Fw.Summ := .mk' (tOne (tI .i64)) tS names.Check.f
theorem names.Check.ok : names.Check.s.Ok Try.prog 9 :=
  summ_ok (hint := lookH names.Check.hs) (fn := Try.f9) (fun x => 0) names.Check.cs_ok (by kernel_rfl) (by kernel_rfl) (by kernel_rfl) (by kernel_rfl) (tOne_ok (tI_ok _)) tS_ok (fun _ => rfl)
theorem names.Check.eq (p0 : Int) : names.Check.f p0 =
  (names.name.f (99, p0)).bind fun r1 =>
  some r1 := by kernel_rfl
/-! ### bagatelle/bagatellelaw18.fit -/
noncomputable def law18.fit.cs : List (Nat × Fw.Summ) := [(10, names.Segment.s), (11, names.Parse.s), (9, names.Check.s)]
theorem law18.fit.cs_ok : SumsOk Try.prog law18.fit.cs := .cons names.Segment.ok (.cons names.Parse.ok (.cons names.Check.ok (.nil)))
def law18.fit.hs : List (Nat × LHint) := []
noncomputable def law18.fit.G : Ctx := ⟨Try.prog, sumAt law18.fit.cs, lookH law18.fit.hs, true⟩
noncomputable def law18.fit.f (x : Unit) : Option Bool := evF law18.fit.G 0 Try.f7 (tNil.enc x) tB.dec
noncomputable def law18.fit.s : Fw.Summ := .mk' tNil tB law18.fit.f
theorem law18.fit.ok : law18.fit.s.Ok Try.prog 7 :=
  summ_ok (hint := lookH law18.fit.hs) (fn := Try.f7) (fun x => 0) law18.fit.cs_ok (by kernel_rfl) (by kernel_rfl) (by kernel_rfl) (by kernel_rfl) tNil_ok tB_ok (fun _ => rfl)
theorem law18.fit.eq  : law18.fit.f () =
  (names.Segment.f 255).bind fun r1 =>
  (names.Parse.f r1).bind fun r2 =>
  (names.Check.f 255).bind fun r3 =>
  bif (ByteArray.toList r3 == ByteArray.toList Strc9c2d315) then
    bif r2.2.2 then
      bif (r2.1 == 106) then
        some (r2.2.1 == 255)
      else
      some false
    else
    some false
  else
  some false := by kernel_rfl
/-! ### bagatelle/bagatellelaw18.may -/
noncomputable def law18.may.cs : List (Nat × Fw.Summ) := []
theorem law18.may.cs_ok : SumsOk Try.prog law18.may.cs := .nil
def law18.may.hs : List (Nat × LHint) := []
noncomputable def law18.may.G : Ctx := ⟨Try.prog, sumAt law18.may.cs, lookH law18.may.hs, true⟩
noncomputable def law18.may.f (x : Int) : Option Int := evF law18.may.G 0 Try.f8 ((tOne (tI .i64)).enc x) (tI .i64).dec
noncomputable def law18.may.s : Fw.Summ := .mk' (tOne (tI .i64)) (tI .i64) law18.may.f
theorem law18.may.ok : law18.may.s.Ok Try.prog 8 :=
  summ_ok (hint := lookH law18.may.hs) (fn := Try.f8) (fun x => 0) law18.may.cs_ok (by kernel_rfl) (by kernel_rfl) (by kernel_rfl) (by kernel_rfl) (tOne_ok (tI_ok _)) (tI_ok _) (fun _ => rfl)
theorem law18.may.eq (p0 : Int) : law18.may.f p0 =
  bif (decide (p0 < 0)) then
    some (if 4611686018427387904 < (IntKind.i64.wrap (0 - (IntKind.i64.wrap (p0 + 1)))) then 4611686018427387904 else (IntKind.i64.wrap (0 - (IntKind.i64.wrap (p0 + 1)))))
  else
  some (if 4611686018427387904 < p0 then 4611686018427387904 else p0) := by kernel_rfl
/-! ### slices.Sort[[]int,int] -/
noncomputable def slices.Sort__int_int.s : Fw.Summ := .mkS
theorem slices.Sort__int_int.ok : slices.Sort__int_int.s.Ok Try.prog 17 := sort_ok
/-! ### bagatelle/names.Sort -/
noncomputable def names.Sort.cs : List (Nat × Fw.Summ) := [(11, names.Parse.s), (17, slices.Sort__int_int.s)]
theorem names.Sort.cs_ok : SumsOk Try.prog names.Sort.cs := .cons names.Parse.ok (.cons slices.Sort__int_int.ok (.nil))
def names.Sort.hs : List (Nat × LHint) := [(0, { mat := [(.tmp 4, 3), (.tmp 5, 3)], live := [4, 5, 11, 12, 13], ren := [(.tmp 4, 0), (.tmp 5, 1)] })]
noncomputable def names.Sort.G : Ctx := ⟨Try.prog, sumAt names.Sort.cs, lookH names.Sort.hs, true⟩
noncomputable def names.Sort.g (k0 : Nat) (x : (Nat × (Nat → List AV))) : Option ((Nat × (Nat → Int)) × (Nat × (Nat → Int))) := evF names.Sort.G k0 Try.f13 ((tOne (tLz 1 (Rs.enc ⟨#[]⟩))).enc x) (tT (tCons (tTL Ri 1 0) (tOne (tTL Ri 1 0)))).dec
noncomputable def names.Sort.f (x : (Nat × (Nat → List AV))) : Option ((Nat × (Nat → Int)) × (Nat × (Nat → Int))) := names.Sort.g (1000000) x
noncomputable def names.Sort.s : Fw.Summ := .mk' (tOne (tLz 1 (Rs.enc ⟨#[]⟩))) (tT (tCons (tTL Ri 1 0) (tOne (tTL Ri 1 0)))) names.Sort.f
theorem names.Sort.ok : names.Sort.s.Ok Try.prog 13 :=
  summ_ok (hint := lookH names.Sort.hs) (fn := Try.f13) (fun x => 1000000) names.Sort.cs_ok (by kernel_rfl) (by kernel_rfl) (by kernel_rfl) (by kernel_rfl) (tOne_ok (tLz_ok _ _)) (tT_ok (tCons_ok (tTL_ok Ri_ok _ _) (tOne_ok (tTL_ok Ri_ok _ _)))) (fun _ => rfl)
noncomputable def names.Sort.l4 (k0 k1 : Nat) (v1 : Nat) (v2 : Nat → List AV) (v3 : Nat) (v4 : Nat → List AV) (v5 : Nat) (v6 : Nat → List AV) (v7 : Int) (v8 : Int) : Option ((Nat × (Nat → Int)) × (Nat × (Nat → Int))) :=
  evLoop (lookH names.Sort.hs 0) 2 (ev names.Sort.G k0 (codeAt [1, 1, 0, 1, 0, 0] (bodyOf Try.f13)) 0) k1
  ⟨[.top, .top, .top, .top, .slc 0 0 none none, .slc 1 0 none none, .top, .top, .top, .top, .top, .lst 1 v5 none v6, .val (.int .i64 v7), .val (.int .i64 v8), .top, .top, .top, .top, .top, .top, .top, .top, .top, .top, .top, .top, .top, .top, .top, .top, .top, .top, .top, .top, .top, .top, .top, .top, .top, .top, .top, .top, .top, .top], [.live ⟨true, 3, 1, v1, v2, none⟩, .live ⟨true, 3, 1, v3, v4, none⟩]⟩
  (kBlock names.Sort.G 0 (kSeq names.Sort.G k0 (codeAt [1, 1, 1] (bodyOf Try.f13)) 0 (kFin names.Sort.G Try.f13 (tT (tCons (tTL Ri 1 0) (tOne (tTL Ri 1 0)))).dec)))
theorem names.Sort.l4_eq (k0 k1 : Nat) (v1 : Nat) (v2 : Nat → Int) (v3 : Nat) (v4 : Nat → Int) (v5 : Nat) (v6 : Nat → ByteArray) (v7 : Int) (v8 : Int) : names.Sort.l4 k0 (k1 + 1) v1 (fun i => Ri.enc (v2 i)) v3 (fun i => Ri.enc (v4 i)) v5 (fun i => Rs.enc (v6 i)) v7 v8 =
  bif (decide (v8 < v7)) then
    bif ((decide (0 ≤ v8)) && (decide (v8 < ((v5 : Nat) : Int)))) then
    (names.Parse.f (v6 (Int.toNat v8))).bind fun r1 =>
    bif (!r1.2.2) then
      names.Sort.l4 k0 k1 v1 (fun i => Ri.enc (v2 i)) v3 (fun i => Ri.enc (v4 i)) v5 (fun i => Rs.enc (v6 i)) v7 (IntKind.i64.wrap (v8 + 1))
    else
    bif (r1.1 == 99) then
      bif (decide ((v1 + 1) * 8 ≤ 140737488355328)) then
      names.Sort.l4 k0 k1 (v1 + 1) (fun i => renL (lookF [(3, 0), (1, 1)] 2) (if i = v1 then Ri.enc r1.2.1 else Ri.enc (v2 i))) v3 (fun i => Ri.enc (v4 i)) v5 (fun i => Rs.enc (v6 i)) v7 (IntKind.i64.wrap (v8 + 1))
      else none
    else
    bif (decide ((v3 + 1) * 8 ≤ 140737488355328)) then
    names.Sort.l4 k0 k1 v1 (fun i => Ri.enc (v2 i)) (v3 + 1) (fun i => renL (lookF [(0, 0), (3, 1)] 2) (if i = v3 then Ri.enc r1.2.1 else Ri.enc (v4 i))) v5 (fun i => Rs.enc (v6 i)) v7 (IntKind.i64.wrap (v8 + 1))
    else none
    else none
  else
  bif (decide (v1 < 4611686018427387904)) then
  (intsD v1 (fun i => Ri.enc (v2 i))).bind fun r2 =>
  bif (decide (v3 < 4611686018427387904)) then
  (intsD v3 (fun i => Ri.enc (v4 i))).bind fun r3 =>
  (tT (tCons (tTL Ri 1 0) (tOne (tTL Ri 1 0)))).dec (.tup [.lst 1 v1 none (fun i => Ri.enc ((sortAt v1 r2) i)), .lst 1 v3 none (fun i => Ri.enc ((sortAt v3 r3) i))])
  else none
  else none := by kernel_rfl
theorem names.Sort.eq (k0 : Nat) (p0_n : Nat) (p0_g : Nat → ByteArray) : names.Sort.g k0 (p0_n, (fun i => Rs.enc (p0_g i))) =
  names.Sort.l4 k0 k0 0 (fun _ => Ri.enc 0) 0 (fun _ => Ri.enc 0) p0_n (fun i => Rs.enc (p0_g i)) ((p0_n : Nat) : Int) 0 := by kernel_rfl
/-! ### bagatelle/bagatellelaw18.NamesSort -/
noncomputable def law18.NamesSort.cs : List (Nat × Fw.Summ) := [(7, law18.fit.s), (8, law18.may.s), (9, names.Check.s), (10, names.Segment.s), (11, names.Parse.s), (13, names.Sort.s)]
theorem law18.NamesSort.cs_ok : SumsOk Try.prog law18.NamesSort.cs := .cons law18.fit.ok (.cons law18.may.ok (.cons names.Check.ok (.cons names.Segment.ok (.cons names.Parse.ok (.cons names.Sort.ok (.nil))))))
def law18.NamesSort.hs : List (Nat × LHint) := [(0, { mat := [(.tmp 5, 9)], live := [0, 1, 5, 6, 36, 37, 38], ren := [(.tmp 5, 3)] }), (2, { mat := [], live := [0, 5, 6, 66, 67, 68], ren := [(.tmp 5, 3)] }), (4, { unroll := true }), (6, { mat := [], live := [0, 6, 15, 16, 17, 18, 92, 93, 94, 99, 100, 101], ren := [], frz := [4] }), (8, { mat := [], live := [0, 6, 15, 16, 92, 93, 94, 127], ren := [] })]
noncomputable def law18.NamesSort.G : Ctx := ⟨Try.prog, sumAt law18.NamesSort.cs, lookH law18.NamesSort.hs, true⟩
noncomputable def law18.NamesSort.g (k0 : Nat) (x : ((Nat × (Nat → List AV)) × (Nat × (Nat → List AV)))) : Option Bool := evF law18.NamesSort.G k0 Try.f6 ((tCons (tLz 1 (Ri.enc 0)) (tOne (tLz 1 (Rs.enc ⟨#[]⟩)))).enc x) tB.dec
noncomputable def law18.NamesSort.f (x : ((Nat × (Nat → List AV)) × (Nat × (Nat → List AV)))) : Option Bool := law18.NamesSort.g (1000000) x
noncomputable def law18.NamesSort.s : Fw.Summ := .mk' (tCons (tLz 1 (Ri.enc 0)) (tOne (tLz 1 (Rs.enc ⟨#[]⟩)))) tB law18.NamesSort.f
theorem law18.NamesSort.ok : law18.NamesSort.s.Ok Try.prog 6 :=
  summ_ok (hint := lookH law18.NamesSort.hs) (fn := Try.f6) (fun x => 1000000) law18.NamesSort.cs_ok (by kernel_rfl) (by kernel_rfl) (by kernel_rfl) (by kernel_rfl) (tCons_ok (tLz_ok _ _) (tOne_ok (tLz_ok _ _))) tB_ok (fun _ => rfl)
noncomputable def law18.NamesSort.l7 (k0 k1 : Nat) (v1 : List Int) (v2 : Int → List AV) (v3 : List Int) (v4 : Int → List AV) (v5 : List Int) (v6 : List Int) (v7 : Nat) (v8 : Nat → List AV) (v9 : Nat) (v10 : Nat → List AV) (v11 : Nat) (v12 : Nat → List AV) : Option Bool :=
  evLoop (lookH law18.NamesSort.hs 8) 7 (ev law18.NamesSort.G k0 (codeAt [1, 1, 1, 1, 1, 1, 1, 1, 0, 1, 0, 0, 1, 1, 0, 0, 1, 1, 1, 0, 0] (bodyOf Try.f6)) 8) k1
  ⟨[.lst 1 v7 none v8, .top, .top, .top, .top, .top, .ptr 2 0 0, .top, .top, .top, .top, .top, .top, .top, .top, .lst 1 v9 none v10, .lst 1 v11 none v12, .top, .top, .top, .top, .top, .top, .top, .top, .top, .top, .top, .top, .top, .top, .top, .top, .top, .top, .top, .top, .top, .top, .top, .top, .top, .top, .top, .top, .top, .top, .top, .top, .top, .top, .top, .top, .top, .top, .top, .top, .top, .top, .top, .top, .top, .top, .top, .top, .top, .top, .top, .top, .top, .top, .top, .top, .top, .top, .top, .top, .top, .top, .top, .top, .top, .top, .top, .top, .top, .top, .top, .top, .top, .top, .top, .lst 1 2 (some 2) (fun i => cloL (List.getD [RL1.enc (v9, v10), RL1.enc (v11, v12)] i ([.val (.slice none 0 0)]))), .val (.int .i64 2), .val (.int .i64 1), .top, .top, .top, .top, .top, .top, .top, .top, .top, .top, .top, .top, .top, .top, .top, .top, .top, .top, .top, .top, .top, .top, .top, .top, .top, .top, .top, .top, .top, .top, .top, .top, .itr 6, .top, .top, .top, .top, .top, .top, .top, .top, .top, .top, .top, .top, .top, .top, .top], [.mapd none v1 v2, .mapd none v3 v4, .live ⟨true, 35, 1, 2, fun i => (List.drop (i * 1) [.mp 0, .mp 1]).take 1, (some 1000000)⟩, .dead, .dead, .iter 0 ⟨v5, none⟩, .iter 1 ⟨v6, none⟩]⟩
  (kBlock law18.NamesSort.G 8 (kBlock law18.NamesSort.G 5 (kSeq law18.NamesSort.G k0 (codeAt [1, 1, 1, 1, 1, 1, 1, 1, 0, 1, 0, 0, 1, 1, 1] (bodyOf Try.f6)) 4 (kTurns (ev law18.NamesSort.G k0 (codeAt [1, 1, 1, 1, 1, 1, 1, 1, 0, 1, 0, 0] (bodyOf Try.f6)) 4) 7 (kBlock law18.NamesSort.G 4 (kSeq law18.NamesSort.G k0 (codeAt [1, 1, 1, 1, 1, 1, 1, 1, 1] (bodyOf Try.f6)) 0 (kFin law18.NamesSort.G Try.f6 tB.dec)))))))
noncomputable def law18.NamesSort.l6 (k0 k1 : Nat) (v1 : List Int) (v2 : Int → List AV) (v3 : List Int) (v4 : Int → List AV) (v5 : List Int) (v6 : Nat) (v7 : Nat → List AV) (v8 : Nat) (v9 : Nat → List AV) (v10 : Nat) (v11 : Nat → List AV) (v12 : Int) (v13 : Int) : Option Bool :=
  evLoop (lookH law18.NamesSort.hs 6) 6 (ev law18.NamesSort.G k0 (codeAt [1, 1, 1, 1, 1, 1, 1, 1, 0, 1, 0, 0, 1, 1, 0, 0, 1, 0, 1, 0, 0] (bodyOf Try.f6)) 6) k1
  ⟨[.lst 1 v6 none v7, .top, .top, .top, .top, .top, .ptr 2 0 0, .top, .top, .top, .top, .top, .top, .top, .top, .lst 1 v8 none v9, .lst 1 v10 none v11, .val (.int .i64 1), .lst 1 v10 none v11, .top, .top, .top, .top, .top, .top, .top, .top, .top, .top, .top, .top, .top, .top, .top, .top, .top, .top, .top, .top, .top, .top, .top, .top, .top, .top, .top, .top, .top, .top, .top, .top, .top, .top, .top, .top, .top, .top, .top, .top, .top, .top, .top, .top, .top, .top, .top, .top, .top, .top, .top, .top, .top, .top, .top, .top, .top, .top, .top, .top, .top, .top, .top, .top, .top, .top, .top, .top, .top, .top, .top, .top, .top, .lst 1 2 (some 2) (fun i => cloL (List.getD [RL1.enc (v8, v9), RL1.enc (v10, v11)] i ([.val (.slice none 0 0)]))), .val (.int .i64 2), .val (.int .i64 1), .top, .top, .top, .top, .lst 1 v10 none v11, .val (.int .i64 v12), .val (.int .i64 v13), .top, .top, .top, .top, .top, .top, .top, .top, .top, .top, .top, .top, .top, .top, .top, .top, .top, .top, .top, .top, .top, .top, .top, .top, .top, .top, .top, .top, .top, .top, .top, .top, .top, .top, .top, .top, .top, .top, .top, .top, .top], [.mapd none v1 v2, .mapd none v3 v4, .live ⟨true, 35, 1, 2, fun i => (List.drop (i * 1) [.mp 0, .mp 1]).take 1, (some 1000000)⟩, .dead, .dead, .iter 0 ⟨v5, none⟩]⟩
  (kBlock law18.NamesSort.G 6 (kSeq law18.NamesSort.G k0 (codeAt [1, 1, 1, 1, 1, 1, 1, 1, 0, 1, 0, 0, 1, 1, 0, 0, 1, 1] (bodyOf Try.f6)) 5 (kBlock law18.NamesSort.G 5 (kSeq law18.NamesSort.G k0 (codeAt [1, 1, 1, 1, 1, 1, 1, 1, 0, 1, 0, 0, 1, 1, 1] (bodyOf Try.f6)) 4 (kTurns (ev law18.NamesSort.G k0 (codeAt [1, 1, 1, 1, 1, 1, 1, 1, 0, 1, 0, 0] (bodyOf Try.f6)) 4) 7 (kBlock law18.NamesSort.G 4 (kSeq law18.NamesSort.G k0 (codeAt [1, 1, 1, 1, 1, 1, 1, 1, 1] (bodyOf Try.f6)) 0 (kFin law18.NamesSort.G Try.f6 tB.dec))))))))
noncomputable def law18.NamesSort.l5 (k0 k1 : Nat) (v1 : List Int) (v2 : Int → List AV) (v3 : List Int) (v4 : Int → List AV) (v5 : List Int) (v6 : Nat) (v7 : Nat → List AV) (v8 : Nat) (v9 : Nat → List AV) (v10 : Nat) (v11 : Nat → List AV) : Option Bool :=
  evLoop (lookH law18.NamesSort.hs 8) 6 (ev law18.NamesSort.G k0 (codeAt [1, 1, 1, 1, 1, 1, 1, 1, 0, 1, 0, 0, 1, 1, 0, 0, 1, 1, 1, 0, 0] (bodyOf Try.f6)) 8) k1
  ⟨[.lst 1 v6 none v7, .top, .top, .top, .top, .top, .ptr 2 0 0, .top, .top, .top, .top, .top, .top, .top, .top, .lst 1 v8 none v9, .lst 1 v10 none v11, .top, .top, .top, .top, .top, .top, .top, .top, .top, .top, .top, .top, .top, .top, .top, .top, .top, .top, .top, .top, .top, .top, .top, .top, .top, .top, .top, .top, .top, .top, .top, .top, .top, .top, .top, .top, .top, .top, .top, .top, .top, .top, .top, .top, .top, .top, .top, .top, .top, .top, .top, .top, .top, .top, .top, .top, .top, .top, .top, .top, .top, .top, .top, .top, .top, .top, .top, .top, .top, .top, .top, .top, .top, .top, .top, .lst 1 2 (some 2) (fun i => cloL (List.getD [RL1.enc (v8, v9), RL1.enc (v10, v11)] i ([.val (.slice none 0 0)]))), .val (.int .i64 2), .val (.int .i64 0), .top, .top, .top, .top, .top, .top, .top, .top, .top, .top, .top, .top, .top, .top, .top, .top, .top, .top, .top, .top, .top, .top, .top, .top, .top, .top, .top, .top, .top, .top, .top, .top, .itr 5, .top, .top, .top, .top, .top, .top, .top, .top, .top, .top, .top, .top, .top, .top, .top], [.mapd none v1 v2, .mapd none v3 v4, .live ⟨true, 35, 1, 2, fun i => (List.drop (i * 1) [.mp 0, .mp 1]).take 1, (some 1000000)⟩, .dead, .dead, .iter 0 ⟨v5, none⟩]⟩
  (kBlock law18.NamesSort.G 8 (kBlock law18.NamesSort.G 5 (kSeq law18.NamesSort.G k0 (codeAt [1, 1, 1, 1, 1, 1, 1, 1, 0, 1, 0, 0, 1, 1, 1] (bodyOf Try.f6)) 4 (kTurns (ev law18.NamesSort.G k0 (codeAt [1, 1, 1, 1, 1, 1, 1, 1, 0, 1, 0, 0] (bodyOf Try.f6)) 4) 8 (kBlock law18.NamesSort.G 4 (kSeq law18.NamesSort.G k0 (codeAt [1, 1, 1, 1, 1, 1, 1, 1, 1] (bodyOf Try.f6)) 0 (kFin law18.NamesSort.G Try.f6 tB.dec)))))))
noncomputable def law18.NamesSort.l4 (k0 k1 : Nat) (v1 : List Int) (v2 : Int → List AV) (v3 : List Int) (v4 : Int → List AV) (v5 : Nat) (v6 : Nat → List AV) (v7 : Nat) (v8 : Nat → List AV) (v9 : Nat) (v10 : Nat → List AV) (v11 : Int) (v12 : Int) : Option Bool :=
  evLoop (lookH law18.NamesSort.hs 6) 5 (ev law18.NamesSort.G k0 (codeAt [1, 1, 1, 1, 1, 1, 1, 1, 0, 1, 0, 0, 1, 1, 0, 0, 1, 0, 1, 0, 0] (bodyOf Try.f6)) 6) k1
  ⟨[.lst 1 v5 none v6, .top, .top, .top, .top, .top, .ptr 2 0 0, .top, .top, .top, .top, .top, .top, .top, .top, .lst 1 v7 none v8, .lst 1 v9 none v10, .val (.int .i64 0), .lst 1 v7 none v8, .top, .top, .top, .top, .top, .top, .top, .top, .top, .top, .top, .top, .top, .top, .top, .top, .top, .top, .top, .top, .top, .top, .top, .top, .top, .top, .top, .top, .top, .top, .top, .top, .top, .top, .top, .top, .top, .top, .top, .top, .top, .top, .top, .top, .top, .top, .top, .top, .top, .top, .top, .top, .top, .top, .top, .top, .top, .top, .top, .top, .top, .top, .top, .top, .top, .top, .top, .top, .top, .top, .top, .top, .top, .lst 1 2 (some 2) (fun i => cloL (List.getD [RL1.enc (v7, v8), RL1.enc (v9, v10)] i ([.val (.slice none 0 0)]))), .val (.int .i64 2), .val (.int .i64 0), .top, .top, .top, .top, .lst 1 v7 none v8, .val (.int .i64 v11), .val (.int .i64 v12), .top, .top, .top, .top, .top, .top, .top, .top, .top, .top, .top, .top, .top, .top, .top, .top, .top, .top, .top, .top, .top, .top, .top, .top, .top, .top, .top, .top, .top, .top, .top, .top, .top, .top, .top, .top, .top, .top, .top, .top, .top], [.mapd none v1 v2, .mapd none v3 v4, .live ⟨true, 35, 1, 2, fun i => (List.drop (i * 1) [.mp 0, .mp 1]).take 1, (some 1000000)⟩, .dead, .dead]⟩
  (kBlock law18.NamesSort.G 6 (kSeq law18.NamesSort.G k0 (codeAt [1, 1, 1, 1, 1, 1, 1, 1, 0, 1, 0, 0, 1, 1, 0, 0, 1, 1] (bodyOf Try.f6)) 5 (kBlock law18.NamesSort.G 5 (kSeq law18.NamesSort.G k0 (codeAt [1, 1, 1, 1, 1, 1, 1, 1, 0, 1, 0, 0, 1, 1, 1] (bodyOf Try.f6)) 4 (kTurns (ev law18.NamesSort.G k0 (codeAt [1, 1, 1, 1, 1, 1, 1, 1, 0, 1, 0, 0] (bodyOf Try.f6)) 4) 8 (kBlock law18.NamesSort.G 4 (kSeq law18.NamesSort.G k0 (codeAt [1, 1, 1, 1, 1, 1, 1, 1, 1] (bodyOf Try.f6)) 0 (kFin law18.NamesSort.G Try.f6 tB.dec))))))))
noncomputable def law18.NamesSort.l3 (k0 k1 : Nat) (v1 : List Int) (v2 : Int → List AV) (v3 : List Int) (v4 : Int → List AV) (v5 : Nat) (v6 : Nat → List AV) (v7 : Nat) (v8 : Nat → List AV) (v9 : Nat) (v10 : Nat → List AV) (v11 : Int) (v12 : Int) : Option Bool :=
  evLoop (lookH law18.NamesSort.hs 2) 4 (ev law18.NamesSort.G k0 (codeAt [1, 1, 1, 1, 1, 1, 0, 1, 0, 0] (bodyOf Try.f6)) 2) k1
  ⟨[.lst 1 v7 none v8, .top, .top, .top, .top, .slc 3 0 none none, .ptr 2 0 0, .top, .top, .top, .top, .top, .top, .top, .top, .top, .top, .top, .top, .top, .top, .top, .top, .top, .top, .top, .top, .top, .top, .top, .top, .top, .top, .top, .top, .top, .top, .top, .top, .top, .top, .top, .top, .top, .top, .top, .top, .top, .top, .top, .top, .top, .top, .top, .top, .top, .top, .top, .top, .top, .top, .top, .top, .top, .top, .top, .lst 1 v9 none v10, .val (.int .i64 v11), .val (.int .i64 v12), .top, .top, .top, .top, .top, .top, .top, .top, .top, .top, .top, .top, .top, .top, .top, .top, .top, .top, .top, .top, .top, .top, .top, .top, .top, .top, .top, .top, .top, .top, .top, .top, .top, .top, .top, .top, .top, .top, .top, .top, .top, .top, .top, .top, .top, .top, .top, .top, .top, .top, .top, .top, .top, .top, .top, .top, .top, .top, .top, .top, .top, .top, .top, .top, .top, .top, .top, .top, .top, .top, .top, .top, .top, .top], [.mapd none v1 v2, .mapd none v3 v4, .live ⟨true, 35, 1, 2, fun i => (List.drop (i * 1) [.mp 0, .mp 1]).take 1, (some 1000000)⟩, .live ⟨true, 9, 1, v5, v6, none⟩]⟩
  (kBlock law18.NamesSort.G 2 (kSeq law18.NamesSort.G k0 (codeAt [1, 1, 1, 1, 1, 1, 1] (bodyOf Try.f6)) 0 (kFin law18.NamesSort.G Try.f6 tB.dec)))
noncomputable def law18.NamesSort.l2 (k0 k1 : Nat) (v1 : List Int) (v2 : Int → List AV) (v3 : List Int) (v4 : Int → List AV) (v5 : Nat) (v6 : Nat → List AV) (v7 : Nat) (v8 : Nat → List AV) (v9 : Nat) (v10 : Nat → List AV) (v11 : Int) (v12 : Int) : Option Bool :=
  evLoop (lookH law18.NamesSort.hs 0) 4 (ev law18.NamesSort.G k0 (codeAt [1, 1, 1, 1, 1, 0, 1, 0, 0] (bodyOf Try.f6)) 0) k1
  ⟨[.lst 1 v7 none v8, .lst 1 v9 none v10, .top, .top, .top, .slc 3 0 none none, .ptr 2 0 0, .top, .top, .top, .top, .top, .top, .top, .top, .top, .top, .top, .top, .top, .top, .top, .top, .top, .top, .top, .top, .top, .top, .top, .top, .top, .top, .top, .top, .top, .lst 1 v7 none v8, .val (.int .i64 v11), .val (.int .i64 v12), .top, .top, .top, .top, .top, .top, .top, .top, .top, .top, .top, .top, .top, .top, .top, .top, .top, .top, .top, .top, .top, .top, .top, .top, .top, .top, .top, .top, .top, .top, .top, .top, .top, .top, .top, .top, .top, .top, .top, .top, .top, .top, .top, .top, .top, .top, .top, .top, .top, .top, .top, .top, .top, .top, .top, .top, .top, .top, .top, .top, .top, .top, .top, .top, .top, .top, .top, .top, .top, .top, .top, .top, .top, .top, .top, .top, .top, .top, .top, .top, .top, .top, .top, .top, .top, .top, .top, .top, .top, .top, .top, .top, .top, .top, .top, .top, .top, .top, .top, .top, .top, .top, .top, .top], [.mapd none v1 v2, .mapd none v3 v4, .live ⟨true, 35, 1, 2, fun i => (List.drop (i * 1) [.mp 0, .mp 1]).take 1, (some 1000000)⟩, .live ⟨true, 9, 1, v5, v6, none⟩]⟩
  (kBlock law18.NamesSort.G 0 (kSeq law18.NamesSort.G k0 (codeAt [1, 1, 1, 1, 1, 1] (bodyOf Try.f6)) 0 (kFin law18.NamesSort.G Try.f6 tB.dec)))
theorem law18.NamesSort.l7_eq (k0 k1 : Nat) (v1 : List Int) (v2 : Int → Int) (v3 : List Int) (v4 : Int → Int) (v5 : List Int) (v6 : List Int) (v7 : Nat) (v8 : Nat → Int) (v9 : Nat) (v10 : Nat → Int) (v11 : Nat) (v12 : Nat → Int) : law18.NamesSort.l7 k0 (k1 + 1) v1 (fun i => Ri.enc (v2 i)) v3 (fun i => Ri.enc (v4 i)) v5 v6 v7 (fun i => Ri.enc (v8 i)) v9 (fun i => Ri.enc (v10 i)) v11 (fun i => Ri.enc (v12 i)) =
  nextK v6 (fun r8 =>
    bif ((v4 r8) != 0) then
      some false
    else
    law18.NamesSort.l7 k0 k1 v1 (fun i => Ri.enc (v2 i)) v3 (fun i => Ri.enc (v4 i)) v5 (delI v6 r8) v7 (fun i => Ri.enc (v8 i)) v9 (fun i => Ri.enc (v10 i)) v11 (fun i => Ri.enc (v12 i))) (
    some ((IntKind.i64.wrap (((v9 : Nat) : Int) + ((v11 : Nat) : Int))) == ((v7 : Nat) : Int))) := by kernel_rfl
theorem law18.NamesSort.l6_eq (k0 k1 : Nat) (v1 : List Int) (v2 : Int → Int) (v3 : List Int) (v4 : Int → Int) (v5 : List Int) (v6 : Nat) (v7 : Nat → Int) (v8 : Nat) (v9 : Nat → Int) (v10 : Nat) (v11 : Nat → Int) (v12 : Int) (v13 : Int) : law18.NamesSort.l6 k0 (k1 + 1) v1 (fun i => Ri.enc (v2 i)) v3 (fun i => Ri.enc (v4 i)) v5 v6 (fun i => Ri.enc (v7 i)) v8 (fun i => Ri.enc (v9 i)) v10 (fun i => Ri.enc (v11 i)) v12 v13 =
  bif (decide (v13 < v12)) then
    bif ((decide (0 ≤ v13)) && (decide (v13 < ((v10 : Nat) : Int)))) then
    bif (decide (v13 > 0)) then
      bif ((decide (0 ≤ (IntKind.i64.wrap (v13 - 1)))) && (decide ((IntKind.i64.wrap (v13 - 1)) < ((v10 : Nat) : Int)))) then
      bif (decide ((v11 (Int.toNat (IntKind.i64.wrap (v13 - 1)))) > (v11 (Int.toNat v13)))) then
        some false
      else
      law18.NamesSort.l6 k0 k1 v1 (fun i => Ri.enc (v2 i)) (putI v3 (v11 (Int.toNat v13))) (fun i => bif i == (v11 (Int.toNat v13)) then Ri.enc (IntKind.i64.wrap ((v4 (v11 (Int.toNat v13))) - 1)) else Ri.enc (v4 i)) v5 v6 (fun i => Ri.enc (v7 i)) v8 (fun i => Ri.enc (v9 i)) v10 (fun i => Ri.enc (v11 i)) v12 (IntKind.i64.wrap (v13 + 1))
      else none
    else
    law18.NamesSort.l6 k0 k1 v1 (fun i => Ri.enc (v2 i)) (putI v3 (v11 (Int.toNat v13))) (fun i => bif i == (v11 (Int.toNat v13)) then Ri.enc (IntKind.i64.wrap ((v4 (v11 (Int.toNat v13))) - 1)) else Ri.enc (v4 i)) v5 v6 (fun i => Ri.enc (v7 i)) v8 (fun i => Ri.enc (v9 i)) v10 (fun i => Ri.enc (v11 i)) v12 (IntKind.i64.wrap (v13 + 1))
    else none
  else
  law18.NamesSort.l7 k0 k0 v1 (fun i => Ri.enc (v2 i)) v3 (fun i => Ri.enc (v4 i)) v5 v3 v6 (fun i => Ri.enc (v7 i)) v8 (fun i => Ri.enc (v9 i)) v10 (fun i => Ri.enc (v11 i)) := by kernel_rfl
theorem law18.NamesSort.l5_eq (k0 k1 : Nat) (v1 : List Int) (v2 : Int → Int) (v3 : List Int) (v4 : Int → Int) (v5 : List Int) (v6 : Nat) (v7 : Nat → Int) (v8 : Nat) (v9 : Nat → Int) (v10 : Nat) (v11 : Nat → Int) : law18.NamesSort.l5 k0 (k1 + 1) v1 (fun i => Ri.enc (v2 i)) v3 (fun i => Ri.enc (v4 i)) v5 v6 (fun i => Ri.enc (v7 i)) v8 (fun i => Ri.enc (v9 i)) v10 (fun i => Ri.enc (v11 i)) =
  nextK v5 (fun r7 =>
    bif ((v2 r7) != 0) then
      some false
    else
    law18.NamesSort.l5 k0 k1 v1 (fun i => Ri.enc (v2 i)) v3 (fun i => Ri.enc (v4 i)) (delI v5 r7) v6 (fun i => Ri.enc (v7 i)) v8 (fun i => Ri.enc (v9 i)) v10 (fun i => Ri.enc (v11 i))) (
    law18.NamesSort.l6 k0 k0 v1 (fun i => Ri.enc (v2 i)) v3 (fun i => Ri.enc (v4 i)) v5 v6 (fun i => Ri.enc (v7 i)) v8 (fun i => Ri.enc (v9 i)) v10 (fun i => Ri.enc (v11 i)) ((v10 : Nat) : Int) 0) := by kernel_rfl
theorem law18.NamesSort.l4_eq (k0 k1 : Nat) (v1 : List Int) (v2 : Int → Int) (v3 : List Int) (v4 : Int → Int) (v5 : Nat) (v6 : Nat → Int) (v7 : Nat) (v8 : Nat → Int) (v9 : Nat) (v10 : Nat → Int) (v11 : Int) (v12 : Int) : law18.NamesSort.l4 k0 (k1 + 1) v1 (fun i => Ri.enc (v2 i)) v3 (fun i => Ri.enc (v4 i)) v5 (fun i => Ri.enc (v6 i)) v7 (fun i => Ri.enc (v8 i)) v9 (fun i => Ri.enc (v10 i)) v11 v12 =
  bif (decide (v12 < v11)) then
    bif ((decide (0 ≤ v12)) && (decide (v12 < ((v7 : Nat) : Int)))) then
    bif (decide (v12 > 0)) then
      bif ((decide (0 ≤ (IntKind.i64.wrap (v12 - 1)))) && (decide ((IntKind.i64.wrap (v12 - 1)) < ((v7 : Nat) : Int)))) then
      bif (decide ((v8 (Int.toNat (IntKind.i64.wrap (v12 - 1)))) > (v8 (Int.toNat v12)))) then
        some false
      else
      law18.NamesSort.l4 k0 k1 (putI v1 (v8 (Int.toNat v12))) (fun i => bif i == (v8 (Int.toNat v12)) then Ri.enc (IntKind.i64.wrap ((v2 (v8 (Int.toNat v12))) - 1)) else Ri.enc (v2 i)) v3 (fun i => Ri.enc (v4 i)) v5 (fun i => Ri.enc (v6 i)) v7 (fun i => Ri.enc (v8 i)) v9 (fun i => Ri.enc (v10 i)) v11 (IntKind.i64.wrap (v12 + 1))
      else none
    else
    law18.NamesSort.l4 k0 k1 (putI v1 (v8 (Int.toNat v12))) (fun i => bif i == (v8 (Int.toNat v12)) then Ri.enc (IntKind.i64.wrap ((v2 (v8 (Int.toNat v12))) - 1)) else Ri.enc (v2 i)) v3 (fun i => Ri.enc (v4 i)) v5 (fun i => Ri.enc (v6 i)) v7 (fun i => Ri.enc (v8 i)) v9 (fun i => Ri.enc (v10 i)) v11 (IntKind.i64.wrap (v12 + 1))
    else none
  else
  law18.NamesSort.l5 k0 k0 v1 (fun i => Ri.enc (v2 i)) v3 (fun i => Ri.enc (v4 i)) v1 v5 (fun i => Ri.enc (v6 i)) v7 (fun i => Ri.enc (v8 i)) v9 (fun i => Ri.enc (v10 i)) := by kernel_rfl
theorem law18.NamesSort.l3_eq (k0 k1 : Nat) (v1 : List Int) (v2 : Int → Int) (v3 : List Int) (v4 : Int → Int) (v5 : Nat) (v6 : Nat → ByteArray) (v7 : Nat) (v8 : Nat → Int) (v9 : Nat) (v10 : Nat → ByteArray) (v11 : Int) (v12 : Int) : law18.NamesSort.l3 k0 (k1 + 1) v1 (fun i => Ri.enc (v2 i)) v3 (fun i => Ri.enc (v4 i)) v5 (fun i => Rs.enc (v6 i)) v7 (fun i => Ri.enc (v8 i)) v9 (fun i => Rs.enc (v10 i)) v11 v12 =
  bif (decide (v12 < v11)) then
    bif ((decide (0 ≤ v12)) && (decide (v12 < ((v9 : Nat) : Int)))) then
    (names.Parse.f (v10 (Int.toNat v12))).bind fun r5 =>
    bif (!r5.2.2) then
      bif (decide ((1 + v5) * 16 ≤ 140737488355328)) then
      law18.NamesSort.l3 k0 k1 v1 (fun i => Ri.enc (v2 i)) v3 (fun i => Ri.enc (v4 i)) (1 + v5) (fun i => renL (lookF [(5, 3)] 4) (if i < 1 then (fun i => List.getD (List.map Rs.enc [(v10 (Int.toNat v12))]) i (Rs.enc (ByteArray.mk #[]))) i else (fun i => Rs.enc (v6 i)) (i - 1))) v7 (fun i => Ri.enc (v8 i)) v9 (fun i => Rs.enc (v10 i)) v11 (IntKind.i64.wrap (v12 + 1))
      else none
    else
    law18.NamesSort.l3 k0 k1 v1 (fun i => Ri.enc (v2 i)) v3 (fun i => Ri.enc (v4 i)) v5 (fun i => Rs.enc (v6 i)) v7 (fun i => Ri.enc (v8 i)) v9 (fun i => Rs.enc (v10 i)) v11 (IntKind.i64.wrap (v12 + 1))
    else none
  else
  (names.Sort.f (v5, (fun i => Rs.enc (v6 i)))).bind fun r6 =>
  law18.NamesSort.l4 k0 k0 v1 (fun i => Ri.enc (v2 i)) v3 (fun i => Ri.enc (v4 i)) v7 (fun i => Ri.enc (v8 i)) r6.1.1 (fun i => Ri.enc (r6.1.2 i)) r6.2.1 (fun i => Ri.enc (r6.2.2 i)) ((r6.1.1 : Nat) : Int) 0 := by kernel_rfl
theorem law18.NamesSort.l2_eq (k0 k1 : Nat) (v1 : List Int) (v2 : Int → Int) (v3 : List Int) (v4 : Int → Int) (v5 : Nat) (v6 : Nat → ByteArray) (v7 : Nat) (v8 : Nat → Int) (v9 : Nat) (v10 : Nat → ByteArray) (v11 : Int) (v12 : Int) : law18.NamesSort.l2 k0 (k1 + 1) v1 (fun i => Ri.enc (v2 i)) v3 (fun i => Ri.enc (v4 i)) v5 (fun i => Rs.enc (v6 i)) v7 (fun i => Ri.enc (v8 i)) v9 (fun i => Rs.enc (v10 i)) v11 v12 =
  bif (decide (v12 < v11)) then
    bif ((decide (0 ≤ v12)) && (decide (v12 < ((v7 : Nat) : Int)))) then
    (law18.may.f (v8 (Int.toNat v12))).bind fun r2 =>
    bif ((Go.bits .and .i64 v12 1) == 0) then
      (names.Check.f r2).bind fun r3 =>
      bif (decide ((v5 + 1) * 16 ≤ 140737488355328)) then
      bif ((Go.bits .and .i64 v12 1) == 0) then
        law18.NamesSort.l2 k0 k1 (putI v1 r2) (fun i => bif i == r2 then Ri.enc (IntKind.i64.wrap ((v2 r2) + 1)) else Ri.enc (v2 i)) v3 (fun i => Ri.enc (v4 i)) (v5 + 1) (fun i => renL (lookF [(5, 3)] 4) (if i = v5 then Rs.enc r3 else Rs.enc (v6 i))) v7 (fun i => Ri.enc (v8 i)) v9 (fun i => Rs.enc (v10 i)) v11 (IntKind.i64.wrap (v12 + 1))
      else
      bif ((Go.bits .and .i64 v12 1) == 1) then
      law18.NamesSort.l2 k0 k1 v1 (fun i => Ri.enc (v2 i)) (putI v3 r2) (fun i => bif i == r2 then Ri.enc (IntKind.i64.wrap ((v4 r2) + 1)) else Ri.enc (v4 i)) (v5 + 1) (fun i => renL (lookF [(5, 3)] 4) (if i = v5 then Rs.enc r3 else Rs.enc (v6 i))) v7 (fun i => Ri.enc (v8 i)) v9 (fun i => Rs.enc (v10 i)) v11 (IntKind.i64.wrap (v12 + 1))
      else none
      else none
    else
    (names.Segment.f r2).bind fun r4 =>
    bif (decide ((v5 + 1) * 16 ≤ 140737488355328)) then
    bif ((Go.bits .and .i64 v12 1) == 0) then
      law18.NamesSort.l2 k0 k1 (putI v1 r2) (fun i => bif i == r2 then Ri.enc (IntKind.i64.wrap ((v2 r2) + 1)) else Ri.enc (v2 i)) v3 (fun i => Ri.enc (v4 i)) (v5 + 1) (fun i => renL (lookF [(5, 3)] 4) (if i = v5 then Rs.enc r4 else Rs.enc (v6 i))) v7 (fun i => Ri.enc (v8 i)) v9 (fun i => Rs.enc (v10 i)) v11 (IntKind.i64.wrap (v12 + 1))
    else
    bif ((Go.bits .and .i64 v12 1) == 1) then
    law18.NamesSort.l2 k0 k1 v1 (fun i => Ri.enc (v2 i)) (putI v3 r2) (fun i => bif i == r2 then Ri.enc (IntKind.i64.wrap ((v4 r2) + 1)) else Ri.enc (v4 i)) (v5 + 1) (fun i => renL (lookF [(5, 3)] 4) (if i = v5 then Rs.enc r4 else Rs.enc (v6 i))) v7 (fun i => Ri.enc (v8 i)) v9 (fun i => Rs.enc (v10 i)) v11 (IntKind.i64.wrap (v12 + 1))
    else none
    else none
    else none
  else
  law18.NamesSort.l3 k0 k0 v1 (fun i => Ri.enc (v2 i)) v3 (fun i => Ri.enc (v4 i)) v5 (fun i => Rs.enc (v6 i)) v7 (fun i => Ri.enc (v8 i)) v9 (fun i => Rs.enc (v10 i)) ((v9 : Nat) : Int) 0 := by kernel_rfl
theorem law18.NamesSort.eq (k0 : Nat) (p0_n : Nat) (p0_g : Nat → Int) (p1_n : Nat) (p1_g : Nat → ByteArray) : law18.NamesSort.g k0 ((p0_n, (fun i => Ri.enc (p0_g i))), (p1_n, (fun i => Rs.enc (p1_g i)))) =
  (law18.fit.f ()).bind fun r1 =>
  bif (!r1) then
    some false
  else
  bif (decide (((p0_n : Nat) : Int) > 40)) then
    some true
  else
  bif (decide (((p1_n : Nat) : Int) > 20)) then
    some true
  else
  law18.NamesSort.l2 k0 k0 [] (fun _ => Ri.enc 0) [] (fun _ => Ri.enc 0) 0 (fun _ => Rs.enc (ByteArray.mk #[])) p0_n (fun i => Ri.enc (p0_g i)) p1_n (fun i => Rs.enc (p1_g i)) ((p0_n : Nat) : Int) 0 := by kernel_rfl
end Go.Proofs.Ytooknkplmpnnnaa.E
