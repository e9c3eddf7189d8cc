import Derived.Test.YtejlappndcakeaaFw1
import Derived.Test.YtejlappndcakeaaProg
namespace Go.Proofs.Ytejlappndcakeaa.E
open Go Go.Proofs Go.Proofs.Ytejlappndcakeaa Go.Proofs.Ytejlappndcakeaa.Fw Go.RowKit
set_option maxRecDepth 100000
set_option linter.unusedVariables false
def Tab3586caee : List Int := [0, 26353424, 52705856, 79056303, 105403774, 131747276, 158085819, 184418409, 210744057, 237061769, 263370557, 289669429, 315957395, 342233465, 368496651, 394745962, 420980412, 447199012, 473400776, 499584716, 525749847, 551895183, 578019742, 604122538, 630202589, 656258914, 682290530, 708296459, 734275721, 760227338, 786150333, 812043729, 837906553, 863737830, 889536587, 915301854, 941032661, 966728038, 992387019, 1018008636, 1043591926, 1069135926, 1094639673, 1120102207, 1145522571, 1170899806, 1196232957, 1221521071, 1246763195, 1271958380, 1297105676, 1322204136, 1347252816, 1372250773, 1397197066, 1422090755, 1446930903, 1471716574, 1496446837, 1521120759, 1545737412, 1570295869, 1594795204, 1619234497, 1643612827, 1667929275, 1692182927, 1716372869, 1740498191, 1764557983, 1788551342, 1812477362, 1836335144, 1860123788, 1883842400, 1907490086, 1931065957, 1954569124, 1977998702, 2001353810, 2024633568, 2047837100, 2070963532, 2094011993, 2116981616, 2139871536, 2162680890, 2185408821, 2208054473, 2230616993, 2253095531, 2275489241, 2297797281, 2320018810, 2342152991, 2364198992, 2386155981, 2408023134, 2429799626, 2451484637, 2473077351, 2494576955, 2515982640, 2537293599, 2558509031, 2579628136, 2600650120, 2621574191, 2642399561, 2663125446, 2683751066, 2704275644, 2724698408, 2745018589, 2765235421, 2785348143, 2805355999, 2825258235, 2845054101, 2864742853, 2884323748, 2903796051, 2923159027, 2942411948, 2961554089, 2980584729, 2999503152, 3018308645, 3037000500, 3055578014, 3074040487, 3092387225, 3110617535, 3128730733, 3146726136, 3164603066, 3182360851, 3199998822, 3217516315, 3234912670, 3252187232, 3269339351, 3286368382, 3303273682, 3320054617, 3336710553, 3353240863, 3369644927, 3385922125, 3402071844, 3418093478, 3433986423, 3449750080, 3465383855, 3480887161, 3496259414, 3511500034, 3526608449, 3541584088, 3556426389, 3571134792, 3585708745, 3600147697, 3614451106, 3628618433, 3642649144, 3656542712, 3670298613, 3683916329, 3697395348, 3710735162, 3723935269, 3736995171, 3749914379, 3762692404, 3775328765, 3787822988, 3800174601, 3812383140, 3824448145, 3836369162, 3848145741, 3859777440, 3871263820, 3882604450, 3893798902, 3904846754, 3915747591, 3926501002, 3937106583, 3947563934, 3957872662, 3968032378, 3978042699, 3987903250, 3997613658, 4007173558, 4016582591, 4025840401, 4034946641, 4043900968, 4052703044, 4061352537, 4069849124, 4078192482, 4086382299, 4094418266, 4102300081, 4110027446, 4117600071, 4125017671, 4132279966, 4139386683, 4146337555, 4153132319, 4159770720, 4166252509, 4172577440, 4178745276, 4184755784, 4190608739, 4196303920, 4201841112, 4207220108, 4212440704, 4217502704, 4222405917, 4227150159, 4231735252, 4236161021, 4240427302, 4244533933, 4248480760, 4252267634, 4255894413, 4259360959, 4262667143, 4265812840, 4268797931, 4271622305, 4274285855, 4276788480, 4279130086, 4281310585, 4283329896, 4285187942, 4286884652, 4288419964, 4289793820, 4291006167, 4292056960, 4292946160, 4293673732, 4294239650, 4294643893, 4294886444, 4294967296]
def Str11c1601c : ByteArray := ByteArray.mk #[0, 1, 2, 2, 3, 3, 3, 3, 4, 4, 4, 4, 4, 4, 4, 4, 5, 5, 5, 5, 5, 5, 5, 5, 5, 5, 5, 5, 5, 5, 5, 5, 6, 6, 6, 6, 6, 6, 6, 6, 6, 6, 6, 6, 6, 6, 6, 6, 6, 6, 6, 6, 6, 6, 6, 6, 6, 6, 6, 6, 6, 6, 6, 6, 7, 7, 7, 7, 7, 7, 7, 7, 7, 7, 7, 7, 7, 7, 7, 7, 7, 7, 7, 7, 7, 7, 7, 7, 7, 7, 7, 7, 7, 7, 7, 7, 7, 7, 7, 7, 7, 7, 7, 7, 7, 7, 7, 7, 7, 7, 7, 7, 7, 7, 7, 7, 7, 7, 7, 7, 7, 7, 7, 7, 7, 7, 7, 7, 8, 8, 8, 8, 8, 8, 8, 8, 8, 8, 8, 8, 8, 8, 8, 8, 8, 8, 8, 8, 8, 8, 8, 8, 8, 8, 8, 8, 8, 8, 8, 8, 8, 8, 8, 8, 8, 8, 8, 8, 8, 8, 8, 8, 8, 8, 8, 8, 8, 8, 8, 8, 8, 8, 8, 8, 8, 8, 8, 8, 8, 8, 8, 8, 8, 8, 8, 8, 8, 8, 8, 8, 8, 8, 8, 8, 8, 8, 8, 8, 8, 8, 8, 8, 8, 8, 8, 8, 8, 8, 8, 8, 8, 8, 8, 8, 8, 8, 8, 8, 8, 8, 8, 8, 8, 8, 8, 8, 8, 8, 8, 8, 8, 8, 8, 8, 8, 8, 8, 8, 8, 8, 8, 8, 8, 8, 8, 8]
def Riiii : TyL (Int × Int × Int × Int) := (tCons (tI .i64) (tCons (tI .i64) (tCons (tI .i64) (tOne (tI .i64)))))
theorem Riiii_ok : Riiii.Ok := (tCons_ok (tI_ok _) (tCons_ok (tI_ok _) (tCons_ok (tI_ok _) (tOne_ok (tI_ok _)))))
theorem Riiii_ren (f : Nat → Option Nat) (x : (Int × Int × Int × Int)) : renL f (Riiii.enc x) = Riiii.enc x := by kernel_rfl
theorem Riiii_clo (x : (Int × Int × Int × Int)) : cloL (Riiii.enc x) = Riiii.enc x := by kernel_rfl
theorem Riiii_dec (x : (Int × Int × Int × Int)) : Riiii.dec (Riiii.enc x) = some x := by kernel_rfl
def Rii : TyL (Int × Int) := (tCons (tI .i64) (tOne (tI .i64)))
theorem Rii_ok : Rii.Ok := (tCons_ok (tI_ok _) (tOne_ok (tI_ok _)))
theorem Rii_ren (f : Nat → Option Nat) (x : (Int × Int)) : renL f (Rii.enc x) = Rii.enc x := by kernel_rfl
theorem Rii_clo (x : (Int × Int)) : cloL (Rii.enc x) = Rii.enc x := by kernel_rfl
theorem Rii_dec (x : (Int × Int)) : Rii.dec (Rii.enc x) = some x := by kernel_rfl
def Ri : TyL Int := (tOne (tI .i64))
theorem Ri_ok : Ri.Ok := (tOne_ok (tI_ok _))
theorem Ri_ren (f : Nat → Option Nat) (x : Int) : renL f (Ri.enc x) = Ri.enc x := by kernel_rfl
theorem Ri_clo (x : Int) : cloL (Ri.enc x) = Ri.enc x := by kernel_rfl
theorem Ri_dec (x : Int) : Ri.dec (Ri.enc x) = some x := by kernel_rfl
/-! ### bagatelle/fix.whole -/
noncomputable def fix.whole.cs : List (Nat × Fw.Summ) := []
theorem fix.whole.cs_ok : SumsOk Try.prog fix.whole.cs := .nil
def fix.whole.hs : List (Nat × LHint) := []
noncomputable def fix.whole.G : Ctx := ⟨Try.prog, sumAt fix.whole.cs, lookH fix.whole.hs, true⟩
noncomputable def fix.whole.f (x : Int) : Option Int := evF fix.whole.G 0 Try.f45 ((tOne (tI .i64)).enc x) (tI .i64).dec
noncomputable def fix.whole.s : Fw.Summ := .mk' (tOne (tI .i64)) (tI .i64) fix.whole.f
theorem fix.whole.ok : fix.whole.s.Ok Try.prog 45 :=
  summ_ok (hint := lookH fix.whole.hs) (fn := Try.f45) (fun x => 0) fix.whole.cs_ok (by kernel_rfl) (by kernel_rfl) (by kernel_rfl) (by kernel_rfl) (tOne_ok (tI_ok _)) (tI_ok _) (fun _ => rfl)
theorem fix.whole.eq (p0 : Int) : fix.whole.f p0 =
  some (if (-9223372036854775807) > p0 then (-9223372036854775807) else p0) := by kernel_rfl
/-! ### bagatelle/fix.Neg -/
noncomputable def fix.Neg.cs : List (Nat × Fw.Summ) := [(45, fix.whole.s)]
theorem fix.Neg.cs_ok : SumsOk Try.prog fix.Neg.cs := .cons fix.whole.ok (.nil)
def fix.Neg.hs : List (Nat × LHint) := []
noncomputable def fix.Neg.G : Ctx := ⟨Try.prog, sumAt fix.Neg.cs, lookH fix.Neg.hs, true⟩
noncomputable def fix.Neg.f (x : Int) : Option Int := evF fix.Neg.G 0 Try.f35 ((tOne (tI .i64)).enc x) (tI .i64).dec
noncomputable def fix.Neg.s : Fw.Summ := .mk' (tOne (tI .i64)) (tI .i64) fix.Neg.f
theorem fix.Neg.ok : fix.Neg.s.Ok Try.prog 35 :=
  summ_ok (hint := lookH fix.Neg.hs) (fn := Try.f35) (fun x => 0) fix.Neg.cs_ok (by kernel_rfl) (by kernel_rfl) (by kernel_rfl) (by kernel_rfl) (tOne_ok (tI_ok _)) (tI_ok _) (fun _ => rfl)
theorem fix.Neg.eq (p0 : Int) : fix.Neg.f p0 =
  (fix.whole.f p0).bind fun r1 =>
  some (IntKind.i64.wrap (0 - r1)) := by kernel_rfl
/-! ### bagatelle/fix.Add -/
noncomputable def fix.Add.cs : List (Nat × Fw.Summ) := [(45, fix.whole.s)]
theorem fix.Add.cs_ok : SumsOk Try.prog fix.Add.cs := .cons fix.whole.ok (.nil)
def fix.Add.hs : List (Nat × LHint) := []
noncomputable def fix.Add.G : Ctx := ⟨Try.prog, sumAt fix.Add.cs, lookH fix.Add.hs, true⟩
noncomputable def fix.Add.f (x : (Int × Int)) : Option Int := evF fix.Add.G 0 Try.f42 ((tCons (tI .i64) (tOne (tI .i64))).enc x) (tI .i64).dec
noncomputable def fix.Add.s : Fw.Summ := .mk' (tCons (tI .i64) (tOne (tI .i64))) (tI .i64) fix.Add.f
theorem fix.Add.ok : fix.Add.s.Ok Try.prog 42 :=
  summ_ok (hint := lookH fix.Add.hs) (fn := Try.f42) (fun x => 0) fix.Add.cs_ok (by kernel_rfl) (by kernel_rfl) (by kernel_rfl) (by kernel_rfl) (tCons_ok (tI_ok _) (tOne_ok (tI_ok _))) (tI_ok _) (fun _ => rfl)
theorem fix.Add.eq (p0 : Int) (p1 : Int) : fix.Add.f (p0, p1) =
  (fix.whole.f p0).bind fun r1 =>
  (fix.whole.f p1).bind fun r2 =>
  bif (decide (r1 > 0)) then
    bif (decide (r2 > 0)) then
      bif (decide ((IntKind.i64.wrap (r1 + r2)) < 0)) then
        some 9223372036854775807
      else
      bif (decide (r1 < 0)) then
        bif (decide (r2 < 0)) then
          bif (decide ((IntKind.i64.wrap (r1 + r2)) ≥ 0)) then
            some (-9223372036854775807)
          else
          (fix.whole.f (IntKind.i64.wrap (r1 + r2))).bind fun r3 =>
          some r3
        else
        (fix.whole.f (IntKind.i64.wrap (r1 + r2))).bind fun r4 =>
        some r4
      else
      (fix.whole.f (IntKind.i64.wrap (r1 + r2))).bind fun r5 =>
      some r5
    else
    bif (decide (r1 < 0)) then
      bif (decide (r2 < 0)) then
        bif (decide ((IntKind.i64.wrap (r1 + r2)) ≥ 0)) then
          some (-9223372036854775807)
        else
        (fix.whole.f (IntKind.i64.wrap (r1 + r2))).bind fun r6 =>
        some r6
      else
      (fix.whole.f (IntKind.i64.wrap (r1 + r2))).bind fun r7 =>
      some r7
    else
    (fix.whole.f (IntKind.i64.wrap (r1 + r2))).bind fun r8 =>
    some r8
  else
  bif (decide (r1 < 0)) then
    bif (decide (r2 < 0)) then
      bif (decide ((IntKind.i64.wrap (r1 + r2)) ≥ 0)) then
        some (-9223372036854775807)
      else
      (fix.whole.f (IntKind.i64.wrap (r1 + r2))).bind fun r9 =>
      some r9
    else
    (fix.whole.f (IntKind.i64.wrap (r1 + r2))).bind fun r10 =>
    some r10
  else
  (fix.whole.f (IntKind.i64.wrap (r1 + r2))).bind fun r11 =>
  some r11 := by kernel_rfl
/-! ### bagatelle/fix.Sub -/
noncomputable def fix.Sub.cs : List (Nat × Fw.Summ) := [(35, fix.Neg.s), (42, fix.Add.s)]
theorem fix.Sub.cs_ok : SumsOk Try.prog fix.Sub.cs := .cons fix.Neg.ok (.cons fix.Add.ok (.nil))
def fix.Sub.hs : List (Nat × LHint) := []
noncomputable def fix.Sub.G : Ctx := ⟨Try.prog, sumAt fix.Sub.cs, lookH fix.Sub.hs, true⟩
noncomputable def fix.Sub.f (x : (Int × Int)) : Option Int := evF fix.Sub.G 0 Try.f34 ((tCons (tI .i64) (tOne (tI .i64))).enc x) (tI .i64).dec
noncomputable def fix.Sub.s : Fw.Summ := .mk' (tCons (tI .i64) (tOne (tI .i64))) (tI .i64) fix.Sub.f
theorem fix.Sub.ok : fix.Sub.s.Ok Try.prog 34 :=
  summ_ok (hint := lookH fix.Sub.hs) (fn := Try.f34) (fun x => 0) fix.Sub.cs_ok (by kernel_rfl) (by kernel_rfl) (by kernel_rfl) (by kernel_rfl) (tCons_ok (tI_ok _) (tOne_ok (tI_ok _))) (tI_ok _) (fun _ => rfl)
theorem fix.Sub.eq (p0 : Int) (p1 : Int) : fix.Sub.f (p0, p1) =
  (fix.Neg.f p1).bind fun r1 =>
  (fix.Add.f (p0, r1)).bind fun r2 =>
  some r2 := by kernel_rfl
/-! ### bagatelle/vec.Sub -/
noncomputable def vec.Sub.cs : List (Nat × Fw.Summ) := [(34, fix.Sub.s)]
theorem vec.Sub.cs_ok : SumsOk Try.prog vec.Sub.cs := .cons fix.Sub.ok (.nil)
def vec.Sub.hs : List (Nat × LHint) := []
noncomputable def vec.Sub.G : Ctx := ⟨Try.prog, sumAt vec.Sub.cs, lookH vec.Sub.hs, true⟩
noncomputable def vec.Sub.f (x : ((Int × Int) × (Int × Int))) : Option (Int × Int) := evF vec.Sub.G 0 Try.f13 ((tCons (tG (tCons (tI .i64) (tOne (tI .i64)))) (tOne (tG (tCons (tI .i64) (tOne (tI .i64)))))).enc x) (tG (tCons (tI .i64) (tOne (tI .i64)))).dec
noncomputable def vec.Sub.s : Fw.Summ := .mk' (tCons (tG (tCons (tI .i64) (tOne (tI .i64)))) (tOne (tG (tCons (tI .i64) (tOne (tI .i64)))))) (tG (tCons (tI .i64) (tOne (tI .i64)))) vec.Sub.f
theorem vec.Sub.ok : vec.Sub.s.Ok Try.prog 13 :=
  summ_ok (hint := lookH vec.Sub.hs) (fn := Try.f13) (fun x => 0) vec.Sub.cs_ok (by kernel_rfl) (by kernel_rfl) (by kernel_rfl) (by kernel_rfl) (tCons_ok (tG_ok (tCons_ok (tI_ok _) (tOne_ok (tI_ok _)))) (tOne_ok (tG_ok (tCons_ok (tI_ok _) (tOne_ok (tI_ok _)))))) (tG_ok (tCons_ok (tI_ok _) (tOne_ok (tI_ok _)))) (fun _ => rfl)
theorem vec.Sub.eq (p0_0 : Int) (p0_1 : Int) (p1_0 : Int) (p1_1 : Int) : vec.Sub.f ((p0_0, p0_1), (p1_0, p1_1)) =
  (fix.Sub.f (p0_0, p1_0)).bind fun r1 =>
  (fix.Sub.f (p0_1, p1_1)).bind fun r2 =>
  some (r1, r2) := by kernel_rfl
/-! ### bagatelle/fix.Abs -/
noncomputable def fix.Abs.cs : List (Nat × Fw.Summ) := [(35, fix.Neg.s)]
theorem fix.Abs.cs_ok : SumsOk Try.prog fix.Abs.cs := .cons fix.Neg.ok (.nil)
def fix.Abs.hs : List (Nat × LHint) := []
noncomputable def fix.Abs.G : Ctx := ⟨Try.prog, sumAt fix.Abs.cs, lookH fix.Abs.hs, true⟩
noncomputable def fix.Abs.f (x : Int) : Option Int := evF fix.Abs.G 0 Try.f61 ((tOne (tI .i64)).enc x) (tI .i64).dec
noncomputable def fix.Abs.s : Fw.Summ := .mk' (tOne (tI .i64)) (tI .i64) fix.Abs.f
theorem fix.Abs.ok : fix.Abs.s.Ok Try.prog 61 :=
  summ_ok (hint := lookH fix.Abs.hs) (fn := Try.f61) (fun x => 0) fix.Abs.cs_ok (by kernel_rfl) (by kernel_rfl) (by kernel_rfl) (by kernel_rfl) (tOne_ok (tI_ok _)) (tI_ok _) (fun _ => rfl)
theorem fix.Abs.eq (p0 : Int) : fix.Abs.f p0 =
  bif (decide (p0 < 0)) then
    (fix.Neg.f p0).bind fun r1 =>
    some r1
  else
  some p0 := by kernel_rfl
/-! ### math/bits.Mul64 -/
noncomputable def bits.Mul64.cs : List (Nat × Fw.Summ) := []
theorem bits.Mul64.cs_ok : SumsOk Try.prog bits.Mul64.cs := .nil
def bits.Mul64.hs : List (Nat × LHint) := []
noncomputable def bits.Mul64.G : Ctx := ⟨Try.prog, sumAt bits.Mul64.cs, lookH bits.Mul64.hs, true⟩
noncomputable def bits.Mul64.f (x : (Int × Int)) : Option (Int × Int) := evF bits.Mul64.G 0 Try.f53 ((tCons (tI .u64) (tOne (tI .u64))).enc x) (tT (tCons (tI .u64) (tOne (tI .u64)))).dec
noncomputable def bits.Mul64.s : Fw.Summ := .mk' (tCons (tI .u64) (tOne (tI .u64))) (tT (tCons (tI .u64) (tOne (tI .u64)))) bits.Mul64.f
theorem bits.Mul64.ok : bits.Mul64.s.Ok Try.prog 53 :=
  summ_ok (hint := lookH bits.Mul64.hs) (fn := Try.f53) (fun x => 0) bits.Mul64.cs_ok (by kernel_rfl) (by kernel_rfl) (by kernel_rfl) (by kernel_rfl) (tCons_ok (tI_ok _) (tOne_ok (tI_ok _))) (tT_ok (tCons_ok (tI_ok _) (tOne_ok (tI_ok _)))) (fun _ => rfl)
theorem bits.Mul64.eq (p0 : Int) (p1 : Int) : bits.Mul64.f (p0, p1) =
  some ((IntKind.u64.wrap ((IntKind.u64.wrap ((IntKind.u64.wrap ((Int.fdiv p0 (2 ^ 32)) * (Int.fdiv p1 (2 ^ 32)))) + (Int.fdiv (IntKind.u64.wrap ((IntKind.u64.wrap ((Int.fdiv p0 (2 ^ 32)) * (Go.bits .and .u64 p1 4294967295))) + (Int.fdiv (IntKind.u64.wrap ((Go.bits .and .u64 p0 4294967295) * (Go.bits .and .u64 p1 4294967295))) (2 ^ 32)))) (2 ^ 32)))) + (Int.fdiv (IntKind.u64.wrap ((Go.bits .and .u64 (IntKind.u64.wrap ((IntKind.u64.wrap ((Int.fdiv p0 (2 ^ 32)) * (Go.bits .and .u64 p1 4294967295))) + (Int.fdiv (IntKind.u64.wrap ((Go.bits .and .u64 p0 4294967295) * (Go.bits .and .u64 p1 4294967295))) (2 ^ 32)))) 4294967295) + (IntKind.u64.wrap ((Go.bits .and .u64 p0 4294967295) * (Int.fdiv p1 (2 ^ 32)))))) (2 ^ 32)))), (IntKind.u64.wrap (p0 * p1))) := by kernel_rfl
/-! ### bagatelle/fix.signed -/
noncomputable def fix.signed.cs : List (Nat × Fw.Summ) := []
theorem fix.signed.cs_ok : SumsOk Try.prog fix.signed.cs := .nil
def fix.signed.hs : List (Nat × LHint) := []
noncomputable def fix.signed.G : Ctx := ⟨Try.prog, sumAt fix.signed.cs, lookH fix.signed.hs, true⟩
noncomputable def fix.signed.f (x : (Int × Int × Bool)) : Option Int := evF fix.signed.G 0 Try.f62 ((tCons (tI .u64) (tCons (tI .u64) (tOne tB))).enc x) (tI .i64).dec
noncomputable def fix.signed.s : Fw.Summ := .mk' (tCons (tI .u64) (tCons (tI .u64) (tOne tB))) (tI .i64) fix.signed.f
theorem fix.signed.ok : fix.signed.s.Ok Try.prog 62 :=
  summ_ok (hint := lookH fix.signed.hs) (fn := Try.f62) (fun x => 0) fix.signed.cs_ok (by kernel_rfl) (by kernel_rfl) (by kernel_rfl) (by kernel_rfl) (tCons_ok (tI_ok _) (tCons_ok (tI_ok _) (tOne_ok tB_ok))) (tI_ok _) (fun _ => rfl)
theorem fix.signed.eq (p0 : Int) (p1 : Int) (p2 : Bool) : fix.signed.f (p0, p1, p2) =
  bif (p0 == 0) then
    bif (decide (p1 < 9223372036854775808)) then
      bif p2 then
        some (IntKind.i64.wrap (0 - (IntKind.i64.wrap p1)))
      else
      some (IntKind.i64.wrap p1)
    else
    bif p2 then
      some (-9223372036854775807)
    else
    some 9223372036854775807
  else
  bif p2 then
    some (-9223372036854775807)
  else
  some 9223372036854775807 := by kernel_rfl
/-! ### bagatelle/fix.Mul -/
noncomputable def fix.Mul.cs : List (Nat × Fw.Summ) := [(61, fix.Abs.s), (53, bits.Mul64.s), (62, fix.signed.s)]
theorem fix.Mul.cs_ok : SumsOk Try.prog fix.Mul.cs := .cons fix.Abs.ok (.cons bits.Mul64.ok (.cons fix.signed.ok (.nil)))
def fix.Mul.hs : List (Nat × LHint) := []
noncomputable def fix.Mul.G : Ctx := ⟨Try.prog, sumAt fix.Mul.cs, lookH fix.Mul.hs, true⟩
noncomputable def fix.Mul.f (x : (Int × Int)) : Option Int := evF fix.Mul.G 0 Try.f54 ((tCons (tI .i64) (tOne (tI .i64))).enc x) (tI .i64).dec
noncomputable def fix.Mul.s : Fw.Summ := .mk' (tCons (tI .i64) (tOne (tI .i64))) (tI .i64) fix.Mul.f
theorem fix.Mul.ok : fix.Mul.s.Ok Try.prog 54 :=
  summ_ok (hint := lookH fix.Mul.hs) (fn := Try.f54) (fun x => 0) fix.Mul.cs_ok (by kernel_rfl) (by kernel_rfl) (by kernel_rfl) (by kernel_rfl) (tCons_ok (tI_ok _) (tOne_ok (tI_ok _))) (tI_ok _) (fun _ => rfl)
theorem fix.Mul.eq (p0 : Int) (p1 : Int) : fix.Mul.f (p0, p1) =
  (fix.Abs.f p0).bind fun r1 =>
  (fix.Abs.f p1).bind fun r2 =>
  (bits.Mul64.f ((IntKind.u64.wrap r1), (IntKind.u64.wrap r2))).bind fun r3 =>
  (fix.signed.f ((Int.fdiv r3.1 (2 ^ 32)), (Go.bits .or .u64 (IntKind.u64.wrap (r3.1 * 2 ^ 32)) (Int.fdiv r3.2 (2 ^ 32))), (!((decide (p0 < 0)) == (decide (p1 < 0)))))).bind fun r4 =>
  some r4 := by kernel_rfl
/-! ### bagatelle/vec.Dot -/
noncomputable def vec.Dot.cs : List (Nat × Fw.Summ) := [(54, fix.Mul.s), (42, fix.Add.s)]
theorem vec.Dot.cs_ok : SumsOk Try.prog vec.Dot.cs := .cons fix.Mul.ok (.cons fix.Add.ok (.nil))
def vec.Dot.hs : List (Nat × LHint) := []
noncomputable def vec.Dot.G : Ctx := ⟨Try.prog, sumAt vec.Dot.cs, lookH vec.Dot.hs, true⟩
noncomputable def vec.Dot.f (x : ((Int × Int) × (Int × Int))) : Option Int := evF vec.Dot.G 0 Try.f33 ((tCons (tG (tCons (tI .i64) (tOne (tI .i64)))) (tOne (tG (tCons (tI .i64) (tOne (tI .i64)))))).enc x) (tI .i64).dec
noncomputable def vec.Dot.s : Fw.Summ := .mk' (tCons (tG (tCons (tI .i64) (tOne (tI .i64)))) (tOne (tG (tCons (tI .i64) (tOne (tI .i64)))))) (tI .i64) vec.Dot.f
theorem vec.Dot.ok : vec.Dot.s.Ok Try.prog 33 :=
  summ_ok (hint := lookH vec.Dot.hs) (fn := Try.f33) (fun x => 0) vec.Dot.cs_ok (by kernel_rfl) (by kernel_rfl) (by kernel_rfl) (by kernel_rfl) (tCons_ok (tG_ok (tCons_ok (tI_ok _) (tOne_ok (tI_ok _)))) (tOne_ok (tG_ok (tCons_ok (tI_ok _) (tOne_ok (tI_ok _)))))) (tI_ok _) (fun _ => rfl)
theorem vec.Dot.eq (p0_0 : Int) (p0_1 : Int) (p1_0 : Int) (p1_1 : Int) : vec.Dot.f ((p0_0, p0_1), (p1_0, p1_1)) =
  (fix.Mul.f (p0_0, p1_0)).bind fun r1 =>
  (fix.Mul.f (p0_1, p1_1)).bind fun r2 =>
  (fix.Add.f (r1, r2)).bind fun r3 =>
  some r3 := by kernel_rfl
/-! ### bagatelle/fix.Sqrt -/
noncomputable def fix.Sqrt.cs : List (Nat × Fw.Summ) := [(53, bits.Mul64.s)]
theorem fix.Sqrt.cs_ok : SumsOk Try.prog fix.Sqrt.cs := .cons bits.Mul64.ok (.nil)
def fix.Sqrt.hs : List (Nat × LHint) := [(0, { mat := [], live := [3, 4, 5, 6], ren := [] })]
noncomputable def fix.Sqrt.G : Ctx := ⟨Try.prog, sumAt fix.Sqrt.cs, lookH fix.Sqrt.hs, true⟩
noncomputable def fix.Sqrt.g (k0 : Nat) (x : Int) : Option Int := evF fix.Sqrt.G k0 Try.f32 ((tOne (tI .i64)).enc x) (tI .i64).dec
noncomputable def fix.Sqrt.f (x : Int) : Option Int := fix.Sqrt.g (1000000) x
noncomputable def fix.Sqrt.s : Fw.Summ := .mk' (tOne (tI .i64)) (tI .i64) fix.Sqrt.f
theorem fix.Sqrt.ok : fix.Sqrt.s.Ok Try.prog 32 :=
  summ_ok (hint := lookH fix.Sqrt.hs) (fn := Try.f32) (fun x => 1000000) fix.Sqrt.cs_ok (by kernel_rfl) (by kernel_rfl) (by kernel_rfl) (by kernel_rfl) (tOne_ok (tI_ok _)) (tI_ok _) (fun _ => rfl)
noncomputable def fix.Sqrt.l0 (k0 k1 : Nat) (v1 : Int) (v2 : Int) (v3 : Int) (v4 : Int) : Option Int :=
  evLoop (lookH fix.Sqrt.hs 0) 0 (ev fix.Sqrt.G k0 (codeAt [1, 1, 1, 1, 0, 1, 0, 0] (bodyOf Try.f32)) 0) k1
  ⟨[.top, .top, .top, .val (.int .u64 v1), .val (.int .u64 v2), .val (.int .u64 v3), .val (.int .i64 v4), .top, .top, .top, .top, .top, .top, .top, .top, .top, .top, .top, .top, .top, .top, .top, .top, .top, .top, .top, .top, .top, .top, .top, .top, .top, .top, .top, .top, .top, .top, .top, .top, .top, .top, .top, .top, .top, .top, .top, .top, .top], []⟩
  (kBlock fix.Sqrt.G 0 (kSeq fix.Sqrt.G k0 (codeAt [1, 1, 1, 1, 1] (bodyOf Try.f32)) 0 (kFin fix.Sqrt.G Try.f32 (tI .i64).dec)))
theorem fix.Sqrt.l0_eq (k0 k1 : Nat) (v1 : Int) (v2 : Int) (v3 : Int) (v4 : Int) : fix.Sqrt.l0 k0 (k1 + 1) v1 v2 v3 v4 =
  bif (decide (v4 ≥ 0)) then
    bif (decide (0 ≤ v4)) then
    (bits.Mul64.f ((Go.bits .or .u64 v3 (IntKind.u64.wrap (1 * 2 ^ (min (Int.toNat v4) 64)))), (Go.bits .or .u64 v3 (IntKind.u64.wrap (1 * 2 ^ (min (Int.toNat v4) 64)))))).bind fun r1 =>
    bif (decide (r1.1 < v1)) then
      fix.Sqrt.l0 k0 k1 v1 v2 (Go.bits .or .u64 v3 (IntKind.u64.wrap (1 * 2 ^ (min (Int.toNat v4) 64)))) (IntKind.i64.wrap (v4 - 1))
    else
    bif (r1.1 == v1) then
      bif (decide (r1.2 ≤ v2)) then
        fix.Sqrt.l0 k0 k1 v1 v2 (Go.bits .or .u64 v3 (IntKind.u64.wrap (1 * 2 ^ (min (Int.toNat v4) 64)))) (IntKind.i64.wrap (v4 - 1))
      else
      fix.Sqrt.l0 k0 k1 v1 v2 v3 (IntKind.i64.wrap (v4 - 1))
    else
    fix.Sqrt.l0 k0 k1 v1 v2 v3 (IntKind.i64.wrap (v4 - 1))
    else none
  else
  some (IntKind.i64.wrap v3) := by kernel_rfl
theorem fix.Sqrt.eq (k0 : Nat) (p0 : Int) : fix.Sqrt.g k0 p0 =
  bif (decide (p0 ≤ 0)) then
    some 0
  else
  fix.Sqrt.l0 k0 k0 (Int.fdiv (IntKind.u64.wrap p0) (2 ^ 32)) (IntKind.u64.wrap ((IntKind.u64.wrap p0) * 2 ^ 32)) 0 47 := by kernel_rfl
/-! ### bagatelle/vec.Len -/
noncomputable def vec.Len.cs : List (Nat × Fw.Summ) := [(33, vec.Dot.s), (32, fix.Sqrt.s)]
theorem vec.Len.cs_ok : SumsOk Try.prog vec.Len.cs := .cons vec.Dot.ok (.cons fix.Sqrt.ok (.nil))
def vec.Len.hs : List (Nat × LHint) := []
noncomputable def vec.Len.G : Ctx := ⟨Try.prog, sumAt vec.Len.cs, lookH vec.Len.hs, true⟩
noncomputable def vec.Len.f (x : (Int × Int)) : Option Int := evF vec.Len.G 0 Try.f12 ((tOne (tG (tCons (tI .i64) (tOne (tI .i64))))).enc x) (tI .i64).dec
noncomputable def vec.Len.s : Fw.Summ := .mk' (tOne (tG (tCons (tI .i64) (tOne (tI .i64))))) (tI .i64) vec.Len.f
theorem vec.Len.ok : vec.Len.s.Ok Try.prog 12 :=
  summ_ok (hint := lookH vec.Len.hs) (fn := Try.f12) (fun x => 0) vec.Len.cs_ok (by kernel_rfl) (by kernel_rfl) (by kernel_rfl) (by kernel_rfl) (tOne_ok (tG_ok (tCons_ok (tI_ok _) (tOne_ok (tI_ok _))))) (tI_ok _) (fun _ => rfl)
theorem vec.Len.eq (p0_0 : Int) (p0_1 : Int) : vec.Len.f (p0_0, p0_1) =
  (vec.Dot.f ((p0_0, p0_1), (p0_0, p0_1))).bind fun r1 =>
  (fix.Sqrt.f r1).bind fun r2 =>
  some r2 := by kernel_rfl
/-! ### math/bits.Len64 -/
noncomputable def bits.Len64.cs : List (Nat × Fw.Summ) := []
theorem bits.Len64.cs_ok : SumsOk Try.prog bits.Len64.cs := .nil
def bits.Len64.hs : List (Nat × LHint) := []
noncomputable def bits.Len64.G : Ctx := ⟨Try.prog, sumAt bits.Len64.cs, lookH bits.Len64.hs, true⟩
noncomputable def bits.Len64.f (x : Int) : Option Int := evF bits.Len64.G 0 Try.f70 ((tOne (tI .u64)).enc x) (tI .i64).dec
noncomputable def bits.Len64.s : Fw.Summ := .mk' (tOne (tI .u64)) (tI .i64) bits.Len64.f
theorem bits.Len64.ok : bits.Len64.s.Ok Try.prog 70 :=
  summ_ok (hint := lookH bits.Len64.hs) (fn := Try.f70) (fun x => 0) bits.Len64.cs_ok (by kernel_rfl) (by kernel_rfl) (by kernel_rfl) (by kernel_rfl) (tOne_ok (tI_ok _)) (tI_ok _) (fun _ => rfl)
theorem bits.Len64.eq (p0 : Int) : bits.Len64.f p0 =
  bif (decide (p0 ≥ 4294967296)) then
    bif (decide ((Int.fdiv p0 (2 ^ 32)) ≥ 65536)) then
      bif (decide ((Int.fdiv (Int.fdiv p0 (2 ^ 32)) (2 ^ 16)) ≥ 256)) then
        bif ((decide (0 ≤ (IntKind.u8.wrap (Int.fdiv (Int.fdiv (Int.fdiv p0 (2 ^ 32)) (2 ^ 16)) (2 ^ 8))))) && (decide ((IntKind.u8.wrap (Int.fdiv (Int.fdiv (Int.fdiv p0 (2 ^ 32)) (2 ^ 16)) (2 ^ 8))) < 256))) then
        some (IntKind.i64.wrap (56 + (IntKind.i64.wrap (strB Str11c1601c (Int.toNat (IntKind.u8.wrap (Int.fdiv (Int.fdiv (Int.fdiv p0 (2 ^ 32)) (2 ^ 16)) (2 ^ 8))))))))
        else none
      else
      bif ((decide (0 ≤ (IntKind.u8.wrap (Int.fdiv (Int.fdiv p0 (2 ^ 32)) (2 ^ 16))))) && (decide ((IntKind.u8.wrap (Int.fdiv (Int.fdiv p0 (2 ^ 32)) (2 ^ 16))) < 256))) then
      some (IntKind.i64.wrap (48 + (IntKind.i64.wrap (strB Str11c1601c (Int.toNat (IntKind.u8.wrap (Int.fdiv (Int.fdiv p0 (2 ^ 32)) (2 ^ 16))))))))
      else none
    else
    bif (decide ((Int.fdiv p0 (2 ^ 32)) ≥ 256)) then
      bif ((decide (0 ≤ (IntKind.u8.wrap (Int.fdiv (Int.fdiv p0 (2 ^ 32)) (2 ^ 8))))) && (decide ((IntKind.u8.wrap (Int.fdiv (Int.fdiv p0 (2 ^ 32)) (2 ^ 8))) < 256))) then
      some (IntKind.i64.wrap (40 + (IntKind.i64.wrap (strB Str11c1601c (Int.toNat (IntKind.u8.wrap (Int.fdiv (Int.fdiv p0 (2 ^ 32)) (2 ^ 8))))))))
      else none
    else
    bif ((decide (0 ≤ (IntKind.u8.wrap (Int.fdiv p0 (2 ^ 32))))) && (decide ((IntKind.u8.wrap (Int.fdiv p0 (2 ^ 32))) < 256))) then
    some (IntKind.i64.wrap (32 + (IntKind.i64.wrap (strB Str11c1601c (Int.toNat (IntKind.u8.wrap (Int.fdiv p0 (2 ^ 32))))))))
    else none
  else
  bif (decide (p0 ≥ 65536)) then
    bif (decide ((Int.fdiv p0 (2 ^ 16)) ≥ 256)) then
      bif ((decide (0 ≤ (IntKind.u8.wrap (Int.fdiv (Int.fdiv p0 (2 ^ 16)) (2 ^ 8))))) && (decide ((IntKind.u8.wrap (Int.fdiv (Int.fdiv p0 (2 ^ 16)) (2 ^ 8))) < 256))) then
      some (IntKind.i64.wrap (24 + (IntKind.i64.wrap (strB Str11c1601c (Int.toNat (IntKind.u8.wrap (Int.fdiv (Int.fdiv p0 (2 ^ 16)) (2 ^ 8))))))))
      else none
    else
    bif ((decide (0 ≤ (IntKind.u8.wrap (Int.fdiv p0 (2 ^ 16))))) && (decide ((IntKind.u8.wrap (Int.fdiv p0 (2 ^ 16))) < 256))) then
    some (IntKind.i64.wrap (16 + (IntKind.i64.wrap (strB Str11c1601c (Int.toNat (IntKind.u8.wrap (Int.fdiv p0 (2 ^ 16))))))))
    else none
  else
  bif (decide (p0 ≥ 256)) then
    bif ((decide (0 ≤ (IntKind.u8.wrap (Int.fdiv p0 (2 ^ 8))))) && (decide ((IntKind.u8.wrap (Int.fdiv p0 (2 ^ 8))) < 256))) then
    some (IntKind.i64.wrap (8 + (IntKind.i64.wrap (strB Str11c1601c (Int.toNat (IntKind.u8.wrap (Int.fdiv p0 (2 ^ 8))))))))
    else none
  else
  bif ((decide (0 ≤ (IntKind.u8.wrap p0))) && (decide ((IntKind.u8.wrap p0) < 256))) then
  some (IntKind.i64.wrap (0 + (IntKind.i64.wrap (strB Str11c1601c (Int.toNat (IntKind.u8.wrap p0))))))
  else none := by kernel_rfl
/-! ### math/bits.LeadingZeros64 -/
noncomputable def bits.LeadingZeros64.cs : List (Nat × Fw.Summ) := [(70, bits.Len64.s)]
theorem bits.LeadingZeros64.cs_ok : SumsOk Try.prog bits.LeadingZeros64.cs := .cons bits.Len64.ok (.nil)
def bits.LeadingZeros64.hs : List (Nat × LHint) := []
noncomputable def bits.LeadingZeros64.G : Ctx := ⟨Try.prog, sumAt bits.LeadingZeros64.cs, lookH bits.LeadingZeros64.hs, true⟩
noncomputable def bits.LeadingZeros64.f (x : Int) : Option Int := evF bits.LeadingZeros64.G 0 Try.f67 ((tOne (tI .u64)).enc x) (tI .i64).dec
noncomputable def bits.LeadingZeros64.s : Fw.Summ := .mk' (tOne (tI .u64)) (tI .i64) bits.LeadingZeros64.f
theorem bits.LeadingZeros64.ok : bits.LeadingZeros64.s.Ok Try.prog 67 :=
  summ_ok (hint := lookH bits.LeadingZeros64.hs) (fn := Try.f67) (fun x => 0) bits.LeadingZeros64.cs_ok (by kernel_rfl) (by kernel_rfl) (by kernel_rfl) (by kernel_rfl) (tOne_ok (tI_ok _)) (tI_ok _) (fun _ => rfl)
theorem bits.LeadingZeros64.eq (p0 : Int) : bits.LeadingZeros64.f p0 =
  (bits.Len64.f p0).bind fun r1 =>
  some (IntKind.i64.wrap (64 - r1)) := by kernel_rfl
/-! ### math/bits.Div64 -/
noncomputable def bits.Div64.cs : List (Nat × Fw.Summ) := [(67, bits.LeadingZeros64.s)]
theorem bits.Div64.cs_ok : SumsOk Try.prog bits.Div64.cs := .cons bits.LeadingZeros64.ok (.nil)
def bits.Div64.hs : List (Nat × LHint) := [(0, { mat := [], live := [2, 8, 9, 10, 11, 13, 14, 15, 16], ren := [] }), (2, { mat := [], live := [2, 8, 9, 10, 14, 15, 16, 17, 18], ren := [] })]
noncomputable def bits.Div64.G : Ctx := ⟨Try.prog, sumAt bits.Div64.cs, lookH bits.Div64.hs, true⟩
noncomputable def bits.Div64.g (k0 : Nat) (x : (Int × Int × Int)) : Option (Int × Int) := evF bits.Div64.G k0 Try.f63 ((tCons (tI .u64) (tCons (tI .u64) (tOne (tI .u64)))).enc x) (tT (tCons (tI .u64) (tOne (tI .u64)))).dec
noncomputable def bits.Div64.f (x : (Int × Int × Int)) : Option (Int × Int) := bits.Div64.g (1000000) x
noncomputable def bits.Div64.s : Fw.Summ := .mk' (tCons (tI .u64) (tCons (tI .u64) (tOne (tI .u64)))) (tT (tCons (tI .u64) (tOne (tI .u64)))) bits.Div64.f
theorem bits.Div64.ok : bits.Div64.s.Ok Try.prog 63 :=
  summ_ok (hint := lookH bits.Div64.hs) (fn := Try.f63) (fun x => 1000000) bits.Div64.cs_ok (by kernel_rfl) (by kernel_rfl) (by kernel_rfl) (by kernel_rfl) (tCons_ok (tI_ok _) (tCons_ok (tI_ok _) (tOne_ok (tI_ok _)))) (tT_ok (tCons_ok (tI_ok _) (tOne_ok (tI_ok _)))) (fun _ => rfl)
noncomputable def bits.Div64.l1 (k0 k1 : Nat) (v1 : Int) (v2 : Int) (v3 : Int) (v4 : Int) (v5 : Int) (v6 : Int) (v7 : Int) (v8 : Int) (v9 : Int) : Option (Int × Int) :=
  evLoop (lookH bits.Div64.hs 2) 0 (ev bits.Div64.G k0 (codeAt [1, 1, 1, 1, 1, 1, 1, 1, 1, 1, 1, 1, 1, 1, 1, 1, 1, 1, 0, 0, 0] (bodyOf Try.f63)) 2) k1
  ⟨[.top, .top, .val (.int .u64 v1), .top, .top, .top, .top, .top, .val (.int .u64 v2), .val (.int .u64 v3), .val (.int .u64 v4), .top, .top, .top, .val (.int .u64 v5), .val (.int .u64 v6), .val (.int .u64 v7), .val (.int .u64 v8), .val (.int .u64 v9), .top, .top, .top, .top, .top, .top, .top, .top, .top, .top, .top, .top, .top, .top, .top, .top, .top, .top, .top, .top, .top, .top, .top, .top, .top, .top, .top, .top, .top, .top, .top, .top, .top, .top, .top, .top, .top, .top, .top, .top, .top, .top, .top, .top, .top, .top, .top, .top, .top, .top, .top, .top, .top, .top, .top, .top, .top, .top, .top, .top, .top, .top, .top, .top, .top, .top, .top, .top, .top, .top, .top, .top, .top, .top, .top, .top, .top, .top, .top, .top, .top, .top, .top, .top, .top, .top, .top, .top, .top, .top, .top, .top, .top, .top, .top, .top, .top, .top, .top, .top, .top, .top, .top, .top, .top, .top, .top, .top, .top, .top, .top, .top, .top, .top, .top, .top], []⟩
  (kBlock bits.Div64.G 2 (kSeq bits.Div64.G k0 (codeAt [1, 1, 1, 1, 1, 1, 1, 1, 1, 1, 1, 1, 1, 1, 1, 1, 1, 1, 1] (bodyOf Try.f63)) 0 (kFin bits.Div64.G Try.f63 (tT (tCons (tI .u64) (tOne (tI .u64)))).dec)))
noncomputable def bits.Div64.l0 (k0 k1 : Nat) (v1 : Int) (v2 : Int) (v3 : Int) (v4 : Int) (v5 : Int) (v6 : Int) (v7 : Int) (v8 : Int) (v9 : Int) : Option (Int × Int) :=
  evLoop (lookH bits.Div64.hs 0) 0 (ev bits.Div64.G k0 (codeAt [1, 1, 1, 1, 1, 1, 1, 1, 1, 1, 1, 1, 1, 1, 0, 0, 0] (bodyOf Try.f63)) 0) k1
  ⟨[.top, .top, .val (.int .u64 v1), .top, .top, .top, .top, .top, .val (.int .u64 v2), .val (.int .u64 v3), .val (.int .u64 v4), .val (.int .u64 v5), .top, .val (.int .u64 v6), .val (.int .u64 v7), .val (.int .u64 v8), .val (.int .u64 v9), .top, .top, .top, .top, .top, .top, .top, .top, .top, .top, .top, .top, .top, .top, .top, .top, .top, .top, .top, .top, .top, .top, .top, .top, .top, .top, .top, .top, .top, .top, .top, .top, .top, .top, .top, .top, .top, .top, .top, .top, .top, .top, .top, .top, .top, .top, .top, .top, .top, .top, .top, .top, .top, .top, .top, .top, .top, .top, .top, .top, .top, .top, .top, .top, .top, .top, .top, .top, .top, .top, .top, .top, .top, .top, .top, .top, .top, .top, .top, .top, .top, .top, .top, .top, .top, .top, .top, .top, .top, .top, .top, .top, .top, .top, .top, .top, .top, .top, .top, .top, .top, .top, .top, .top, .top, .top, .top, .top, .top, .top, .top, .top, .top, .top, .top, .top, .top, .top], []⟩
  (kBlock bits.Div64.G 0 (kSeq bits.Div64.G k0 (codeAt [1, 1, 1, 1, 1, 1, 1, 1, 1, 1, 1, 1, 1, 1, 1] (bodyOf Try.f63)) 0 (kFin bits.Div64.G Try.f63 (tT (tCons (tI .u64) (tOne (tI .u64)))).dec)))
theorem bits.Div64.l1_eq (k0 k1 : Nat) (v1 : Int) (v2 : Int) (v3 : Int) (v4 : Int) (v5 : Int) (v6 : Int) (v7 : Int) (v8 : Int) (v9 : Int) : bits.Div64.l1 k0 (k1 + 1) v1 v2 v3 v4 v5 v6 v7 v8 v9 =
  bif (decide (v9 ≥ 4294967296)) then
    bif (decide ((IntKind.u64.wrap (v7 + v3)) ≥ 4294967296)) then
      bif (decide (0 ≤ v2)) then
      some ((IntKind.u64.wrap ((IntKind.u64.wrap (v6 * 4294967296)) + (IntKind.u64.wrap (v9 - 1)))), (Int.fdiv (IntKind.u64.wrap ((IntKind.u64.wrap ((IntKind.u64.wrap (v8 * 4294967296)) + v5)) - (IntKind.u64.wrap ((IntKind.u64.wrap (v9 - 1)) * v1)))) (2 ^ (min (Int.toNat v2) 64))))
      else none
    else
    bits.Div64.l1 k0 k1 v1 v2 v3 v4 v5 v6 (IntKind.u64.wrap (v7 + v3)) v8 (IntKind.u64.wrap (v9 - 1))
  else
  bif (decide ((IntKind.u64.wrap (v9 * v4)) > (IntKind.u64.wrap ((IntKind.u64.wrap (4294967296 * v7)) + v5)))) then
    bif (decide ((IntKind.u64.wrap (v7 + v3)) ≥ 4294967296)) then
      bif (decide (0 ≤ v2)) then
      some ((IntKind.u64.wrap ((IntKind.u64.wrap (v6 * 4294967296)) + (IntKind.u64.wrap (v9 - 1)))), (Int.fdiv (IntKind.u64.wrap ((IntKind.u64.wrap ((IntKind.u64.wrap (v8 * 4294967296)) + v5)) - (IntKind.u64.wrap ((IntKind.u64.wrap (v9 - 1)) * v1)))) (2 ^ (min (Int.toNat v2) 64))))
      else none
    else
    bits.Div64.l1 k0 k1 v1 v2 v3 v4 v5 v6 (IntKind.u64.wrap (v7 + v3)) v8 (IntKind.u64.wrap (v9 - 1))
  else
  bif (decide (0 ≤ v2)) then
  some ((IntKind.u64.wrap ((IntKind.u64.wrap (v6 * 4294967296)) + v9)), (Int.fdiv (IntKind.u64.wrap ((IntKind.u64.wrap ((IntKind.u64.wrap (v8 * 4294967296)) + v5)) - (IntKind.u64.wrap (v9 * v1)))) (2 ^ (min (Int.toNat v2) 64))))
  else none := by kernel_rfl
theorem bits.Div64.l0_eq (k0 k1 : Nat) (v1 : Int) (v2 : Int) (v3 : Int) (v4 : Int) (v5 : Int) (v6 : Int) (v7 : Int) (v8 : Int) (v9 : Int) : bits.Div64.l0 k0 (k1 + 1) v1 v2 v3 v4 v5 v6 v7 v8 v9 =
  bif (decide (v8 ≥ 4294967296)) then
    bif (decide ((IntKind.u64.wrap (v9 + v3)) ≥ 4294967296)) then
      bif (decide (v3 ≠ 0)) then
      bits.Div64.l1 k0 k0 v1 v2 v3 v4 v7 (IntKind.u64.wrap (v8 - 1)) (IntKind.u64.wrap ((IntKind.u64.wrap ((IntKind.u64.wrap ((IntKind.u64.wrap (v5 * 4294967296)) + v6)) - (IntKind.u64.wrap ((IntKind.u64.wrap (v8 - 1)) * v1)))) - (IntKind.u64.wrap ((IntKind.u64.wrap (Int.tdiv (IntKind.u64.wrap ((IntKind.u64.wrap ((IntKind.u64.wrap (v5 * 4294967296)) + v6)) - (IntKind.u64.wrap ((IntKind.u64.wrap (v8 - 1)) * v1)))) v3)) * v3)))) (IntKind.u64.wrap ((IntKind.u64.wrap ((IntKind.u64.wrap (v5 * 4294967296)) + v6)) - (IntKind.u64.wrap ((IntKind.u64.wrap (v8 - 1)) * v1)))) (IntKind.u64.wrap (Int.tdiv (IntKind.u64.wrap ((IntKind.u64.wrap ((IntKind.u64.wrap (v5 * 4294967296)) + v6)) - (IntKind.u64.wrap ((IntKind.u64.wrap (v8 - 1)) * v1)))) v3))
      else none
    else
    bits.Div64.l0 k0 k1 v1 v2 v3 v4 v5 v6 v7 (IntKind.u64.wrap (v8 - 1)) (IntKind.u64.wrap (v9 + v3))
  else
  bif (decide ((IntKind.u64.wrap (v8 * v4)) > (IntKind.u64.wrap ((IntKind.u64.wrap (4294967296 * v9)) + v6)))) then
    bif (decide ((IntKind.u64.wrap (v9 + v3)) ≥ 4294967296)) then
      bif (decide (v3 ≠ 0)) then
      bits.Div64.l1 k0 k0 v1 v2 v3 v4 v7 (IntKind.u64.wrap (v8 - 1)) (IntKind.u64.wrap ((IntKind.u64.wrap ((IntKind.u64.wrap ((IntKind.u64.wrap (v5 * 4294967296)) + v6)) - (IntKind.u64.wrap ((IntKind.u64.wrap (v8 - 1)) * v1)))) - (IntKind.u64.wrap ((IntKind.u64.wrap (Int.tdiv (IntKind.u64.wrap ((IntKind.u64.wrap ((IntKind.u64.wrap (v5 * 4294967296)) + v6)) - (IntKind.u64.wrap ((IntKind.u64.wrap (v8 - 1)) * v1)))) v3)) * v3)))) (IntKind.u64.wrap ((IntKind.u64.wrap ((IntKind.u64.wrap (v5 * 4294967296)) + v6)) - (IntKind.u64.wrap ((IntKind.u64.wrap (v8 - 1)) * v1)))) (IntKind.u64.wrap (Int.tdiv (IntKind.u64.wrap ((IntKind.u64.wrap ((IntKind.u64.wrap (v5 * 4294967296)) + v6)) - (IntKind.u64.wrap ((IntKind.u64.wrap (v8 - 1)) * v1)))) v3))
      else none
    else
    bits.Div64.l0 k0 k1 v1 v2 v3 v4 v5 v6 v7 (IntKind.u64.wrap (v8 - 1)) (IntKind.u64.wrap (v9 + v3))
  else
  bif (decide (v3 ≠ 0)) then
  bits.Div64.l1 k0 k0 v1 v2 v3 v4 v7 v8 (IntKind.u64.wrap ((IntKind.u64.wrap ((IntKind.u64.wrap ((IntKind.u64.wrap (v5 * 4294967296)) + v6)) - (IntKind.u64.wrap (v8 * v1)))) - (IntKind.u64.wrap ((IntKind.u64.wrap (Int.tdiv (IntKind.u64.wrap ((IntKind.u64.wrap ((IntKind.u64.wrap (v5 * 4294967296)) + v6)) - (IntKind.u64.wrap (v8 * v1)))) v3)) * v3)))) (IntKind.u64.wrap ((IntKind.u64.wrap ((IntKind.u64.wrap (v5 * 4294967296)) + v6)) - (IntKind.u64.wrap (v8 * v1)))) (IntKind.u64.wrap (Int.tdiv (IntKind.u64.wrap ((IntKind.u64.wrap ((IntKind.u64.wrap (v5 * 4294967296)) + v6)) - (IntKind.u64.wrap (v8 * v1)))) v3))
  else none := by kernel_rfl
theorem bits.Div64.eq (k0 : Nat) (p0 : Int) (p1 : Int) (p2 : Int) : bits.Div64.g k0 (p0, p1, p2) =
  bif (p2 == 0) then
    none
  else
  bif (decide (p2 ≤ p0)) then
    none
  else
  bif (p0 == 0) then
    bif (decide (p2 ≠ 0)) then
    bif (decide (p2 ≠ 0)) then
    some ((IntKind.u64.wrap (Int.tdiv p1 p2)), (Int.tmod p1 p2))
    else none
    else none
  else
  (bits.LeadingZeros64.f p2).bind fun r1 =>
  bif (decide (0 ≤ (IntKind.u64.wrap r1))) then
  bif (decide (0 ≤ (IntKind.u64.wrap r1))) then
  bif (decide (0 ≤ (IntKind.u64.wrap (64 - (IntKind.u64.wrap r1))))) then
  bif (decide (0 ≤ (IntKind.u64.wrap r1))) then
  bif (decide ((Int.fdiv (IntKind.u64.wrap (p2 * 2 ^ (min (Int.toNat (IntKind.u64.wrap r1)) 64))) (2 ^ 32)) ≠ 0)) then
  bits.Div64.l0 k0 k0 (IntKind.u64.wrap (p2 * 2 ^ (min (Int.toNat (IntKind.u64.wrap r1)) 64))) (IntKind.u64.wrap r1) (Int.fdiv (IntKind.u64.wrap (p2 * 2 ^ (min (Int.toNat (IntKind.u64.wrap r1)) 64))) (2 ^ 32)) (Go.bits .and .u64 (IntKind.u64.wrap (p2 * 2 ^ (min (Int.toNat (IntKind.u64.wrap r1)) 64))) 4294967295) (Go.bits .or .u64 (IntKind.u64.wrap (p0 * 2 ^ (min (Int.toNat (IntKind.u64.wrap r1)) 64))) (Int.fdiv p1 (2 ^ (min (Int.toNat (IntKind.u64.wrap (64 - (IntKind.u64.wrap r1)))) 64)))) (Int.fdiv (IntKind.u64.wrap (p1 * 2 ^ (min (Int.toNat (IntKind.u64.wrap r1)) 64))) (2 ^ 32)) (Go.bits .and .u64 (IntKind.u64.wrap (p1 * 2 ^ (min (Int.toNat (IntKind.u64.wrap r1)) 64))) 4294967295) (IntKind.u64.wrap (Int.tdiv (Go.bits .or .u64 (IntKind.u64.wrap (p0 * 2 ^ (min (Int.toNat (IntKind.u64.wrap r1)) 64))) (Int.fdiv p1 (2 ^ (min (Int.toNat (IntKind.u64.wrap (64 - (IntKind.u64.wrap r1)))) 64)))) (Int.fdiv (IntKind.u64.wrap (p2 * 2 ^ (min (Int.toNat (IntKind.u64.wrap r1)) 64))) (2 ^ 32)))) (IntKind.u64.wrap ((Go.bits .or .u64 (IntKind.u64.wrap (p0 * 2 ^ (min (Int.toNat (IntKind.u64.wrap r1)) 64))) (Int.fdiv p1 (2 ^ (min (Int.toNat (IntKind.u64.wrap (64 - (IntKind.u64.wrap r1)))) 64)))) - (IntKind.u64.wrap ((IntKind.u64.wrap (Int.tdiv (Go.bits .or .u64 (IntKind.u64.wrap (p0 * 2 ^ (min (Int.toNat (IntKind.u64.wrap r1)) 64))) (Int.fdiv p1 (2 ^ (min (Int.toNat (IntKind.u64.wrap (64 - (IntKind.u64.wrap r1)))) 64)))) (Int.fdiv (IntKind.u64.wrap (p2 * 2 ^ (min (Int.toNat (IntKind.u64.wrap r1)) 64))) (2 ^ 32)))) * (Int.fdiv (IntKind.u64.wrap (p2 * 2 ^ (min (Int.toNat (IntKind.u64.wrap r1)) 64))) (2 ^ 32))))))
  else none
  else none
  else none
  else none
  else none := by kernel_rfl
/-! ### bagatelle/fix.Div -/
noncomputable def fix.Div.cs : List (Nat × Fw.Summ) := [(45, fix.whole.s), (61, fix.Abs.s), (62, fix.signed.s), (63, bits.Div64.s)]
theorem fix.Div.cs_ok : SumsOk Try.prog fix.Div.cs := .cons fix.whole.ok (.cons fix.Abs.ok (.cons fix.signed.ok (.cons bits.Div64.ok (.nil))))
def fix.Div.hs : List (Nat × LHint) := []
noncomputable def fix.Div.G : Ctx := ⟨Try.prog, sumAt fix.Div.cs, lookH fix.Div.hs, true⟩
noncomputable def fix.Div.f (x : (Int × Int)) : Option Int := evF fix.Div.G 0 Try.f48 ((tCons (tI .i64) (tOne (tI .i64))).enc x) (tI .i64).dec
noncomputable def fix.Div.s : Fw.Summ := .mk' (tCons (tI .i64) (tOne (tI .i64))) (tI .i64) fix.Div.f
theorem fix.Div.ok : fix.Div.s.Ok Try.prog 48 :=
  summ_ok (hint := lookH fix.Div.hs) (fn := Try.f48) (fun x => 0) fix.Div.cs_ok (by kernel_rfl) (by kernel_rfl) (by kernel_rfl) (by kernel_rfl) (tCons_ok (tI_ok _) (tOne_ok (tI_ok _))) (tI_ok _) (fun _ => rfl)
theorem fix.Div.eq (p0 : Int) (p1 : Int) : fix.Div.f (p0, p1) =
  (fix.whole.f p0).bind fun r1 =>
  (fix.whole.f p1).bind fun r2 =>
  (fix.Abs.f r1).bind fun r3 =>
  (fix.Abs.f r2).bind fun r4 =>
  bif ((IntKind.u64.wrap r3) == 0) then
    some 0
  else
  bif (decide ((Int.fdiv (IntKind.u64.wrap r3) (2 ^ 32)) ≥ (IntKind.u64.wrap r4))) then
    (fix.signed.f (1, 0, (!((decide (r1 < 0)) == (decide (r2 < 0)))))).bind fun r5 =>
    some r5
  else
  (bits.Div64.f ((Int.fdiv (IntKind.u64.wrap r3) (2 ^ 32)), (IntKind.u64.wrap ((IntKind.u64.wrap r3) * 2 ^ 32)), (IntKind.u64.wrap r4))).bind fun r6 =>
  (fix.signed.f (0, r6.1, (!((decide (r1 < 0)) == (decide (r2 < 0)))))).bind fun r7 =>
  some r7 := by kernel_rfl
/-! ### bagatelle/vec.Unit -/
noncomputable def vec.Unit.cs : List (Nat × Fw.Summ) := [(12, vec.Len.s), (48, fix.Div.s)]
theorem vec.Unit.cs_ok : SumsOk Try.prog vec.Unit.cs := .cons vec.Len.ok (.cons fix.Div.ok (.nil))
def vec.Unit.hs : List (Nat × LHint) := []
noncomputable def vec.Unit.G : Ctx := ⟨Try.prog, sumAt vec.Unit.cs, lookH vec.Unit.hs, true⟩
noncomputable def vec.Unit.f (x : (Int × Int)) : Option ((Int × Int) × Bool) := evF vec.Unit.G 0 Try.f46 ((tOne (tG (tCons (tI .i64) (tOne (tI .i64))))).enc x) (tT (tCons (tG (tCons (tI .i64) (tOne (tI .i64)))) (tOne tB))).dec
noncomputable def vec.Unit.s : Fw.Summ := .mk' (tOne (tG (tCons (tI .i64) (tOne (tI .i64))))) (tT (tCons (tG (tCons (tI .i64) (tOne (tI .i64)))) (tOne tB))) vec.Unit.f
theorem vec.Unit.ok : vec.Unit.s.Ok Try.prog 46 :=
  summ_ok (hint := lookH vec.Unit.hs) (fn := Try.f46) (fun x => 0) vec.Unit.cs_ok (by kernel_rfl) (by kernel_rfl) (by kernel_rfl) (by kernel_rfl) (tOne_ok (tG_ok (tCons_ok (tI_ok _) (tOne_ok (tI_ok _))))) (tT_ok (tCons_ok (tG_ok (tCons_ok (tI_ok _) (tOne_ok (tI_ok _)))) (tOne_ok tB_ok))) (fun _ => rfl)
theorem vec.Unit.eq (p0_0 : Int) (p0_1 : Int) : vec.Unit.f (p0_0, p0_1) =
  (vec.Len.f (p0_0, p0_1)).bind fun r1 =>
  bif (r1 == 0) then
    some ((0, 0), false)
  else
  (fix.Div.f (p0_0, r1)).bind fun r2 =>
  (fix.Div.f (p0_1, r1)).bind fun r3 =>
  some ((r2, r3), true) := by kernel_rfl
/-! ### bagatelle/fix.Of -/
noncomputable def fix.Of.cs : List (Nat × Fw.Summ) := []
theorem fix.Of.cs_ok : SumsOk Try.prog fix.Of.cs := .nil
def fix.Of.hs : List (Nat × LHint) := []
noncomputable def fix.Of.G : Ctx := ⟨Try.prog, sumAt fix.Of.cs, lookH fix.Of.hs, true⟩
noncomputable def fix.Of.f (x : Int) : Option Int := evF fix.Of.G 0 Try.f49 ((tOne (tI .i64)).enc x) (tI .i64).dec
noncomputable def fix.Of.s : Fw.Summ := .mk' (tOne (tI .i64)) (tI .i64) fix.Of.f
theorem fix.Of.ok : fix.Of.s.Ok Try.prog 49 :=
  summ_ok (hint := lookH fix.Of.hs) (fn := Try.f49) (fun x => 0) fix.Of.cs_ok (by kernel_rfl) (by kernel_rfl) (by kernel_rfl) (by kernel_rfl) (tOne_ok (tI_ok _)) (tI_ok _) (fun _ => rfl)
theorem fix.Of.eq (p0 : Int) : fix.Of.f p0 =
  bif (decide (p0 ≥ 2147483648)) then
    some 9223372036854775807
  else
  bif (decide (p0 ≤ (-2147483648))) then
    some (-9223372036854775807)
  else
  some (IntKind.i64.wrap (p0 * 2 ^ 32)) := by kernel_rfl
/-! ### bagatelle/vec.Scale -/
noncomputable def vec.Scale.cs : List (Nat × Fw.Summ) := [(54, fix.Mul.s)]
theorem vec.Scale.cs_ok : SumsOk Try.prog vec.Scale.cs := .cons fix.Mul.ok (.nil)
def vec.Scale.hs : List (Nat × LHint) := []
noncomputable def vec.Scale.G : Ctx := ⟨Try.prog, sumAt vec.Scale.cs, lookH vec.Scale.hs, true⟩
noncomputable def vec.Scale.f (x : ((Int × Int) × Int)) : Option (Int × Int) := evF vec.Scale.G 0 Try.f47 ((tCons (tG (tCons (tI .i64) (tOne (tI .i64)))) (tOne (tI .i64))).enc x) (tG (tCons (tI .i64) (tOne (tI .i64)))).dec
noncomputable def vec.Scale.s : Fw.Summ := .mk' (tCons (tG (tCons (tI .i64) (tOne (tI .i64)))) (tOne (tI .i64))) (tG (tCons (tI .i64) (tOne (tI .i64)))) vec.Scale.f
theorem vec.Scale.ok : vec.Scale.s.Ok Try.prog 47 :=
  summ_ok (hint := lookH vec.Scale.hs) (fn := Try.f47) (fun x => 0) vec.Scale.cs_ok (by kernel_rfl) (by kernel_rfl) (by kernel_rfl) (by kernel_rfl) (tCons_ok (tG_ok (tCons_ok (tI_ok _) (tOne_ok (tI_ok _)))) (tOne_ok (tI_ok _))) (tG_ok (tCons_ok (tI_ok _) (tOne_ok (tI_ok _)))) (fun _ => rfl)
theorem vec.Scale.eq (p0_0 : Int) (p0_1 : Int) (p1 : Int) : vec.Scale.f ((p0_0, p0_1), p1) =
  (fix.Mul.f (p0_0, p1)).bind fun r1 =>
  (fix.Mul.f (p0_1, p1)).bind fun r2 =>
  some (r1, r2) := by kernel_rfl
/-! ### bagatelle/vec.Add -/
noncomputable def vec.Add.cs : List (Nat × Fw.Summ) := [(42, fix.Add.s)]
theorem vec.Add.cs_ok : SumsOk Try.prog vec.Add.cs := .cons fix.Add.ok (.nil)
def vec.Add.hs : List (Nat × LHint) := []
noncomputable def vec.Add.G : Ctx := ⟨Try.prog, sumAt vec.Add.cs, lookH vec.Add.hs, true⟩
noncomputable def vec.Add.f (x : ((Int × Int) × (Int × Int))) : Option (Int × Int) := evF vec.Add.G 0 Try.f22 ((tCons (tG (tCons (tI .i64) (tOne (tI .i64)))) (tOne (tG (tCons (tI .i64) (tOne (tI .i64)))))).enc x) (tG (tCons (tI .i64) (tOne (tI .i64)))).dec
noncomputable def vec.Add.s : Fw.Summ := .mk' (tCons (tG (tCons (tI .i64) (tOne (tI .i64)))) (tOne (tG (tCons (tI .i64) (tOne (tI .i64)))))) (tG (tCons (tI .i64) (tOne (tI .i64)))) vec.Add.f
theorem vec.Add.ok : vec.Add.s.Ok Try.prog 22 :=
  summ_ok (hint := lookH vec.Add.hs) (fn := Try.f22) (fun x => 0) vec.Add.cs_ok (by kernel_rfl) (by kernel_rfl) (by kernel_rfl) (by kernel_rfl) (tCons_ok (tG_ok (tCons_ok (tI_ok _) (tOne_ok (tI_ok _)))) (tOne_ok (tG_ok (tCons_ok (tI_ok _) (tOne_ok (tI_ok _)))))) (tG_ok (tCons_ok (tI_ok _) (tOne_ok (tI_ok _)))) (fun _ => rfl)
theorem vec.Add.eq (p0_0 : Int) (p0_1 : Int) (p1_0 : Int) (p1_1 : Int) : vec.Add.f ((p0_0, p0_1), (p1_0, p1_1)) =
  (fix.Add.f (p0_0, p1_0)).bind fun r1 =>
  (fix.Add.f (p0_1, p1_1)).bind fun r2 =>
  some (r1, r2) := by kernel_rfl
/-! ### bagatelle/touch.one -/
noncomputable def touch.one.cs : List (Nat × Fw.Summ) := []
theorem touch.one.cs_ok : SumsOk Try.prog touch.one.cs := .nil
def touch.one.hs : List (Nat × LHint) := []
noncomputable def touch.one.G : Ctx := ⟨Try.prog, sumAt touch.one.cs, lookH touch.one.hs, true⟩
noncomputable def touch.one.f (x : ((Int × Int) × (Int × Int) × Int × Int)) : Option ((Int × Int × (Nat × (Nat → (Int × Int × Int × Int)))) × Bool) := evF touch.one.G 0 Try.f50 ((tCons (tG (tCons (tI .i64) (tOne (tI .i64)))) (tCons (tG (tCons (tI .i64) (tOne (tI .i64)))) (tCons (tI .i64) (tOne (tI .i64))))).enc x) (tT (tCons (tG (tCons (tI .i64) (tCons (tI .i64) (tOne (tTL Riiii 4 (0, 0, 0, 0)))))) (tOne tB))).dec
noncomputable def touch.one.s : Fw.Summ := .mk' (tCons (tG (tCons (tI .i64) (tOne (tI .i64)))) (tCons (tG (tCons (tI .i64) (tOne (tI .i64)))) (tCons (tI .i64) (tOne (tI .i64))))) (tT (tCons (tG (tCons (tI .i64) (tCons (tI .i64) (tOne (tTL Riiii 4 (0, 0, 0, 0)))))) (tOne tB))) touch.one.f
theorem touch.one.ok : touch.one.s.Ok Try.prog 50 :=
  summ_ok (hint := lookH touch.one.hs) (fn := Try.f50) (fun x => 0) touch.one.cs_ok (by kernel_rfl) (by kernel_rfl) (by kernel_rfl) (by kernel_rfl) (tCons_ok (tG_ok (tCons_ok (tI_ok _) (tOne_ok (tI_ok _)))) (tCons_ok (tG_ok (tCons_ok (tI_ok _) (tOne_ok (tI_ok _)))) (tCons_ok (tI_ok _) (tOne_ok (tI_ok _))))) (tT_ok (tCons_ok (tG_ok (tCons_ok (tI_ok _) (tCons_ok (tI_ok _) (tOne_ok (tTL_ok Riiii_ok _ _))))) (tOne_ok tB_ok))) (fun _ => rfl)
theorem touch.one.eq (p0_0 : Int) (p0_1 : Int) (p1_0 : Int) (p1_1 : Int) (p2 : Int) (p3 : Int) : touch.one.f ((p0_0, p0_1), (p1_0, p1_1), p2, p3) =
  (tT (tCons (tG (tCons (tI .i64) (tCons (tI .i64) (tOne (tTL Riiii 4 (0, 0, 0, 0)))))) (tOne tB))).dec (.tup [.agg [.val (.int .i64 p0_0), .val (.int .i64 p0_1), .lst 4 1 (some 1) (fun i => cloL (List.getD (List.map Riiii.enc [(p1_0, p1_1, p2, p3)]) i (Riiii.enc (0, 0, 0, 0))))], .val (.bool true)]) := by kernel_rfl
/-! ### bagatelle/touch.circles -/
noncomputable def touch.circles.cs : List (Nat × Fw.Summ) := [(13, vec.Sub.s), (12, vec.Len.s), (42, fix.Add.s), (46, vec.Unit.s), (34, fix.Sub.s), (49, fix.Of.s), (48, fix.Div.s), (47, vec.Scale.s), (22, vec.Add.s), (50, touch.one.s)]
theorem touch.circles.cs_ok : SumsOk Try.prog touch.circles.cs := .cons vec.Sub.ok (.cons vec.Len.ok (.cons fix.Add.ok (.cons vec.Unit.ok (.cons fix.Sub.ok (.cons fix.Of.ok (.cons fix.Div.ok (.cons vec.Scale.ok (.cons vec.Add.ok (.cons touch.one.ok (.nil))))))))))
def touch.circles.hs : List (Nat × LHint) := []
noncomputable def touch.circles.G : Ctx := ⟨Try.prog, sumAt touch.circles.cs, lookH touch.circles.hs, true⟩
noncomputable def touch.circles.f (x : ((Int × Int × Int × Int × Int × Int × Int × Int × Int × Int × (Nat × (Nat → List AV))) × (Int × Int × Int × Int × Int × Int × Int × Int × Int × Int × (Nat × (Nat → List AV))))) : Option ((Int × Int × (Nat × (Nat → (Int × Int × Int × Int)))) × Bool) := evF touch.circles.G 0 Try.f27 ((tCons (tG (tCons (tI .i64) (tCons (tI .i64) (tCons (tI .i64) (tCons (tI .i64) (tCons (tI .i64) (tCons (tI .i64) (tCons (tI .i64) (tCons (tI .i64) (tCons (tI .i64) (tCons (tI .i64) (tOne (tLz 2 (Rii.enc (0, 0))))))))))))))) (tOne (tG (tCons (tI .i64) (tCons (tI .i64) (tCons (tI .i64) (tCons (tI .i64) (tCons (tI .i64) (tCons (tI .i64) (tCons (tI .i64) (tCons (tI .i64) (tCons (tI .i64) (tCons (tI .i64) (tOne (tLz 2 (Rii.enc (0, 0))))))))))))))))).enc x) (tT (tCons (tG (tCons (tI .i64) (tCons (tI .i64) (tOne (tTL Riiii 4 (0, 0, 0, 0)))))) (tOne tB))).dec
noncomputable def touch.circles.s : Fw.Summ := .mk' (tCons (tG (tCons (tI .i64) (tCons (tI .i64) (tCons (tI .i64) (tCons (tI .i64) (tCons (tI .i64) (tCons (tI .i64) (tCons (tI .i64) (tCons (tI .i64) (tCons (tI .i64) (tCons (tI .i64) (tOne (tLz 2 (Rii.enc (0, 0))))))))))))))) (tOne (tG (tCons (tI .i64) (tCons (tI .i64) (tCons (tI .i64) (tCons (tI .i64) (tCons (tI .i64) (tCons (tI .i64) (tCons (tI .i64) (tCons (tI .i64) (tCons (tI .i64) (tCons (tI .i64) (tOne (tLz 2 (Rii.enc (0, 0))))))))))))))))) (tT (tCons (tG (tCons (tI .i64) (tCons (tI .i64) (tOne (tTL Riiii 4 (0, 0, 0, 0)))))) (tOne tB))) touch.circles.f
theorem touch.circles.ok : touch.circles.s.Ok Try.prog 27 :=
  summ_ok (hint := lookH touch.circles.hs) (fn := Try.f27) (fun x => 0) touch.circles.cs_ok (by kernel_rfl) (by kernel_rfl) (by kernel_rfl) (by kernel_rfl) (tCons_ok (tG_ok (tCons_ok (tI_ok _) (tCons_ok (tI_ok _) (tCons_ok (tI_ok _) (tCons_ok (tI_ok _) (tCons_ok (tI_ok _) (tCons_ok (tI_ok _) (tCons_ok (tI_ok _) (tCons_ok (tI_ok _) (tCons_ok (tI_ok _) (tCons_ok (tI_ok _) (tOne_ok (tLz_ok _ _))))))))))))) (tOne_ok (tG_ok (tCons_ok (tI_ok _) (tCons_ok (tI_ok _) (tCons_ok (tI_ok _) (tCons_ok (tI_ok _) (tCons_ok (tI_ok _) (tCons_ok (tI_ok _) (tCons_ok (tI_ok _) (tCons_ok (tI_ok _) (tCons_ok (tI_ok _) (tCons_ok (tI_ok _) (tOne_ok (tLz_ok _ _))))))))))))))) (tT_ok (tCons_ok (tG_ok (tCons_ok (tI_ok _) (tCons_ok (tI_ok _) (tOne_ok (tTL_ok Riiii_ok _ _))))) (tOne_ok tB_ok))) (fun _ => rfl)
theorem touch.circles.eq (p0_0 : Int) (p0_1 : Int) (p0_2 : Int) (p0_3 : Int) (p0_4 : Int) (p0_5 : Int) (p0_6 : Int) (p0_7 : Int) (p0_8 : Int) (p0_9 : Int) (p0_10_n : Nat) (p0_10_g : Nat → (Int × Int)) (p1_0 : Int) (p1_1 : Int) (p1_2 : Int) (p1_3 : Int) (p1_4 : Int) (p1_5 : Int) (p1_6 : Int) (p1_7 : Int) (p1_8 : Int) (p1_9 : Int) (p1_10_n : Nat) (p1_10_g : Nat → (Int × Int)) : touch.circles.f ((p0_0, p0_1, p0_2, p0_3, p0_4, p0_5, p0_6, p0_7, p0_8, p0_9, (p0_10_n, (fun i => Rii.enc (p0_10_g i)))), (p1_0, p1_1, p1_2, p1_3, p1_4, p1_5, p1_6, p1_7, p1_8, p1_9, (p1_10_n, (fun i => Rii.enc (p1_10_g i))))) =
  (vec.Sub.f ((p1_1, p1_2), (p0_1, p0_2))).bind fun r1 =>
  (vec.Len.f (r1.1, r1.2)).bind fun r2 =>
  (fix.Add.f (p0_9, p1_9)).bind fun r3 =>
  bif (decide (r2 ≥ r3)) then
    (tT (tCons (tG (tCons (tI .i64) (tCons (tI .i64) (tOne (tTL Riiii 4 (0, 0, 0, 0)))))) (tOne tB))).dec (.tup [.agg [.val (.int .i64 0), .val (.int .i64 0), .val (.slice none 0 0)], .val (.bool false)])
  else
  (vec.Unit.f (r1.1, r1.2)).bind fun r4 =>
  bif (!r4.2) then
    (fix.Sub.f (r3, r2)).bind fun r5 =>
    (fix.Of.f 2).bind fun r6 =>
    (fix.Div.f (r5, r6)).bind fun r7 =>
    (fix.Sub.f (p0_9, r7)).bind fun r8 =>
    (vec.Scale.f ((4294967296, 0), r8)).bind fun r9 =>
    (vec.Add.f ((p0_1, p0_2), (r9.1, r9.2))).bind fun r10 =>
    (touch.one.f ((4294967296, 0), (r10.1, r10.2), r5, 0)).bind fun r11 =>
    (tT (tCons (tG (tCons (tI .i64) (tCons (tI .i64) (tOne (tTL Riiii 4 (0, 0, 0, 0)))))) (tOne tB))).dec (.tup [.agg [.val (.int .i64 r11.1.1), .val (.int .i64 r11.1.2.1), .lst 4 r11.1.2.2.1 none (fun i => Riiii.enc (r11.1.2.2.2 i))], .val (.bool r11.2)])
  else
  (fix.Sub.f (r3, r2)).bind fun r12 =>
  (fix.Of.f 2).bind fun r13 =>
  (fix.Div.f (r12, r13)).bind fun r14 =>
  (fix.Sub.f (p0_9, r14)).bind fun r15 =>
  (vec.Scale.f ((r4.1.1, r4.1.2), r15)).bind fun r16 =>
  (vec.Add.f ((p0_1, p0_2), (r16.1, r16.2))).bind fun r17 =>
  (touch.one.f ((r4.1.1, r4.1.2), (r17.1, r17.2), r12, 0)).bind fun r18 =>
  (tT (tCons (tG (tCons (tI .i64) (tCons (tI .i64) (tOne (tTL Riiii 4 (0, 0, 0, 0)))))) (tOne tB))).dec (.tup [.agg [.val (.int .i64 r18.1.1), .val (.int .i64 r18.1.2.1), .lst 4 r18.1.2.2.1 none (fun i => Riiii.enc (r18.1.2.2.2 i))], .val (.bool r18.2)]) := by kernel_rfl
/-! ### bagatelle/turn.Wrap -/
noncomputable def turn.Wrap.cs : List (Nat × Fw.Summ) := []
theorem turn.Wrap.cs_ok : SumsOk Try.prog turn.Wrap.cs := .nil
def turn.Wrap.hs : List (Nat × LHint) := []
noncomputable def turn.Wrap.G : Ctx := ⟨Try.prog, sumAt turn.Wrap.cs, lookH turn.Wrap.hs, true⟩
noncomputable def turn.Wrap.f (x : Int) : Option Int := evF turn.Wrap.G 0 Try.f68 ((tOne (tI .i64)).enc x) (tI .i64).dec
noncomputable def turn.Wrap.s : Fw.Summ := .mk' (tOne (tI .i64)) (tI .i64) turn.Wrap.f
theorem turn.Wrap.ok : turn.Wrap.s.Ok Try.prog 68 :=
  summ_ok (hint := lookH turn.Wrap.hs) (fn := Try.f68) (fun x => 0) turn.Wrap.cs_ok (by kernel_rfl) (by kernel_rfl) (by kernel_rfl) (by kernel_rfl) (tOne_ok (tI_ok _)) (tI_ok _) (fun _ => rfl)
theorem turn.Wrap.eq (p0 : Int) : turn.Wrap.f p0 =
  some (Go.bits .and .i64 p0 4294967295) := by kernel_rfl
/-! ### bagatelle/turn.Step -/
noncomputable def turn.Step.cs : List (Nat × Fw.Summ) := [(68, turn.Wrap.s)]
theorem turn.Step.cs_ok : SumsOk Try.prog turn.Step.cs := .cons turn.Wrap.ok (.nil)
def turn.Step.hs : List (Nat × LHint) := []
noncomputable def turn.Step.G : Ctx := ⟨Try.prog, sumAt turn.Step.cs, lookH turn.Step.hs, true⟩
noncomputable def turn.Step.f (x : Int) : Option Int := evF turn.Step.G 0 Try.f65 ((tOne (tI .i64)).enc x) (tI .i64).dec
noncomputable def turn.Step.s : Fw.Summ := .mk' (tOne (tI .i64)) (tI .i64) turn.Step.f
theorem turn.Step.ok : turn.Step.s.Ok Try.prog 65 :=
  summ_ok (hint := lookH turn.Step.hs) (fn := Try.f65) (fun x => 0) turn.Step.cs_ok (by kernel_rfl) (by kernel_rfl) (by kernel_rfl) (by kernel_rfl) (tOne_ok (tI_ok _)) (tI_ok _) (fun _ => rfl)
theorem turn.Step.eq (p0 : Int) : turn.Step.f p0 =
  (turn.Wrap.f p0).bind fun r1 =>
  some (Int.fdiv r1 (2 ^ 22)) := by kernel_rfl
/-! ### bagatelle/api.Sine -/
noncomputable def api.Sine.cs : List (Nat × Fw.Summ) := []
theorem api.Sine.cs_ok : SumsOk Try.prog api.Sine.cs := .nil
def api.Sine.hs : List (Nat × LHint) := []
noncomputable def api.Sine.G : Ctx := ⟨Try.prog, sumAt api.Sine.cs, lookH api.Sine.hs, true⟩
noncomputable def api.Sine.f (x : Int) : Option Int := evF api.Sine.G 0 Try.f69 ((tOne (tI .i64)).enc x) (tI .i64).dec
noncomputable def api.Sine.s : Fw.Summ := .mk' (tOne (tI .i64)) (tI .i64) api.Sine.f
theorem api.Sine.ok : api.Sine.s.Ok Try.prog 69 :=
  summ_ok (hint := lookH api.Sine.hs) (fn := Try.f69) (fun x => 0) api.Sine.cs_ok (by kernel_rfl) (by kernel_rfl) (by kernel_rfl) (by kernel_rfl) (tOne_ok (tI_ok _)) (tI_ok _) (fun _ => rfl)
theorem api.Sine.eq (p0 : Int) : api.Sine.f p0 =
  bif (decide (p0 < 0)) then
    some 0
  else
  bif (decide (p0 ≥ 257)) then
    some 0
  else
  bif ((decide (0 ≤ p0)) && (decide (p0 < 257))) then
  some (List.getD Tab3586caee (Int.toNat p0) 0)
  else none := by kernel_rfl
noncomputable def turn.sine_0.s : Fw.Summ := .mk' (tOne (tI .i64)) (tI .i64) (fun _ => none)
theorem turn.sine_0.ok : turn.sine_0.s.Ok Try.prog 66 := nosumm_ok (fn := Try.f66) (by kernel_rfl) (by kernel_rfl) (by kernel_rfl)
noncomputable def turn.sine_0.f (x : Int) : Option Int := none
/-! ### bagatelle/turn.sine -/
noncomputable def turn.sine_1.cs : List (Nat × Fw.Summ) := [(69, api.Sine.s), (66, turn.sine_0.s)]
theorem turn.sine_1.cs_ok : SumsOk Try.prog turn.sine_1.cs := .cons api.Sine.ok (.cons turn.sine_0.ok (.nil))
def turn.sine_1.hs : List (Nat × LHint) := []
noncomputable def turn.sine_1.G : Ctx := ⟨Try.prog, sumAt turn.sine_1.cs, lookH turn.sine_1.hs, true⟩
noncomputable def turn.sine_1.f (x : Int) : Option Int := evF turn.sine_1.G 0 Try.f66 ((tOne (tI .i64)).enc x) (tI .i64).dec
noncomputable def turn.sine_1.s : Fw.Summ := .mk' (tOne (tI .i64)) (tI .i64) turn.sine_1.f
theorem turn.sine_1.ok : turn.sine_1.s.Ok Try.prog 66 :=
  summ_ok (hint := lookH turn.sine_1.hs) (fn := Try.f66) (fun x => 0) turn.sine_1.cs_ok (by kernel_rfl) (by kernel_rfl) (by kernel_rfl) (by kernel_rfl) (tOne_ok (tI_ok _)) (tI_ok _) (fun _ => rfl)
theorem turn.sine_1.eq (p0 : Int) : turn.sine_1.f p0 =
  bif (decide ((Go.bits .and .i64 p0 1023) ≤ 256)) then
    (api.Sine.f (Go.bits .and .i64 p0 1023)).bind fun r1 =>
    some r1
  else
  bif (decide ((Go.bits .and .i64 p0 1023) ≤ 512)) then
    (api.Sine.f (IntKind.i64.wrap (512 - (Go.bits .and .i64 p0 1023)))).bind fun r2 =>
    some r2
  else
  (turn.sine_0.f (IntKind.i64.wrap ((Go.bits .and .i64 p0 1023) - 512))).bind fun r3 =>
  some (IntKind.i64.wrap (0 - r3)) := by kernel_rfl
/-! ### bagatelle/turn.sine -/
noncomputable def turn.sine.cs : List (Nat × Fw.Summ) := [(69, api.Sine.s), (66, turn.sine_1.s)]
theorem turn.sine.cs_ok : SumsOk Try.prog turn.sine.cs := .cons api.Sine.ok (.cons turn.sine_1.ok (.nil))
def turn.sine.hs : List (Nat × LHint) := []
noncomputable def turn.sine.G : Ctx := ⟨Try.prog, sumAt turn.sine.cs, lookH turn.sine.hs, true⟩
noncomputable def turn.sine.f (x : Int) : Option Int := evF turn.sine.G 0 Try.f66 ((tOne (tI .i64)).enc x) (tI .i64).dec
noncomputable def turn.sine.s : Fw.Summ := .mk' (tOne (tI .i64)) (tI .i64) turn.sine.f
theorem turn.sine.ok : turn.sine.s.Ok Try.prog 66 :=
  summ_ok (hint := lookH turn.sine.hs) (fn := Try.f66) (fun x => 0) turn.sine.cs_ok (by kernel_rfl) (by kernel_rfl) (by kernel_rfl) (by kernel_rfl) (tOne_ok (tI_ok _)) (tI_ok _) (fun _ => rfl)
theorem turn.sine.eq (p0 : Int) : turn.sine.f p0 =
  bif (decide ((Go.bits .and .i64 p0 1023) ≤ 256)) then
    (api.Sine.f (Go.bits .and .i64 p0 1023)).bind fun r1 =>
    some r1
  else
  bif (decide ((Go.bits .and .i64 p0 1023) ≤ 512)) then
    (api.Sine.f (IntKind.i64.wrap (512 - (Go.bits .and .i64 p0 1023)))).bind fun r2 =>
    some r2
  else
  (turn.sine_1.f (IntKind.i64.wrap ((Go.bits .and .i64 p0 1023) - 512))).bind fun r3 =>
  some (IntKind.i64.wrap (0 - r3)) := by kernel_rfl
/-! ### bagatelle/turn.Of -/
noncomputable def turn.Of.cs : List (Nat × Fw.Summ) := [(65, turn.Step.s), (66, turn.sine.s)]
theorem turn.Of.cs_ok : SumsOk Try.prog turn.Of.cs := .cons turn.Step.ok (.cons turn.sine.ok (.nil))
def turn.Of.hs : List (Nat × LHint) := []
noncomputable def turn.Of.G : Ctx := ⟨Try.prog, sumAt turn.Of.cs, lookH turn.Of.hs, true⟩
noncomputable def turn.Of.f (x : Int) : Option (Int × Int) := evF turn.Of.G 0 Try.f59 ((tOne (tI .i64)).enc x) (tG (tCons (tI .i64) (tOne (tI .i64)))).dec
noncomputable def turn.Of.s : Fw.Summ := .mk' (tOne (tI .i64)) (tG (tCons (tI .i64) (tOne (tI .i64)))) turn.Of.f
theorem turn.Of.ok : turn.Of.s.Ok Try.prog 59 :=
  summ_ok (hint := lookH turn.Of.hs) (fn := Try.f59) (fun x => 0) turn.Of.cs_ok (by kernel_rfl) (by kernel_rfl) (by kernel_rfl) (by kernel_rfl) (tOne_ok (tI_ok _)) (tG_ok (tCons_ok (tI_ok _) (tOne_ok (tI_ok _)))) (fun _ => rfl)
theorem turn.Of.eq (p0 : Int) : turn.Of.f p0 =
  (turn.Step.f p0).bind fun r1 =>
  (turn.sine.f (IntKind.i64.wrap (r1 + 256))).bind fun r2 =>
  (turn.sine.f r1).bind fun r3 =>
  some (r2, r3) := by kernel_rfl
/-! ### bagatelle/vec.Apply -/
noncomputable def vec.Apply.cs : List (Nat × Fw.Summ) := [(54, fix.Mul.s), (34, fix.Sub.s), (42, fix.Add.s)]
theorem vec.Apply.cs_ok : SumsOk Try.prog vec.Apply.cs := .cons fix.Mul.ok (.cons fix.Sub.ok (.cons fix.Add.ok (.nil)))
def vec.Apply.hs : List (Nat × LHint) := []
noncomputable def vec.Apply.G : Ctx := ⟨Try.prog, sumAt vec.Apply.cs, lookH vec.Apply.hs, true⟩
noncomputable def vec.Apply.f (x : ((Int × Int) × (Int × Int))) : Option (Int × Int) := evF vec.Apply.G 0 Try.f60 ((tCons (tG (tCons (tI .i64) (tOne (tI .i64)))) (tOne (tG (tCons (tI .i64) (tOne (tI .i64)))))).enc x) (tG (tCons (tI .i64) (tOne (tI .i64)))).dec
noncomputable def vec.Apply.s : Fw.Summ := .mk' (tCons (tG (tCons (tI .i64) (tOne (tI .i64)))) (tOne (tG (tCons (tI .i64) (tOne (tI .i64)))))) (tG (tCons (tI .i64) (tOne (tI .i64)))) vec.Apply.f
theorem vec.Apply.ok : vec.Apply.s.Ok Try.prog 60 :=
  summ_ok (hint := lookH vec.Apply.hs) (fn := Try.f60) (fun x => 0) vec.Apply.cs_ok (by kernel_rfl) (by kernel_rfl) (by kernel_rfl) (by kernel_rfl) (tCons_ok (tG_ok (tCons_ok (tI_ok _) (tOne_ok (tI_ok _)))) (tOne_ok (tG_ok (tCons_ok (tI_ok _) (tOne_ok (tI_ok _)))))) (tG_ok (tCons_ok (tI_ok _) (tOne_ok (tI_ok _)))) (fun _ => rfl)
theorem vec.Apply.eq (p0_0 : Int) (p0_1 : Int) (p1_0 : Int) (p1_1 : Int) : vec.Apply.f ((p0_0, p0_1), (p1_0, p1_1)) =
  (fix.Mul.f (p0_0, p1_0)).bind fun r1 =>
  (fix.Mul.f (p0_1, p1_1)).bind fun r2 =>
  (fix.Sub.f (r1, r2)).bind fun r3 =>
  (fix.Mul.f (p0_1, p1_0)).bind fun r4 =>
  (fix.Mul.f (p0_0, p1_1)).bind fun r5 =>
  (fix.Add.f (r4, r5)).bind fun r6 =>
  some (r3, r6) := by kernel_rfl
/-! ### bagatelle/shape.Corners -/
noncomputable def shape.Corners.cs : List (Nat × Fw.Summ) := [(59, turn.Of.s), (60, vec.Apply.s), (22, vec.Add.s)]
theorem shape.Corners.cs_ok : SumsOk Try.prog shape.Corners.cs := .cons turn.Of.ok (.cons vec.Apply.ok (.cons vec.Add.ok (.nil)))
def shape.Corners.hs : List (Nat × LHint) := [(0, { mat := [(.tmp 8, 24)], live := [4, 7, 8, 17, 18, 19], ren := [(.tmp 8, 3)] })]
noncomputable def shape.Corners.G : Ctx := ⟨Try.prog, sumAt shape.Corners.cs, lookH shape.Corners.hs, true⟩
noncomputable def shape.Corners.g (k0 : Nat) (x : ((Int × Int × (Nat × (Nat → List AV))) × (Int × Int) × Int)) : Option (Nat × (Nat → (Int × Int))) := evF shape.Corners.G k0 Try.f40 ((tCons (tG (tCons (tI .i64) (tCons (tI .i64) (tOne (tLz 2 (Rii.enc (0, 0))))))) (tCons (tG (tCons (tI .i64) (tOne (tI .i64)))) (tOne (tI .i64)))).enc x) (tTL Rii 2 (0, 0)).dec
noncomputable def shape.Corners.f (x : ((Int × Int × (Nat × (Nat → List AV))) × (Int × Int) × Int)) : Option (Nat × (Nat → (Int × Int))) := shape.Corners.g (1000000) x
noncomputable def shape.Corners.s : Fw.Summ := .mk' (tCons (tG (tCons (tI .i64) (tCons (tI .i64) (tOne (tLz 2 (Rii.enc (0, 0))))))) (tCons (tG (tCons (tI .i64) (tOne (tI .i64)))) (tOne (tI .i64)))) (tTL Rii 2 (0, 0)) shape.Corners.f
theorem shape.Corners.ok : shape.Corners.s.Ok Try.prog 40 :=
  summ_ok (hint := lookH shape.Corners.hs) (fn := Try.f40) (fun x => 1000000) shape.Corners.cs_ok (by kernel_rfl) (by kernel_rfl) (by kernel_rfl) (by kernel_rfl) (tCons_ok (tG_ok (tCons_ok (tI_ok _) (tCons_ok (tI_ok _) (tOne_ok (tLz_ok _ _))))) (tCons_ok (tG_ok (tCons_ok (tI_ok _) (tOne_ok (tI_ok _)))) (tOne_ok (tI_ok _)))) (tTL_ok Rii_ok _ _) (fun _ => rfl)
noncomputable def shape.Corners.l2 (k0 k1 : Nat) (v1 : Int) (v2 : Int) (v3 : Nat) (v4 : Nat → List AV) (v5 : Int) (v6 : Int) (v7 : Int) (v8 : Int) (v9 : Nat) (v10 : Nat → List AV) (v11 : Int) (v12 : Int) : Option (Nat × (Nat → (Int × Int))) :=
  evLoop (lookH shape.Corners.hs 0) 4 (ev shape.Corners.G k0 (codeAt [1, 1, 1, 1, 0, 1, 0, 0] (bodyOf Try.f40)) 0) k1
  ⟨[.top, .top, .top, .top, .ptr 1 0 0, .top, .top, .ptr 2 0 0, .slc 3 0 none none, .top, .top, .top, .top, .top, .top, .top, .top, .lst 2 v3 none v4, .val (.int .i64 v11), .val (.int .i64 v12), .top, .top, .top, .top, .top, .top, .top, .top, .top, .top, .top, .top, .top], [.live ⟨false, 30, 3, 1, fun _ => [.val (.int .i64 v1), .val (.int .i64 v2), .lst 2 v3 none v4], none⟩, .live ⟨false, 24, 2, 1, fun _ => [.val (.int .i64 v5), .val (.int .i64 v6)], none⟩, .live ⟨false, 87, 2, 1, fun _ => [.val (.int .i64 v7), .val (.int .i64 v8)], none⟩, .live ⟨true, 24, 2, v9, v10, none⟩]⟩
  (kBlock shape.Corners.G 0 (kSeq shape.Corners.G k0 (codeAt [1, 1, 1, 1, 1] (bodyOf Try.f40)) 0 (kFin shape.Corners.G Try.f40 (tTL Rii 2 (0, 0)).dec)))
theorem shape.Corners.l2_eq (k0 k1 : Nat) (v1 : Int) (v2 : Int) (v3 : Nat) (v4 : Nat → (Int × Int)) (v5 : Int) (v6 : Int) (v7 : Int) (v8 : Int) (v9 : Nat) (v10 : Nat → (Int × Int)) (v11 : Int) (v12 : Int) : shape.Corners.l2 k0 (k1 + 1) v1 v2 v3 (fun i => Rii.enc (v4 i)) v5 v6 v7 v8 v9 (fun i => Rii.enc (v10 i)) v11 v12 =
  bif (decide (v12 < v11)) then
    bif ((decide (0 ≤ v12)) && (decide (v12 < ((v3 : Nat) : Int)))) then
    (vec.Apply.f ((v7, v8), ((v4 (Int.toNat v12)).1, (v4 (Int.toNat v12)).2))).bind fun r2 =>
    (vec.Add.f ((v5, v6), (r2.1, r2.2))).bind fun r3 =>
    bif (decide ((v9 + 1) * 16 ≤ 140737488355328)) then
    shape.Corners.l2 k0 k1 v1 v2 v3 (fun i => Rii.enc (v4 i)) v5 v6 v7 v8 (v9 + 1) (fun i => renL (lookF [(12, 3)] 4) (if i = v9 then Rii.enc (r3.1, r3.2) else Rii.enc (v10 i))) v11 (IntKind.i64.wrap (v12 + 1))
    else none
    else none
  else
  (tTL Rii 2 (0, 0)).dec (.lst 2 v9 none (fun i => Rii.enc (v10 i))) := by kernel_rfl
theorem shape.Corners.eq (k0 : Nat) (p0_0 : Int) (p0_1 : Int) (p0_2_n : Nat) (p0_2_g : Nat → (Int × Int)) (p1_0 : Int) (p1_1 : Int) (p2 : Int) : shape.Corners.g k0 ((p0_0, p0_1, (p0_2_n, (fun i => Rii.enc (p0_2_g i)))), (p1_0, p1_1), p2) =
  bif (p0_0 != 2) then
    (tTL Rii 2 (0, 0)).dec (.val (.slice none 0 0))
  else
  (turn.Of.f p2).bind fun r1 =>
  shape.Corners.l2 k0 k0 p0_0 p0_1 p0_2_n (fun i => Rii.enc (p0_2_g i)) p1_0 p1_1 r1.1 r1.2 0 (fun _ => Rii.enc (0, 0)) ((p0_2_n : Nat) : Int) 0 := by kernel_rfl
/-! ### bagatelle/touch.corners -/
noncomputable def touch.corners.cs : List (Nat × Fw.Summ) := [(40, shape.Corners.s)]
theorem touch.corners.cs_ok : SumsOk Try.prog touch.corners.cs := .cons shape.Corners.ok (.nil)
def touch.corners.hs : List (Nat × LHint) := []
noncomputable def touch.corners.G : Ctx := ⟨Try.prog, sumAt touch.corners.cs, lookH touch.corners.hs, true⟩
noncomputable def touch.corners.f (x : (Int × Int × Int × Int × Int × Int × Int × Int × Int × Int × (Nat × (Nat → List AV)))) : Option (Nat × (Nat → (Int × Int))) := evF touch.corners.G 0 Try.f31 ((tOne (tG (tCons (tI .i64) (tCons (tI .i64) (tCons (tI .i64) (tCons (tI .i64) (tCons (tI .i64) (tCons (tI .i64) (tCons (tI .i64) (tCons (tI .i64) (tCons (tI .i64) (tCons (tI .i64) (tOne (tLz 2 (Rii.enc (0, 0)))))))))))))))).enc x) (tTL Rii 2 (0, 0)).dec
noncomputable def touch.corners.s : Fw.Summ := .mk' (tOne (tG (tCons (tI .i64) (tCons (tI .i64) (tCons (tI .i64) (tCons (tI .i64) (tCons (tI .i64) (tCons (tI .i64) (tCons (tI .i64) (tCons (tI .i64) (tCons (tI .i64) (tCons (tI .i64) (tOne (tLz 2 (Rii.enc (0, 0)))))))))))))))) (tTL Rii 2 (0, 0)) touch.corners.f
theorem touch.corners.ok : touch.corners.s.Ok Try.prog 31 :=
  summ_ok (hint := lookH touch.corners.hs) (fn := Try.f31) (fun x => 0) touch.corners.cs_ok (by kernel_rfl) (by kernel_rfl) (by kernel_rfl) (by kernel_rfl) (tOne_ok (tG_ok (tCons_ok (tI_ok _) (tCons_ok (tI_ok _) (tCons_ok (tI_ok _) (tCons_ok (tI_ok _) (tCons_ok (tI_ok _) (tCons_ok (tI_ok _) (tCons_ok (tI_ok _) (tCons_ok (tI_ok _) (tCons_ok (tI_ok _) (tCons_ok (tI_ok _) (tOne_ok (tLz_ok _ _)))))))))))))) (tTL_ok Rii_ok _ _) (fun _ => rfl)
theorem touch.corners.eq (p0_0 : Int) (p0_1 : Int) (p0_2 : Int) (p0_3 : Int) (p0_4 : Int) (p0_5 : Int) (p0_6 : Int) (p0_7 : Int) (p0_8 : Int) (p0_9 : Int) (p0_10_n : Nat) (p0_10_g : Nat → (Int × Int)) : touch.corners.f (p0_0, p0_1, p0_2, p0_3, p0_4, p0_5, p0_6, p0_7, p0_8, p0_9, (p0_10_n, (fun i => Rii.enc (p0_10_g i)))) =
  (shape.Corners.f ((p0_8, p0_9, (p0_10_n, (fun i => Rii.enc (p0_10_g i)))), (p0_1, p0_2), p0_5)).bind fun r1 =>
  (tTL Rii 2 (0, 0)).dec (.lst 2 r1.1 none (fun i => Rii.enc (r1.2 i))) := by kernel_rfl
/-! ### bagatelle/shape.Normals -/
noncomputable def shape.Normals.cs : List (Nat × Fw.Summ) := [(13, vec.Sub.s), (35, fix.Neg.s), (46, vec.Unit.s)]
theorem shape.Normals.cs_ok : SumsOk Try.prog shape.Normals.cs := .cons vec.Sub.ok (.cons fix.Neg.ok (.cons vec.Unit.ok (.nil)))
def shape.Normals.hs : List (Nat × LHint) := [(0, { mat := [(.tmp 3, 24)], live := [0, 3, 9, 10, 11], ren := [(.tmp 3, 0)] })]
noncomputable def shape.Normals.G : Ctx := ⟨Try.prog, sumAt shape.Normals.cs, lookH shape.Normals.hs, true⟩
noncomputable def shape.Normals.g (k0 : Nat) (x : (Nat × (Nat → List AV))) : Option (Nat × (Nat → (Int × Int))) := evF shape.Normals.G k0 Try.f41 ((tOne (tLz 2 (Rii.enc (0, 0)))).enc x) (tTL Rii 2 (0, 0)).dec
noncomputable def shape.Normals.f (x : (Nat × (Nat → List AV))) : Option (Nat × (Nat → (Int × Int))) := shape.Normals.g (1000000) x
noncomputable def shape.Normals.s : Fw.Summ := .mk' (tOne (tLz 2 (Rii.enc (0, 0)))) (tTL Rii 2 (0, 0)) shape.Normals.f
theorem shape.Normals.ok : shape.Normals.s.Ok Try.prog 41 :=
  summ_ok (hint := lookH shape.Normals.hs) (fn := Try.f41) (fun x => 1000000) shape.Normals.cs_ok (by kernel_rfl) (by kernel_rfl) (by kernel_rfl) (by kernel_rfl) (tOne_ok (tLz_ok _ _)) (tTL_ok Rii_ok _ _) (fun _ => rfl)
noncomputable def shape.Normals.l2 (k0 k1 : Nat) (v1 : Nat) (v2 : Nat → List AV) (v3 : Nat) (v4 : Nat → List AV) (v5 : Int) (v6 : Int) : Option (Nat × (Nat → (Int × Int))) :=
  evLoop (lookH shape.Normals.hs 0) 1 (ev shape.Normals.G k0 (codeAt [1, 1, 0, 1, 0, 0] (bodyOf Try.f41)) 0) k1
  ⟨[.lst 2 v3 none v4, .top, .top, .slc 0 0 none none, .top, .top, .top, .top, .top, .lst 2 v3 none v4, .val (.int .i64 v5), .val (.int .i64 v6), .top, .top, .top, .top, .top, .top, .top, .top, .top, .top, .top, .top, .top, .top, .top, .top, .top, .top, .top, .top, .top, .top, .top, .top, .top, .top, .top, .top, .top, .top], [.live ⟨true, 24, 2, v1, v2, none⟩]⟩
  (kBlock shape.Normals.G 0 (kSeq shape.Normals.G k0 (codeAt [1, 1, 1] (bodyOf Try.f41)) 0 (kFin shape.Normals.G Try.f41 (tTL Rii 2 (0, 0)).dec)))
theorem shape.Normals.l2_eq (k0 k1 : Nat) (v1 : Nat) (v2 : Nat → (Int × Int)) (v3 : Nat) (v4 : Nat → (Int × Int)) (v5 : Int) (v6 : Int) : shape.Normals.l2 k0 (k1 + 1) v1 (fun i => Rii.enc (v2 i)) v3 (fun i => Rii.enc (v4 i)) v5 v6 =
  bif (decide (v6 < v5)) then
    bif ((decide (0 ≤ v6)) && (decide (v6 < ((v3 : Nat) : Int)))) then
    bif (decide (((v3 : Nat) : Int) ≠ 0)) then
    bif ((decide (0 ≤ (Int.tmod (IntKind.i64.wrap (v6 + 1)) ((v3 : Nat) : Int)))) && (decide ((Int.tmod (IntKind.i64.wrap (v6 + 1)) ((v3 : Nat) : Int)) < ((v3 : Nat) : Int)))) then
    (vec.Sub.f (((v4 (Int.toNat (Int.tmod (IntKind.i64.wrap (v6 + 1)) ((v3 : Nat) : Int)))).1, (v4 (Int.toNat (Int.tmod (IntKind.i64.wrap (v6 + 1)) ((v3 : Nat) : Int)))).2), ((v4 (Int.toNat v6)).1, (v4 (Int.toNat v6)).2))).bind fun r1 =>
    (fix.Neg.f r1.1).bind fun r2 =>
    (vec.Unit.f (r1.2, r2)).bind fun r3 =>
    bif (decide ((v1 + 1) * 16 ≤ 140737488355328)) then
    shape.Normals.l2 k0 k1 (v1 + 1) (fun i => renL (lookF [(28, 0)] 1) (if i = v1 then Rii.enc (r3.1.1, r3.1.2) else Rii.enc (v2 i))) v3 (fun i => Rii.enc (v4 i)) v5 (IntKind.i64.wrap (v6 + 1))
    else none
    else none
    else none
    else none
  else
  (tTL Rii 2 (0, 0)).dec (.lst 2 v1 none (fun i => Rii.enc (v2 i))) := by kernel_rfl
theorem shape.Normals.eq (k0 : Nat) (p0_n : Nat) (p0_g : Nat → (Int × Int)) : shape.Normals.g k0 (p0_n, (fun i => Rii.enc (p0_g i))) =
  shape.Normals.l2 k0 k0 0 (fun _ => Rii.enc (0, 0)) p0_n (fun i => Rii.enc (p0_g i)) ((p0_n : Nat) : Int) 0 := by kernel_rfl
/-! ### bagatelle/touch.Gap -/
noncomputable def touch.Gap.cs : List (Nat × Fw.Summ) := [(41, shape.Normals.s), (13, vec.Sub.s), (33, vec.Dot.s)]
theorem touch.Gap.cs_ok : SumsOk Try.prog touch.Gap.cs := .cons shape.Normals.ok (.cons vec.Sub.ok (.cons vec.Dot.ok (.nil)))
def touch.Gap.hs : List (Nat × LHint) := [(0, { mat := [], live := [0, 1, 6, 7, 14, 15, 16], ren := [] }), (2, { mat := [], live := [0, 1, 6, 7, 8, 9, 10, 14, 15, 16, 21, 22, 23], ren := [] })]
noncomputable def touch.Gap.G : Ctx := ⟨Try.prog, sumAt touch.Gap.cs, lookH touch.Gap.hs, true⟩
noncomputable def touch.Gap.g (k0 : Nat) (x : ((Nat × (Nat → List AV)) × (Nat × (Nat → List AV)))) : Option (Int × Int) := evF touch.Gap.G k0 Try.f20 ((tCons (tLz 2 (Rii.enc (0, 0))) (tOne (tLz 2 (Rii.enc (0, 0))))).enc x) (tT (tCons (tI .i64) (tOne (tI .i64)))).dec
noncomputable def touch.Gap.f (x : ((Nat × (Nat → List AV)) × (Nat × (Nat → List AV)))) : Option (Int × Int) := touch.Gap.g (1000000) x
noncomputable def touch.Gap.s : Fw.Summ := .mk' (tCons (tLz 2 (Rii.enc (0, 0))) (tOne (tLz 2 (Rii.enc (0, 0))))) (tT (tCons (tI .i64) (tOne (tI .i64)))) touch.Gap.f
theorem touch.Gap.ok : touch.Gap.s.Ok Try.prog 20 :=
  summ_ok (hint := lookH touch.Gap.hs) (fn := Try.f20) (fun x => 1000000) touch.Gap.cs_ok (by kernel_rfl) (by kernel_rfl) (by kernel_rfl) (by kernel_rfl) (tCons_ok (tLz_ok _ _) (tOne_ok (tLz_ok _ _))) (tT_ok (tCons_ok (tI_ok _) (tOne_ok (tI_ok _)))) (fun _ => rfl)
noncomputable def touch.Gap.l1 (k0 k1 k2 : Nat) (v1 : Int) (v2 : Int) (v3 : Nat) (v4 : Nat → List AV) (v5 : Nat) (v6 : Nat → List AV) (v7 : Int) (v8 : Int) (v9 : Int) (v10 : Int) (v11 : Nat) (v12 : Nat → List AV) (v13 : Int) (v14 : Int) (v15 : Int) : Option (Int × Int) :=
  evLoop (lookH touch.Gap.hs 2) 1 (ev touch.Gap.G k0 (codeAt [1, 1, 0, 1, 0, 0, 1, 1, 0, 0, 1, 1, 0, 1, 0, 0] (bodyOf Try.f20)) 2) k2
  ⟨[.lst 2 v3 none v4, .lst 2 v5 none v6, .top, .top, .top, .top, .val (.int .i64 v7), .val (.int .i64 v8), .val (.int .i64 v9), .ptr 0 0 0, .val (.int .i64 v10), .top, .top, .top, .lst 2 v11 none v12, .val (.int .i64 v13), .val (.int .i64 v9), .top, .top, .top, .top, .lst 2 v5 none v6, .val (.int .i64 v14), .val (.int .i64 v15), .top, .top, .top, .top, .top, .top, .top, .top, .top, .top, .top, .top, .top, .top, .top, .top, .top, .top, .top, .top, .top, .top, .top, .top, .top, .top], [.live ⟨false, 24, 2, 1, fun _ => [.val (.int .i64 v1), .val (.int .i64 v2)], none⟩]⟩
  (kBlock touch.Gap.G 2 (kSeq touch.Gap.G k0 (codeAt [1, 1, 0, 1, 0, 0, 1, 1, 0, 0, 1, 1, 1] (bodyOf Try.f20)) 1 (kBlock touch.Gap.G 1 (kSeq touch.Gap.G k0 (codeAt [1, 1, 0, 1, 0, 0, 1, 1, 1] (bodyOf Try.f20)) 0 (kLoop (lookH touch.Gap.hs 0) 0 (ev touch.Gap.G k0 (codeAt [1, 1, 0, 1, 0, 0] (bodyOf Try.f20)) 0) k1 (kBlock touch.Gap.G 0 (kSeq touch.Gap.G k0 (codeAt [1, 1, 1] (bodyOf Try.f20)) 0 (kFin touch.Gap.G Try.f20 (tT (tCons (tI .i64) (tOne (tI .i64)))).dec))))))))
noncomputable def touch.Gap.l0 (k0 k1 : Nat) (v1 : Nat) (v2 : Nat → List AV) (v3 : Nat) (v4 : Nat → List AV) (v5 : Int) (v6 : Int) (v7 : Nat) (v8 : Nat → List AV) (v9 : Int) (v10 : Int) : Option (Int × Int) :=
  evLoop (lookH touch.Gap.hs 0) 0 (ev touch.Gap.G k0 (codeAt [1, 1, 0, 1, 0, 0] (bodyOf Try.f20)) 0) k1
  ⟨[.lst 2 v1 none v2, .lst 2 v3 none v4, .top, .top, .top, .top, .val (.int .i64 v5), .val (.int .i64 v6), .top, .top, .top, .top, .top, .top, .lst 2 v7 none v8, .val (.int .i64 v9), .val (.int .i64 v10), .top, .top, .top, .top, .top, .top, .top, .top, .top, .top, .top, .top, .top, .top, .top, .top, .top, .top, .top, .top, .top, .top, .top, .top, .top, .top, .top, .top, .top, .top, .top, .top, .top], []⟩
  (kBlock touch.Gap.G 0 (kSeq touch.Gap.G k0 (codeAt [1, 1, 1] (bodyOf Try.f20)) 0 (kFin touch.Gap.G Try.f20 (tT (tCons (tI .i64) (tOne (tI .i64)))).dec)))
theorem touch.Gap.l1_eq (k0 k1 k2 : Nat) (v1 : Int) (v2 : Int) (v3 : Nat) (v4 : Nat → (Int × Int)) (v5 : Nat) (v6 : Nat → (Int × Int)) (v7 : Int) (v8 : Int) (v9 : Int) (v10 : Int) (v11 : Nat) (v12 : Nat → (Int × Int)) (v13 : Int) (v14 : Int) (v15 : Int) : touch.Gap.l1 k0 k1 (k2 + 1) v1 v2 v3 (fun i => Rii.enc (v4 i)) v5 (fun i => Rii.enc (v6 i)) v7 v8 v9 v10 v11 (fun i => Rii.enc (v12 i)) v13 v14 v15 =
  bif (decide (v15 < v14)) then
    bif ((decide (0 ≤ v15)) && (decide (v15 < ((v5 : Nat) : Int)))) then
    bif ((decide (0 ≤ v9)) && (decide (v9 < ((v3 : Nat) : Int)))) then
    (vec.Sub.f (((v6 (Int.toNat v15)).1, (v6 (Int.toNat v15)).2), ((v4 (Int.toNat v9)).1, (v4 (Int.toNat v9)).2))).bind fun r2 =>
    (vec.Dot.f ((v1, v2), (r2.1, r2.2))).bind fun r3 =>
    touch.Gap.l1 k0 k1 k2 v1 v2 v3 (fun i => Rii.enc (v4 i)) v5 (fun i => Rii.enc (v6 i)) v7 v8 v9 (if r3 < v10 then r3 else v10) v11 (fun i => Rii.enc (v12 i)) v13 v14 (IntKind.i64.wrap (v15 + 1))
    else none
    else none
  else
  bif (v9 == 0) then
    touch.Gap.l0 k0 k1 v3 (fun i => Rii.enc (v4 i)) v5 (fun i => Rii.enc (v6 i)) v10 v9 v11 (fun i => Rii.enc (v12 i)) v13 (IntKind.i64.wrap (v9 + 1))
  else
  bif (decide (v10 > v7)) then
    touch.Gap.l0 k0 k1 v3 (fun i => Rii.enc (v4 i)) v5 (fun i => Rii.enc (v6 i)) v10 v9 v11 (fun i => Rii.enc (v12 i)) v13 (IntKind.i64.wrap (v9 + 1))
  else
  touch.Gap.l0 k0 k1 v3 (fun i => Rii.enc (v4 i)) v5 (fun i => Rii.enc (v6 i)) v7 v8 v11 (fun i => Rii.enc (v12 i)) v13 (IntKind.i64.wrap (v9 + 1)) := by kernel_rfl
theorem touch.Gap.l0_eq (k0 k1 : Nat) (v1 : Nat) (v2 : Nat → (Int × Int)) (v3 : Nat) (v4 : Nat → (Int × Int)) (v5 : Int) (v6 : Int) (v7 : Nat) (v8 : Nat → (Int × Int)) (v9 : Int) (v10 : Int) : touch.Gap.l0 k0 (k1 + 1) v1 (fun i => Rii.enc (v2 i)) v3 (fun i => Rii.enc (v4 i)) v5 v6 v7 (fun i => Rii.enc (v8 i)) v9 v10 =
  bif (decide (v10 < v9)) then
    bif ((decide (0 ≤ v10)) && (decide (v10 < ((v7 : Nat) : Int)))) then
    touch.Gap.l1 k0 k1 k0 (v8 (Int.toNat v10)).1 (v8 (Int.toNat v10)).2 v1 (fun i => Rii.enc (v2 i)) v3 (fun i => Rii.enc (v4 i)) v5 v6 v10 9223372036854775807 v7 (fun i => Rii.enc (v8 i)) v9 ((v3 : Nat) : Int) 0
    else none
  else
  some (v6, v5) := by kernel_rfl
theorem touch.Gap.eq (k0 : Nat) (p0_n : Nat) (p0_g : Nat → (Int × Int)) (p1_n : Nat) (p1_g : Nat → (Int × Int)) : touch.Gap.g k0 ((p0_n, (fun i => Rii.enc (p0_g i))), (p1_n, (fun i => Rii.enc (p1_g i)))) =
  (shape.Normals.f (p0_n, (fun i => Rii.enc (p0_g i)))).bind fun r1 =>
  touch.Gap.l0 k0 k0 p0_n (fun i => Rii.enc (p0_g i)) p1_n (fun i => Rii.enc (p1_g i)) (-9223372036854775807) 0 r1.1 (fun i => Rii.enc (r1.2 i)) ((r1.1 : Nat) : Int) 0 := by kernel_rfl
/-! ### bagatelle/touch.corner -/
noncomputable def touch.corner.cs : List (Nat × Fw.Summ) := [(12, vec.Len.s), (46, vec.Unit.s), (34, fix.Sub.s), (50, touch.one.s)]
theorem touch.corner.cs_ok : SumsOk Try.prog touch.corner.cs := .cons vec.Len.ok (.cons vec.Unit.ok (.cons fix.Sub.ok (.cons touch.one.ok (.nil))))
def touch.corner.hs : List (Nat × LHint) := []
noncomputable def touch.corner.G : Ctx := ⟨Try.prog, sumAt touch.corner.cs, lookH touch.corner.hs, true⟩
noncomputable def touch.corner.f (x : ((Int × Int) × (Int × Int) × (Int × Int) × Int × Int)) : Option ((Int × Int × (Nat × (Nat → (Int × Int × Int × Int)))) × Bool) := evF touch.corner.G 0 Try.f51 ((tCons (tG (tCons (tI .i64) (tOne (tI .i64)))) (tCons (tG (tCons (tI .i64) (tOne (tI .i64)))) (tCons (tG (tCons (tI .i64) (tOne (tI .i64)))) (tCons (tI .i64) (tOne (tI .i64)))))).enc x) (tT (tCons (tG (tCons (tI .i64) (tCons (tI .i64) (tOne (tTL Riiii 4 (0, 0, 0, 0)))))) (tOne tB))).dec
noncomputable def touch.corner.s : Fw.Summ := .mk' (tCons (tG (tCons (tI .i64) (tOne (tI .i64)))) (tCons (tG (tCons (tI .i64) (tOne (tI .i64)))) (tCons (tG (tCons (tI .i64) (tOne (tI .i64)))) (tCons (tI .i64) (tOne (tI .i64)))))) (tT (tCons (tG (tCons (tI .i64) (tCons (tI .i64) (tOne (tTL Riiii 4 (0, 0, 0, 0)))))) (tOne tB))) touch.corner.f
theorem touch.corner.ok : touch.corner.s.Ok Try.prog 51 :=
  summ_ok (hint := lookH touch.corner.hs) (fn := Try.f51) (fun x => 0) touch.corner.cs_ok (by kernel_rfl) (by kernel_rfl) (by kernel_rfl) (by kernel_rfl) (tCons_ok (tG_ok (tCons_ok (tI_ok _) (tOne_ok (tI_ok _)))) (tCons_ok (tG_ok (tCons_ok (tI_ok _) (tOne_ok (tI_ok _)))) (tCons_ok (tG_ok (tCons_ok (tI_ok _) (tOne_ok (tI_ok _)))) (tCons_ok (tI_ok _) (tOne_ok (tI_ok _)))))) (tT_ok (tCons_ok (tG_ok (tCons_ok (tI_ok _) (tCons_ok (tI_ok _) (tOne_ok (tTL_ok Riiii_ok _ _))))) (tOne_ok tB_ok))) (fun _ => rfl)
theorem touch.corner.eq (p0_0 : Int) (p0_1 : Int) (p1_0 : Int) (p1_1 : Int) (p2_0 : Int) (p2_1 : Int) (p3 : Int) (p4 : Int) : touch.corner.f ((p0_0, p0_1), (p1_0, p1_1), (p2_0, p2_1), p3, p4) =
  (vec.Len.f (p2_0, p2_1)).bind fun r1 =>
  bif (decide (r1 ≥ p3)) then
    (tT (tCons (tG (tCons (tI .i64) (tCons (tI .i64) (tOne (tTL Riiii 4 (0, 0, 0, 0)))))) (tOne tB))).dec (.tup [.agg [.val (.int .i64 0), .val (.int .i64 0), .val (.slice none 0 0)], .val (.bool false)])
  else
  (vec.Unit.f (p2_0, p2_1)).bind fun r2 =>
  bif r2.2 then
    (fix.Sub.f (p3, r1)).bind fun r3 =>
    (touch.one.f ((r2.1.1, r2.1.2), (p1_0, p1_1), r3, p4)).bind fun r4 =>
    (tT (tCons (tG (tCons (tI .i64) (tCons (tI .i64) (tOne (tTL Riiii 4 (0, 0, 0, 0)))))) (tOne tB))).dec (.tup [.agg [.val (.int .i64 r4.1.1), .val (.int .i64 r4.1.2.1), .lst 4 r4.1.2.2.1 none (fun i => Riiii.enc (r4.1.2.2.2 i))], .val (.bool r4.2)])
  else
  (fix.Sub.f (p3, r1)).bind fun r5 =>
  (touch.one.f ((p0_0, p0_1), (p1_0, p1_1), r5, p4)).bind fun r6 =>
  (tT (tCons (tG (tCons (tI .i64) (tCons (tI .i64) (tOne (tTL Riiii 4 (0, 0, 0, 0)))))) (tOne tB))).dec (.tup [.agg [.val (.int .i64 r6.1.1), .val (.int .i64 r6.1.2.1), .lst 4 r6.1.2.2.1 none (fun i => Riiii.enc (r6.1.2.2.2 i))], .val (.bool r6.2)]) := by kernel_rfl
/-! ### bagatelle/vec.Neg -/
noncomputable def vec.Neg.cs : List (Nat × Fw.Summ) := [(35, fix.Neg.s)]
theorem vec.Neg.cs_ok : SumsOk Try.prog vec.Neg.cs := .cons fix.Neg.ok (.nil)
def vec.Neg.hs : List (Nat × LHint) := []
noncomputable def vec.Neg.G : Ctx := ⟨Try.prog, sumAt vec.Neg.cs, lookH vec.Neg.hs, true⟩
noncomputable def vec.Neg.f (x : (Int × Int)) : Option (Int × Int) := evF vec.Neg.G 0 Try.f14 ((tOne (tG (tCons (tI .i64) (tOne (tI .i64))))).enc x) (tG (tCons (tI .i64) (tOne (tI .i64)))).dec
noncomputable def vec.Neg.s : Fw.Summ := .mk' (tOne (tG (tCons (tI .i64) (tOne (tI .i64))))) (tG (tCons (tI .i64) (tOne (tI .i64)))) vec.Neg.f
theorem vec.Neg.ok : vec.Neg.s.Ok Try.prog 14 :=
  summ_ok (hint := lookH vec.Neg.hs) (fn := Try.f14) (fun x => 0) vec.Neg.cs_ok (by kernel_rfl) (by kernel_rfl) (by kernel_rfl) (by kernel_rfl) (tOne_ok (tG_ok (tCons_ok (tI_ok _) (tOne_ok (tI_ok _))))) (tG_ok (tCons_ok (tI_ok _) (tOne_ok (tI_ok _)))) (fun _ => rfl)
theorem vec.Neg.eq (p0_0 : Int) (p0_1 : Int) : vec.Neg.f (p0_0, p0_1) =
  (fix.Neg.f p0_0).bind fun r1 =>
  (fix.Neg.f p0_1).bind fun r2 =>
  some (r1, r2) := by kernel_rfl
/-! ### bagatelle/touch.mixed -/
noncomputable def touch.mixed.cs : List (Nat × Fw.Summ) := [(31, touch.corners.s), (20, touch.Gap.s), (41, shape.Normals.s), (47, vec.Scale.s), (13, vec.Sub.s), (34, fix.Sub.s), (50, touch.one.s), (33, vec.Dot.s), (51, touch.corner.s), (14, vec.Neg.s)]
theorem touch.mixed.cs_ok : SumsOk Try.prog touch.mixed.cs := .cons touch.corners.ok (.cons touch.Gap.ok (.cons shape.Normals.ok (.cons vec.Scale.ok (.cons vec.Sub.ok (.cons fix.Sub.ok (.cons touch.one.ok (.cons vec.Dot.ok (.cons touch.corner.ok (.cons vec.Neg.ok (.nil))))))))))
def touch.mixed.hs : List (Nat × LHint) := []
noncomputable def touch.mixed.G : Ctx := ⟨Try.prog, sumAt touch.mixed.cs, lookH touch.mixed.hs, true⟩
noncomputable def touch.mixed.f (x : ((Int × Int × Int × Int × Int × Int × Int × Int × Int × Int × (Nat × (Nat → List AV))) × (Int × Int × Int × Int × Int × Int × Int × Int × Int × Int × (Nat × (Nat → List AV))))) : Option ((Int × Int × (Nat × (Nat → (Int × Int × Int × Int)))) × Bool) := evF touch.mixed.G 0 Try.f28 ((tCons (tG (tCons (tI .i64) (tCons (tI .i64) (tCons (tI .i64) (tCons (tI .i64) (tCons (tI .i64) (tCons (tI .i64) (tCons (tI .i64) (tCons (tI .i64) (tCons (tI .i64) (tCons (tI .i64) (tOne (tLz 2 (Rii.enc (0, 0))))))))))))))) (tOne (tG (tCons (tI .i64) (tCons (tI .i64) (tCons (tI .i64) (tCons (tI .i64) (tCons (tI .i64) (tCons (tI .i64) (tCons (tI .i64) (tCons (tI .i64) (tCons (tI .i64) (tCons (tI .i64) (tOne (tLz 2 (Rii.enc (0, 0))))))))))))))))).enc x) (tT (tCons (tG (tCons (tI .i64) (tCons (tI .i64) (tOne (tTL Riiii 4 (0, 0, 0, 0)))))) (tOne tB))).dec
noncomputable def touch.mixed.s : Fw.Summ := .mk' (tCons (tG (tCons (tI .i64) (tCons (tI .i64) (tCons (tI .i64) (tCons (tI .i64) (tCons (tI .i64) (tCons (tI .i64) (tCons (tI .i64) (tCons (tI .i64) (tCons (tI .i64) (tCons (tI .i64) (tOne (tLz 2 (Rii.enc (0, 0))))))))))))))) (tOne (tG (tCons (tI .i64) (tCons (tI .i64) (tCons (tI .i64) (tCons (tI .i64) (tCons (tI .i64) (tCons (tI .i64) (tCons (tI .i64) (tCons (tI .i64) (tCons (tI .i64) (tCons (tI .i64) (tOne (tLz 2 (Rii.enc (0, 0))))))))))))))))) (tT (tCons (tG (tCons (tI .i64) (tCons (tI .i64) (tOne (tTL Riiii 4 (0, 0, 0, 0)))))) (tOne tB))) touch.mixed.f
theorem touch.mixed.ok : touch.mixed.s.Ok Try.prog 28 :=
  summ_ok (hint := lookH touch.mixed.hs) (fn := Try.f28) (fun x => 0) touch.mixed.cs_ok (by kernel_rfl) (by kernel_rfl) (by kernel_rfl) (by kernel_rfl) (tCons_ok (tG_ok (tCons_ok (tI_ok _) (tCons_ok (tI_ok _) (tCons_ok (tI_ok _) (tCons_ok (tI_ok _) (tCons_ok (tI_ok _) (tCons_ok (tI_ok _) (tCons_ok (tI_ok _) (tCons_ok (tI_ok _) (tCons_ok (tI_ok _) (tCons_ok (tI_ok _) (tOne_ok (tLz_ok _ _))))))))))))) (tOne_ok (tG_ok (tCons_ok (tI_ok _) (tCons_ok (tI_ok _) (tCons_ok (tI_ok _) (tCons_ok (tI_ok _) (tCons_ok (tI_ok _) (tCons_ok (tI_ok _) (tCons_ok (tI_ok _) (tCons_ok (tI_ok _) (tCons_ok (tI_ok _) (tCons_ok (tI_ok _) (tOne_ok (tLz_ok _ _))))))))))))))) (tT_ok (tCons_ok (tG_ok (tCons_ok (tI_ok _) (tCons_ok (tI_ok _) (tOne_ok (tTL_ok Riiii_ok _ _))))) (tOne_ok tB_ok))) (fun _ => rfl)
theorem touch.mixed.eq (p0_0 : Int) (p0_1 : Int) (p0_2 : Int) (p0_3 : Int) (p0_4 : Int) (p0_5 : Int) (p0_6 : Int) (p0_7 : Int) (p0_8 : Int) (p0_9 : Int) (p0_10_n : Nat) (p0_10_g : Nat → (Int × Int)) (p1_0 : Int) (p1_1 : Int) (p1_2 : Int) (p1_3 : Int) (p1_4 : Int) (p1_5 : Int) (p1_6 : Int) (p1_7 : Int) (p1_8 : Int) (p1_9 : Int) (p1_10_n : Nat) (p1_10_g : Nat → (Int × Int)) : touch.mixed.f ((p0_0, p0_1, p0_2, p0_3, p0_4, p0_5, p0_6, p0_7, p0_8, p0_9, (p0_10_n, (fun i => Rii.enc (p0_10_g i)))), (p1_0, p1_1, p1_2, p1_3, p1_4, p1_5, p1_6, p1_7, p1_8, p1_9, (p1_10_n, (fun i => Rii.enc (p1_10_g i))))) =
  (touch.corners.f (p0_0, p0_1, p0_2, p0_3, p0_4, p0_5, p0_6, p0_7, p0_8, p0_9, (p0_10_n, (fun i => Rii.enc (p0_10_g i))))).bind fun r1 =>
  (touch.Gap.f ((r1.1, (fun i => Rii.enc (r1.2 i))), (1, (fun i => cloL (List.getD (List.map Rii.enc [(p1_1, p1_2)]) i (Rii.enc (0, 0))))))).bind fun r2 =>
  bif (decide (r2.2 ≥ p1_9)) then
    (tT (tCons (tG (tCons (tI .i64) (tCons (tI .i64) (tOne (tTL Riiii 4 (0, 0, 0, 0)))))) (tOne tB))).dec (.tup [.agg [.val (.int .i64 0), .val (.int .i64 0), .val (.slice none 0 0)], .val (.bool false)])
  else
  (shape.Normals.f (r1.1, (fun i => Rii.enc (r1.2 i)))).bind fun r3 =>
  bif ((decide (0 ≤ r2.1)) && (decide (r2.1 < ((r3.1 : Nat) : Int)))) then
  bif (decide (r2.2 ≤ 0)) then
    (vec.Scale.f (((r3.2 (Int.toNat r2.1)).1, (r3.2 (Int.toNat r2.1)).2), p1_9)).bind fun r4 =>
    (vec.Sub.f ((p1_1, p1_2), (r4.1, r4.2))).bind fun r5 =>
    (fix.Sub.f (p1_9, r2.2)).bind fun r6 =>
    (touch.one.f (((r3.2 (Int.toNat r2.1)).1, (r3.2 (Int.toNat r2.1)).2), (r5.1, r5.2), r6, (IntKind.i64.wrap (16 + r2.1)))).bind fun r7 =>
    (tT (tCons (tG (tCons (tI .i64) (tCons (tI .i64) (tOne (tTL Riiii 4 (0, 0, 0, 0)))))) (tOne tB))).dec (.tup [.agg [.val (.int .i64 r7.1.1), .val (.int .i64 r7.1.2.1), .lst 4 r7.1.2.2.1 none (fun i => Riiii.enc (r7.1.2.2.2 i))], .val (.bool r7.2)])
  else
  bif ((decide (0 ≤ r2.1)) && (decide (r2.1 < ((r1.1 : Nat) : Int)))) then
  bif (decide (((r1.1 : Nat) : Int) ≠ 0)) then
  bif ((decide (0 ≤ (Int.tmod (IntKind.i64.wrap (r2.1 + 1)) ((r1.1 : Nat) : Int)))) && (decide ((Int.tmod (IntKind.i64.wrap (r2.1 + 1)) ((r1.1 : Nat) : Int)) < ((r1.1 : Nat) : Int)))) then
  (vec.Sub.f (((r1.2 (Int.toNat (Int.tmod (IntKind.i64.wrap (r2.1 + 1)) ((r1.1 : Nat) : Int)))).1, (r1.2 (Int.toNat (Int.tmod (IntKind.i64.wrap (r2.1 + 1)) ((r1.1 : Nat) : Int)))).2), ((r1.2 (Int.toNat r2.1)).1, (r1.2 (Int.toNat r2.1)).2))).bind fun r8 =>
  (vec.Sub.f ((p1_1, p1_2), ((r1.2 (Int.toNat r2.1)).1, (r1.2 (Int.toNat r2.1)).2))).bind fun r9 =>
  (vec.Sub.f ((p1_1, p1_2), ((r1.2 (Int.toNat (Int.tmod (IntKind.i64.wrap (r2.1 + 1)) ((r1.1 : Nat) : Int)))).1, (r1.2 (Int.toNat (Int.tmod (IntKind.i64.wrap (r2.1 + 1)) ((r1.1 : Nat) : Int)))).2))).bind fun r10 =>
  (vec.Dot.f ((r9.1, r9.2), (r8.1, r8.2))).bind fun r11 =>
  bif (decide (r11 ≤ 0)) then
    (touch.corner.f (((r3.2 (Int.toNat r2.1)).1, (r3.2 (Int.toNat r2.1)).2), ((r1.2 (Int.toNat r2.1)).1, (r1.2 (Int.toNat r2.1)).2), (r9.1, r9.2), p1_9, (IntKind.i64.wrap (2 * r2.1)))).bind fun r12 =>
    (tT (tCons (tG (tCons (tI .i64) (tCons (tI .i64) (tOne (tTL Riiii 4 (0, 0, 0, 0)))))) (tOne tB))).dec (.tup [.agg [.val (.int .i64 r12.1.1), .val (.int .i64 r12.1.2.1), .lst 4 r12.1.2.2.1 none (fun i => Riiii.enc (r12.1.2.2.2 i))], .val (.bool r12.2)])
  else
  (vec.Neg.f (r8.1, r8.2)).bind fun r13 =>
  (vec.Dot.f ((r10.1, r10.2), (r13.1, r13.2))).bind fun r14 =>
  bif (decide (r14 ≤ 0)) then
    (touch.corner.f (((r3.2 (Int.toNat r2.1)).1, (r3.2 (Int.toNat r2.1)).2), ((r1.2 (Int.toNat (Int.tmod (IntKind.i64.wrap (r2.1 + 1)) ((r1.1 : Nat) : Int)))).1, (r1.2 (Int.toNat (Int.tmod (IntKind.i64.wrap (r2.1 + 1)) ((r1.1 : Nat) : Int)))).2), (r10.1, r10.2), p1_9, (IntKind.i64.wrap ((IntKind.i64.wrap (2 * r2.1)) + 1)))).bind fun r15 =>
    (tT (tCons (tG (tCons (tI .i64) (tCons (tI .i64) (tOne (tTL Riiii 4 (0, 0, 0, 0)))))) (tOne tB))).dec (.tup [.agg [.val (.int .i64 r15.1.1), .val (.int .i64 r15.1.2.1), .lst 4 r15.1.2.2.1 none (fun i => Riiii.enc (r15.1.2.2.2 i))], .val (.bool r15.2)])
  else
  (vec.Scale.f (((r3.2 (Int.toNat r2.1)).1, (r3.2 (Int.toNat r2.1)).2), p1_9)).bind fun r16 =>
  (vec.Sub.f ((p1_1, p1_2), (r16.1, r16.2))).bind fun r17 =>
  (fix.Sub.f (p1_9, r2.2)).bind fun r18 =>
  (touch.one.f (((r3.2 (Int.toNat r2.1)).1, (r3.2 (Int.toNat r2.1)).2), (r17.1, r17.2), r18, (IntKind.i64.wrap (16 + r2.1)))).bind fun r19 =>
  (tT (tCons (tG (tCons (tI .i64) (tCons (tI .i64) (tOne (tTL Riiii 4 (0, 0, 0, 0)))))) (tOne tB))).dec (.tup [.agg [.val (.int .i64 r19.1.1), .val (.int .i64 r19.1.2.1), .lst 4 r19.1.2.2.1 none (fun i => Riiii.enc (r19.1.2.2.2 i))], .val (.bool r19.2)])
  else none
  else none
  else none
  else none := by kernel_rfl
/-! ### bagatelle/touch.turned -/
noncomputable def touch.turned.cs : List (Nat × Fw.Summ) := [(14, vec.Neg.s)]
theorem touch.turned.cs_ok : SumsOk Try.prog touch.turned.cs := .cons vec.Neg.ok (.nil)
def touch.turned.hs : List (Nat × LHint) := []
noncomputable def touch.turned.G : Ctx := ⟨Try.prog, sumAt touch.turned.cs, lookH touch.turned.hs, true⟩
noncomputable def touch.turned.f (x : ((Int × Int × (Nat × (Nat → List AV))) × Bool)) : Option ((Int × Int × (Nat × (Nat → (Int × Int × Int × Int)))) × Bool) := evF touch.turned.G 0 Try.f29 ((tCons (tG (tCons (tI .i64) (tCons (tI .i64) (tOne (tLz 4 (Riiii.enc (0, 0, 0, 0))))))) (tOne tB)).enc x) (tT (tCons (tG (tCons (tI .i64) (tCons (tI .i64) (tOne (tTL Riiii 4 (0, 0, 0, 0)))))) (tOne tB))).dec
noncomputable def touch.turned.s : Fw.Summ := .mk' (tCons (tG (tCons (tI .i64) (tCons (tI .i64) (tOne (tLz 4 (Riiii.enc (0, 0, 0, 0))))))) (tOne tB)) (tT (tCons (tG (tCons (tI .i64) (tCons (tI .i64) (tOne (tTL Riiii 4 (0, 0, 0, 0)))))) (tOne tB))) touch.turned.f
theorem touch.turned.ok : touch.turned.s.Ok Try.prog 29 :=
  summ_ok (hint := lookH touch.turned.hs) (fn := Try.f29) (fun x => 0) touch.turned.cs_ok (by kernel_rfl) (by kernel_rfl) (by kernel_rfl) (by kernel_rfl) (tCons_ok (tG_ok (tCons_ok (tI_ok _) (tCons_ok (tI_ok _) (tOne_ok (tLz_ok _ _))))) (tOne_ok tB_ok)) (tT_ok (tCons_ok (tG_ok (tCons_ok (tI_ok _) (tCons_ok (tI_ok _) (tOne_ok (tTL_ok Riiii_ok _ _))))) (tOne_ok tB_ok))) (fun _ => rfl)
theorem touch.turned.eq (p0_0 : Int) (p0_1 : Int) (p0_2_n : Nat) (p0_2_g : Nat → (Int × Int × Int × Int)) (p1 : Bool) : touch.turned.f ((p0_0, p0_1, (p0_2_n, (fun i => Riiii.enc (p0_2_g i)))), p1) =
  (vec.Neg.f (p0_0, p0_1)).bind fun r1 =>
  (tT (tCons (tG (tCons (tI .i64) (tCons (tI .i64) (tOne (tTL Riiii 4 (0, 0, 0, 0)))))) (tOne tB))).dec (.tup [.agg [.val (.int .i64 r1.1), .val (.int .i64 r1.2), .lst 4 p0_2_n none (fun i => Riiii.enc (p0_2_g i))], .val (.bool p1)]) := by kernel_rfl
/-! ### bagatelle/touch.clip -/
noncomputable def touch.clip.cs : List (Nat × Fw.Summ) := [(13, vec.Sub.s), (33, vec.Dot.s), (34, fix.Sub.s), (48, fix.Div.s), (47, vec.Scale.s), (22, vec.Add.s)]
theorem touch.clip.cs_ok : SumsOk Try.prog touch.clip.cs := .cons vec.Sub.ok (.cons vec.Dot.ok (.cons fix.Sub.ok (.cons fix.Div.ok (.cons vec.Scale.ok (.cons vec.Add.ok (.nil))))))
noncomputable def touch.clip.G : Ctx := ⟨Try.prog, sumAt touch.clip.cs, fun _ => { unroll := true }, true⟩
noncomputable def touch.clip.f (x : (Int × Int × Int × Int) × ((Int × Int) × (Int × Int))) : Option (Bool × (Int × Int × Int × Int)) := evG touch.clip.G Try.f64 94 ((tCons (tI .i64) (tCons (tI .i64) (tCons (tI .i64) (tOne (tI .i64))))).enc x.1) ((tCons (tG (tCons (tI .i64) (tOne (tI .i64)))) (tOne (tG (tCons (tI .i64) (tOne (tI .i64)))))).enc x.2) (outD tB (tCons (tI .i64) (tCons (tI .i64) (tCons (tI .i64) (tOne (tI .i64))))))
noncomputable def touch.clip.s : Fw.Summ := .mkO 94 (tCons (tI .i64) (tCons (tI .i64) (tCons (tI .i64) (tOne (tI .i64))))) (tCons (tG (tCons (tI .i64) (tOne (tI .i64)))) (tOne (tG (tCons (tI .i64) (tOne (tI .i64)))))) tB touch.clip.f
theorem touch.clip.ok : touch.clip.s.Ok Try.prog 64 :=
  osumm_ok (fn := Try.f64) touch.clip.cs_ok (by kernel_rfl) (by kernel_rfl) (by kernel_rfl) (by kernel_rfl) (tCons_ok (tI_ok _) (tCons_ok (tI_ok _) (tCons_ok (tI_ok _) (tOne_ok (tI_ok _))))) (tCons_ok (tG_ok (tCons_ok (tI_ok _) (tOne_ok (tI_ok _)))) (tOne_ok (tG_ok (tCons_ok (tI_ok _) (tOne_ok (tI_ok _)))))) tB_ok (fun _ => rfl)
theorem touch.clip.eq (o_0 : Int) (o_1 : Int) (o_2 : Int) (o_3 : Int) (p0_0 : Int) (p0_1 : Int) (p1_0 : Int) (p1_1 : Int) : touch.clip.f ((o_0, o_1, o_2, o_3), ((p0_0, p0_1), (p1_0, p1_1))) =
  (vec.Sub.f ((o_0, o_1), (p0_0, p0_1))).bind fun r1 =>
  (vec.Dot.f ((p1_0, p1_1), (r1.1, r1.2))).bind fun r2 =>
  (vec.Sub.f ((o_2, o_3), (p0_0, p0_1))).bind fun r3 =>
  (vec.Dot.f ((p1_0, p1_1), (r3.1, r3.2))).bind fun r4 =>
  bif (decide (r2 < 0)) then
    bif (decide (r4 < 0)) then
      some (false, (o_0, o_1, o_2, o_3))
    else
    bif (decide (r2 < 0)) then
      (vec.Sub.f ((o_2, o_3), (o_0, o_1))).bind fun r5 =>
      (fix.Sub.f (r2, r4)).bind fun r6 =>
      (fix.Div.f (r2, r6)).bind fun r7 =>
      (vec.Scale.f ((r5.1, r5.2), r7)).bind fun r8 =>
      (vec.Add.f ((o_0, o_1), (r8.1, r8.2))).bind fun r9 =>
      some (true, (r9.1, r9.2, o_2, o_3))
    else
    bif (decide (r4 < 0)) then
      (vec.Sub.f ((o_0, o_1), (o_2, o_3))).bind fun r10 =>
      (fix.Sub.f (r4, r2)).bind fun r11 =>
      (fix.Div.f (r4, r11)).bind fun r12 =>
      (vec.Scale.f ((r10.1, r10.2), r12)).bind fun r13 =>
      (vec.Add.f ((o_2, o_3), (r13.1, r13.2))).bind fun r14 =>
      some (true, (o_0, o_1, r14.1, r14.2))
    else
    some (true, (o_0, o_1, o_2, o_3))
  else
  bif (decide (r2 < 0)) then
    (vec.Sub.f ((o_2, o_3), (o_0, o_1))).bind fun r15 =>
    (fix.Sub.f (r2, r4)).bind fun r16 =>
    (fix.Div.f (r2, r16)).bind fun r17 =>
    (vec.Scale.f ((r15.1, r15.2), r17)).bind fun r18 =>
    (vec.Add.f ((o_0, o_1), (r18.1, r18.2))).bind fun r19 =>
    some (true, (r19.1, r19.2, o_2, o_3))
  else
  bif (decide (r4 < 0)) then
    (vec.Sub.f ((o_0, o_1), (o_2, o_3))).bind fun r20 =>
    (fix.Sub.f (r4, r2)).bind fun r21 =>
    (fix.Div.f (r4, r21)).bind fun r22 =>
    (vec.Scale.f ((r20.1, r20.2), r22)).bind fun r23 =>
    (vec.Add.f ((o_2, o_3), (r23.1, r23.2))).bind fun r24 =>
    some (true, (o_0, o_1, r24.1, r24.2))
  else
  some (true, (o_0, o_1, o_2, o_3)) := by kernel_rfl
/-! ### bagatelle/touch.cut -/
noncomputable def touch.cut.cs : List (Nat × Fw.Summ) := [(41, shape.Normals.s), (13, vec.Sub.s), (46, vec.Unit.s), (33, vec.Dot.s), (64, touch.clip.s), (14, vec.Neg.s), (35, fix.Neg.s)]
theorem touch.cut.cs_ok : SumsOk Try.prog touch.cut.cs := .cons shape.Normals.ok (.cons vec.Sub.ok (.cons vec.Unit.ok (.cons vec.Dot.ok (.cons touch.clip.ok (.cons vec.Neg.ok (.cons fix.Neg.ok (.nil)))))))
def touch.cut.hs : List (Nat × LHint) := [(0, { mat := [], live := [1, 3, 8, 10, 11, 12, 50, 51, 52], ren := [] }), (2, { unroll := true })]
noncomputable def touch.cut.G : Ctx := ⟨Try.prog, sumAt touch.cut.cs, lookH touch.cut.hs, true⟩
noncomputable def touch.cut.g (k0 : Nat) (x : ((Nat × (Nat → List AV)) × (Nat × (Nat → List AV)) × Int × Int)) : Option ((Int × Int × (Nat × (Nat → (Int × Int × Int × Int)))) × Bool) := evF touch.cut.G k0 Try.f52 ((tCons (tLz 2 (Rii.enc (0, 0))) (tCons (tLz 2 (Rii.enc (0, 0))) (tCons (tI .i64) (tOne (tI .i64))))).enc x) (tT (tCons (tG (tCons (tI .i64) (tCons (tI .i64) (tOne (tTL Riiii 4 (0, 0, 0, 0)))))) (tOne tB))).dec
noncomputable def touch.cut.f (x : ((Nat × (Nat → List AV)) × (Nat × (Nat → List AV)) × Int × Int)) : Option ((Int × Int × (Nat × (Nat → (Int × Int × Int × Int)))) × Bool) := touch.cut.g (1000000) x
noncomputable def touch.cut.s : Fw.Summ := .mk' (tCons (tLz 2 (Rii.enc (0, 0))) (tCons (tLz 2 (Rii.enc (0, 0))) (tCons (tI .i64) (tOne (tI .i64))))) (tT (tCons (tG (tCons (tI .i64) (tCons (tI .i64) (tOne (tTL Riiii 4 (0, 0, 0, 0)))))) (tOne tB))) touch.cut.f
theorem touch.cut.ok : touch.cut.s.Ok Try.prog 52 :=
  summ_ok (hint := lookH touch.cut.hs) (fn := Try.f52) (fun x => 1000000) touch.cut.cs_ok (by kernel_rfl) (by kernel_rfl) (by kernel_rfl) (by kernel_rfl) (tCons_ok (tLz_ok _ _) (tCons_ok (tLz_ok _ _) (tCons_ok (tI_ok _) (tOne_ok (tI_ok _))))) (tT_ok (tCons_ok (tG_ok (tCons_ok (tI_ok _) (tCons_ok (tI_ok _) (tOne_ok (tTL_ok Riiii_ok _ _))))) (tOne_ok tB_ok))) (fun _ => rfl)
noncomputable def touch.cut.l0 (k0 k1 : Nat) (v1 : Int) (v2 : Int) (v3 : Int) (v4 : Int) (v5 : Int) (v6 : Int) (v7 : Int) (v8 : Int) (v9 : Nat) (v10 : Nat → List AV) (v11 : Int) (v12 : Int) (v13 : Int) (v14 : Nat) (v15 : Nat → List AV) (v16 : Int) (v17 : Int) : Option ((Int × Int × (Nat × (Nat → (Int × Int × Int × Int)))) × Bool) :=
  evLoop (lookH touch.cut.hs 0) 21 (ev touch.cut.G k0 (codeAt [1, 1, 1, 1, 0, 1, 0, 0] (bodyOf Try.f52)) 0) k1
  ⟨[.top, .lst 2 v9 none v10, .top, .val (.int .i64 v11), .top, .top, .top, .top, .ptr 0 0 0, .top, .ptr 19 0 0, .val (.int .i64 v12), .val (.int .i64 v13), .top, .top, .top, .top, .top, .top, .top, .top, .top, .top, .top, .top, .top, .top, .top, .top, .top, .top, .top, .top, .top, .top, .top, .top, .top, .top, .top, .top, .top, .top, .top, .top, .top, .top, .top, .top, .top, .lst 2 v14 none v15, .val (.int .i64 v16), .val (.int .i64 v17), .top, .top, .top, .top, .top, .top, .top, .top, .top, .top, .top, .top, .top, .top, .top, .top, .top, .top, .top, .top, .top, .top, .top, .top, .top, .top, .top, .top, .top, .top, .top, .top, .top, .top, .top, .top, .top, .top, .top, .top, .top, .top, .top, .top, .top, .top, .top, .top, .top, .top, .top, .top, .top, .top, .top, .top, .top, .top, .top, .top, .top, .top, .top, .top, .top, .top, .top, .top, .top, .top, .top, .top, .top, .top, .top, .top, .top, .top, .top, .top, .top, .top, .top], [.live ⟨false, 35, 3, 1, fun _ => [.val (.int .i64 0), .val (.int .i64 0), .val (.slice none 0 0)], none⟩, .free, .free, .free, .free, .free, .free, .free, .free, .free, .free, .free, .free, .free, .free, .free, .free, .free, .free, .live ⟨false, 93, 8, 1, fun _ => [.val (.int .i64 v1), .val (.int .i64 v2), .val (.int .i64 v3), .val (.int .i64 v4), .val (.int .i64 v5), .val (.int .i64 v6), .val (.int .i64 v7), .val (.int .i64 v8)], none⟩, .free]⟩
  (kBlock touch.cut.G 0 (kSeq touch.cut.G k0 (codeAt [1, 1, 1, 1, 1] (bodyOf Try.f52)) 0 (kFin touch.cut.G Try.f52 (tT (tCons (tG (tCons (tI .i64) (tCons (tI .i64) (tOne (tTL Riiii 4 (0, 0, 0, 0)))))) (tOne tB))).dec)))
theorem touch.cut.l0_eq (k0 k1 : Nat) (v1 : Int) (v2 : Int) (v3 : Int) (v4 : Int) (v5 : Int) (v6 : Int) (v7 : Int) (v8 : Int) (v9 : Nat) (v10 : Nat → (Int × Int)) (v11 : Int) (v12 : Int) (v13 : Int) (v14 : Nat) (v15 : Nat → (Int × Int)) (v16 : Int) (v17 : Int) : touch.cut.l0 k0 (k1 + 1) v1 v2 v3 v4 v5 v6 v7 v8 v9 (fun i => Rii.enc (v10 i)) v11 v12 v13 v14 (fun i => Rii.enc (v15 i)) v16 v17 =
  bif (decide (v17 < v16)) then
    bif ((decide (0 ≤ v17)) && (decide (v17 < ((v14 : Nat) : Int)))) then
    (vec.Dot.f ((v5, v6), ((v15 (Int.toNat v17)).1, (v15 (Int.toNat v17)).2))).bind fun r5 =>
    bif (v17 == 0) then
      touch.cut.l0 k0 k1 v1 v2 v3 v4 v5 v6 v7 v8 v9 (fun i => Rii.enc (v10 i)) v11 v17 r5 v14 (fun i => Rii.enc (v15 i)) v16 (IntKind.i64.wrap (v17 + 1))
    else
    bif (decide (r5 < v13)) then
      touch.cut.l0 k0 k1 v1 v2 v3 v4 v5 v6 v7 v8 v9 (fun i => Rii.enc (v10 i)) v11 v17 r5 v14 (fun i => Rii.enc (v15 i)) v16 (IntKind.i64.wrap (v17 + 1))
    else
    touch.cut.l0 k0 k1 v1 v2 v3 v4 v5 v6 v7 v8 v9 (fun i => Rii.enc (v10 i)) v11 v12 v13 v14 (fun i => Rii.enc (v15 i)) v16 (IntKind.i64.wrap (v17 + 1))
    else none
  else
  bif ((decide (0 ≤ v12)) && (decide (v12 < ((v9 : Nat) : Int)))) then
  bif (decide (((v9 : Nat) : Int) ≠ 0)) then
  bif ((decide (0 ≤ (Int.tmod (IntKind.i64.wrap (v12 + 1)) ((v9 : Nat) : Int)))) && (decide ((Int.tmod (IntKind.i64.wrap (v12 + 1)) ((v9 : Nat) : Int)) < ((v9 : Nat) : Int)))) then
  (touch.clip.f (((v10 (Int.toNat v12)).1, (v10 (Int.toNat v12)).2, (v10 (Int.toNat (Int.tmod (IntKind.i64.wrap (v12 + 1)) ((v9 : Nat) : Int)))).1, (v10 (Int.toNat (Int.tmod (IntKind.i64.wrap (v12 + 1)) ((v9 : Nat) : Int)))).2), ((v1, v2), (v7, v8)))).bind fun r6 =>
  bif (!r6.1) then
    (tT (tCons (tG (tCons (tI .i64) (tCons (tI .i64) (tOne (tTL Riiii 4 (0, 0, 0, 0)))))) (tOne tB))).dec (.tup [.agg [.val (.int .i64 0), .val (.int .i64 0), .val (.slice none 0 0)], .val (.bool false)])
  else
  (vec.Neg.f (v7, v8)).bind fun r7 =>
  (touch.clip.f ((r6.2.1, r6.2.2.1, r6.2.2.2.1, r6.2.2.2.2), ((v3, v4), (r7.1, r7.2)))).bind fun r8 =>
  bif (!r8.1) then
    (tT (tCons (tG (tCons (tI .i64) (tCons (tI .i64) (tOne (tTL Riiii 4 (0, 0, 0, 0)))))) (tOne tB))).dec (.tup [.agg [.val (.int .i64 0), .val (.int .i64 0), .val (.slice none 0 0)], .val (.bool false)])
  else
  (vec.Sub.f ((r8.2.1, r8.2.2.1), (v1, v2))).bind fun r9 =>
  (vec.Dot.f ((v5, v6), (r9.1, r9.2))).bind fun r10 =>
  (fix.Neg.f r10).bind fun r11 =>
  bif (decide (r11 > 0)) then
    (vec.Sub.f ((r8.2.2.2.1, r8.2.2.2.2), (v1, v2))).bind fun r12 =>
    (vec.Dot.f ((v5, v6), (r12.1, r12.2))).bind fun r13 =>
    (fix.Neg.f r13).bind fun r14 =>
    bif (decide (r14 > 0)) then
      (tT (tCons (tG (tCons (tI .i64) (tCons (tI .i64) (tOne (tTL Riiii 4 (0, 0, 0, 0)))))) (tOne tB))).dec (.tup [.agg [.val (.int .i64 v5), .val (.int .i64 v6), .lst 4 2 none (fun i => cloL (if i = 1 then Riiii.enc (r8.2.2.2.1, r8.2.2.2.2, r14, (IntKind.i64.wrap (v11 + 1))) else if i = 0 then Riiii.enc (r8.2.1, r8.2.2.1, r11, (IntKind.i64.wrap (v11 + 0))) else Riiii.enc (0, 0, 0, 0)))], .val (.bool true)])
    else
    (tT (tCons (tG (tCons (tI .i64) (tCons (tI .i64) (tOne (tTL Riiii 4 (0, 0, 0, 0)))))) (tOne tB))).dec (.tup [.agg [.val (.int .i64 v5), .val (.int .i64 v6), .lst 4 1 none (fun i => cloL (if i = 0 then Riiii.enc (r8.2.1, r8.2.2.1, r11, (IntKind.i64.wrap (v11 + 0))) else Riiii.enc (0, 0, 0, 0)))], .val (.bool true)])
  else
  (vec.Sub.f ((r8.2.2.2.1, r8.2.2.2.2), (v1, v2))).bind fun r15 =>
  (vec.Dot.f ((v5, v6), (r15.1, r15.2))).bind fun r16 =>
  (fix.Neg.f r16).bind fun r17 =>
  bif (decide (r17 > 0)) then
    (tT (tCons (tG (tCons (tI .i64) (tCons (tI .i64) (tOne (tTL Riiii 4 (0, 0, 0, 0)))))) (tOne tB))).dec (.tup [.agg [.val (.int .i64 v5), .val (.int .i64 v6), .lst 4 1 none (fun i => cloL (if i = 0 then Riiii.enc (r8.2.2.2.1, r8.2.2.2.2, r17, (IntKind.i64.wrap (v11 + 1))) else Riiii.enc (0, 0, 0, 0)))], .val (.bool true)])
  else
  (tT (tCons (tG (tCons (tI .i64) (tCons (tI .i64) (tOne (tTL Riiii 4 (0, 0, 0, 0)))))) (tOne tB))).dec (.tup [.agg [.val (.int .i64 0), .val (.int .i64 0), .val (.slice none 0 0)], .val (.bool false)])
  else none
  else none
  else none := by kernel_rfl
theorem touch.cut.eq (k0 : Nat) (p0_n : Nat) (p0_g : Nat → (Int × Int)) (p1_n : Nat) (p1_g : Nat → (Int × Int)) (p2 : Int) (p3 : Int) : touch.cut.g k0 ((p0_n, (fun i => Rii.enc (p0_g i))), (p1_n, (fun i => Rii.enc (p1_g i))), p2, p3) =
  bif ((decide (0 ≤ p2)) && (decide (p2 < ((p0_n : Nat) : Int)))) then
  bif (decide (((p0_n : Nat) : Int) ≠ 0)) then
  bif ((decide (0 ≤ (Int.tmod (IntKind.i64.wrap (p2 + 1)) ((p0_n : Nat) : Int)))) && (decide ((Int.tmod (IntKind.i64.wrap (p2 + 1)) ((p0_n : Nat) : Int)) < ((p0_n : Nat) : Int)))) then
  (shape.Normals.f (p0_n, (fun i => Rii.enc (p0_g i)))).bind fun r1 =>
  bif ((decide (0 ≤ p2)) && (decide (p2 < ((r1.1 : Nat) : Int)))) then
  (vec.Sub.f (((p0_g (Int.toNat (Int.tmod (IntKind.i64.wrap (p2 + 1)) ((p0_n : Nat) : Int)))).1, (p0_g (Int.toNat (Int.tmod (IntKind.i64.wrap (p2 + 1)) ((p0_n : Nat) : Int)))).2), ((p0_g (Int.toNat p2)).1, (p0_g (Int.toNat p2)).2))).bind fun r2 =>
  (vec.Unit.f (r2.1, r2.2)).bind fun r3 =>
  (shape.Normals.f (p1_n, (fun i => Rii.enc (p1_g i)))).bind fun r4 =>
  touch.cut.l0 k0 k0 (p0_g (Int.toNat p2)).1 (p0_g (Int.toNat p2)).2 (p0_g (Int.toNat (Int.tmod (IntKind.i64.wrap (p2 + 1)) ((p0_n : Nat) : Int)))).1 (p0_g (Int.toNat (Int.tmod (IntKind.i64.wrap (p2 + 1)) ((p0_n : Nat) : Int)))).2 (r1.2 (Int.toNat p2)).1 (r1.2 (Int.toNat p2)).2 r3.1.1 r3.1.2 p1_n (fun i => Rii.enc (p1_g i)) p3 0 0 r4.1 (fun i => Rii.enc (r4.2 i)) ((r4.1 : Nat) : Int) 0
  else none
  else none
  else none
  else none := by kernel_rfl
/-! ### bagatelle/touch.polygons -/
noncomputable def touch.polygons.cs : List (Nat × Fw.Summ) := [(20, touch.Gap.s), (52, touch.cut.s), (29, touch.turned.s)]
theorem touch.polygons.cs_ok : SumsOk Try.prog touch.polygons.cs := .cons touch.Gap.ok (.cons touch.cut.ok (.cons touch.turned.ok (.nil)))
def touch.polygons.hs : List (Nat × LHint) := []
noncomputable def touch.polygons.G : Ctx := ⟨Try.prog, sumAt touch.polygons.cs, lookH touch.polygons.hs, true⟩
noncomputable def touch.polygons.f (x : ((Nat × (Nat → List AV)) × (Nat × (Nat → List AV)))) : Option ((Int × Int × (Nat × (Nat → (Int × Int × Int × Int)))) × Bool) := evF touch.polygons.G 0 Try.f30 ((tCons (tLz 2 (Rii.enc (0, 0))) (tOne (tLz 2 (Rii.enc (0, 0))))).enc x) (tT (tCons (tG (tCons (tI .i64) (tCons (tI .i64) (tOne (tTL Riiii 4 (0, 0, 0, 0)))))) (tOne tB))).dec
noncomputable def touch.polygons.s : Fw.Summ := .mk' (tCons (tLz 2 (Rii.enc (0, 0))) (tOne (tLz 2 (Rii.enc (0, 0))))) (tT (tCons (tG (tCons (tI .i64) (tCons (tI .i64) (tOne (tTL Riiii 4 (0, 0, 0, 0)))))) (tOne tB))) touch.polygons.f
theorem touch.polygons.ok : touch.polygons.s.Ok Try.prog 30 :=
  summ_ok (hint := lookH touch.polygons.hs) (fn := Try.f30) (fun x => 0) touch.polygons.cs_ok (by kernel_rfl) (by kernel_rfl) (by kernel_rfl) (by kernel_rfl) (tCons_ok (tLz_ok _ _) (tOne_ok (tLz_ok _ _))) (tT_ok (tCons_ok (tG_ok (tCons_ok (tI_ok _) (tCons_ok (tI_ok _) (tOne_ok (tTL_ok Riiii_ok _ _))))) (tOne_ok tB_ok))) (fun _ => rfl)
theorem touch.polygons.eq (p0_n : Nat) (p0_g : Nat → (Int × Int)) (p1_n : Nat) (p1_g : Nat → (Int × Int)) : touch.polygons.f ((p0_n, (fun i => Rii.enc (p0_g i))), (p1_n, (fun i => Rii.enc (p1_g i)))) =
  (touch.Gap.f ((p0_n, (fun i => Rii.enc (p0_g i))), (p1_n, (fun i => Rii.enc (p1_g i))))).bind fun r1 =>
  (touch.Gap.f ((p1_n, (fun i => Rii.enc (p1_g i))), (p0_n, (fun i => Rii.enc (p0_g i))))).bind fun r2 =>
  bif (decide (r1.2 ≥ 0)) then
    (tT (tCons (tG (tCons (tI .i64) (tCons (tI .i64) (tOne (tTL Riiii 4 (0, 0, 0, 0)))))) (tOne tB))).dec (.tup [.agg [.val (.int .i64 0), .val (.int .i64 0), .val (.slice none 0 0)], .val (.bool false)])
  else
  bif (decide (r2.2 ≥ 0)) then
    (tT (tCons (tG (tCons (tI .i64) (tCons (tI .i64) (tOne (tTL Riiii 4 (0, 0, 0, 0)))))) (tOne tB))).dec (.tup [.agg [.val (.int .i64 0), .val (.int .i64 0), .val (.slice none 0 0)], .val (.bool false)])
  else
  bif (decide (r1.2 ≥ r2.2)) then
    (touch.cut.f ((p0_n, (fun i => Rii.enc (p0_g i))), (p1_n, (fun i => Rii.enc (p1_g i))), r1.1, (IntKind.i64.wrap (32 + (IntKind.i64.wrap (2 * r1.1)))))).bind fun r3 =>
    (tT (tCons (tG (tCons (tI .i64) (tCons (tI .i64) (tOne (tTL Riiii 4 (0, 0, 0, 0)))))) (tOne tB))).dec (.tup [.agg [.val (.int .i64 r3.1.1), .val (.int .i64 r3.1.2.1), .lst 4 r3.1.2.2.1 none (fun i => Riiii.enc (r3.1.2.2.2 i))], .val (.bool r3.2)])
  else
  (touch.cut.f ((p1_n, (fun i => Rii.enc (p1_g i))), (p0_n, (fun i => Rii.enc (p0_g i))), r2.1, (IntKind.i64.wrap (64 + (IntKind.i64.wrap (2 * r2.1)))))).bind fun r4 =>
  bif (!r4.2) then
    (tT (tCons (tG (tCons (tI .i64) (tCons (tI .i64) (tOne (tTL Riiii 4 (0, 0, 0, 0)))))) (tOne tB))).dec (.tup [.agg [.val (.int .i64 0), .val (.int .i64 0), .val (.slice none 0 0)], .val (.bool false)])
  else
  (touch.turned.f ((r4.1.1, r4.1.2.1, (r4.1.2.2.1, (fun i => Riiii.enc (r4.1.2.2.2 i)))), true)).bind fun r5 =>
  (tT (tCons (tG (tCons (tI .i64) (tCons (tI .i64) (tOne (tTL Riiii 4 (0, 0, 0, 0)))))) (tOne tB))).dec (.tup [.agg [.val (.int .i64 r5.1.1), .val (.int .i64 r5.1.2.1), .lst 4 r5.1.2.2.1 none (fun i => Riiii.enc (r5.1.2.2.2 i))], .val (.bool r5.2)]) := by kernel_rfl
/-! ### bagatelle/touch.Of -/
noncomputable def touch.Of.cs : List (Nat × Fw.Summ) := [(27, touch.circles.s), (28, touch.mixed.s), (29, touch.turned.s), (31, touch.corners.s), (30, touch.polygons.s)]
theorem touch.Of.cs_ok : SumsOk Try.prog touch.Of.cs := .cons touch.circles.ok (.cons touch.mixed.ok (.cons touch.turned.ok (.cons touch.corners.ok (.cons touch.polygons.ok (.nil)))))
def touch.Of.hs : List (Nat × LHint) := []
noncomputable def touch.Of.G : Ctx := ⟨Try.prog, sumAt touch.Of.cs, lookH touch.Of.hs, true⟩
noncomputable def touch.Of.f (x : ((Int × Int × Int × Int × Int × Int × Int × Int × Int × Int × (Nat × (Nat → List AV))) × (Int × Int × Int × Int × Int × Int × Int × Int × Int × Int × (Nat × (Nat → List AV))))) : Option ((Int × Int × (Nat × (Nat → (Int × Int × Int × Int)))) × Bool) := evF touch.Of.G 0 Try.f11 ((tCons (tG (tCons (tI .i64) (tCons (tI .i64) (tCons (tI .i64) (tCons (tI .i64) (tCons (tI .i64) (tCons (tI .i64) (tCons (tI .i64) (tCons (tI .i64) (tCons (tI .i64) (tCons (tI .i64) (tOne (tLz 2 (Rii.enc (0, 0))))))))))))))) (tOne (tG (tCons (tI .i64) (tCons (tI .i64) (tCons (tI .i64) (tCons (tI .i64) (tCons (tI .i64) (tCons (tI .i64) (tCons (tI .i64) (tCons (tI .i64) (tCons (tI .i64) (tCons (tI .i64) (tOne (tLz 2 (Rii.enc (0, 0))))))))))))))))).enc x) (tT (tCons (tG (tCons (tI .i64) (tCons (tI .i64) (tOne (tTL Riiii 4 (0, 0, 0, 0)))))) (tOne tB))).dec
noncomputable def touch.Of.s : Fw.Summ := .mk' (tCons (tG (tCons (tI .i64) (tCons (tI .i64) (tCons (tI .i64) (tCons (tI .i64) (tCons (tI .i64) (tCons (tI .i64) (tCons (tI .i64) (tCons (tI .i64) (tCons (tI .i64) (tCons (tI .i64) (tOne (tLz 2 (Rii.enc (0, 0))))))))))))))) (tOne (tG (tCons (tI .i64) (tCons (tI .i64) (tCons (tI .i64) (tCons (tI .i64) (tCons (tI .i64) (tCons (tI .i64) (tCons (tI .i64) (tCons (tI .i64) (tCons (tI .i64) (tCons (tI .i64) (tOne (tLz 2 (Rii.enc (0, 0))))))))))))))))) (tT (tCons (tG (tCons (tI .i64) (tCons (tI .i64) (tOne (tTL Riiii 4 (0, 0, 0, 0)))))) (tOne tB))) touch.Of.f
theorem touch.Of.ok : touch.Of.s.Ok Try.prog 11 :=
  summ_ok (hint := lookH touch.Of.hs) (fn := Try.f11) (fun x => 0) touch.Of.cs_ok (by kernel_rfl) (by kernel_rfl) (by kernel_rfl) (by kernel_rfl) (tCons_ok (tG_ok (tCons_ok (tI_ok _) (tCons_ok (tI_ok _) (tCons_ok (tI_ok _) (tCons_ok (tI_ok _) (tCons_ok (tI_ok _) (tCons_ok (tI_ok _) (tCons_ok (tI_ok _) (tCons_ok (tI_ok _) (tCons_ok (tI_ok _) (tCons_ok (tI_ok _) (tOne_ok (tLz_ok _ _))))))))))))) (tOne_ok (tG_ok (tCons_ok (tI_ok _) (tCons_ok (tI_ok _) (tCons_ok (tI_ok _) (tCons_ok (tI_ok _) (tCons_ok (tI_ok _) (tCons_ok (tI_ok _) (tCons_ok (tI_ok _) (tCons_ok (tI_ok _) (tCons_ok (tI_ok _) (tCons_ok (tI_ok _) (tOne_ok (tLz_ok _ _))))))))))))))) (tT_ok (tCons_ok (tG_ok (tCons_ok (tI_ok _) (tCons_ok (tI_ok _) (tOne_ok (tTL_ok Riiii_ok _ _))))) (tOne_ok tB_ok))) (fun _ => rfl)
theorem touch.Of.eq (p0_0 : Int) (p0_1 : Int) (p0_2 : Int) (p0_3 : Int) (p0_4 : Int) (p0_5 : Int) (p0_6 : Int) (p0_7 : Int) (p0_8 : Int) (p0_9 : Int) (p0_10_n : Nat) (p0_10_g : Nat → (Int × Int)) (p1_0 : Int) (p1_1 : Int) (p1_2 : Int) (p1_3 : Int) (p1_4 : Int) (p1_5 : Int) (p1_6 : Int) (p1_7 : Int) (p1_8 : Int) (p1_9 : Int) (p1_10_n : Nat) (p1_10_g : Nat → (Int × Int)) : touch.Of.f ((p0_0, p0_1, p0_2, p0_3, p0_4, p0_5, p0_6, p0_7, p0_8, p0_9, (p0_10_n, (fun i => Rii.enc (p0_10_g i)))), (p1_0, p1_1, p1_2, p1_3, p1_4, p1_5, p1_6, p1_7, p1_8, p1_9, (p1_10_n, (fun i => Rii.enc (p1_10_g i))))) =
  bif (p0_8 == 1) then
    bif (p1_8 == 1) then
      (touch.circles.f ((p0_0, p0_1, p0_2, p0_3, p0_4, p0_5, p0_6, p0_7, p0_8, p0_9, (p0_10_n, (fun i => Rii.enc (p0_10_g i)))), (p1_0, p1_1, p1_2, p1_3, p1_4, p1_5, p1_6, p1_7, p1_8, p1_9, (p1_10_n, (fun i => Rii.enc (p1_10_g i)))))).bind fun r1 =>
      (tT (tCons (tG (tCons (tI .i64) (tCons (tI .i64) (tOne (tTL Riiii 4 (0, 0, 0, 0)))))) (tOne tB))).dec (.tup [.agg [.val (.int .i64 r1.1.1), .val (.int .i64 r1.1.2.1), .lst 4 r1.1.2.2.1 none (fun i => Riiii.enc (r1.1.2.2.2 i))], .val (.bool r1.2)])
    else
    bif (p1_8 == 1) then
      (touch.mixed.f ((p0_0, p0_1, p0_2, p0_3, p0_4, p0_5, p0_6, p0_7, p0_8, p0_9, (p0_10_n, (fun i => Rii.enc (p0_10_g i)))), (p1_0, p1_1, p1_2, p1_3, p1_4, p1_5, p1_6, p1_7, p1_8, p1_9, (p1_10_n, (fun i => Rii.enc (p1_10_g i)))))).bind fun r2 =>
      (tT (tCons (tG (tCons (tI .i64) (tCons (tI .i64) (tOne (tTL Riiii 4 (0, 0, 0, 0)))))) (tOne tB))).dec (.tup [.agg [.val (.int .i64 r2.1.1), .val (.int .i64 r2.1.2.1), .lst 4 r2.1.2.2.1 none (fun i => Riiii.enc (r2.1.2.2.2 i))], .val (.bool r2.2)])
    else
    bif (p0_8 == 1) then
      (touch.mixed.f ((p1_0, p1_1, p1_2, p1_3, p1_4, p1_5, p1_6, p1_7, p1_8, p1_9, (p1_10_n, (fun i => Rii.enc (p1_10_g i)))), (p0_0, p0_1, p0_2, p0_3, p0_4, p0_5, p0_6, p0_7, p0_8, p0_9, (p0_10_n, (fun i => Rii.enc (p0_10_g i)))))).bind fun r3 =>
      bif (!r3.2) then
        (tT (tCons (tG (tCons (tI .i64) (tCons (tI .i64) (tOne (tTL Riiii 4 (0, 0, 0, 0)))))) (tOne tB))).dec (.tup [.agg [.val (.int .i64 r3.1.1), .val (.int .i64 r3.1.2.1), .lst 4 r3.1.2.2.1 none (fun i => Riiii.enc (r3.1.2.2.2 i))], .val (.bool false)])
      else
      (touch.turned.f ((r3.1.1, r3.1.2.1, (r3.1.2.2.1, (fun i => Riiii.enc (r3.1.2.2.2 i)))), true)).bind fun r4 =>
      (tT (tCons (tG (tCons (tI .i64) (tCons (tI .i64) (tOne (tTL Riiii 4 (0, 0, 0, 0)))))) (tOne tB))).dec (.tup [.agg [.val (.int .i64 r4.1.1), .val (.int .i64 r4.1.2.1), .lst 4 r4.1.2.2.1 none (fun i => Riiii.enc (r4.1.2.2.2 i))], .val (.bool r4.2)])
    else
    (touch.corners.f (p0_0, p0_1, p0_2, p0_3, p0_4, p0_5, p0_6, p0_7, p0_8, p0_9, (p0_10_n, (fun i => Rii.enc (p0_10_g i))))).bind fun r5 =>
    (touch.corners.f (p1_0, p1_1, p1_2, p1_3, p1_4, p1_5, p1_6, p1_7, p1_8, p1_9, (p1_10_n, (fun i => Rii.enc (p1_10_g i))))).bind fun r6 =>
    (touch.polygons.f ((r5.1, (fun i => Rii.enc (r5.2 i))), (r6.1, (fun i => Rii.enc (r6.2 i))))).bind fun r7 =>
    (tT (tCons (tG (tCons (tI .i64) (tCons (tI .i64) (tOne (tTL Riiii 4 (0, 0, 0, 0)))))) (tOne tB))).dec (.tup [.agg [.val (.int .i64 r7.1.1), .val (.int .i64 r7.1.2.1), .lst 4 r7.1.2.2.1 none (fun i => Riiii.enc (r7.1.2.2.2 i))], .val (.bool r7.2)])
  else
  bif (p1_8 == 1) then
    (touch.mixed.f ((p0_0, p0_1, p0_2, p0_3, p0_4, p0_5, p0_6, p0_7, p0_8, p0_9, (p0_10_n, (fun i => Rii.enc (p0_10_g i)))), (p1_0, p1_1, p1_2, p1_3, p1_4, p1_5, p1_6, p1_7, p1_8, p1_9, (p1_10_n, (fun i => Rii.enc (p1_10_g i)))))).bind fun r8 =>
    (tT (tCons (tG (tCons (tI .i64) (tCons (tI .i64) (tOne (tTL Riiii 4 (0, 0, 0, 0)))))) (tOne tB))).dec (.tup [.agg [.val (.int .i64 r8.1.1), .val (.int .i64 r8.1.2.1), .lst 4 r8.1.2.2.1 none (fun i => Riiii.enc (r8.1.2.2.2 i))], .val (.bool r8.2)])
  else
  bif (p0_8 == 1) then
    (touch.mixed.f ((p1_0, p1_1, p1_2, p1_3, p1_4, p1_5, p1_6, p1_7, p1_8, p1_9, (p1_10_n, (fun i => Rii.enc (p1_10_g i)))), (p0_0, p0_1, p0_2, p0_3, p0_4, p0_5, p0_6, p0_7, p0_8, p0_9, (p0_10_n, (fun i => Rii.enc (p0_10_g i)))))).bind fun r9 =>
    bif (!r9.2) then
      (tT (tCons (tG (tCons (tI .i64) (tCons (tI .i64) (tOne (tTL Riiii 4 (0, 0, 0, 0)))))) (tOne tB))).dec (.tup [.agg [.val (.int .i64 r9.1.1), .val (.int .i64 r9.1.2.1), .lst 4 r9.1.2.2.1 none (fun i => Riiii.enc (r9.1.2.2.2 i))], .val (.bool false)])
    else
    (touch.turned.f ((r9.1.1, r9.1.2.1, (r9.1.2.2.1, (fun i => Riiii.enc (r9.1.2.2.2 i)))), true)).bind fun r10 =>
    (tT (tCons (tG (tCons (tI .i64) (tCons (tI .i64) (tOne (tTL Riiii 4 (0, 0, 0, 0)))))) (tOne tB))).dec (.tup [.agg [.val (.int .i64 r10.1.1), .val (.int .i64 r10.1.2.1), .lst 4 r10.1.2.2.1 none (fun i => Riiii.enc (r10.1.2.2.2 i))], .val (.bool r10.2)])
  else
  (touch.corners.f (p0_0, p0_1, p0_2, p0_3, p0_4, p0_5, p0_6, p0_7, p0_8, p0_9, (p0_10_n, (fun i => Rii.enc (p0_10_g i))))).bind fun r11 =>
  (touch.corners.f (p1_0, p1_1, p1_2, p1_3, p1_4, p1_5, p1_6, p1_7, p1_8, p1_9, (p1_10_n, (fun i => Rii.enc (p1_10_g i))))).bind fun r12 =>
  (touch.polygons.f ((r11.1, (fun i => Rii.enc (r11.2 i))), (r12.1, (fun i => Rii.enc (r12.2 i))))).bind fun r13 =>
  (tT (tCons (tG (tCons (tI .i64) (tCons (tI .i64) (tOne (tTL Riiii 4 (0, 0, 0, 0)))))) (tOne tB))).dec (.tup [.agg [.val (.int .i64 r13.1.1), .val (.int .i64 r13.1.2.1), .lst 4 r13.1.2.2.1 none (fun i => Riiii.enc (r13.1.2.2.2 i))], .val (.bool r13.2)]) := by kernel_rfl
/-! ### bagatelle/bagatellelaw07.fit -/
noncomputable def law07.fit.cs : List (Nat × Fw.Summ) := [(11, touch.Of.s)]
theorem law07.fit.cs_ok : SumsOk Try.prog law07.fit.cs := .cons touch.Of.ok (.nil)
def law07.fit.hs : List (Nat × LHint) := []
noncomputable def law07.fit.G : Ctx := ⟨Try.prog, sumAt law07.fit.cs, lookH law07.fit.hs, true⟩
noncomputable def law07.fit.f (x : Unit) : Option Bool := evF law07.fit.G 0 Try.f9 (tNil.enc x) tB.dec
noncomputable def law07.fit.s : Fw.Summ := .mk' tNil tB law07.fit.f
theorem law07.fit.ok : law07.fit.s.Ok Try.prog 9 :=
  summ_ok (hint := lookH law07.fit.hs) (fn := Try.f9) (fun x => 0) law07.fit.cs_ok (by kernel_rfl) (by kernel_rfl) (by kernel_rfl) (by kernel_rfl) tNil_ok tB_ok (fun _ => rfl)
theorem law07.fit.eq  : law07.fit.f () =
  (touch.Of.f ((0, 0, 0, 0, 0, 0, 0, 0, 1, 4294967296, (0, fun _ => Rii.enc (0, 0))), (0, 4294967296, 0, 0, 0, 0, 0, 0, 1, 4294967296, (0, fun _ => Rii.enc (0, 0))))).bind fun r1 =>
  (touch.Of.f ((0, 0, 0, 0, 0, 0, 0, 0, 1, 4294967296, (0, fun _ => Rii.enc (0, 0))), (0, 12884901888, 0, 0, 0, 0, 0, 0, 1, 4294967296, (0, fun _ => Rii.enc (0, 0))))).bind fun r2 =>
  bif r1.2 then
    bif (!r2.2) then
      bif (((r1.1.2.2.1 : Nat) : Int) == 1) then
        bif (decide (0 < ((r1.1.2.2.1 : Nat) : Int))) then
        bif ((r1.1.2.2.2 0).2.2.1 == 4294967296) then
          bif (decide (0 < ((r1.1.2.2.1 : Nat) : Int))) then
          some (((r1.1.2.2.2 0).1 == 2147483648) && (((r1.1.2.2.2 0).2.1 == 0) && true))
          else none
        else
        some false
        else none
      else
      some false
    else
    some false
  else
  some false := by kernel_rfl
/-! ### bagatelle/fix.Bring -/
noncomputable def fix.Bring.cs : List (Nat × Fw.Summ) := [(45, fix.whole.s)]
theorem fix.Bring.cs_ok : SumsOk Try.prog fix.Bring.cs := .cons fix.whole.ok (.nil)
def fix.Bring.hs : List (Nat × LHint) := []
noncomputable def fix.Bring.G : Ctx := ⟨Try.prog, sumAt fix.Bring.cs, lookH fix.Bring.hs, true⟩
noncomputable def fix.Bring.f (x : (Int × Int × Int)) : Option Int := evF fix.Bring.G 0 Try.f26 ((tCons (tI .i64) (tCons (tI .i64) (tOne (tI .i64)))).enc x) (tI .i64).dec
noncomputable def fix.Bring.s : Fw.Summ := .mk' (tCons (tI .i64) (tCons (tI .i64) (tOne (tI .i64)))) (tI .i64) fix.Bring.f
theorem fix.Bring.ok : fix.Bring.s.Ok Try.prog 26 :=
  summ_ok (hint := lookH fix.Bring.hs) (fn := Try.f26) (fun x => 0) fix.Bring.cs_ok (by kernel_rfl) (by kernel_rfl) (by kernel_rfl) (by kernel_rfl) (tCons_ok (tI_ok _) (tCons_ok (tI_ok _) (tOne_ok (tI_ok _)))) (tI_ok _) (fun _ => rfl)
theorem fix.Bring.eq (p0 : Int) (p1 : Int) (p2 : Int) : fix.Bring.f (p0, p1, p2) =
  (fix.whole.f p0).bind fun r1 =>
  some (if p2 < (if p1 > r1 then p1 else r1) then p2 else (if p1 > r1 then p1 else r1)) := by kernel_rfl
/-! ### bagatelle/vec.Bring -/
noncomputable def vec.Bring.cs : List (Nat × Fw.Summ) := [(26, fix.Bring.s)]
theorem vec.Bring.cs_ok : SumsOk Try.prog vec.Bring.cs := .cons fix.Bring.ok (.nil)
def vec.Bring.hs : List (Nat × LHint) := []
noncomputable def vec.Bring.G : Ctx := ⟨Try.prog, sumAt vec.Bring.cs, lookH vec.Bring.hs, true⟩
noncomputable def vec.Bring.f (x : ((Int × Int) × Int)) : Option (Int × Int) := evF vec.Bring.G 0 Try.f10 ((tCons (tG (tCons (tI .i64) (tOne (tI .i64)))) (tOne (tI .i64))).enc x) (tG (tCons (tI .i64) (tOne (tI .i64)))).dec
noncomputable def vec.Bring.s : Fw.Summ := .mk' (tCons (tG (tCons (tI .i64) (tOne (tI .i64)))) (tOne (tI .i64))) (tG (tCons (tI .i64) (tOne (tI .i64)))) vec.Bring.f
theorem vec.Bring.ok : vec.Bring.s.Ok Try.prog 10 :=
  summ_ok (hint := lookH vec.Bring.hs) (fn := Try.f10) (fun x => 0) vec.Bring.cs_ok (by kernel_rfl) (by kernel_rfl) (by kernel_rfl) (by kernel_rfl) (tCons_ok (tG_ok (tCons_ok (tI_ok _) (tOne_ok (tI_ok _)))) (tOne_ok (tI_ok _))) (tG_ok (tCons_ok (tI_ok _) (tOne_ok (tI_ok _)))) (fun _ => rfl)
theorem vec.Bring.eq (p0_0 : Int) (p0_1 : Int) (p1 : Int) : vec.Bring.f ((p0_0, p0_1), p1) =
  (fix.Bring.f (p0_0, (IntKind.i64.wrap (0 - p1)), p1)).bind fun r1 =>
  (fix.Bring.f (p0_1, (IntKind.i64.wrap (0 - p1)), p1)).bind fun r2 =>
  some (r1, r2) := by kernel_rfl
/-! ### bagatelle/shape.Box -/
noncomputable def shape.Box.cs : List (Nat × Fw.Summ) := [(35, fix.Neg.s)]
theorem shape.Box.cs_ok : SumsOk Try.prog shape.Box.cs := .cons fix.Neg.ok (.nil)
def shape.Box.hs : List (Nat × LHint) := []
noncomputable def shape.Box.G : Ctx := ⟨Try.prog, sumAt shape.Box.cs, lookH shape.Box.hs, true⟩
noncomputable def shape.Box.f (x : (Int × Int)) : Option (Int × Int × (Nat × (Nat → (Int × Int)))) := evF shape.Box.G 0 Try.f55 ((tCons (tI .i64) (tOne (tI .i64))).enc x) (tG (tCons (tI .i64) (tCons (tI .i64) (tOne (tTL Rii 2 (0, 0)))))).dec
noncomputable def shape.Box.s : Fw.Summ := .mk' (tCons (tI .i64) (tOne (tI .i64))) (tG (tCons (tI .i64) (tCons (tI .i64) (tOne (tTL Rii 2 (0, 0)))))) shape.Box.f
theorem shape.Box.ok : shape.Box.s.Ok Try.prog 55 :=
  summ_ok (hint := lookH shape.Box.hs) (fn := Try.f55) (fun x => 0) shape.Box.cs_ok (by kernel_rfl) (by kernel_rfl) (by kernel_rfl) (by kernel_rfl) (tCons_ok (tI_ok _) (tOne_ok (tI_ok _))) (tG_ok (tCons_ok (tI_ok _) (tCons_ok (tI_ok _) (tOne_ok (tTL_ok Rii_ok _ _))))) (fun _ => rfl)
theorem shape.Box.eq (p0 : Int) (p1 : Int) : shape.Box.f (p0, p1) =
  (fix.Neg.f p0).bind fun r1 =>
  (fix.Neg.f p1).bind fun r2 =>
  (fix.Neg.f p1).bind fun r3 =>
  (fix.Neg.f p0).bind fun r4 =>
  (tG (tCons (tI .i64) (tCons (tI .i64) (tOne (tTL Rii 2 (0, 0)))))).dec (.agg [.val (.int .i64 2), .val (.int .i64 0), .lst 2 4 (some 4) (fun i => cloL (List.getD (List.map Rii.enc [(r1, r2), (p0, r3), (p0, p1), (r4, p1)]) i (Rii.enc (0, 0))))]) := by kernel_rfl
/-! ### bagatelle/bagatellelaw04.ring -/
noncomputable def law04.ring.cs : List (Nat × Fw.Summ) := []
theorem law04.ring.cs_ok : SumsOk Try.prog law04.ring.cs := .nil
def law04.ring.hs : List (Nat × LHint) := []
noncomputable def law04.ring.G : Ctx := ⟨Try.prog, sumAt law04.ring.cs, lookH law04.ring.hs, true⟩
noncomputable def law04.ring.f (x : Unit) : Option (Nat × (Nat → (Int × Int))) := evF law04.ring.G 0 Try.f56 (tNil.enc x) (tTL Rii 2 (0, 0)).dec
noncomputable def law04.ring.s : Fw.Summ := .mk' tNil (tTL Rii 2 (0, 0)) law04.ring.f
theorem law04.ring.ok : law04.ring.s.Ok Try.prog 56 :=
  summ_ok (hint := lookH law04.ring.hs) (fn := Try.f56) (fun x => 0) law04.ring.cs_ok (by kernel_rfl) (by kernel_rfl) (by kernel_rfl) (by kernel_rfl) tNil_ok (tTL_ok Rii_ok _ _) (fun _ => rfl)
theorem law04.ring.eq  : law04.ring.f () =
  (tTL Rii 2 (0, 0)).dec (.lst 2 10 (some 10) (fun i => cloL (List.getD (List.map Rii.enc [(65, 0), (52, 39), (25, 60), ((-25), 60), ((-52), 39), ((-65), 0), ((-52), (-39)), ((-25), (-60)), (25, (-60)), (52, (-39))]) i (Rii.enc (0, 0))))) := by kernel_rfl
/-! ### (bagatelle/bagatellelaw04.Seed).Shape -/
noncomputable def law04.Seed.Shape.cs : List (Nat × Fw.Summ) := [(55, shape.Box.s), (56, law04.ring.s)]
theorem law04.Seed.Shape.cs_ok : SumsOk Try.prog law04.Seed.Shape.cs := .cons shape.Box.ok (.cons law04.ring.ok (.nil))
def law04.Seed.Shape.hs : List (Nat × LHint) := [(1, { mat := [(.cell 2 0 2, 24)], live := [1, 2, 3, 4, 5, 6, 39, 40], ren := [(.cell 2 0 2, 3)] })]
noncomputable def law04.Seed.Shape.G : Ctx := ⟨Try.prog, sumAt law04.Seed.Shape.cs, lookH law04.Seed.Shape.hs, true⟩
noncomputable def law04.Seed.Shape.g (k0 : Nat) (x : (Int × Int × Int × Int)) : Option (Int × Int × (Nat × (Nat → (Int × Int)))) := evF law04.Seed.Shape.G k0 Try.f36 ((tOne (tG (tCons (tI .i64) (tCons (tI .i64) (tCons (tI .i64) (tOne (tI .i64))))))).enc x) (tG (tCons (tI .i64) (tCons (tI .i64) (tOne (tTL Rii 2 (0, 0)))))).dec
noncomputable def law04.Seed.Shape.f (x : (Int × Int × Int × Int)) : Option (Int × Int × (Nat × (Nat → (Int × Int)))) := law04.Seed.Shape.g (1000000) x
noncomputable def law04.Seed.Shape.s : Fw.Summ := .mk' (tOne (tG (tCons (tI .i64) (tCons (tI .i64) (tCons (tI .i64) (tOne (tI .i64))))))) (tG (tCons (tI .i64) (tCons (tI .i64) (tOne (tTL Rii 2 (0, 0)))))) law04.Seed.Shape.f
theorem law04.Seed.Shape.ok : law04.Seed.Shape.s.Ok Try.prog 36 :=
  summ_ok (hint := lookH law04.Seed.Shape.hs) (fn := Try.f36) (fun x => 1000000) law04.Seed.Shape.cs_ok (by kernel_rfl) (by kernel_rfl) (by kernel_rfl) (by kernel_rfl) (tOne_ok (tG_ok (tCons_ok (tI_ok _) (tCons_ok (tI_ok _) (tCons_ok (tI_ok _) (tOne_ok (tI_ok _))))))) (tG_ok (tCons_ok (tI_ok _) (tCons_ok (tI_ok _) (tOne_ok (tTL_ok Rii_ok _ _))))) (fun _ => rfl)
noncomputable def law04.Seed.Shape.l2 (k0 k1 : Nat) (v1 : Int) (v2 : Int) (v3 : Int) (v4 : Int) (v5 : Nat) (v6 : Nat → List AV) (v7 : Int) (v8 : Int) (v9 : Nat) (v10 : Nat → List AV) (v11 : Int) : Option (Int × Int × (Nat × (Nat → (Int × Int)))) :=
  evLoop (lookH law04.Seed.Shape.hs 1) 4 (ev law04.Seed.Shape.G k0 (codeAt [1, 1, 1, 1, 1, 1, 0, 1, 0, 0] (bodyOf Try.f36)) 1) k1
  ⟨[.top, .ptr 0 0 0, .ptr 1 0 0, .val (.int .i64 v7), .val (.int .i64 v8), .ptr 2 0 0, .lst 2 v9 none v10, .top, .top, .top, .top, .top, .top, .top, .top, .top, .top, .top, .top, .top, .top, .top, .top, .top, .top, .top, .top, .top, .top, .top, .top, .top, .top, .top, .top, .top, .top, .top, .top, .val (.int .i64 v8), .val (.int .i64 v11), .top, .top, .top, .top, .top, .top, .top, .top, .top, .top, .top, .top, .top, .top, .top, .top, .top, .top, .top, .top, .top, .top, .top, .top, .top, .top, .top, .top, .top, .top, .top, .top], [.live ⟨false, 45, 4, 1, fun _ => [.val (.int .i64 v1), .val (.int .i64 v2), .val (.int .i64 v3), .val (.int .i64 v4)], none⟩, .live ⟨false, 30, 3, 1, fun _ => [.val (.int .i64 0), .val (.int .i64 0), .val (.slice none 0 0)], none⟩, .live ⟨false, 30, 3, 1, fun _ => [.val (.int .i64 2), .val (.int .i64 0), .slc 3 0 none none], none⟩, .live ⟨true, 24, 2, v5, v6, none⟩]⟩
  (kBlock law04.Seed.Shape.G 1 (kSeq law04.Seed.Shape.G k0 (codeAt [1, 1, 1, 1, 1, 1, 1] (bodyOf Try.f36)) 0 (kFin law04.Seed.Shape.G Try.f36 (tG (tCons (tI .i64) (tCons (tI .i64) (tOne (tTL Rii 2 (0, 0)))))).dec)))
theorem law04.Seed.Shape.l2_eq (k0 k1 : Nat) (v1 : Int) (v2 : Int) (v3 : Int) (v4 : Int) (v5 : Nat) (v6 : Nat → (Int × Int)) (v7 : Int) (v8 : Int) (v9 : Nat) (v10 : Nat → (Int × Int)) (v11 : Int) : law04.Seed.Shape.l2 k0 (k1 + 1) v1 v2 v3 v4 v5 (fun i => Rii.enc (v6 i)) v7 v8 v9 (fun i => Rii.enc (v10 i)) v11 =
  bif (decide (v11 < v8)) then
    bif (decide (v8 ≠ 0)) then
    bif ((decide (0 ≤ (Int.tmod (IntKind.i64.wrap ((IntKind.i64.wrap (Int.tdiv (IntKind.i64.wrap (v11 * 10)) v8)) + (Go.bits .and .i64 v4 255))) 10))) && (decide ((Int.tmod (IntKind.i64.wrap ((IntKind.i64.wrap (Int.tdiv (IntKind.i64.wrap (v11 * 10)) v8)) + (Go.bits .and .i64 v4 255))) 10) < ((v9 : Nat) : Int)))) then
    bif (decide ((v5 + 1) * 16 ≤ 140737488355328)) then
    law04.Seed.Shape.l2 k0 k1 v1 v2 v3 v4 (v5 + 1) (fun i => renL (lookF [(19, 3)] 4) (if i = v5 then Rii.enc ((IntKind.i64.wrap (Int.tdiv (IntKind.i64.wrap ((v10 (Int.toNat (Int.tmod (IntKind.i64.wrap ((IntKind.i64.wrap (Int.tdiv (IntKind.i64.wrap (v11 * 10)) v8)) + (Go.bits .and .i64 v4 255))) 10))).1 * v7)) 64)), (IntKind.i64.wrap (Int.tdiv (IntKind.i64.wrap ((v10 (Int.toNat (Int.tmod (IntKind.i64.wrap ((IntKind.i64.wrap (Int.tdiv (IntKind.i64.wrap (v11 * 10)) v8)) + (Go.bits .and .i64 v4 255))) 10))).2 * v7)) 64))) else Rii.enc (v6 i))) v7 v8 v9 (fun i => Rii.enc (v10 i)) (IntKind.i64.wrap (v11 + 1))
    else none
    else none
    else none
  else
  (tG (tCons (tI .i64) (tCons (tI .i64) (tOne (tTL Rii 2 (0, 0)))))).dec (.agg [.val (.int .i64 2), .val (.int .i64 0), .lst 2 v5 none (fun i => Rii.enc (v6 i))]) := by kernel_rfl
theorem law04.Seed.Shape.eq (k0 : Nat) (p0_0 : Int) (p0_1 : Int) (p0_2 : Int) (p0_3 : Int) : law04.Seed.Shape.g k0 (p0_0, p0_1, p0_2, p0_3) =
  bif ((Go.bits .and .i64 p0_0 3) == 0) then
    (tG (tCons (tI .i64) (tCons (tI .i64) (tOne (tTL Rii 2 (0, 0)))))).dec (.agg [.val (.int .i64 1), .val (.int .i64 (IntKind.i64.wrap (Int.tdiv (IntKind.i64.wrap ((IntKind.i64.wrap (1 + (Go.bits .and .i64 p0_2 63))) * 4294967296)) 16))), .val (.slice none 0 0)])
  else
  bif ((Go.bits .and .i64 p0_0 3) == 1) then
    (shape.Box.f ((IntKind.i64.wrap (Int.tdiv (IntKind.i64.wrap ((IntKind.i64.wrap (1 + (Go.bits .and .i64 p0_2 63))) * 4294967296)) 16)), (IntKind.i64.wrap (Int.tdiv (IntKind.i64.wrap ((IntKind.i64.wrap (1 + (Go.bits .and .i64 p0_3 31))) * 4294967296)) 16)))).bind fun r1 =>
    (tG (tCons (tI .i64) (tCons (tI .i64) (tOne (tTL Rii 2 (0, 0)))))).dec (.agg [.val (.int .i64 r1.1), .val (.int .i64 r1.2.1), .lst 2 r1.2.2.1 none (fun i => Rii.enc (r1.2.2.2 i))])
  else
  (law04.ring.f ()).bind fun r2 =>
  law04.Seed.Shape.l2 k0 k0 p0_0 p0_1 p0_2 p0_3 0 (fun _ => Rii.enc (0, 0)) (IntKind.i64.wrap (Int.tdiv (IntKind.i64.wrap ((IntKind.i64.wrap (1 + (Go.bits .and .i64 p0_2 63))) * 4294967296)) 16)) (IntKind.i64.wrap (3 + (Int.tmod (Go.bits .and .i64 p0_1 255) 6))) r2.1 (fun i => Rii.enc (r2.2 i)) 0 := by kernel_rfl
/-! ### (bagatelle/bagatellelaw06.Place).Body -/
noncomputable def law06.Place.Body.cs : List (Nat × Fw.Summ) := [(10, vec.Bring.s), (36, law04.Seed.Shape.s)]
theorem law06.Place.Body.cs_ok : SumsOk Try.prog law06.Place.Body.cs := .cons vec.Bring.ok (.cons law04.Seed.Shape.ok (.nil))
def law06.Place.Body.hs : List (Nat × LHint) := []
noncomputable def law06.Place.Body.G : Ctx := ⟨Try.prog, sumAt law06.Place.Body.cs, lookH law06.Place.Body.hs, true⟩
noncomputable def law06.Place.Body.f (x : (Int × Int × Int × Int × Int × Int × Int)) : Option (Int × Int × Int × Int × Int × Int × Int × Int × Int × Int × (Nat × (Nat → (Int × Int)))) := evF law06.Place.Body.G 0 Try.f15 ((tOne (tG (tCons (tI .i64) (tCons (tI .i64) (tCons (tI .i64) (tCons (tI .i64) (tCons (tI .i64) (tCons (tI .i64) (tOne (tI .i64)))))))))).enc x) (tG (tCons (tI .i64) (tCons (tI .i64) (tCons (tI .i64) (tCons (tI .i64) (tCons (tI .i64) (tCons (tI .i64) (tCons (tI .i64) (tCons (tI .i64) (tCons (tI .i64) (tCons (tI .i64) (tOne (tTL Rii 2 (0, 0)))))))))))))).dec
noncomputable def law06.Place.Body.s : Fw.Summ := .mk' (tOne (tG (tCons (tI .i64) (tCons (tI .i64) (tCons (tI .i64) (tCons (tI .i64) (tCons (tI .i64) (tCons (tI .i64) (tOne (tI .i64)))))))))) (tG (tCons (tI .i64) (tCons (tI .i64) (tCons (tI .i64) (tCons (tI .i64) (tCons (tI .i64) (tCons (tI .i64) (tCons (tI .i64) (tCons (tI .i64) (tCons (tI .i64) (tCons (tI .i64) (tOne (tTL Rii 2 (0, 0)))))))))))))) law06.Place.Body.f
theorem law06.Place.Body.ok : law06.Place.Body.s.Ok Try.prog 15 :=
  summ_ok (hint := lookH law06.Place.Body.hs) (fn := Try.f15) (fun x => 0) law06.Place.Body.cs_ok (by kernel_rfl) (by kernel_rfl) (by kernel_rfl) (by kernel_rfl) (tOne_ok (tG_ok (tCons_ok (tI_ok _) (tCons_ok (tI_ok _) (tCons_ok (tI_ok _) (tCons_ok (tI_ok _) (tCons_ok (tI_ok _) (tCons_ok (tI_ok _) (tOne_ok (tI_ok _)))))))))) (tG_ok (tCons_ok (tI_ok _) (tCons_ok (tI_ok _) (tCons_ok (tI_ok _) (tCons_ok (tI_ok _) (tCons_ok (tI_ok _) (tCons_ok (tI_ok _) (tCons_ok (tI_ok _) (tCons_ok (tI_ok _) (tCons_ok (tI_ok _) (tCons_ok (tI_ok _) (tOne_ok (tTL_ok Rii_ok _ _))))))))))))) (fun _ => rfl)
theorem law06.Place.Body.eq (p0_0 : Int) (p0_1 : Int) (p0_2 : Int) (p0_3 : Int) (p0_4 : Int) (p0_5 : Int) (p0_6 : Int) : law06.Place.Body.f (p0_0, p0_1, p0_2, p0_3, p0_4, p0_5, p0_6) =
  (vec.Bring.f ((p0_4, p0_5), 4294967296000)).bind fun r1 =>
  (law04.Seed.Shape.f (p0_0, p0_1, p0_2, p0_3)).bind fun r2 =>
  (tG (tCons (tI .i64) (tCons (tI .i64) (tCons (tI .i64) (tCons (tI .i64) (tCons (tI .i64) (tCons (tI .i64) (tCons (tI .i64) (tCons (tI .i64) (tCons (tI .i64) (tCons (tI .i64) (tOne (tTL Rii 2 (0, 0)))))))))))))).dec (.agg [.val (.int .i64 0), .val (.int .i64 r1.1), .val (.int .i64 r1.2), .val (.int .i64 0), .val (.int .i64 0), .val (.int .i64 (Go.bits .and .i64 p0_6 4294967295)), .val (.int .i64 0), .val (.int .i64 0), .val (.int .i64 r2.1), .val (.int .i64 r2.2.1), .lst 2 r2.2.2.1 none (fun i => Rii.enc (r2.2.2.2 i))]) := by kernel_rfl
/-! ### bagatelle/bagatellelaw07.corners -/
noncomputable def law07.corners.cs : List (Nat × Fw.Summ) := [(40, shape.Corners.s)]
theorem law07.corners.cs_ok : SumsOk Try.prog law07.corners.cs := .cons shape.Corners.ok (.nil)
def law07.corners.hs : List (Nat × LHint) := []
noncomputable def law07.corners.G : Ctx := ⟨Try.prog, sumAt law07.corners.cs, lookH law07.corners.hs, true⟩
noncomputable def law07.corners.f (x : (Int × Int × Int × Int × Int × Int × Int × Int × Int × Int × (Nat × (Nat → List AV)))) : Option (Nat × (Nat → (Int × Int))) := evF law07.corners.G 0 Try.f18 ((tOne (tG (tCons (tI .i64) (tCons (tI .i64) (tCons (tI .i64) (tCons (tI .i64) (tCons (tI .i64) (tCons (tI .i64) (tCons (tI .i64) (tCons (tI .i64) (tCons (tI .i64) (tCons (tI .i64) (tOne (tLz 2 (Rii.enc (0, 0)))))))))))))))).enc x) (tTL Rii 2 (0, 0)).dec
noncomputable def law07.corners.s : Fw.Summ := .mk' (tOne (tG (tCons (tI .i64) (tCons (tI .i64) (tCons (tI .i64) (tCons (tI .i64) (tCons (tI .i64) (tCons (tI .i64) (tCons (tI .i64) (tCons (tI .i64) (tCons (tI .i64) (tCons (tI .i64) (tOne (tLz 2 (Rii.enc (0, 0)))))))))))))))) (tTL Rii 2 (0, 0)) law07.corners.f
theorem law07.corners.ok : law07.corners.s.Ok Try.prog 18 :=
  summ_ok (hint := lookH law07.corners.hs) (fn := Try.f18) (fun x => 0) law07.corners.cs_ok (by kernel_rfl) (by kernel_rfl) (by kernel_rfl) (by kernel_rfl) (tOne_ok (tG_ok (tCons_ok (tI_ok _) (tCons_ok (tI_ok _) (tCons_ok (tI_ok _) (tCons_ok (tI_ok _) (tCons_ok (tI_ok _) (tCons_ok (tI_ok _) (tCons_ok (tI_ok _) (tCons_ok (tI_ok _) (tCons_ok (tI_ok _) (tCons_ok (tI_ok _) (tOne_ok (tLz_ok _ _)))))))))))))) (tTL_ok Rii_ok _ _) (fun _ => rfl)
theorem law07.corners.eq (p0_0 : Int) (p0_1 : Int) (p0_2 : Int) (p0_3 : Int) (p0_4 : Int) (p0_5 : Int) (p0_6 : Int) (p0_7 : Int) (p0_8 : Int) (p0_9 : Int) (p0_10_n : Nat) (p0_10_g : Nat → (Int × Int)) : law07.corners.f (p0_0, p0_1, p0_2, p0_3, p0_4, p0_5, p0_6, p0_7, p0_8, p0_9, (p0_10_n, (fun i => Rii.enc (p0_10_g i)))) =
  (shape.Corners.f ((p0_8, p0_9, (p0_10_n, (fun i => Rii.enc (p0_10_g i)))), (p0_1, p0_2), p0_5)).bind fun r1 =>
  (tTL Rii 2 (0, 0)).dec (.lst 2 r1.1 none (fun i => Rii.enc (r1.2 i))) := by kernel_rfl
/-! ### bagatelle/bagatellelaw07.gaps -/
noncomputable def law07.gaps.cs : List (Nat × Fw.Summ) := [(41, shape.Normals.s), (13, vec.Sub.s), (33, vec.Dot.s)]
theorem law07.gaps.cs_ok : SumsOk Try.prog law07.gaps.cs := .cons shape.Normals.ok (.cons vec.Sub.ok (.cons vec.Dot.ok (.nil)))
def law07.gaps.hs : List (Nat × LHint) := [(0, { mat := [(.tmp 5, 22)], live := [0, 1, 5, 12, 13, 14], ren := [(.tmp 5, 0)] }), (2, { mat := [], live := [0, 1, 5, 6, 7, 8, 12, 13, 14, 30, 31, 32], ren := [] })]
noncomputable def law07.gaps.G : Ctx := ⟨Try.prog, sumAt law07.gaps.cs, lookH law07.gaps.hs, true⟩
noncomputable def law07.gaps.g (k0 : Nat) (x : ((Nat × (Nat → List AV)) × (Nat × (Nat → List AV)))) : Option (Nat × (Nat → Int)) := evF law07.gaps.G k0 Try.f19 ((tCons (tLz 2 (Rii.enc (0, 0))) (tOne (tLz 2 (Rii.enc (0, 0))))).enc x) (tTL Ri 1 0).dec
noncomputable def law07.gaps.f (x : ((Nat × (Nat → List AV)) × (Nat × (Nat → List AV)))) : Option (Nat × (Nat → Int)) := law07.gaps.g (1000000) x
noncomputable def law07.gaps.s : Fw.Summ := .mk' (tCons (tLz 2 (Rii.enc (0, 0))) (tOne (tLz 2 (Rii.enc (0, 0))))) (tTL Ri 1 0) law07.gaps.f
theorem law07.gaps.ok : law07.gaps.s.Ok Try.prog 19 :=
  summ_ok (hint := lookH law07.gaps.hs) (fn := Try.f19) (fun x => 1000000) law07.gaps.cs_ok (by kernel_rfl) (by kernel_rfl) (by kernel_rfl) (by kernel_rfl) (tCons_ok (tLz_ok _ _) (tOne_ok (tLz_ok _ _))) (tTL_ok Ri_ok _ _) (fun _ => rfl)
noncomputable def law07.gaps.l3 (k0 k1 k2 : Nat) (v1 : Nat) (v2 : Nat → List AV) (v3 : Int) (v4 : Int) (v5 : Nat) (v6 : Nat → List AV) (v7 : Nat) (v8 : Nat → List AV) (v9 : Int) (v10 : Int) (v11 : Nat) (v12 : Nat → List AV) (v13 : Int) (v14 : Nat) (v15 : Nat → List AV) (v16 : Int) (v17 : Int) : Option (Nat × (Nat → Int)) :=
  evLoop (lookH law07.gaps.hs 2) 13 (ev law07.gaps.G k0 (codeAt [1, 1, 0, 1, 0, 0, 1, 1, 0, 0, 1, 1, 0, 1, 0, 0] (bodyOf Try.f19)) 2) k2
  ⟨[.lst 2 v5 none v6, .lst 2 v7 none v8, .top, .top, .top, .slc 0 0 none none, .val (.int .i64 v9), .ptr 1 0 0, .val (.int .i64 v10), .top, .top, .top, .lst 2 v11 none v12, .val (.int .i64 v13), .val (.int .i64 v9), .top, .top, .top, .top, .top, .top, .top, .top, .top, .top, .top, .top, .top, .top, .top, .lst 2 v14 none v15, .val (.int .i64 v16), .val (.int .i64 v17), .top, .top, .top, .top, .top, .top, .top, .top, .top, .top, .top, .top, .top, .top, .top, .top, .top, .top, .top, .top], [.live ⟨true, 22, 1, v1, v2, none⟩, .live ⟨false, 24, 2, 1, fun _ => [.val (.int .i64 v3), .val (.int .i64 v4)], none⟩, .free, .free, .free, .free, .free, .free, .free, .free, .free, .free, .free]⟩
  (kBlock law07.gaps.G 2 (kSeq law07.gaps.G k0 (codeAt [1, 1, 0, 1, 0, 0, 1, 1, 0, 0, 1, 1, 1] (bodyOf Try.f19)) 1 (kBlock law07.gaps.G 1 (kSeq law07.gaps.G k0 (codeAt [1, 1, 0, 1, 0, 0, 1, 1, 1] (bodyOf Try.f19)) 0 (kLoop (lookH law07.gaps.hs 0) 1 (ev law07.gaps.G k0 (codeAt [1, 1, 0, 1, 0, 0] (bodyOf Try.f19)) 0) k1 (kBlock law07.gaps.G 0 (kSeq law07.gaps.G k0 (codeAt [1, 1, 1] (bodyOf Try.f19)) 0 (kFin law07.gaps.G Try.f19 (tTL Ri 1 0).dec))))))))
noncomputable def law07.gaps.l2 (k0 k1 : Nat) (v1 : Nat) (v2 : Nat → List AV) (v3 : Nat) (v4 : Nat → List AV) (v5 : Nat) (v6 : Nat → List AV) (v7 : Nat) (v8 : Nat → List AV) (v9 : Int) (v10 : Int) : Option (Nat × (Nat → Int)) :=
  evLoop (lookH law07.gaps.hs 0) 1 (ev law07.gaps.G k0 (codeAt [1, 1, 0, 1, 0, 0] (bodyOf Try.f19)) 0) k1
  ⟨[.lst 2 v3 none v4, .lst 2 v5 none v6, .top, .top, .top, .slc 0 0 none none, .top, .top, .top, .top, .top, .top, .lst 2 v7 none v8, .val (.int .i64 v9), .val (.int .i64 v10), .top, .top, .top, .top, .top, .top, .top, .top, .top, .top, .top, .top, .top, .top, .top, .top, .top, .top, .top, .top, .top, .top, .top, .top, .top, .top, .top, .top, .top, .top, .top, .top, .top, .top, .top, .top, .top, .top], [.live ⟨true, 22, 1, v1, v2, none⟩]⟩
  (kBlock law07.gaps.G 0 (kSeq law07.gaps.G k0 (codeAt [1, 1, 1] (bodyOf Try.f19)) 0 (kFin law07.gaps.G Try.f19 (tTL Ri 1 0).dec)))
theorem law07.gaps.l3_eq (k0 k1 k2 : Nat) (v1 : Nat) (v2 : Nat → Int) (v3 : Int) (v4 : Int) (v5 : Nat) (v6 : Nat → (Int × Int)) (v7 : Nat) (v8 : Nat → (Int × Int)) (v9 : Int) (v10 : Int) (v11 : Nat) (v12 : Nat → (Int × Int)) (v13 : Int) (v14 : Nat) (v15 : Nat → (Int × Int)) (v16 : Int) (v17 : Int) : law07.gaps.l3 k0 k1 (k2 + 1) v1 (fun i => Ri.enc (v2 i)) v3 v4 v5 (fun i => Rii.enc (v6 i)) v7 (fun i => Rii.enc (v8 i)) v9 v10 v11 (fun i => Rii.enc (v12 i)) v13 v14 (fun i => Rii.enc (v15 i)) v16 v17 =
  bif (decide (v17 < v16)) then
    bif ((decide (0 ≤ v17)) && (decide (v17 < ((v14 : Nat) : Int)))) then
    bif ((decide (0 ≤ v9)) && (decide (v9 < ((v5 : Nat) : Int)))) then
    (vec.Sub.f (((v15 (Int.toNat v17)).1, (v15 (Int.toNat v17)).2), ((v6 (Int.toNat v9)).1, (v6 (Int.toNat v9)).2))).bind fun r4 =>
    (vec.Dot.f ((v3, v4), (r4.1, r4.2))).bind fun r5 =>
    law07.gaps.l3 k0 k1 k2 v1 (fun i => Ri.enc (v2 i)) v3 v4 v5 (fun i => Rii.enc (v6 i)) v7 (fun i => Rii.enc (v8 i)) v9 (if r5 < v10 then r5 else v10) v11 (fun i => Rii.enc (v12 i)) v13 v14 (fun i => Rii.enc (v15 i)) v16 (IntKind.i64.wrap (v17 + 1))
    else none
    else none
  else
  bif (decide ((v1 + 1) * 8 ≤ 140737488355328)) then
  law07.gaps.l2 k0 k1 (v1 + 1) (fun i => renL (lookF [(14, 0)] 1) (if i = v1 then Ri.enc v10 else Ri.enc (v2 i))) v5 (fun i => Rii.enc (v6 i)) v7 (fun i => Rii.enc (v8 i)) v11 (fun i => Rii.enc (v12 i)) v13 (IntKind.i64.wrap (v9 + 1))
  else none := by kernel_rfl
theorem law07.gaps.l2_eq (k0 k1 : Nat) (v1 : Nat) (v2 : Nat → Int) (v3 : Nat) (v4 : Nat → (Int × Int)) (v5 : Nat) (v6 : Nat → (Int × Int)) (v7 : Nat) (v8 : Nat → (Int × Int)) (v9 : Int) (v10 : Int) : law07.gaps.l2 k0 (k1 + 1) v1 (fun i => Ri.enc (v2 i)) v3 (fun i => Rii.enc (v4 i)) v5 (fun i => Rii.enc (v6 i)) v7 (fun i => Rii.enc (v8 i)) v9 v10 =
  bif (decide (v10 < v9)) then
    bif ((decide (0 ≤ v10)) && (decide (v10 < ((v7 : Nat) : Int)))) then
    bif (decide (0 < ((v5 : Nat) : Int))) then
    bif ((decide (0 ≤ v10)) && (decide (v10 < ((v3 : Nat) : Int)))) then
    (vec.Sub.f (((v6 0).1, (v6 0).2), ((v4 (Int.toNat v10)).1, (v4 (Int.toNat v10)).2))).bind fun r2 =>
    (vec.Dot.f (((v8 (Int.toNat v10)).1, (v8 (Int.toNat v10)).2), (r2.1, r2.2))).bind fun r3 =>
    bif (decide (1 ≤ ((v5 : Nat) : Int))) then
    law07.gaps.l3 k0 k1 k0 v1 (fun i => Ri.enc (v2 i)) (v8 (Int.toNat v10)).1 (v8 (Int.toNat v10)).2 v3 (fun i => Rii.enc (v4 i)) v5 (fun i => Rii.enc (v6 i)) v10 r3 v7 (fun i => Rii.enc (v8 i)) v9 (v5 - 1) (fun i => (fun i => Rii.enc (v6 i)) (1 + i)) (((v5 - 1) : Nat) : Int) 0
    else none
    else none
    else none
    else none
  else
  (tTL Ri 1 0).dec (.lst 1 v1 none (fun i => Ri.enc (v2 i))) := by kernel_rfl
theorem law07.gaps.eq (k0 : Nat) (p0_n : Nat) (p0_g : Nat → (Int × Int)) (p1_n : Nat) (p1_g : Nat → (Int × Int)) : law07.gaps.g k0 ((p0_n, (fun i => Rii.enc (p0_g i))), (p1_n, (fun i => Rii.enc (p1_g i)))) =
  (shape.Normals.f (p0_n, (fun i => Rii.enc (p0_g i)))).bind fun r1 =>
  law07.gaps.l2 k0 k0 0 (fun _ => Ri.enc 0) p0_n (fun i => Rii.enc (p0_g i)) p1_n (fun i => Rii.enc (p1_g i)) r1.1 (fun i => Rii.enc (r1.2 i)) ((r1.1 : Nat) : Int) 0 := by kernel_rfl
/-! ### bagatelle/bagatellelaw07.first -/
noncomputable def law07.first.cs : List (Nat × Fw.Summ) := []
theorem law07.first.cs_ok : SumsOk Try.prog law07.first.cs := .nil
def law07.first.hs : List (Nat × LHint) := [(0, { mat := [], live := [0, 3, 6, 7, 8], ren := [] })]
noncomputable def law07.first.G : Ctx := ⟨Try.prog, sumAt law07.first.cs, lookH law07.first.hs, true⟩
noncomputable def law07.first.g (k0 : Nat) (x : (Nat × (Nat → List AV))) : Option Int := evF law07.first.G k0 Try.f21 ((tOne (tLz 1 (Ri.enc 0))).enc x) (tI .i64).dec
noncomputable def law07.first.f (x : (Nat × (Nat → List AV))) : Option Int := law07.first.g (1000000) x
noncomputable def law07.first.s : Fw.Summ := .mk' (tOne (tLz 1 (Ri.enc 0))) (tI .i64) law07.first.f
theorem law07.first.ok : law07.first.s.Ok Try.prog 21 :=
  summ_ok (hint := lookH law07.first.hs) (fn := Try.f21) (fun x => 1000000) law07.first.cs_ok (by kernel_rfl) (by kernel_rfl) (by kernel_rfl) (by kernel_rfl) (tOne_ok (tLz_ok _ _)) (tI_ok _) (fun _ => rfl)
noncomputable def law07.first.l0 (k0 k1 : Nat) (v1 : Nat) (v2 : Nat → List AV) (v3 : Int) (v4 : Int) (v5 : Int) : Option Int :=
  evLoop (lookH law07.first.hs 0) 0 (ev law07.first.G k0 (codeAt [1, 1, 0, 1, 0, 0] (bodyOf Try.f21)) 0) k1
  ⟨[.lst 1 v1 none v2, .top, .top, .val (.int .i64 v3), .top, .top, .lst 1 v1 none v2, .val (.int .i64 v4), .val (.int .i64 v5), .top, .top, .top, .top, .top, .top, .top, .top, .top, .top, .top, .top, .top], []⟩
  (kBlock law07.first.G 0 (kSeq law07.first.G k0 (codeAt [1, 1, 1] (bodyOf Try.f21)) 0 (kFin law07.first.G Try.f21 (tI .i64).dec)))
theorem law07.first.l0_eq (k0 k1 : Nat) (v1 : Nat) (v2 : Nat → Int) (v3 : Int) (v4 : Int) (v5 : Int) : law07.first.l0 k0 (k1 + 1) v1 (fun i => Ri.enc (v2 i)) v3 v4 v5 =
  bif (decide (v5 < v4)) then
    bif ((decide (0 ≤ v5)) && (decide (v5 < ((v1 : Nat) : Int)))) then
    bif ((decide (0 ≤ v3)) && (decide (v3 < ((v1 : Nat) : Int)))) then
    bif (decide ((v2 (Int.toNat v5)) > (v2 (Int.toNat v3)))) then
      law07.first.l0 k0 k1 v1 (fun i => Ri.enc (v2 i)) v5 v4 (IntKind.i64.wrap (v5 + 1))
    else
    law07.first.l0 k0 k1 v1 (fun i => Ri.enc (v2 i)) v3 v4 (IntKind.i64.wrap (v5 + 1))
    else none
    else none
  else
  some v3 := by kernel_rfl
theorem law07.first.eq (k0 : Nat) (p0_n : Nat) (p0_g : Nat → Int) : law07.first.g k0 (p0_n, (fun i => Ri.enc (p0_g i))) =
  law07.first.l0 k0 k0 p0_n (fun i => Ri.enc (p0_g i)) 0 ((p0_n : Nat) : Int) 0 := by kernel_rfl
/-! ### bagatelle/bagatellelaw07.TouchGaps -/
noncomputable def law07.TouchGaps.cs : List (Nat × Fw.Summ) := [(9, law07.fit.s), (15, law06.Place.Body.s), (18, law07.corners.s), (19, law07.gaps.s), (20, touch.Gap.s), (21, law07.first.s)]
theorem law07.TouchGaps.cs_ok : SumsOk Try.prog law07.TouchGaps.cs := .cons law07.fit.ok (.cons law06.Place.Body.ok (.cons law07.corners.ok (.cons law07.gaps.ok (.cons touch.Gap.ok (.cons law07.first.ok (.nil))))))
def law07.TouchGaps.hs : List (Nat × LHint) := []
noncomputable def law07.TouchGaps.G : Ctx := ⟨Try.prog, sumAt law07.TouchGaps.cs, lookH law07.TouchGaps.hs, true⟩
noncomputable def law07.TouchGaps.f (x : ((Int × Int × Int × Int × Int × Int × Int) × (Int × Int × Int × Int × Int × Int × Int))) : Option Bool := evF law07.TouchGaps.G 0 Try.f5 ((tCons (tG (tCons (tI .i64) (tCons (tI .i64) (tCons (tI .i64) (tCons (tI .i64) (tCons (tI .i64) (tCons (tI .i64) (tOne (tI .i64))))))))) (tOne (tG (tCons (tI .i64) (tCons (tI .i64) (tCons (tI .i64) (tCons (tI .i64) (tCons (tI .i64) (tCons (tI .i64) (tOne (tI .i64))))))))))).enc x) tB.dec
noncomputable def law07.TouchGaps.s : Fw.Summ := .mk' (tCons (tG (tCons (tI .i64) (tCons (tI .i64) (tCons (tI .i64) (tCons (tI .i64) (tCons (tI .i64) (tCons (tI .i64) (tOne (tI .i64))))))))) (tOne (tG (tCons (tI .i64) (tCons (tI .i64) (tCons (tI .i64) (tCons (tI .i64) (tCons (tI .i64) (tCons (tI .i64) (tOne (tI .i64))))))))))) tB law07.TouchGaps.f
theorem law07.TouchGaps.ok : law07.TouchGaps.s.Ok Try.prog 5 :=
  summ_ok (hint := lookH law07.TouchGaps.hs) (fn := Try.f5) (fun x => 0) law07.TouchGaps.cs_ok (by kernel_rfl) (by kernel_rfl) (by kernel_rfl) (by kernel_rfl) (tCons_ok (tG_ok (tCons_ok (tI_ok _) (tCons_ok (tI_ok _) (tCons_ok (tI_ok _) (tCons_ok (tI_ok _) (tCons_ok (tI_ok _) (tCons_ok (tI_ok _) (tOne_ok (tI_ok _))))))))) (tOne_ok (tG_ok (tCons_ok (tI_ok _) (tCons_ok (tI_ok _) (tCons_ok (tI_ok _) (tCons_ok (tI_ok _) (tCons_ok (tI_ok _) (tCons_ok (tI_ok _) (tOne_ok (tI_ok _))))))))))) tB_ok (fun _ => rfl)
theorem law07.TouchGaps.eq (p0_0 : Int) (p0_1 : Int) (p0_2 : Int) (p0_3 : Int) (p0_4 : Int) (p0_5 : Int) (p0_6 : Int) (p1_0 : Int) (p1_1 : Int) (p1_2 : Int) (p1_3 : Int) (p1_4 : Int) (p1_5 : Int) (p1_6 : Int) : law07.TouchGaps.f ((p0_0, p0_1, p0_2, p0_3, p0_4, p0_5, p0_6), (p1_0, p1_1, p1_2, p1_3, p1_4, p1_5, p1_6)) =
  (law07.fit.f ()).bind fun r1 =>
  bif (!r1) then
    some false
  else
  (law06.Place.Body.f (p0_0, p0_1, p0_2, p0_3, p0_4, p0_5, p0_6)).bind fun r2 =>
  (law07.corners.f (r2.1, r2.2.1, r2.2.2.1, r2.2.2.2.1, r2.2.2.2.2.1, r2.2.2.2.2.2.1, r2.2.2.2.2.2.2.1, r2.2.2.2.2.2.2.2.1, r2.2.2.2.2.2.2.2.2.1, r2.2.2.2.2.2.2.2.2.2.1, (r2.2.2.2.2.2.2.2.2.2.2.1, (fun i => Rii.enc (r2.2.2.2.2.2.2.2.2.2.2.2 i))))).bind fun r3 =>
  (law06.Place.Body.f (p1_0, p1_1, p1_2, p1_3, p1_4, p1_5, p1_6)).bind fun r4 =>
  (law07.corners.f (r4.1, r4.2.1, r4.2.2.1, r4.2.2.2.1, r4.2.2.2.2.1, r4.2.2.2.2.2.1, r4.2.2.2.2.2.2.1, r4.2.2.2.2.2.2.2.1, r4.2.2.2.2.2.2.2.2.1, r4.2.2.2.2.2.2.2.2.2.1, (r4.2.2.2.2.2.2.2.2.2.2.1, (fun i => Rii.enc (r4.2.2.2.2.2.2.2.2.2.2.2 i))))).bind fun r5 =>
  bif (((r3.1 : Nat) : Int) == 0) then
    some true
  else
  bif (((r5.1 : Nat) : Int) == 0) then
    some true
  else
  (law07.gaps.f ((r3.1, (fun i => Rii.enc (r3.2 i))), (r5.1, (fun i => Rii.enc (r5.2 i))))).bind fun r6 =>
  (touch.Gap.f ((r3.1, (fun i => Rii.enc (r3.2 i))), (r5.1, (fun i => Rii.enc (r5.2 i))))).bind fun r7 =>
  (law07.first.f (r6.1, (fun i => Ri.enc (r6.2 i)))).bind fun r8 =>
  bif (r7.1 == r8) then
    bif ((decide (0 ≤ r8)) && (decide (r8 < ((r6.1 : Nat) : Int)))) then
    some (r7.2 == (r6.2 (Int.toNat r8)))
    else none
  else
  some false := by kernel_rfl
/-! ### bagatelle/bagatellelaw07.TouchRounds -/
noncomputable def law07.TouchRounds.cs : List (Nat × Fw.Summ) := [(9, law07.fit.s), (10, vec.Bring.s), (11, touch.Of.s), (13, vec.Sub.s), (12, vec.Len.s), (14, vec.Neg.s)]
theorem law07.TouchRounds.cs_ok : SumsOk Try.prog law07.TouchRounds.cs := .cons law07.fit.ok (.cons vec.Bring.ok (.cons touch.Of.ok (.cons vec.Sub.ok (.cons vec.Len.ok (.cons vec.Neg.ok (.nil))))))
def law07.TouchRounds.hs : List (Nat × LHint) := []
noncomputable def law07.TouchRounds.G : Ctx := ⟨Try.prog, sumAt law07.TouchRounds.cs, lookH law07.TouchRounds.hs, true⟩
noncomputable def law07.TouchRounds.f (x : ((Int × Int) × (Int × Int) × (Int × Int))) : Option Bool := evF law07.TouchRounds.G 0 Try.f3 ((tCons (tG (tCons (tI .i64) (tOne (tI .i64)))) (tCons (tG (tCons (tI .i64) (tOne (tI .i64)))) (tOne (tG (tCons (tI .u8) (tOne (tI .u8))))))).enc x) tB.dec
noncomputable def law07.TouchRounds.s : Fw.Summ := .mk' (tCons (tG (tCons (tI .i64) (tOne (tI .i64)))) (tCons (tG (tCons (tI .i64) (tOne (tI .i64)))) (tOne (tG (tCons (tI .u8) (tOne (tI .u8))))))) tB law07.TouchRounds.f
theorem law07.TouchRounds.ok : law07.TouchRounds.s.Ok Try.prog 3 :=
  summ_ok (hint := lookH law07.TouchRounds.hs) (fn := Try.f3) (fun x => 0) law07.TouchRounds.cs_ok (by kernel_rfl) (by kernel_rfl) (by kernel_rfl) (by kernel_rfl) (tCons_ok (tG_ok (tCons_ok (tI_ok _) (tOne_ok (tI_ok _)))) (tCons_ok (tG_ok (tCons_ok (tI_ok _) (tOne_ok (tI_ok _)))) (tOne_ok (tG_ok (tCons_ok (tI_ok _) (tOne_ok (tI_ok _))))))) tB_ok (fun _ => rfl)
theorem law07.TouchRounds.eq (p0_0 : Int) (p0_1 : Int) (p1_0 : Int) (p1_1 : Int) (p2_0 : Int) (p2_1 : Int) : law07.TouchRounds.f ((p0_0, p0_1), (p1_0, p1_1), (p2_0, p2_1)) =
  (law07.fit.f ()).bind fun r1 =>
  bif (!r1) then
    some false
  else
  (vec.Bring.f ((p0_0, p0_1), 2147483648000)).bind fun r2 =>
  (vec.Bring.f ((p1_0, p1_1), 2147483648000)).bind fun r3 =>
  (touch.Of.f ((0, r2.1, r2.2, 0, 0, 0, 0, 0, 1, (IntKind.i64.wrap (Int.tdiv (IntKind.i64.wrap ((IntKind.i64.wrap (1 + (IntKind.i64.wrap p2_0))) * 4294967296)) 8)), (0, fun _ => Rii.enc (0, 0))), (0, r3.1, r3.2, 0, 0, 0, 0, 0, 1, (IntKind.i64.wrap (Int.tdiv (IntKind.i64.wrap ((IntKind.i64.wrap (1 + (IntKind.i64.wrap p2_1))) * 4294967296)) 8)), (0, fun _ => Rii.enc (0, 0))))).bind fun r4 =>
  (touch.Of.f ((0, r3.1, r3.2, 0, 0, 0, 0, 0, 1, (IntKind.i64.wrap (Int.tdiv (IntKind.i64.wrap ((IntKind.i64.wrap (1 + (IntKind.i64.wrap p2_1))) * 4294967296)) 8)), (0, fun _ => Rii.enc (0, 0))), (0, r2.1, r2.2, 0, 0, 0, 0, 0, 1, (IntKind.i64.wrap (Int.tdiv (IntKind.i64.wrap ((IntKind.i64.wrap (1 + (IntKind.i64.wrap p2_0))) * 4294967296)) 8)), (0, fun _ => Rii.enc (0, 0))))).bind fun r5 =>
  (vec.Sub.f ((r3.1, r3.2), (r2.1, r2.2))).bind fun r6 =>
  (vec.Len.f (r6.1, r6.2)).bind fun r7 =>
  bif (!(r4.2 == (decide (r7 < (IntKind.i64.wrap ((IntKind.i64.wrap (Int.tdiv (IntKind.i64.wrap ((IntKind.i64.wrap (1 + (IntKind.i64.wrap p2_0))) * 4294967296)) 8)) + (IntKind.i64.wrap (Int.tdiv (IntKind.i64.wrap ((IntKind.i64.wrap (1 + (IntKind.i64.wrap p2_1))) * 4294967296)) 8)))))))) then
    some false
  else
  bif (!(r5.2 == r4.2)) then
    some false
  else
  bif (!r4.2) then
    some true
  else
  bif (((r4.1.2.2.1 : Nat) : Int) != 1) then
    some false
  else
  bif (((r5.1.2.2.1 : Nat) : Int) != 1) then
    some false
  else
  bif (decide (0 < ((r4.1.2.2.1 : Nat) : Int))) then
  bif (decide (0 < ((r5.1.2.2.1 : Nat) : Int))) then
  bif ((r4.1.2.2.2 0).2.2.1 != (r5.1.2.2.2 0).2.2.1) then
    some false
  else
  bif (decide (0 < ((r4.1.2.2.1 : Nat) : Int))) then
  bif ((r4.1.2.2.2 0).2.2.1 != (IntKind.i64.wrap ((IntKind.i64.wrap ((IntKind.i64.wrap (Int.tdiv (IntKind.i64.wrap ((IntKind.i64.wrap (1 + (IntKind.i64.wrap p2_0))) * 4294967296)) 8)) + (IntKind.i64.wrap (Int.tdiv (IntKind.i64.wrap ((IntKind.i64.wrap (1 + (IntKind.i64.wrap p2_1))) * 4294967296)) 8)))) - r7))) then
    some false
  else
  bif (decide (0 < ((r4.1.2.2.1 : Nat) : Int))) then
  bif ((r4.1.2.2.2 0).2.2.2 != 0) then
    some false
  else
  bif (r7 == 0) then
    bif ((r4.1.1 == 4294967296) && ((r4.1.2.1 == 0) && true)) then
      some ((r5.1.1 == r4.1.1) && ((r5.1.2.1 == r4.1.2.1) && true))
    else
    some false
  else
  (vec.Neg.f (r5.1.1, r5.1.2.1)).bind fun r8 =>
  some ((r4.1.1 == r8.1) && ((r4.1.2.1 == r8.2) && true))
  else none
  else none
  else none
  else none := by kernel_rfl
/-! ### bagatelle/bagatellelaw07.same -/
noncomputable def law07.same.cs : List (Nat × Fw.Summ) := []
theorem law07.same.cs_ok : SumsOk Try.prog law07.same.cs := .nil
def law07.same.hs : List (Nat × LHint) := [(0, { mat := [], live := [2, 3, 22, 23], ren := [] })]
noncomputable def law07.same.G : Ctx := ⟨Try.prog, sumAt law07.same.cs, lookH law07.same.hs, true⟩
noncomputable def law07.same.g (k0 : Nat) (x : ((Int × Int × (Nat × (Nat → List AV))) × (Int × Int × (Nat × (Nat → List AV))))) : Option Bool := evF law07.same.G k0 Try.f17 ((tCons (tG (tCons (tI .i64) (tCons (tI .i64) (tOne (tLz 4 (Riiii.enc (0, 0, 0, 0))))))) (tOne (tG (tCons (tI .i64) (tCons (tI .i64) (tOne (tLz 4 (Riiii.enc (0, 0, 0, 0))))))))).enc x) tB.dec
noncomputable def law07.same.f (x : ((Int × Int × (Nat × (Nat → List AV))) × (Int × Int × (Nat × (Nat → List AV))))) : Option Bool := law07.same.g (1000000) x
noncomputable def law07.same.s : Fw.Summ := .mk' (tCons (tG (tCons (tI .i64) (tCons (tI .i64) (tOne (tLz 4 (Riiii.enc (0, 0, 0, 0))))))) (tOne (tG (tCons (tI .i64) (tCons (tI .i64) (tOne (tLz 4 (Riiii.enc (0, 0, 0, 0))))))))) tB law07.same.f
theorem law07.same.ok : law07.same.s.Ok Try.prog 17 :=
  summ_ok (hint := lookH law07.same.hs) (fn := Try.f17) (fun x => 1000000) law07.same.cs_ok (by kernel_rfl) (by kernel_rfl) (by kernel_rfl) (by kernel_rfl) (tCons_ok (tG_ok (tCons_ok (tI_ok _) (tCons_ok (tI_ok _) (tOne_ok (tLz_ok _ _))))) (tOne_ok (tG_ok (tCons_ok (tI_ok _) (tCons_ok (tI_ok _) (tOne_ok (tLz_ok _ _))))))) tB_ok (fun _ => rfl)
noncomputable def law07.same.l0 (k0 k1 : Nat) (v1 : Int) (v2 : Int) (v3 : Nat) (v4 : Nat → List AV) (v5 : Int) (v6 : Int) (v7 : Nat) (v8 : Nat → List AV) (v9 : Int) (v10 : Int) : Option Bool :=
  evLoop (lookH law07.same.hs 0) 2 (ev law07.same.G k0 (codeAt [1, 1, 0, 1, 0, 0] (bodyOf Try.f17)) 0) k1
  ⟨[.top, .top, .ptr 0 0 0, .ptr 1 0 0, .top, .top, .top, .top, .top, .top, .top, .top, .top, .top, .top, .top, .top, .top, .top, .top, .top, .top, .val (.int .i64 v9), .val (.int .i64 v10), .top, .top, .top, .top, .top, .top, .top, .top, .top, .top, .top, .top, .top, .top], [.live ⟨false, 35, 3, 1, fun _ => [.val (.int .i64 v1), .val (.int .i64 v2), .lst 4 v3 none v4], none⟩, .live ⟨false, 35, 3, 1, fun _ => [.val (.int .i64 v5), .val (.int .i64 v6), .lst 4 v7 none v8], none⟩]⟩
  (kBlock law07.same.G 0 (kSeq law07.same.G k0 (codeAt [1, 1, 1] (bodyOf Try.f17)) 0 (kFin law07.same.G Try.f17 tB.dec)))
theorem law07.same.l0_eq (k0 k1 : Nat) (v1 : Int) (v2 : Int) (v3 : Nat) (v4 : Nat → (Int × Int × Int × Int)) (v5 : Int) (v6 : Int) (v7 : Nat) (v8 : Nat → (Int × Int × Int × Int)) (v9 : Int) (v10 : Int) : law07.same.l0 k0 (k1 + 1) v1 v2 v3 (fun i => Riiii.enc (v4 i)) v5 v6 v7 (fun i => Riiii.enc (v8 i)) v9 v10 =
  bif (decide (v10 < v9)) then
    bif ((decide (0 ≤ v10)) && (decide (v10 < ((v3 : Nat) : Int)))) then
    bif ((decide (0 ≤ v10)) && (decide (v10 < ((v7 : Nat) : Int)))) then
    bif (!((((v4 (Int.toNat v10)).1 == (v8 (Int.toNat v10)).1) && (((v4 (Int.toNat v10)).2.1 == (v8 (Int.toNat v10)).2.1) && true)) && (((v4 (Int.toNat v10)).2.2.1 == (v8 (Int.toNat v10)).2.2.1) && (((v4 (Int.toNat v10)).2.2.2 == (v8 (Int.toNat v10)).2.2.2) && true)))) then
      some false
    else
    law07.same.l0 k0 k1 v1 v2 v3 (fun i => Riiii.enc (v4 i)) v5 v6 v7 (fun i => Riiii.enc (v8 i)) v9 (IntKind.i64.wrap (v10 + 1))
    else none
    else none
  else
  some true := by kernel_rfl
theorem law07.same.eq (k0 : Nat) (p0_0 : Int) (p0_1 : Int) (p0_2_n : Nat) (p0_2_g : Nat → (Int × Int × Int × Int)) (p1_0 : Int) (p1_1 : Int) (p1_2_n : Nat) (p1_2_g : Nat → (Int × Int × Int × Int)) : law07.same.g k0 ((p0_0, p0_1, (p0_2_n, (fun i => Riiii.enc (p0_2_g i)))), (p1_0, p1_1, (p1_2_n, (fun i => Riiii.enc (p1_2_g i))))) =
  bif (!((p0_0 == p1_0) && ((p0_1 == p1_1) && true))) then
    some false
  else
  bif (((p0_2_n : Nat) : Int) != ((p1_2_n : Nat) : Int)) then
    some false
  else
  law07.same.l0 k0 k0 p0_0 p0_1 p0_2_n (fun i => Riiii.enc (p0_2_g i)) p1_0 p1_1 p1_2_n (fun i => Riiii.enc (p1_2_g i)) ((p0_2_n : Nat) : Int) 0 := by kernel_rfl
/-! ### bagatelle/bagatellelaw07.TouchTurned -/
noncomputable def law07.TouchTurned.cs : List (Nat × Fw.Summ) := [(9, law07.fit.s), (15, law06.Place.Body.s), (11, touch.Of.s), (14, vec.Neg.s), (17, law07.same.s), (18, law07.corners.s), (20, touch.Gap.s)]
theorem law07.TouchTurned.cs_ok : SumsOk Try.prog law07.TouchTurned.cs := .cons law07.fit.ok (.cons law06.Place.Body.ok (.cons touch.Of.ok (.cons vec.Neg.ok (.cons law07.same.ok (.cons law07.corners.ok (.cons touch.Gap.ok (.nil)))))))
def law07.TouchTurned.hs : List (Nat × LHint) := [(0, { mat := [], live := [7, 9, 116, 117], ren := [] })]
noncomputable def law07.TouchTurned.G : Ctx := ⟨Try.prog, sumAt law07.TouchTurned.cs, lookH law07.TouchTurned.hs, true⟩
noncomputable def law07.TouchTurned.g (k0 : Nat) (x : ((Int × Int × Int × Int × Int × Int × Int) × (Int × Int × Int × Int × Int × Int × Int))) : Option Bool := evF law07.TouchTurned.G k0 Try.f7 ((tCons (tG (tCons (tI .i64) (tCons (tI .i64) (tCons (tI .i64) (tCons (tI .i64) (tCons (tI .i64) (tCons (tI .i64) (tOne (tI .i64))))))))) (tOne (tG (tCons (tI .i64) (tCons (tI .i64) (tCons (tI .i64) (tCons (tI .i64) (tCons (tI .i64) (tCons (tI .i64) (tOne (tI .i64))))))))))).enc x) tB.dec
noncomputable def law07.TouchTurned.f (x : ((Int × Int × Int × Int × Int × Int × Int) × (Int × Int × Int × Int × Int × Int × Int))) : Option Bool := law07.TouchTurned.g (1000000) x
noncomputable def law07.TouchTurned.s : Fw.Summ := .mk' (tCons (tG (tCons (tI .i64) (tCons (tI .i64) (tCons (tI .i64) (tCons (tI .i64) (tCons (tI .i64) (tCons (tI .i64) (tOne (tI .i64))))))))) (tOne (tG (tCons (tI .i64) (tCons (tI .i64) (tCons (tI .i64) (tCons (tI .i64) (tCons (tI .i64) (tCons (tI .i64) (tOne (tI .i64))))))))))) tB law07.TouchTurned.f
theorem law07.TouchTurned.ok : law07.TouchTurned.s.Ok Try.prog 7 :=
  summ_ok (hint := lookH law07.TouchTurned.hs) (fn := Try.f7) (fun x => 1000000) law07.TouchTurned.cs_ok (by kernel_rfl) (by kernel_rfl) (by kernel_rfl) (by kernel_rfl) (tCons_ok (tG_ok (tCons_ok (tI_ok _) (tCons_ok (tI_ok _) (tCons_ok (tI_ok _) (tCons_ok (tI_ok _) (tCons_ok (tI_ok _) (tCons_ok (tI_ok _) (tOne_ok (tI_ok _))))))))) (tOne_ok (tG_ok (tCons_ok (tI_ok _) (tCons_ok (tI_ok _) (tCons_ok (tI_ok _) (tCons_ok (tI_ok _) (tCons_ok (tI_ok _) (tCons_ok (tI_ok _) (tOne_ok (tI_ok _))))))))))) tB_ok (fun _ => rfl)
noncomputable def law07.TouchTurned.l0 (k0 k1 : Nat) (v1 : Int) (v2 : Int) (v3 : Int) (v4 : Int) (v5 : Int) (v6 : Int) (v7 : Int) (v8 : Int) (v9 : Int) (v10 : Int) (v11 : Int) (v12 : Int) (v13 : Int) (v14 : Int) (v15 : Int) (v16 : Int) (v17 : Int) (v18 : Int) (v19 : Int) (v20 : Int) (v21 : Int) (v22 : Int) (v23 : Int) (v24 : Int) (v25 : Nat) (v26 : Nat → List AV) (v27 : Int) (v28 : Int) (v29 : Int) (v30 : Int) (v31 : Int) (v32 : Int) (v33 : Int) (v34 : Int) (v35 : Int) (v36 : Int) (v37 : Nat) (v38 : Nat → List AV) (v39 : Int) (v40 : Int) (v41 : Nat) (v42 : Nat → List AV) (v43 : Int) (v44 : Int) (v45 : Nat) (v46 : Nat → List AV) (v47 : Int) (v48 : Int) : Option Bool :=
  evLoop (lookH law07.TouchTurned.hs 0) 32 (ev law07.TouchTurned.G k0 (codeAt [1, 1, 1, 1, 1, 1, 1, 1, 1, 1, 1, 1, 1, 0, 1, 0, 0] (bodyOf Try.f7)) 0) k1
  ⟨[.top, .top, .top, .top, .top, .top, .top, .ptr 10 0 0, .top, .ptr 11 0 0, .top, .top, .top, .top, .top, .top, .top, .top, .top, .top, .top, .top, .top, .top, .top, .top, .top, .top, .top, .top, .top, .top, .top, .top, .top, .top, .top, .top, .top, .top, .top, .top, .top, .top, .top, .top, .top, .top, .top, .top, .top, .top, .top, .top, .top, .top, .top, .top, .top, .top, .top, .top, .top, .top, .top, .top, .top, .top, .top, .top, .top, .top, .top, .top, .top, .top, .top, .top, .top, .top, .top, .top, .top, .top, .top, .top, .top, .top, .top, .top, .top, .top, .top, .top, .top, .top, .top, .top, .top, .top, .top, .top, .top, .top, .top, .top, .top, .top, .top, .top, .top, .top, .top, .top, .top, .top, .val (.int .i64 v47), .val (.int .i64 v48), .top, .top, .top, .top, .top, .top, .top, .top, .top, .top, .top, .top, .top, .top, .top, .top, .top, .top, .top, .top, .top, .top, .top, .top, .top, .top, .top, .top, .top, .top, .top], [.live ⟨false, 47, 7, 1, fun _ => [.val (.int .i64 v1), .val (.int .i64 v2), .val (.int .i64 v3), .val (.int .i64 v4), .val (.int .i64 v5), .val (.int .i64 v6), .val (.int .i64 v7)], none⟩, .live ⟨false, 47, 7, 1, fun _ => [.val (.int .i64 v8), .val (.int .i64 v9), .val (.int .i64 v10), .val (.int .i64 v11), .val (.int .i64 v12), .val (.int .i64 v13), .val (.int .i64 v14)], none⟩, .free, .free, .free, .free, .live ⟨false, 32, 11, 1, fun _ => [.val (.int .i64 v15), .val (.int .i64 v16), .val (.int .i64 v17), .val (.int .i64 v18), .val (.int .i64 v19), .val (.int .i64 v20), .val (.int .i64 v21), .val (.int .i64 v22), .val (.int .i64 v23), .val (.int .i64 v24), .lst 2 v25 none v26], none⟩, .live ⟨false, 32, 11, 1, fun _ => [.val (.int .i64 v27), .val (.int .i64 v28), .val (.int .i64 v29), .val (.int .i64 v30), .val (.int .i64 v31), .val (.int .i64 v32), .val (.int .i64 v33), .val (.int .i64 v34), .val (.int .i64 v35), .val (.int .i64 v36), .lst 2 v37 none v38], none⟩, .free, .free, .live ⟨false, 35, 3, 1, fun _ => [.val (.int .i64 v39), .val (.int .i64 v40), .lst 4 v41 none v42], none⟩, .live ⟨false, 35, 3, 1, fun _ => [.val (.int .i64 v43), .val (.int .i64 v44), .lst 4 v45 none v46], none⟩, .free, .free, .free, .free, .free, .free, .free, .free, .free, .free, .free, .free, .free, .free, .free, .free, .free, .free, .free, .free]⟩
  (kBlock law07.TouchTurned.G 0 (kSeq law07.TouchTurned.G k0 (codeAt [1, 1, 1, 1, 1, 1, 1, 1, 1, 1, 1, 1, 1, 1] (bodyOf Try.f7)) 0 (kFin law07.TouchTurned.G Try.f7 tB.dec)))
theorem law07.TouchTurned.l0_eq (k0 k1 : Nat) (v1 : Int) (v2 : Int) (v3 : Int) (v4 : Int) (v5 : Int) (v6 : Int) (v7 : Int) (v8 : Int) (v9 : Int) (v10 : Int) (v11 : Int) (v12 : Int) (v13 : Int) (v14 : Int) (v15 : Int) (v16 : Int) (v17 : Int) (v18 : Int) (v19 : Int) (v20 : Int) (v21 : Int) (v22 : Int) (v23 : Int) (v24 : Int) (v25 : Nat) (v26 : Nat → (Int × Int)) (v27 : Int) (v28 : Int) (v29 : Int) (v30 : Int) (v31 : Int) (v32 : Int) (v33 : Int) (v34 : Int) (v35 : Int) (v36 : Int) (v37 : Nat) (v38 : Nat → (Int × Int)) (v39 : Int) (v40 : Int) (v41 : Nat) (v42 : Nat → (Int × Int × Int × Int)) (v43 : Int) (v44 : Int) (v45 : Nat) (v46 : Nat → (Int × Int × Int × Int)) (v47 : Int) (v48 : Int) : law07.TouchTurned.l0 k0 (k1 + 1) v1 v2 v3 v4 v5 v6 v7 v8 v9 v10 v11 v12 v13 v14 v15 v16 v17 v18 v19 v20 v21 v22 v23 v24 v25 (fun i => Rii.enc (v26 i)) v27 v28 v29 v30 v31 v32 v33 v34 v35 v36 v37 (fun i => Rii.enc (v38 i)) v39 v40 v41 (fun i => Riiii.enc (v42 i)) v43 v44 v45 (fun i => Riiii.enc (v46 i)) v47 v48 =
  bif (decide (v48 < v47)) then
    bif ((decide (0 ≤ v48)) && (decide (v48 < ((v41 : Nat) : Int)))) then
    bif ((decide (0 ≤ v48)) && (decide (v48 < ((v45 : Nat) : Int)))) then
    bif (!(((v42 (Int.toNat v48)).1 == (v46 (Int.toNat v48)).1) && (((v42 (Int.toNat v48)).2.1 == (v46 (Int.toNat v48)).2.1) && true))) then
      some false
    else
    bif ((decide (0 ≤ v48)) && (decide (v48 < ((v41 : Nat) : Int)))) then
    bif ((decide (0 ≤ v48)) && (decide (v48 < ((v45 : Nat) : Int)))) then
    bif ((v42 (Int.toNat v48)).2.2.1 != (v46 (Int.toNat v48)).2.2.1) then
      some false
    else
    law07.TouchTurned.l0 k0 k1 v1 v2 v3 v4 v5 v6 v7 v8 v9 v10 v11 v12 v13 v14 v15 v16 v17 v18 v19 v20 v21 v22 v23 v24 v25 (fun i => Rii.enc (v26 i)) v27 v28 v29 v30 v31 v32 v33 v34 v35 v36 v37 (fun i => Rii.enc (v38 i)) v39 v40 v41 (fun i => Riiii.enc (v42 i)) v43 v44 v45 (fun i => Riiii.enc (v46 i)) v47 (IntKind.i64.wrap (v48 + 1))
    else none
    else none
    else none
    else none
  else
  some true := by kernel_rfl
theorem law07.TouchTurned.eq (k0 : Nat) (p0_0 : Int) (p0_1 : Int) (p0_2 : Int) (p0_3 : Int) (p0_4 : Int) (p0_5 : Int) (p0_6 : Int) (p1_0 : Int) (p1_1 : Int) (p1_2 : Int) (p1_3 : Int) (p1_4 : Int) (p1_5 : Int) (p1_6 : Int) : law07.TouchTurned.g k0 ((p0_0, p0_1, p0_2, p0_3, p0_4, p0_5, p0_6), (p1_0, p1_1, p1_2, p1_3, p1_4, p1_5, p1_6)) =
  (law07.fit.f ()).bind fun r1 =>
  bif (!r1) then
    some false
  else
  (law06.Place.Body.f (p0_0, p0_1, p0_2, p0_3, p0_4, p0_5, p0_6)).bind fun r2 =>
  (law06.Place.Body.f (p1_0, p1_1, p1_2, p1_3, p1_4, p1_5, p1_6)).bind fun r3 =>
  (touch.Of.f ((r2.1, r2.2.1, r2.2.2.1, r2.2.2.2.1, r2.2.2.2.2.1, r2.2.2.2.2.2.1, r2.2.2.2.2.2.2.1, r2.2.2.2.2.2.2.2.1, r2.2.2.2.2.2.2.2.2.1, r2.2.2.2.2.2.2.2.2.2.1, (r2.2.2.2.2.2.2.2.2.2.2.1, (fun i => Rii.enc (r2.2.2.2.2.2.2.2.2.2.2.2 i)))), (r3.1, r3.2.1, r3.2.2.1, r3.2.2.2.1, r3.2.2.2.2.1, r3.2.2.2.2.2.1, r3.2.2.2.2.2.2.1, r3.2.2.2.2.2.2.2.1, r3.2.2.2.2.2.2.2.2.1, r3.2.2.2.2.2.2.2.2.2.1, (r3.2.2.2.2.2.2.2.2.2.2.1, (fun i => Rii.enc (r3.2.2.2.2.2.2.2.2.2.2.2 i)))))).bind fun r4 =>
  (touch.Of.f ((r3.1, r3.2.1, r3.2.2.1, r3.2.2.2.1, r3.2.2.2.2.1, r3.2.2.2.2.2.1, r3.2.2.2.2.2.2.1, r3.2.2.2.2.2.2.2.1, r3.2.2.2.2.2.2.2.2.1, r3.2.2.2.2.2.2.2.2.2.1, (r3.2.2.2.2.2.2.2.2.2.2.1, (fun i => Rii.enc (r3.2.2.2.2.2.2.2.2.2.2.2 i)))), (r2.1, r2.2.1, r2.2.2.1, r2.2.2.2.1, r2.2.2.2.2.1, r2.2.2.2.2.2.1, r2.2.2.2.2.2.2.1, r2.2.2.2.2.2.2.2.1, r2.2.2.2.2.2.2.2.2.1, r2.2.2.2.2.2.2.2.2.2.1, (r2.2.2.2.2.2.2.2.2.2.2.1, (fun i => Rii.enc (r2.2.2.2.2.2.2.2.2.2.2.2 i)))))).bind fun r5 =>
  bif (r2.2.2.2.2.2.2.2.2.1 != r3.2.2.2.2.2.2.2.2.1) then
    (vec.Neg.f (r4.1.1, r4.1.2.1)).bind fun r6 =>
    bif (r4.2 == r5.2) then
      (law07.same.f ((r6.1, r6.2, (r4.1.2.2.1, (fun i => Riiii.enc (r4.1.2.2.2 i)))), (r5.1.1, r5.1.2.1, (r5.1.2.2.1, (fun i => Riiii.enc (r5.1.2.2.2 i)))))).bind fun r7 =>
      some r7
    else
    some false
  else
  bif (r2.2.2.2.2.2.2.2.2.1 == 1) then
    some (r4.2 == r5.2)
  else
  (law07.corners.f (r2.1, r2.2.1, r2.2.2.1, r2.2.2.2.1, r2.2.2.2.2.1, r2.2.2.2.2.2.1, r2.2.2.2.2.2.2.1, r2.2.2.2.2.2.2.2.1, r2.2.2.2.2.2.2.2.2.1, r2.2.2.2.2.2.2.2.2.2.1, (r2.2.2.2.2.2.2.2.2.2.2.1, (fun i => Rii.enc (r2.2.2.2.2.2.2.2.2.2.2.2 i))))).bind fun r8 =>
  (law07.corners.f (r3.1, r3.2.1, r3.2.2.1, r3.2.2.2.1, r3.2.2.2.2.1, r3.2.2.2.2.2.1, r3.2.2.2.2.2.2.1, r3.2.2.2.2.2.2.2.1, r3.2.2.2.2.2.2.2.2.1, r3.2.2.2.2.2.2.2.2.2.1, (r3.2.2.2.2.2.2.2.2.2.2.1, (fun i => Rii.enc (r3.2.2.2.2.2.2.2.2.2.2.2 i))))).bind fun r9 =>
  (touch.Gap.f ((r8.1, (fun i => Rii.enc (r8.2 i))), (r9.1, (fun i => Rii.enc (r9.2 i))))).bind fun r10 =>
  (law07.corners.f (r3.1, r3.2.1, r3.2.2.1, r3.2.2.2.1, r3.2.2.2.2.1, r3.2.2.2.2.2.1, r3.2.2.2.2.2.2.1, r3.2.2.2.2.2.2.2.1, r3.2.2.2.2.2.2.2.2.1, r3.2.2.2.2.2.2.2.2.2.1, (r3.2.2.2.2.2.2.2.2.2.2.1, (fun i => Rii.enc (r3.2.2.2.2.2.2.2.2.2.2.2 i))))).bind fun r11 =>
  (law07.corners.f (r2.1, r2.2.1, r2.2.2.1, r2.2.2.2.1, r2.2.2.2.2.1, r2.2.2.2.2.2.1, r2.2.2.2.2.2.2.1, r2.2.2.2.2.2.2.2.1, r2.2.2.2.2.2.2.2.2.1, r2.2.2.2.2.2.2.2.2.2.1, (r2.2.2.2.2.2.2.2.2.2.2.1, (fun i => Rii.enc (r2.2.2.2.2.2.2.2.2.2.2.2 i))))).bind fun r12 =>
  (touch.Gap.f ((r11.1, (fun i => Rii.enc (r11.2 i))), (r12.1, (fun i => Rii.enc (r12.2 i))))).bind fun r13 =>
  bif (decide (r10.2 ≥ 0)) then
    bif (!r4.2) then
      some (!r5.2)
    else
    some false
  else
  bif (decide (r13.2 ≥ 0)) then
    bif (!r4.2) then
      some (!r5.2)
    else
    some false
  else
  bif (r10.2 == r13.2) then
    some true
  else
  (vec.Neg.f (r4.1.1, r4.1.2.1)).bind fun r14 =>
  bif (!(r4.2 == r5.2)) then
    some false
  else
  bif (!((r14.1 == r5.1.1) && ((r14.2 == r5.1.2.1) && true))) then
    some false
  else
  bif (((r4.1.2.2.1 : Nat) : Int) != ((r5.1.2.2.1 : Nat) : Int)) then
    some false
  else
  law07.TouchTurned.l0 k0 k0 p0_0 p0_1 p0_2 p0_3 p0_4 p0_5 p0_6 p1_0 p1_1 p1_2 p1_3 p1_4 p1_5 p1_6 r2.1 r2.2.1 r2.2.2.1 r2.2.2.2.1 r2.2.2.2.2.1 r2.2.2.2.2.2.1 r2.2.2.2.2.2.2.1 r2.2.2.2.2.2.2.2.1 r2.2.2.2.2.2.2.2.2.1 r2.2.2.2.2.2.2.2.2.2.1 r2.2.2.2.2.2.2.2.2.2.2.1 (fun i => Rii.enc (r2.2.2.2.2.2.2.2.2.2.2.2 i)) r3.1 r3.2.1 r3.2.2.1 r3.2.2.2.1 r3.2.2.2.2.1 r3.2.2.2.2.2.1 r3.2.2.2.2.2.2.1 r3.2.2.2.2.2.2.2.1 r3.2.2.2.2.2.2.2.2.1 r3.2.2.2.2.2.2.2.2.2.1 r3.2.2.2.2.2.2.2.2.2.2.1 (fun i => Rii.enc (r3.2.2.2.2.2.2.2.2.2.2.2 i)) r14.1 r14.2 r4.1.2.2.1 (fun i => Riiii.enc (r4.1.2.2.2 i)) r5.1.1 r5.1.2.1 r5.1.2.2.1 (fun i => Riiii.enc (r5.1.2.2.2 i)) ((r4.1.2.2.1 : Nat) : Int) 0 := by kernel_rfl
/-! ### bagatelle/bagatellelaw07.point -/
noncomputable def law07.point.cs : List (Nat × Fw.Summ) := []
theorem law07.point.cs_ok : SumsOk Try.prog law07.point.cs := .nil
def law07.point.hs : List (Nat × LHint) := []
noncomputable def law07.point.G : Ctx := ⟨Try.prog, sumAt law07.point.cs, lookH law07.point.hs, true⟩
noncomputable def law07.point.f (x : ((Int × Int) × (Int × Int) × Int × Int)) : Option ((Int × Int × (Nat × (Nat → (Int × Int × Int × Int)))) × Bool) := evF law07.point.G 0 Try.f57 ((tCons (tG (tCons (tI .i64) (tOne (tI .i64)))) (tCons (tG (tCons (tI .i64) (tOne (tI .i64)))) (tCons (tI .i64) (tOne (tI .i64))))).enc x) (tT (tCons (tG (tCons (tI .i64) (tCons (tI .i64) (tOne (tTL Riiii 4 (0, 0, 0, 0)))))) (tOne tB))).dec
noncomputable def law07.point.s : Fw.Summ := .mk' (tCons (tG (tCons (tI .i64) (tOne (tI .i64)))) (tCons (tG (tCons (tI .i64) (tOne (tI .i64)))) (tCons (tI .i64) (tOne (tI .i64))))) (tT (tCons (tG (tCons (tI .i64) (tCons (tI .i64) (tOne (tTL Riiii 4 (0, 0, 0, 0)))))) (tOne tB))) law07.point.f
theorem law07.point.ok : law07.point.s.Ok Try.prog 57 :=
  summ_ok (hint := lookH law07.point.hs) (fn := Try.f57) (fun x => 0) law07.point.cs_ok (by kernel_rfl) (by kernel_rfl) (by kernel_rfl) (by kernel_rfl) (tCons_ok (tG_ok (tCons_ok (tI_ok _) (tOne_ok (tI_ok _)))) (tCons_ok (tG_ok (tCons_ok (tI_ok _) (tOne_ok (tI_ok _)))) (tCons_ok (tI_ok _) (tOne_ok (tI_ok _))))) (tT_ok (tCons_ok (tG_ok (tCons_ok (tI_ok _) (tCons_ok (tI_ok _) (tOne_ok (tTL_ok Riiii_ok _ _))))) (tOne_ok tB_ok))) (fun _ => rfl)
theorem law07.point.eq (p0_0 : Int) (p0_1 : Int) (p1_0 : Int) (p1_1 : Int) (p2 : Int) (p3 : Int) : law07.point.f ((p0_0, p0_1), (p1_0, p1_1), p2, p3) =
  (tT (tCons (tG (tCons (tI .i64) (tCons (tI .i64) (tOne (tTL Riiii 4 (0, 0, 0, 0)))))) (tOne tB))).dec (.tup [.agg [.val (.int .i64 p0_0), .val (.int .i64 p0_1), .lst 4 1 (some 1) (fun i => cloL (List.getD (List.map Riiii.enc [(p1_0, p1_1, p2, p3)]) i (Riiii.enc (0, 0, 0, 0))))], .val (.bool true)]) := by kernel_rfl
/-! ### bagatelle/bagatellelaw07.rounds -/
noncomputable def law07.rounds.cs : List (Nat × Fw.Summ) := [(13, vec.Sub.s), (12, vec.Len.s), (42, fix.Add.s), (46, vec.Unit.s), (34, fix.Sub.s), (48, fix.Div.s), (47, vec.Scale.s), (22, vec.Add.s), (57, law07.point.s)]
theorem law07.rounds.cs_ok : SumsOk Try.prog law07.rounds.cs := .cons vec.Sub.ok (.cons vec.Len.ok (.cons fix.Add.ok (.cons vec.Unit.ok (.cons fix.Sub.ok (.cons fix.Div.ok (.cons vec.Scale.ok (.cons vec.Add.ok (.cons law07.point.ok (.nil)))))))))
def law07.rounds.hs : List (Nat × LHint) := []
noncomputable def law07.rounds.G : Ctx := ⟨Try.prog, sumAt law07.rounds.cs, lookH law07.rounds.hs, true⟩
noncomputable def law07.rounds.f (x : ((Int × Int × Int × Int × Int × Int × Int × Int × Int × Int × (Nat × (Nat → List AV))) × (Int × Int × Int × Int × Int × Int × Int × Int × Int × Int × (Nat × (Nat → List AV))))) : Option ((Int × Int × (Nat × (Nat → (Int × Int × Int × Int)))) × Bool) := evF law07.rounds.G 0 Try.f37 ((tCons (tG (tCons (tI .i64) (tCons (tI .i64) (tCons (tI .i64) (tCons (tI .i64) (tCons (tI .i64) (tCons (tI .i64) (tCons (tI .i64) (tCons (tI .i64) (tCons (tI .i64) (tCons (tI .i64) (tOne (tLz 2 (Rii.enc (0, 0))))))))))))))) (tOne (tG (tCons (tI .i64) (tCons (tI .i64) (tCons (tI .i64) (tCons (tI .i64) (tCons (tI .i64) (tCons (tI .i64) (tCons (tI .i64) (tCons (tI .i64) (tCons (tI .i64) (tCons (tI .i64) (tOne (tLz 2 (Rii.enc (0, 0))))))))))))))))).enc x) (tT (tCons (tG (tCons (tI .i64) (tCons (tI .i64) (tOne (tTL Riiii 4 (0, 0, 0, 0)))))) (tOne tB))).dec
noncomputable def law07.rounds.s : Fw.Summ := .mk' (tCons (tG (tCons (tI .i64) (tCons (tI .i64) (tCons (tI .i64) (tCons (tI .i64) (tCons (tI .i64) (tCons (tI .i64) (tCons (tI .i64) (tCons (tI .i64) (tCons (tI .i64) (tCons (tI .i64) (tOne (tLz 2 (Rii.enc (0, 0))))))))))))))) (tOne (tG (tCons (tI .i64) (tCons (tI .i64) (tCons (tI .i64) (tCons (tI .i64) (tCons (tI .i64) (tCons (tI .i64) (tCons (tI .i64) (tCons (tI .i64) (tCons (tI .i64) (tCons (tI .i64) (tOne (tLz 2 (Rii.enc (0, 0))))))))))))))))) (tT (tCons (tG (tCons (tI .i64) (tCons (tI .i64) (tOne (tTL Riiii 4 (0, 0, 0, 0)))))) (tOne tB))) law07.rounds.f
theorem law07.rounds.ok : law07.rounds.s.Ok Try.prog 37 :=
  summ_ok (hint := lookH law07.rounds.hs) (fn := Try.f37) (fun x => 0) law07.rounds.cs_ok (by kernel_rfl) (by kernel_rfl) (by kernel_rfl) (by kernel_rfl) (tCons_ok (tG_ok (tCons_ok (tI_ok _) (tCons_ok (tI_ok _) (tCons_ok (tI_ok _) (tCons_ok (tI_ok _) (tCons_ok (tI_ok _) (tCons_ok (tI_ok _) (tCons_ok (tI_ok _) (tCons_ok (tI_ok _) (tCons_ok (tI_ok _) (tCons_ok (tI_ok _) (tOne_ok (tLz_ok _ _))))))))))))) (tOne_ok (tG_ok (tCons_ok (tI_ok _) (tCons_ok (tI_ok _) (tCons_ok (tI_ok _) (tCons_ok (tI_ok _) (tCons_ok (tI_ok _) (tCons_ok (tI_ok _) (tCons_ok (tI_ok _) (tCons_ok (tI_ok _) (tCons_ok (tI_ok _) (tCons_ok (tI_ok _) (tOne_ok (tLz_ok _ _))))))))))))))) (tT_ok (tCons_ok (tG_ok (tCons_ok (tI_ok _) (tCons_ok (tI_ok _) (tOne_ok (tTL_ok Riiii_ok _ _))))) (tOne_ok tB_ok))) (fun _ => rfl)
theorem law07.rounds.eq (p0_0 : Int) (p0_1 : Int) (p0_2 : Int) (p0_3 : Int) (p0_4 : Int) (p0_5 : Int) (p0_6 : Int) (p0_7 : Int) (p0_8 : Int) (p0_9 : Int) (p0_10_n : Nat) (p0_10_g : Nat → (Int × Int)) (p1_0 : Int) (p1_1 : Int) (p1_2 : Int) (p1_3 : Int) (p1_4 : Int) (p1_5 : Int) (p1_6 : Int) (p1_7 : Int) (p1_8 : Int) (p1_9 : Int) (p1_10_n : Nat) (p1_10_g : Nat → (Int × Int)) : law07.rounds.f ((p0_0, p0_1, p0_2, p0_3, p0_4, p0_5, p0_6, p0_7, p0_8, p0_9, (p0_10_n, (fun i => Rii.enc (p0_10_g i)))), (p1_0, p1_1, p1_2, p1_3, p1_4, p1_5, p1_6, p1_7, p1_8, p1_9, (p1_10_n, (fun i => Rii.enc (p1_10_g i))))) =
  (vec.Sub.f ((p1_1, p1_2), (p0_1, p0_2))).bind fun r1 =>
  (vec.Len.f (r1.1, r1.2)).bind fun r2 =>
  (fix.Add.f (p0_9, p1_9)).bind fun r3 =>
  bif (decide (r2 ≥ r3)) then
    (tT (tCons (tG (tCons (tI .i64) (tCons (tI .i64) (tOne (tTL Riiii 4 (0, 0, 0, 0)))))) (tOne tB))).dec (.tup [.agg [.val (.int .i64 0), .val (.int .i64 0), .val (.slice none 0 0)], .val (.bool false)])
  else
  bif (decide (r2 > 0)) then
    (vec.Unit.f (r1.1, r1.2)).bind fun r4 =>
    (fix.Sub.f (r3, r2)).bind fun r5 =>
    (fix.Div.f (r5, 8589934592)).bind fun r6 =>
    (fix.Sub.f (p0_9, r6)).bind fun r7 =>
    (vec.Scale.f ((r4.1.1, r4.1.2), r7)).bind fun r8 =>
    (vec.Add.f ((p0_1, p0_2), (r8.1, r8.2))).bind fun r9 =>
    (law07.point.f ((r4.1.1, r4.1.2), (r9.1, r9.2), r5, 0)).bind fun r10 =>
    (tT (tCons (tG (tCons (tI .i64) (tCons (tI .i64) (tOne (tTL Riiii 4 (0, 0, 0, 0)))))) (tOne tB))).dec (.tup [.agg [.val (.int .i64 r10.1.1), .val (.int .i64 r10.1.2.1), .lst 4 r10.1.2.2.1 none (fun i => Riiii.enc (r10.1.2.2.2 i))], .val (.bool r10.2)])
  else
  (fix.Sub.f (r3, r2)).bind fun r11 =>
  (fix.Div.f (r11, 8589934592)).bind fun r12 =>
  (fix.Sub.f (p0_9, r12)).bind fun r13 =>
  (vec.Scale.f ((4294967296, 0), r13)).bind fun r14 =>
  (vec.Add.f ((p0_1, p0_2), (r14.1, r14.2))).bind fun r15 =>
  (law07.point.f ((4294967296, 0), (r15.1, r15.2), r11, 0)).bind fun r16 =>
  (tT (tCons (tG (tCons (tI .i64) (tCons (tI .i64) (tOne (tTL Riiii 4 (0, 0, 0, 0)))))) (tOne tB))).dec (.tup [.agg [.val (.int .i64 r16.1.1), .val (.int .i64 r16.1.2.1), .lst 4 r16.1.2.2.1 none (fun i => Riiii.enc (r16.1.2.2.2 i))], .val (.bool r16.2)]) := by kernel_rfl
/-! ### bagatelle/bagatellelaw07.mixed -/
noncomputable def law07.mixed.cs : List (Nat × Fw.Summ) := [(18, law07.corners.s), (19, law07.gaps.s), (21, law07.first.s), (41, shape.Normals.s), (13, vec.Sub.s), (14, vec.Neg.s), (33, vec.Dot.s), (12, vec.Len.s), (46, vec.Unit.s), (34, fix.Sub.s), (57, law07.point.s), (47, vec.Scale.s)]
theorem law07.mixed.cs_ok : SumsOk Try.prog law07.mixed.cs := .cons law07.corners.ok (.cons law07.gaps.ok (.cons law07.first.ok (.cons shape.Normals.ok (.cons vec.Sub.ok (.cons vec.Neg.ok (.cons vec.Dot.ok (.cons vec.Len.ok (.cons vec.Unit.ok (.cons fix.Sub.ok (.cons law07.point.ok (.cons vec.Scale.ok (.nil))))))))))))
def law07.mixed.hs : List (Nat × LHint) := [(0, { mat := [], live := [3, 4, 7, 8, 9, 10, 11, 13, 71, 72, 73], ren := [] })]
noncomputable def law07.mixed.G : Ctx := ⟨Try.prog, sumAt law07.mixed.cs, lookH law07.mixed.hs, true⟩
noncomputable def law07.mixed.g (k0 : Nat) (x : ((Int × Int × Int × Int × Int × Int × Int × Int × Int × Int × (Nat × (Nat → List AV))) × (Int × Int × Int × Int × Int × Int × Int × Int × Int × Int × (Nat × (Nat → List AV))))) : Option ((Int × Int × (Nat × (Nat → (Int × Int × Int × Int)))) × Bool) := evF law07.mixed.G k0 Try.f38 ((tCons (tG (tCons (tI .i64) (tCons (tI .i64) (tCons (tI .i64) (tCons (tI .i64) (tCons (tI .i64) (tCons (tI .i64) (tCons (tI .i64) (tCons (tI .i64) (tCons (tI .i64) (tCons (tI .i64) (tOne (tLz 2 (Rii.enc (0, 0))))))))))))))) (tOne (tG (tCons (tI .i64) (tCons (tI .i64) (tCons (tI .i64) (tCons (tI .i64) (tCons (tI .i64) (tCons (tI .i64) (tCons (tI .i64) (tCons (tI .i64) (tCons (tI .i64) (tCons (tI .i64) (tOne (tLz 2 (Rii.enc (0, 0))))))))))))))))).enc x) (tT (tCons (tG (tCons (tI .i64) (tCons (tI .i64) (tOne (tTL Riiii 4 (0, 0, 0, 0)))))) (tOne tB))).dec
noncomputable def law07.mixed.f (x : ((Int × Int × Int × Int × Int × Int × Int × Int × Int × Int × (Nat × (Nat → List AV))) × (Int × Int × Int × Int × Int × Int × Int × Int × Int × Int × (Nat × (Nat → List AV))))) : Option ((Int × Int × (Nat × (Nat → (Int × Int × Int × Int)))) × Bool) := law07.mixed.g (1000000) x
noncomputable def law07.mixed.s : Fw.Summ := .mk' (tCons (tG (tCons (tI .i64) (tCons (tI .i64) (tCons (tI .i64) (tCons (tI .i64) (tCons (tI .i64) (tCons (tI .i64) (tCons (tI .i64) (tCons (tI .i64) (tCons (tI .i64) (tCons (tI .i64) (tOne (tLz 2 (Rii.enc (0, 0))))))))))))))) (tOne (tG (tCons (tI .i64) (tCons (tI .i64) (tCons (tI .i64) (tCons (tI .i64) (tCons (tI .i64) (tCons (tI .i64) (tCons (tI .i64) (tCons (tI .i64) (tCons (tI .i64) (tCons (tI .i64) (tOne (tLz 2 (Rii.enc (0, 0))))))))))))))))) (tT (tCons (tG (tCons (tI .i64) (tCons (tI .i64) (tOne (tTL Riiii 4 (0, 0, 0, 0)))))) (tOne tB))) law07.mixed.f
theorem law07.mixed.ok : law07.mixed.s.Ok Try.prog 38 :=
  summ_ok (hint := lookH law07.mixed.hs) (fn := Try.f38) (fun x => 1000000) law07.mixed.cs_ok (by kernel_rfl) (by kernel_rfl) (by kernel_rfl) (by kernel_rfl) (tCons_ok (tG_ok (tCons_ok (tI_ok _) (tCons_ok (tI_ok _) (tCons_ok (tI_ok _) (tCons_ok (tI_ok _) (tCons_ok (tI_ok _) (tCons_ok (tI_ok _) (tCons_ok (tI_ok _) (tCons_ok (tI_ok _) (tCons_ok (tI_ok _) (tCons_ok (tI_ok _) (tOne_ok (tLz_ok _ _))))))))))))) (tOne_ok (tG_ok (tCons_ok (tI_ok _) (tCons_ok (tI_ok _) (tCons_ok (tI_ok _) (tCons_ok (tI_ok _) (tCons_ok (tI_ok _) (tCons_ok (tI_ok _) (tCons_ok (tI_ok _) (tCons_ok (tI_ok _) (tCons_ok (tI_ok _) (tCons_ok (tI_ok _) (tOne_ok (tLz_ok _ _))))))))))))))) (tT_ok (tCons_ok (tG_ok (tCons_ok (tI_ok _) (tCons_ok (tI_ok _) (tOne_ok (tTL_ok Riiii_ok _ _))))) (tOne_ok tB_ok))) (fun _ => rfl)
noncomputable def law07.mixed.l0 (k0 k1 : Nat) (v1 : Int) (v2 : Int) (v3 : Int) (v4 : Int) (v5 : Int) (v6 : Int) (v7 : Int) (v8 : Int) (v9 : Int) (v10 : Int) (v11 : Nat) (v12 : Nat → List AV) (v13 : Int) (v14 : Int) (v15 : Int) (v16 : Int) (v17 : Int) (v18 : Int) (v19 : Int) (v20 : Int) (v21 : Int) (v22 : Int) (v23 : Nat) (v24 : Nat → List AV) (v25 : Int) (v26 : Int) (v27 : Int) (v28 : Int) (v29 : Nat → List AV) (v30 : Nat) (v31 : Nat → List AV) (v32 : Int) (v33 : Bool) (v34 : Int) : Option ((Int × Int × (Nat × (Nat → (Int × Int × Int × Int)))) × Bool) :=
  evLoop (lookH law07.mixed.hs 0) 34 (ev law07.mixed.G k0 (codeAt [1, 1, 1, 1, 1, 1, 1, 1, 1, 0, 1, 0, 0] (bodyOf Try.f38)) 0) k1
  ⟨[.top, .top, .top, .ptr 1 0 0, .ptr 2 0 0, .top, .top, .val (.int .i64 v22), .lst 1 v30 none v31, .val (.int .i64 v32), .ptr 11 0 0, .val (.bool v33), .top, .ptr 21 0 0, .top, .top, .top, .top, .top, .top, .top, .top, .top, .top, .top, .top, .top, .top, .top, .top, .top, .top, .top, .top, .top, .top, .top, .top, .top, .top, .top, .top, .top, .top, .top, .top, .top, .top, .top, .top, .top, .top, .top, .top, .top, .top, .top, .top, .top, .top, .top, .top, .top, .top, .top, .top, .top, .top, .top, .top, .top, .slc 31 0 none none, .val (.int .i64 2), .val (.int .i64 v34), .top, .top, .top, .top, .top, .top, .top, .top, .top, .top, .top, .top, .top, .top, .top, .top, .top, .top, .top, .top, .top, .top, .top, .top, .top, .top, .top, .top, .top, .top, .top, .top, .top, .top, .top, .top, .top, .top, .top, .top, .top, .top, .top, .top, .top, .top, .top, .top, .top, .top, .top, .top, .top, .top, .top, .top, .top, .top, .top, .top, .top, .top, .top], [.live ⟨false, 32, 11, 1, fun _ => [.val (.int .i64 v1), .val (.int .i64 v2), .val (.int .i64 v3), .val (.int .i64 v4), .val (.int .i64 v5), .val (.int .i64 v6), .val (.int .i64 v7), .val (.int .i64 v8), .val (.int .i64 v9), .val (.int .i64 v10), .lst 2 v11 none v12], none⟩, .live ⟨false, 32, 11, 1, fun _ => [.val (.int .i64 v13), .val (.int .i64 v14), .val (.int .i64 v15), .val (.int .i64 v16), .val (.int .i64 v17), .val (.int .i64 v18), .val (.int .i64 v19), .val (.int .i64 v20), .val (.int .i64 v21), .val (.int .i64 v22), .lst 2 v23 none v24], none⟩, .live ⟨false, 35, 3, 1, fun _ => [.val (.int .i64 0), .val (.int .i64 0), .val (.slice none 0 0)], none⟩, .free, .free, .free, .free, .free, .free, .free, .dead, .live ⟨false, 24, 2, 1, fun _ => [.val (.int .i64 v25), .val (.int .i64 v26)], none⟩, .free, .free, .free, .free, .free, .free, .free, .free, .free, .live ⟨false, 24, 2, 1, fun _ => [.val (.int .i64 v27), .val (.int .i64 v28)], none⟩, .free, .free, .free, .free, .free, .free, .free, .free, .free, .live ⟨true, 24, 2, 2, v29, none⟩, .free, .free]⟩
  (kBlock law07.mixed.G 0 (kSeq law07.mixed.G k0 (codeAt [1, 1, 1, 1, 1, 1, 1, 1, 1, 1] (bodyOf Try.f38)) 0 (kFin law07.mixed.G Try.f38 (tT (tCons (tG (tCons (tI .i64) (tCons (tI .i64) (tOne (tTL Riiii 4 (0, 0, 0, 0)))))) (tOne tB))).dec)))
theorem law07.mixed.l0_eq (k0 k1 : Nat) (v1 : Int) (v2 : Int) (v3 : Int) (v4 : Int) (v5 : Int) (v6 : Int) (v7 : Int) (v8 : Int) (v9 : Int) (v10 : Int) (v11 : Nat) (v12 : Nat → (Int × Int)) (v13 : Int) (v14 : Int) (v15 : Int) (v16 : Int) (v17 : Int) (v18 : Int) (v19 : Int) (v20 : Int) (v21 : Int) (v22 : Int) (v23 : Nat) (v24 : Nat → (Int × Int)) (v25 : Int) (v26 : Int) (v27 : Int) (v28 : Int) (v29 : Nat → (Int × Int)) (v30 : Nat) (v31 : Nat → Int) (v32 : Int) (v33 : Bool) (v34 : Int) : law07.mixed.l0 k0 (k1 + 1) v1 v2 v3 v4 v5 v6 v7 v8 v9 v10 v11 (fun i => Rii.enc (v12 i)) v13 v14 v15 v16 v17 v18 v19 v20 v21 v22 v23 (fun i => Rii.enc (v24 i)) v25 v26 v27 v28 (fun i => Rii.enc (v29 i)) v30 (fun i => Ri.enc (v31 i)) v32 v33 v34 =
  bif (decide (v34 < 2)) then
    bif ((decide (0 ≤ v34)) && (decide (v34 < 2))) then
    (vec.Sub.f ((v14, v15), ((v29 (Int.toNat v34)).1, (v29 (Int.toNat v34)).2))).bind fun r6 =>
    bif (v34 == 1) then
      (vec.Neg.f (v27, v28)).bind fun r7 =>
      bif v33 then
        law07.mixed.l0 k0 k1 v1 v2 v3 v4 v5 v6 v7 v8 v9 v10 v11 (fun i => Rii.enc (v12 i)) v13 v14 v15 v16 v17 v18 v19 v20 v21 v22 v23 (fun i => Rii.enc (v24 i)) v25 v26 r7.1 r7.2 (fun i => Rii.enc (v29 i)) v30 (fun i => Ri.enc (v31 i)) v32 v33 (IntKind.i64.wrap (v34 + 1))
      else
      (vec.Dot.f ((r6.1, r6.2), (r7.1, r7.2))).bind fun r8 =>
      bif (decide (r8 > 0)) then
        law07.mixed.l0 k0 k1 v1 v2 v3 v4 v5 v6 v7 v8 v9 v10 v11 (fun i => Rii.enc (v12 i)) v13 v14 v15 v16 v17 v18 v19 v20 v21 v22 v23 (fun i => Rii.enc (v24 i)) v25 v26 r7.1 r7.2 (fun i => Rii.enc (v29 i)) v30 (fun i => Ri.enc (v31 i)) v32 v33 (IntKind.i64.wrap (v34 + 1))
      else
      (vec.Len.f (r6.1, r6.2)).bind fun r9 =>
      bif (decide (r9 ≥ v22)) then
        (tT (tCons (tG (tCons (tI .i64) (tCons (tI .i64) (tOne (tTL Riiii 4 (0, 0, 0, 0)))))) (tOne tB))).dec (.tup [.agg [.val (.int .i64 0), .val (.int .i64 0), .val (.slice none 0 0)], .val (.bool false)])
      else
      (vec.Unit.f (r6.1, r6.2)).bind fun r10 =>
      bif r10.2 then
        (fix.Sub.f (v22, r9)).bind fun r11 =>
        (law07.point.f ((r10.1.1, r10.1.2), ((v29 (Int.toNat v34)).1, (v29 (Int.toNat v34)).2), r11, (IntKind.i64.wrap ((IntKind.i64.wrap (2 * v32)) + v34)))).bind fun r12 =>
        (tT (tCons (tG (tCons (tI .i64) (tCons (tI .i64) (tOne (tTL Riiii 4 (0, 0, 0, 0)))))) (tOne tB))).dec (.tup [.agg [.val (.int .i64 r12.1.1), .val (.int .i64 r12.1.2.1), .lst 4 r12.1.2.2.1 none (fun i => Riiii.enc (r12.1.2.2.2 i))], .val (.bool r12.2)])
      else
      (fix.Sub.f (v22, r9)).bind fun r13 =>
      (law07.point.f ((v25, v26), ((v29 (Int.toNat v34)).1, (v29 (Int.toNat v34)).2), r13, (IntKind.i64.wrap ((IntKind.i64.wrap (2 * v32)) + v34)))).bind fun r14 =>
      (tT (tCons (tG (tCons (tI .i64) (tCons (tI .i64) (tOne (tTL Riiii 4 (0, 0, 0, 0)))))) (tOne tB))).dec (.tup [.agg [.val (.int .i64 r14.1.1), .val (.int .i64 r14.1.2.1), .lst 4 r14.1.2.2.1 none (fun i => Riiii.enc (r14.1.2.2.2 i))], .val (.bool r14.2)])
    else
    bif v33 then
      law07.mixed.l0 k0 k1 v1 v2 v3 v4 v5 v6 v7 v8 v9 v10 v11 (fun i => Rii.enc (v12 i)) v13 v14 v15 v16 v17 v18 v19 v20 v21 v22 v23 (fun i => Rii.enc (v24 i)) v25 v26 v27 v28 (fun i => Rii.enc (v29 i)) v30 (fun i => Ri.enc (v31 i)) v32 v33 (IntKind.i64.wrap (v34 + 1))
    else
    (vec.Dot.f ((r6.1, r6.2), (v27, v28))).bind fun r15 =>
    bif (decide (r15 > 0)) then
      law07.mixed.l0 k0 k1 v1 v2 v3 v4 v5 v6 v7 v8 v9 v10 v11 (fun i => Rii.enc (v12 i)) v13 v14 v15 v16 v17 v18 v19 v20 v21 v22 v23 (fun i => Rii.enc (v24 i)) v25 v26 v27 v28 (fun i => Rii.enc (v29 i)) v30 (fun i => Ri.enc (v31 i)) v32 v33 (IntKind.i64.wrap (v34 + 1))
    else
    (vec.Len.f (r6.1, r6.2)).bind fun r16 =>
    bif (decide (r16 ≥ v22)) then
      (tT (tCons (tG (tCons (tI .i64) (tCons (tI .i64) (tOne (tTL Riiii 4 (0, 0, 0, 0)))))) (tOne tB))).dec (.tup [.agg [.val (.int .i64 0), .val (.int .i64 0), .val (.slice none 0 0)], .val (.bool false)])
    else
    (vec.Unit.f (r6.1, r6.2)).bind fun r17 =>
    bif r17.2 then
      (fix.Sub.f (v22, r16)).bind fun r18 =>
      (law07.point.f ((r17.1.1, r17.1.2), ((v29 (Int.toNat v34)).1, (v29 (Int.toNat v34)).2), r18, (IntKind.i64.wrap ((IntKind.i64.wrap (2 * v32)) + v34)))).bind fun r19 =>
      (tT (tCons (tG (tCons (tI .i64) (tCons (tI .i64) (tOne (tTL Riiii 4 (0, 0, 0, 0)))))) (tOne tB))).dec (.tup [.agg [.val (.int .i64 r19.1.1), .val (.int .i64 r19.1.2.1), .lst 4 r19.1.2.2.1 none (fun i => Riiii.enc (r19.1.2.2.2 i))], .val (.bool r19.2)])
    else
    (fix.Sub.f (v22, r16)).bind fun r20 =>
    (law07.point.f ((v25, v26), ((v29 (Int.toNat v34)).1, (v29 (Int.toNat v34)).2), r20, (IntKind.i64.wrap ((IntKind.i64.wrap (2 * v32)) + v34)))).bind fun r21 =>
    (tT (tCons (tG (tCons (tI .i64) (tCons (tI .i64) (tOne (tTL Riiii 4 (0, 0, 0, 0)))))) (tOne tB))).dec (.tup [.agg [.val (.int .i64 r21.1.1), .val (.int .i64 r21.1.2.1), .lst 4 r21.1.2.2.1 none (fun i => Riiii.enc (r21.1.2.2.2 i))], .val (.bool r21.2)])
    else none
  else
  (vec.Scale.f ((v25, v26), v22)).bind fun r22 =>
  (vec.Sub.f ((v14, v15), (r22.1, r22.2))).bind fun r23 =>
  bif ((decide (0 ≤ v32)) && (decide (v32 < ((v30 : Nat) : Int)))) then
  (fix.Sub.f (v22, (v31 (Int.toNat v32)))).bind fun r24 =>
  (law07.point.f ((v25, v26), (r23.1, r23.2), r24, (IntKind.i64.wrap (16 + v32)))).bind fun r25 =>
  (tT (tCons (tG (tCons (tI .i64) (tCons (tI .i64) (tOne (tTL Riiii 4 (0, 0, 0, 0)))))) (tOne tB))).dec (.tup [.agg [.val (.int .i64 r25.1.1), .val (.int .i64 r25.1.2.1), .lst 4 r25.1.2.2.1 none (fun i => Riiii.enc (r25.1.2.2.2 i))], .val (.bool r25.2)])
  else none := by kernel_rfl
theorem law07.mixed.eq (k0 : Nat) (p0_0 : Int) (p0_1 : Int) (p0_2 : Int) (p0_3 : Int) (p0_4 : Int) (p0_5 : Int) (p0_6 : Int) (p0_7 : Int) (p0_8 : Int) (p0_9 : Int) (p0_10_n : Nat) (p0_10_g : Nat → (Int × Int)) (p1_0 : Int) (p1_1 : Int) (p1_2 : Int) (p1_3 : Int) (p1_4 : Int) (p1_5 : Int) (p1_6 : Int) (p1_7 : Int) (p1_8 : Int) (p1_9 : Int) (p1_10_n : Nat) (p1_10_g : Nat → (Int × Int)) : law07.mixed.g k0 ((p0_0, p0_1, p0_2, p0_3, p0_4, p0_5, p0_6, p0_7, p0_8, p0_9, (p0_10_n, (fun i => Rii.enc (p0_10_g i)))), (p1_0, p1_1, p1_2, p1_3, p1_4, p1_5, p1_6, p1_7, p1_8, p1_9, (p1_10_n, (fun i => Rii.enc (p1_10_g i))))) =
  (law07.corners.f (p0_0, p0_1, p0_2, p0_3, p0_4, p0_5, p0_6, p0_7, p0_8, p0_9, (p0_10_n, (fun i => Rii.enc (p0_10_g i))))).bind fun r1 =>
  (law07.gaps.f ((r1.1, (fun i => Rii.enc (r1.2 i))), (1, (fun i => cloL (List.getD (List.map Rii.enc [(p1_1, p1_2)]) i (Rii.enc (0, 0))))))).bind fun r2 =>
  (law07.first.f (r2.1, (fun i => Ri.enc (r2.2 i)))).bind fun r3 =>
  (shape.Normals.f (r1.1, (fun i => Rii.enc (r1.2 i)))).bind fun r4 =>
  bif ((decide (0 ≤ r3)) && (decide (r3 < ((r4.1 : Nat) : Int)))) then
  bif ((decide (0 ≤ r3)) && (decide (r3 < ((r2.1 : Nat) : Int)))) then
  bif (decide ((r2.2 (Int.toNat r3)) ≥ p1_9)) then
    (tT (tCons (tG (tCons (tI .i64) (tCons (tI .i64) (tOne (tTL Riiii 4 (0, 0, 0, 0)))))) (tOne tB))).dec (.tup [.agg [.val (.int .i64 0), .val (.int .i64 0), .val (.slice none 0 0)], .val (.bool false)])
  else
  bif ((decide (0 ≤ r3)) && (decide (r3 < ((r2.1 : Nat) : Int)))) then
  bif (decide (((r1.1 : Nat) : Int) ≠ 0)) then
  bif ((decide (0 ≤ (Int.tmod (IntKind.i64.wrap (r3 + 1)) ((r1.1 : Nat) : Int)))) && (decide ((Int.tmod (IntKind.i64.wrap (r3 + 1)) ((r1.1 : Nat) : Int)) < ((r1.1 : Nat) : Int)))) then
  bif ((decide (0 ≤ r3)) && (decide (r3 < ((r1.1 : Nat) : Int)))) then
  (vec.Sub.f (((r1.2 (Int.toNat (Int.tmod (IntKind.i64.wrap (r3 + 1)) ((r1.1 : Nat) : Int)))).1, (r1.2 (Int.toNat (Int.tmod (IntKind.i64.wrap (r3 + 1)) ((r1.1 : Nat) : Int)))).2), ((r1.2 (Int.toNat r3)).1, (r1.2 (Int.toNat r3)).2))).bind fun r5 =>
  bif ((decide (0 ≤ r3)) && (decide (r3 < ((r1.1 : Nat) : Int)))) then
  bif ((decide (0 ≤ (Int.tmod (IntKind.i64.wrap (r3 + 1)) ((r1.1 : Nat) : Int)))) && (decide ((Int.tmod (IntKind.i64.wrap (r3 + 1)) ((r1.1 : Nat) : Int)) < ((r1.1 : Nat) : Int)))) then
  law07.mixed.l0 k0 k0 p0_0 p0_1 p0_2 p0_3 p0_4 p0_5 p0_6 p0_7 p0_8 p0_9 p0_10_n (fun i => Rii.enc (p0_10_g i)) p1_0 p1_1 p1_2 p1_3 p1_4 p1_5 p1_6 p1_7 p1_8 p1_9 p1_10_n (fun i => Rii.enc (p1_10_g i)) (r4.2 (Int.toNat r3)).1 (r4.2 (Int.toNat r3)).2 r5.1 r5.2 (fun i => renL (lookF [] 34) (List.getD (List.map Rii.enc [((r1.2 (Int.toNat r3)).1, (r1.2 (Int.toNat r3)).2), ((r1.2 (Int.toNat (Int.tmod (IntKind.i64.wrap (r3 + 1)) ((r1.1 : Nat) : Int)))).1, (r1.2 (Int.toNat (Int.tmod (IntKind.i64.wrap (r3 + 1)) ((r1.1 : Nat) : Int)))).2)]) i (Rii.enc (0, 0)))) r2.1 (fun i => Ri.enc (r2.2 i)) r3 (decide ((r2.2 (Int.toNat r3)) ≤ 0)) 0
  else none
  else none
  else none
  else none
  else none
  else none
  else none
  else none := by kernel_rfl
/-! ### bagatelle/bagatellelaw07.cut -/
noncomputable def law07.cut.cs : List (Nat × Fw.Summ) := [(13, vec.Sub.s), (33, vec.Dot.s), (34, fix.Sub.s), (48, fix.Div.s), (47, vec.Scale.s), (22, vec.Add.s)]
theorem law07.cut.cs_ok : SumsOk Try.prog law07.cut.cs := .cons vec.Sub.ok (.cons vec.Dot.ok (.cons fix.Sub.ok (.cons fix.Div.ok (.cons vec.Scale.ok (.cons vec.Add.ok (.nil))))))
def law07.cut.hs : List (Nat × LHint) := []
noncomputable def law07.cut.G : Ctx := ⟨Try.prog, sumAt law07.cut.cs, lookH law07.cut.hs, true⟩
noncomputable def law07.cut.f (x : ((Int × Int) × (Int × Int) × (Int × Int) × (Int × Int))) : Option ((Int × Int) × (Int × Int) × Bool) := evF law07.cut.G 0 Try.f58 ((tCons (tG (tCons (tI .i64) (tOne (tI .i64)))) (tCons (tG (tCons (tI .i64) (tOne (tI .i64)))) (tCons (tG (tCons (tI .i64) (tOne (tI .i64)))) (tOne (tG (tCons (tI .i64) (tOne (tI .i64)))))))).enc x) (tT (tCons (tG (tCons (tI .i64) (tOne (tI .i64)))) (tCons (tG (tCons (tI .i64) (tOne (tI .i64)))) (tOne tB)))).dec
noncomputable def law07.cut.s : Fw.Summ := .mk' (tCons (tG (tCons (tI .i64) (tOne (tI .i64)))) (tCons (tG (tCons (tI .i64) (tOne (tI .i64)))) (tCons (tG (tCons (tI .i64) (tOne (tI .i64)))) (tOne (tG (tCons (tI .i64) (tOne (tI .i64)))))))) (tT (tCons (tG (tCons (tI .i64) (tOne (tI .i64)))) (tCons (tG (tCons (tI .i64) (tOne (tI .i64)))) (tOne tB)))) law07.cut.f
theorem law07.cut.ok : law07.cut.s.Ok Try.prog 58 :=
  summ_ok (hint := lookH law07.cut.hs) (fn := Try.f58) (fun x => 0) law07.cut.cs_ok (by kernel_rfl) (by kernel_rfl) (by kernel_rfl) (by kernel_rfl) (tCons_ok (tG_ok (tCons_ok (tI_ok _) (tOne_ok (tI_ok _)))) (tCons_ok (tG_ok (tCons_ok (tI_ok _) (tOne_ok (tI_ok _)))) (tCons_ok (tG_ok (tCons_ok (tI_ok _) (tOne_ok (tI_ok _)))) (tOne_ok (tG_ok (tCons_ok (tI_ok _) (tOne_ok (tI_ok _)))))))) (tT_ok (tCons_ok (tG_ok (tCons_ok (tI_ok _) (tOne_ok (tI_ok _)))) (tCons_ok (tG_ok (tCons_ok (tI_ok _) (tOne_ok (tI_ok _)))) (tOne_ok tB_ok)))) (fun _ => rfl)
theorem law07.cut.eq (p0_0 : Int) (p0_1 : Int) (p1_0 : Int) (p1_1 : Int) (p2_0 : Int) (p2_1 : Int) (p3_0 : Int) (p3_1 : Int) : law07.cut.f ((p0_0, p0_1), (p1_0, p1_1), (p2_0, p2_1), (p3_0, p3_1)) =
  (vec.Sub.f ((p0_0, p0_1), (p2_0, p2_1))).bind fun r1 =>
  (vec.Dot.f ((p3_0, p3_1), (r1.1, r1.2))).bind fun r2 =>
  (vec.Sub.f ((p1_0, p1_1), (p2_0, p2_1))).bind fun r3 =>
  (vec.Dot.f ((p3_0, p3_1), (r3.1, r3.2))).bind fun r4 =>
  bif (decide (r2 < 0)) then
    bif (decide (r4 < 0)) then
      some ((p0_0, p0_1), (p1_0, p1_1), false)
    else
    bif (decide (r2 < 0)) then
      (vec.Sub.f ((p1_0, p1_1), (p0_0, p0_1))).bind fun r5 =>
      (fix.Sub.f (r2, r4)).bind fun r6 =>
      (fix.Div.f (r2, r6)).bind fun r7 =>
      (vec.Scale.f ((r5.1, r5.2), r7)).bind fun r8 =>
      (vec.Add.f ((p0_0, p0_1), (r8.1, r8.2))).bind fun r9 =>
      bif (decide (r4 < 0)) then
        (vec.Sub.f ((p0_0, p0_1), (p1_0, p1_1))).bind fun r10 =>
        (fix.Sub.f (r4, r2)).bind fun r11 =>
        (fix.Div.f (r4, r11)).bind fun r12 =>
        (vec.Scale.f ((r10.1, r10.2), r12)).bind fun r13 =>
        (vec.Add.f ((p1_0, p1_1), (r13.1, r13.2))).bind fun r14 =>
        some ((r9.1, r9.2), (r14.1, r14.2), true)
      else
      some ((r9.1, r9.2), (p1_0, p1_1), true)
    else
    bif (decide (r4 < 0)) then
      (vec.Sub.f ((p0_0, p0_1), (p1_0, p1_1))).bind fun r15 =>
      (fix.Sub.f (r4, r2)).bind fun r16 =>
      (fix.Div.f (r4, r16)).bind fun r17 =>
      (vec.Scale.f ((r15.1, r15.2), r17)).bind fun r18 =>
      (vec.Add.f ((p1_0, p1_1), (r18.1, r18.2))).bind fun r19 =>
      some ((p0_0, p0_1), (r19.1, r19.2), true)
    else
    some ((p0_0, p0_1), (p1_0, p1_1), true)
  else
  bif (decide (r2 < 0)) then
    (vec.Sub.f ((p1_0, p1_1), (p0_0, p0_1))).bind fun r20 =>
    (fix.Sub.f (r2, r4)).bind fun r21 =>
    (fix.Div.f (r2, r21)).bind fun r22 =>
    (vec.Scale.f ((r20.1, r20.2), r22)).bind fun r23 =>
    (vec.Add.f ((p0_0, p0_1), (r23.1, r23.2))).bind fun r24 =>
    bif (decide (r4 < 0)) then
      (vec.Sub.f ((p0_0, p0_1), (p1_0, p1_1))).bind fun r25 =>
      (fix.Sub.f (r4, r2)).bind fun r26 =>
      (fix.Div.f (r4, r26)).bind fun r27 =>
      (vec.Scale.f ((r25.1, r25.2), r27)).bind fun r28 =>
      (vec.Add.f ((p1_0, p1_1), (r28.1, r28.2))).bind fun r29 =>
      some ((r24.1, r24.2), (r29.1, r29.2), true)
    else
    some ((r24.1, r24.2), (p1_0, p1_1), true)
  else
  bif (decide (r4 < 0)) then
    (vec.Sub.f ((p0_0, p0_1), (p1_0, p1_1))).bind fun r30 =>
    (fix.Sub.f (r4, r2)).bind fun r31 =>
    (fix.Div.f (r4, r31)).bind fun r32 =>
    (vec.Scale.f ((r30.1, r30.2), r32)).bind fun r33 =>
    (vec.Add.f ((p1_0, p1_1), (r33.1, r33.2))).bind fun r34 =>
    some ((p0_0, p0_1), (r34.1, r34.2), true)
  else
  some ((p0_0, p0_1), (p1_0, p1_1), true) := by kernel_rfl
/-! ### bagatelle/bagatellelaw07.polys -/
noncomputable def law07.polys.cs : List (Nat × Fw.Summ) := [(18, law07.corners.s), (19, law07.gaps.s), (21, law07.first.s), (41, shape.Normals.s), (13, vec.Sub.s), (46, vec.Unit.s), (33, vec.Dot.s), (58, law07.cut.s), (14, vec.Neg.s)]
theorem law07.polys.cs_ok : SumsOk Try.prog law07.polys.cs := .cons law07.corners.ok (.cons law07.gaps.ok (.cons law07.first.ok (.cons shape.Normals.ok (.cons vec.Sub.ok (.cons vec.Unit.ok (.cons vec.Dot.ok (.cons law07.cut.ok (.cons vec.Neg.ok (.nil)))))))))
def law07.polys.hs : List (Nat × LHint) := [(0, { mat := [], live := [4, 7, 12, 13, 14, 15, 16, 17, 19, 20, 102, 103], ren := [] }), (2, { unroll := true })]
noncomputable def law07.polys.G : Ctx := ⟨Try.prog, sumAt law07.polys.cs, lookH law07.polys.hs, true⟩
noncomputable def law07.polys.g (k0 : Nat) (x : ((Int × Int × Int × Int × Int × Int × Int × Int × Int × Int × (Nat × (Nat → List AV))) × (Int × Int × Int × Int × Int × Int × Int × Int × Int × Int × (Nat × (Nat → List AV))))) : Option ((Int × Int × (Nat × (Nat → (Int × Int × Int × Int)))) × Bool) := evF law07.polys.G k0 Try.f39 ((tCons (tG (tCons (tI .i64) (tCons (tI .i64) (tCons (tI .i64) (tCons (tI .i64) (tCons (tI .i64) (tCons (tI .i64) (tCons (tI .i64) (tCons (tI .i64) (tCons (tI .i64) (tCons (tI .i64) (tOne (tLz 2 (Rii.enc (0, 0))))))))))))))) (tOne (tG (tCons (tI .i64) (tCons (tI .i64) (tCons (tI .i64) (tCons (tI .i64) (tCons (tI .i64) (tCons (tI .i64) (tCons (tI .i64) (tCons (tI .i64) (tCons (tI .i64) (tCons (tI .i64) (tOne (tLz 2 (Rii.enc (0, 0))))))))))))))))).enc x) (tT (tCons (tG (tCons (tI .i64) (tCons (tI .i64) (tOne (tTL Riiii 4 (0, 0, 0, 0)))))) (tOne tB))).dec
noncomputable def law07.polys.f (x : ((Int × Int × Int × Int × Int × Int × Int × Int × Int × Int × (Nat × (Nat → List AV))) × (Int × Int × Int × Int × Int × Int × Int × Int × Int × Int × (Nat × (Nat → List AV))))) : Option ((Int × Int × (Nat × (Nat → (Int × Int × Int × Int)))) × Bool) := law07.polys.g (1000000) x
noncomputable def law07.polys.s : Fw.Summ := .mk' (tCons (tG (tCons (tI .i64) (tCons (tI .i64) (tCons (tI .i64) (tCons (tI .i64) (tCons (tI .i64) (tCons (tI .i64) (tCons (tI .i64) (tCons (tI .i64) (tCons (tI .i64) (tCons (tI .i64) (tOne (tLz 2 (Rii.enc (0, 0))))))))))))))) (tOne (tG (tCons (tI .i64) (tCons (tI .i64) (tCons (tI .i64) (tCons (tI .i64) (tCons (tI .i64) (tCons (tI .i64) (tCons (tI .i64) (tCons (tI .i64) (tCons (tI .i64) (tCons (tI .i64) (tOne (tLz 2 (Rii.enc (0, 0))))))))))))))))) (tT (tCons (tG (tCons (tI .i64) (tCons (tI .i64) (tOne (tTL Riiii 4 (0, 0, 0, 0)))))) (tOne tB))) law07.polys.f
theorem law07.polys.ok : law07.polys.s.Ok Try.prog 39 :=
  summ_ok (hint := lookH law07.polys.hs) (fn := Try.f39) (fun x => 1000000) law07.polys.cs_ok (by kernel_rfl) (by kernel_rfl) (by kernel_rfl) (by kernel_rfl) (tCons_ok (tG_ok (tCons_ok (tI_ok _) (tCons_ok (tI_ok _) (tCons_ok (tI_ok _) (tCons_ok (tI_ok _) (tCons_ok (tI_ok _) (tCons_ok (tI_ok _) (tCons_ok (tI_ok _) (tCons_ok (tI_ok _) (tCons_ok (tI_ok _) (tCons_ok (tI_ok _) (tOne_ok (tLz_ok _ _))))))))))))) (tOne_ok (tG_ok (tCons_ok (tI_ok _) (tCons_ok (tI_ok _) (tCons_ok (tI_ok _) (tCons_ok (tI_ok _) (tCons_ok (tI_ok _) (tCons_ok (tI_ok _) (tCons_ok (tI_ok _) (tCons_ok (tI_ok _) (tCons_ok (tI_ok _) (tCons_ok (tI_ok _) (tOne_ok (tLz_ok _ _))))))))))))))) (tT_ok (tCons_ok (tG_ok (tCons_ok (tI_ok _) (tCons_ok (tI_ok _) (tOne_ok (tTL_ok Riiii_ok _ _))))) (tOne_ok tB_ok))) (fun _ => rfl)
noncomputable def law07.polys.l0 (k0 k1 : Nat) (v1 : Int) (v2 : Int) (v3 : Int) (v4 : Int) (v5 : Int) (v6 : Int) (v7 : Int) (v8 : Int) (v9 : Int) (v10 : Int) (v11 : Nat) (v12 : Nat → List AV) (v13 : Int) (v14 : Int) (v15 : Int) (v16 : Int) (v17 : Int) (v18 : Int) (v19 : Int) (v20 : Int) (v21 : Int) (v22 : Int) (v23 : Nat) (v24 : Nat → List AV) (v25 : Int) (v26 : Int) (v27 : Int) (v28 : Int) (v29 : Int) (v30 : Int) (v31 : Int) (v32 : Int) (v33 : Nat) (v34 : Nat → List AV) (v35 : Int) (v36 : Bool) (v37 : Int) (v38 : Nat) (v39 : Nat → List AV) (v40 : Int) (v41 : Int) : Option ((Int × Int × (Nat × (Nat → (Int × Int × Int × Int)))) × Bool) :=
  evLoop (lookH law07.polys.hs 0) 41 (ev law07.polys.G k0 (codeAt [1, 1, 1, 1, 1, 1, 1, 1, 1, 1, 1, 1, 0, 1, 0, 0] (bodyOf Try.f39)) 0) k1
  ⟨[.top, .top, .top, .top, .ptr 2 0 0, .top, .top, .lst 2 v33 none v34, .top, .top, .top, .top, .val (.int .i64 v35), .val (.bool v36), .ptr 23 0 0, .ptr 36 0 0, .ptr 37 0 0, .ptr 40 0 0, .top, .val (.int .i64 v37), .lst 2 v38 none v39, .top, .top, .top, .top, .top, .top, .top, .top, .top, .top, .top, .top, .top, .top, .top, .top, .top, .top, .top, .top, .top, .top, .top, .top, .top, .top, .top, .top, .top, .top, .top, .top, .top, .top, .top, .top, .top, .top, .top, .top, .top, .top, .top, .top, .top, .top, .top, .top, .top, .top, .top, .top, .top, .top, .top, .top, .top, .top, .top, .top, .top, .top, .top, .top, .top, .top, .top, .top, .top, .top, .top, .top, .top, .top, .top, .top, .top, .top, .top, .top, .top, .val (.int .i64 v40), .val (.int .i64 v41), .top, .top, .top, .top, .top, .top, .top, .top, .top, .top, .top, .top, .top, .top, .top, .top, .top, .top, .top, .top, .top, .top, .top, .top, .top, .top, .top, .top, .top, .top, .top, .top, .top, .top, .top, .top, .top, .top, .top, .top, .top, .top, .top, .top, .top, .top, .top, .top, .top, .top, .top, .top, .top, .top, .top, .top, .top, .top, .top, .top, .top, .top, .top, .top, .top, .top, .top, .top, .top, .top, .top, .top, .top, .top, .top, .top, .top, .top, .top, .top, .top, .top, .top, .top, .top, .top, .top, .top, .top, .top, .top, .top, .top], [.live ⟨false, 32, 11, 1, fun _ => [.val (.int .i64 v1), .val (.int .i64 v2), .val (.int .i64 v3), .val (.int .i64 v4), .val (.int .i64 v5), .val (.int .i64 v6), .val (.int .i64 v7), .val (.int .i64 v8), .val (.int .i64 v9), .val (.int .i64 v10), .lst 2 v11 none v12], none⟩, .live ⟨false, 32, 11, 1, fun _ => [.val (.int .i64 v13), .val (.int .i64 v14), .val (.int .i64 v15), .val (.int .i64 v16), .val (.int .i64 v17), .val (.int .i64 v18), .val (.int .i64 v19), .val (.int .i64 v20), .val (.int .i64 v21), .val (.int .i64 v22), .lst 2 v23 none v24], none⟩, .live ⟨false, 35, 3, 1, fun _ => [.val (.int .i64 0), .val (.int .i64 0), .val (.slice none 0 0)], none⟩, .free, .free, .free, .free, .free, .free, .free, .free, .free, .free, .free, .free, .free, .free, .free, .free, .free, .free, .free, .free, .live ⟨false, 24, 2, 1, fun _ => [.val (.int .i64 v25), .val (.int .i64 v26)], none⟩, .free, .free, .free, .free, .free, .free, .free, .free, .free, .free, .free, .free, .live ⟨false, 24, 2, 1, fun _ => [.val (.int .i64 v27), .val (.int .i64 v28)], none⟩, .live ⟨false, 24, 2, 1, fun _ => [.val (.int .i64 v29), .val (.int .i64 v30)], none⟩, .free, .free, .live ⟨false, 24, 2, 1, fun _ => [.val (.int .i64 v31), .val (.int .i64 v32)], none⟩]⟩
  (kBlock law07.polys.G 0 (kSeq law07.polys.G k0 (codeAt [1, 1, 1, 1, 1, 1, 1, 1, 1, 1, 1, 1, 1] (bodyOf Try.f39)) 0 (kFin law07.polys.G Try.f39 (tT (tCons (tG (tCons (tI .i64) (tCons (tI .i64) (tOne (tTL Riiii 4 (0, 0, 0, 0)))))) (tOne tB))).dec)))
theorem law07.polys.l0_eq (k0 k1 : Nat) (v1 : Int) (v2 : Int) (v3 : Int) (v4 : Int) (v5 : Int) (v6 : Int) (v7 : Int) (v8 : Int) (v9 : Int) (v10 : Int) (v11 : Nat) (v12 : Nat → (Int × Int)) (v13 : Int) (v14 : Int) (v15 : Int) (v16 : Int) (v17 : Int) (v18 : Int) (v19 : Int) (v20 : Int) (v21 : Int) (v22 : Int) (v23 : Nat) (v24 : Nat → (Int × Int)) (v25 : Int) (v26 : Int) (v27 : Int) (v28 : Int) (v29 : Int) (v30 : Int) (v31 : Int) (v32 : Int) (v33 : Nat) (v34 : Nat → (Int × Int)) (v35 : Int) (v36 : Bool) (v37 : Int) (v38 : Nat) (v39 : Nat → (Int × Int)) (v40 : Int) (v41 : Int) : law07.polys.l0 k0 (k1 + 1) v1 v2 v3 v4 v5 v6 v7 v8 v9 v10 v11 (fun i => Rii.enc (v12 i)) v13 v14 v15 v16 v17 v18 v19 v20 v21 v22 v23 (fun i => Rii.enc (v24 i)) v25 v26 v27 v28 v29 v30 v31 v32 v33 (fun i => Rii.enc (v34 i)) v35 v36 v37 v38 (fun i => Rii.enc (v39 i)) v40 v41 =
  bif (decide (v41 < v40)) then
    bif ((decide (0 ≤ v41)) && (decide (v41 < ((v38 : Nat) : Int)))) then
    (vec.Dot.f ((v25, v26), ((v39 (Int.toNat v41)).1, (v39 (Int.toNat v41)).2))).bind fun r11 =>
    bif ((decide (0 ≤ v37)) && (decide (v37 < ((v38 : Nat) : Int)))) then
    (vec.Dot.f ((v25, v26), ((v39 (Int.toNat v37)).1, (v39 (Int.toNat v37)).2))).bind fun r12 =>
    bif (decide (r11 < r12)) then
      law07.polys.l0 k0 k1 v1 v2 v3 v4 v5 v6 v7 v8 v9 v10 v11 (fun i => Rii.enc (v12 i)) v13 v14 v15 v16 v17 v18 v19 v20 v21 v22 v23 (fun i => Rii.enc (v24 i)) v25 v26 v27 v28 v29 v30 v31 v32 v33 (fun i => Rii.enc (v34 i)) v35 v36 v41 v38 (fun i => Rii.enc (v39 i)) v40 (IntKind.i64.wrap (v41 + 1))
    else
    law07.polys.l0 k0 k1 v1 v2 v3 v4 v5 v6 v7 v8 v9 v10 v11 (fun i => Rii.enc (v12 i)) v13 v14 v15 v16 v17 v18 v19 v20 v21 v22 v23 (fun i => Rii.enc (v24 i)) v25 v26 v27 v28 v29 v30 v31 v32 v33 (fun i => Rii.enc (v34 i)) v35 v36 v37 v38 (fun i => Rii.enc (v39 i)) v40 (IntKind.i64.wrap (v41 + 1))
    else none
    else none
  else
  bif ((decide (0 ≤ v37)) && (decide (v37 < ((v33 : Nat) : Int)))) then
  bif (decide (((v33 : Nat) : Int) ≠ 0)) then
  bif ((decide (0 ≤ (Int.tmod (IntKind.i64.wrap (v37 + 1)) ((v33 : Nat) : Int)))) && (decide ((Int.tmod (IntKind.i64.wrap (v37 + 1)) ((v33 : Nat) : Int)) < ((v33 : Nat) : Int)))) then
  (law07.cut.f (((v34 (Int.toNat v37)).1, (v34 (Int.toNat v37)).2), ((v34 (Int.toNat (Int.tmod (IntKind.i64.wrap (v37 + 1)) ((v33 : Nat) : Int)))).1, (v34 (Int.toNat (Int.tmod (IntKind.i64.wrap (v37 + 1)) ((v33 : Nat) : Int)))).2), (v27, v28), (v31, v32))).bind fun r13 =>
  bif (!r13.2.2) then
    (tT (tCons (tG (tCons (tI .i64) (tCons (tI .i64) (tOne (tTL Riiii 4 (0, 0, 0, 0)))))) (tOne tB))).dec (.tup [.agg [.val (.int .i64 0), .val (.int .i64 0), .val (.slice none 0 0)], .val (.bool false)])
  else
  (vec.Neg.f (v31, v32)).bind fun r14 =>
  (law07.cut.f ((r13.1.1, r13.1.2), (r13.2.1.1, r13.2.1.2), (v29, v30), (r14.1, r14.2))).bind fun r15 =>
  bif (!r15.2.2) then
    (tT (tCons (tG (tCons (tI .i64) (tCons (tI .i64) (tOne (tTL Riiii 4 (0, 0, 0, 0)))))) (tOne tB))).dec (.tup [.agg [.val (.int .i64 0), .val (.int .i64 0), .val (.slice none 0 0)], .val (.bool false)])
  else
  bif v36 then
    (vec.Neg.f (v25, v26)).bind fun r16 =>
    (vec.Sub.f ((r15.1.1, r15.1.2), (v27, v28))).bind fun r17 =>
    (vec.Dot.f ((v25, v26), (r17.1, r17.2))).bind fun r18 =>
    bif (decide ((IntKind.i64.wrap (0 - r18)) > 0)) then
      (vec.Sub.f ((r15.2.1.1, r15.2.1.2), (v27, v28))).bind fun r19 =>
      (vec.Dot.f ((v25, v26), (r19.1, r19.2))).bind fun r20 =>
      bif (decide ((IntKind.i64.wrap (0 - r20)) > 0)) then
        (tT (tCons (tG (tCons (tI .i64) (tCons (tI .i64) (tOne (tTL Riiii 4 (0, 0, 0, 0)))))) (tOne tB))).dec (.tup [.agg [.val (.int .i64 r16.1), .val (.int .i64 r16.2), .lst 4 2 none (fun i => cloL (if i = 1 then Riiii.enc (r15.2.1.1, r15.2.1.2, (IntKind.i64.wrap (0 - r20)), (IntKind.i64.wrap (v35 + 1))) else if i = 0 then Riiii.enc (r15.1.1, r15.1.2, (IntKind.i64.wrap (0 - r18)), (IntKind.i64.wrap (v35 + 0))) else Riiii.enc (0, 0, 0, 0)))], .val (.bool true)])
      else
      (tT (tCons (tG (tCons (tI .i64) (tCons (tI .i64) (tOne (tTL Riiii 4 (0, 0, 0, 0)))))) (tOne tB))).dec (.tup [.agg [.val (.int .i64 r16.1), .val (.int .i64 r16.2), .lst 4 1 none (fun i => cloL (if i = 0 then Riiii.enc (r15.1.1, r15.1.2, (IntKind.i64.wrap (0 - r18)), (IntKind.i64.wrap (v35 + 0))) else Riiii.enc (0, 0, 0, 0)))], .val (.bool true)])
    else
    (vec.Sub.f ((r15.2.1.1, r15.2.1.2), (v27, v28))).bind fun r21 =>
    (vec.Dot.f ((v25, v26), (r21.1, r21.2))).bind fun r22 =>
    bif (decide ((IntKind.i64.wrap (0 - r22)) > 0)) then
      (tT (tCons (tG (tCons (tI .i64) (tCons (tI .i64) (tOne (tTL Riiii 4 (0, 0, 0, 0)))))) (tOne tB))).dec (.tup [.agg [.val (.int .i64 r16.1), .val (.int .i64 r16.2), .lst 4 1 none (fun i => cloL (if i = 0 then Riiii.enc (r15.2.1.1, r15.2.1.2, (IntKind.i64.wrap (0 - r22)), (IntKind.i64.wrap (v35 + 1))) else Riiii.enc (0, 0, 0, 0)))], .val (.bool true)])
    else
    (tT (tCons (tG (tCons (tI .i64) (tCons (tI .i64) (tOne (tTL Riiii 4 (0, 0, 0, 0)))))) (tOne tB))).dec (.tup [.agg [.val (.int .i64 0), .val (.int .i64 0), .val (.slice none 0 0)], .val (.bool false)])
  else
  (vec.Sub.f ((r15.1.1, r15.1.2), (v27, v28))).bind fun r23 =>
  (vec.Dot.f ((v25, v26), (r23.1, r23.2))).bind fun r24 =>
  bif (decide ((IntKind.i64.wrap (0 - r24)) > 0)) then
    (vec.Sub.f ((r15.2.1.1, r15.2.1.2), (v27, v28))).bind fun r25 =>
    (vec.Dot.f ((v25, v26), (r25.1, r25.2))).bind fun r26 =>
    bif (decide ((IntKind.i64.wrap (0 - r26)) > 0)) then
      (tT (tCons (tG (tCons (tI .i64) (tCons (tI .i64) (tOne (tTL Riiii 4 (0, 0, 0, 0)))))) (tOne tB))).dec (.tup [.agg [.val (.int .i64 v25), .val (.int .i64 v26), .lst 4 2 none (fun i => cloL (if i = 1 then Riiii.enc (r15.2.1.1, r15.2.1.2, (IntKind.i64.wrap (0 - r26)), (IntKind.i64.wrap (v35 + 1))) else if i = 0 then Riiii.enc (r15.1.1, r15.1.2, (IntKind.i64.wrap (0 - r24)), (IntKind.i64.wrap (v35 + 0))) else Riiii.enc (0, 0, 0, 0)))], .val (.bool true)])
    else
    (tT (tCons (tG (tCons (tI .i64) (tCons (tI .i64) (tOne (tTL Riiii 4 (0, 0, 0, 0)))))) (tOne tB))).dec (.tup [.agg [.val (.int .i64 v25), .val (.int .i64 v26), .lst 4 1 none (fun i => cloL (if i = 0 then Riiii.enc (r15.1.1, r15.1.2, (IntKind.i64.wrap (0 - r24)), (IntKind.i64.wrap (v35 + 0))) else Riiii.enc (0, 0, 0, 0)))], .val (.bool true)])
  else
  (vec.Sub.f ((r15.2.1.1, r15.2.1.2), (v27, v28))).bind fun r27 =>
  (vec.Dot.f ((v25, v26), (r27.1, r27.2))).bind fun r28 =>
  bif (decide ((IntKind.i64.wrap (0 - r28)) > 0)) then
    (tT (tCons (tG (tCons (tI .i64) (tCons (tI .i64) (tOne (tTL Riiii 4 (0, 0, 0, 0)))))) (tOne tB))).dec (.tup [.agg [.val (.int .i64 v25), .val (.int .i64 v26), .lst 4 1 none (fun i => cloL (if i = 0 then Riiii.enc (r15.2.1.1, r15.2.1.2, (IntKind.i64.wrap (0 - r28)), (IntKind.i64.wrap (v35 + 1))) else Riiii.enc (0, 0, 0, 0)))], .val (.bool true)])
  else
  (tT (tCons (tG (tCons (tI .i64) (tCons (tI .i64) (tOne (tTL Riiii 4 (0, 0, 0, 0)))))) (tOne tB))).dec (.tup [.agg [.val (.int .i64 0), .val (.int .i64 0), .val (.slice none 0 0)], .val (.bool false)])
  else none
  else none
  else none := by kernel_rfl
theorem law07.polys.eq (k0 : Nat) (p0_0 : Int) (p0_1 : Int) (p0_2 : Int) (p0_3 : Int) (p0_4 : Int) (p0_5 : Int) (p0_6 : Int) (p0_7 : Int) (p0_8 : Int) (p0_9 : Int) (p0_10_n : Nat) (p0_10_g : Nat → (Int × Int)) (p1_0 : Int) (p1_1 : Int) (p1_2 : Int) (p1_3 : Int) (p1_4 : Int) (p1_5 : Int) (p1_6 : Int) (p1_7 : Int) (p1_8 : Int) (p1_9 : Int) (p1_10_n : Nat) (p1_10_g : Nat → (Int × Int)) : law07.polys.g k0 ((p0_0, p0_1, p0_2, p0_3, p0_4, p0_5, p0_6, p0_7, p0_8, p0_9, (p0_10_n, (fun i => Rii.enc (p0_10_g i)))), (p1_0, p1_1, p1_2, p1_3, p1_4, p1_5, p1_6, p1_7, p1_8, p1_9, (p1_10_n, (fun i => Rii.enc (p1_10_g i))))) =
  (law07.corners.f (p0_0, p0_1, p0_2, p0_3, p0_4, p0_5, p0_6, p0_7, p0_8, p0_9, (p0_10_n, (fun i => Rii.enc (p0_10_g i))))).bind fun r1 =>
  (law07.corners.f (p1_0, p1_1, p1_2, p1_3, p1_4, p1_5, p1_6, p1_7, p1_8, p1_9, (p1_10_n, (fun i => Rii.enc (p1_10_g i))))).bind fun r2 =>
  (law07.gaps.f ((r1.1, (fun i => Rii.enc (r1.2 i))), (r2.1, (fun i => Rii.enc (r2.2 i))))).bind fun r3 =>
  (law07.gaps.f ((r2.1, (fun i => Rii.enc (r2.2 i))), (r1.1, (fun i => Rii.enc (r1.2 i))))).bind fun r4 =>
  (law07.first.f (r3.1, (fun i => Ri.enc (r3.2 i)))).bind fun r5 =>
  (law07.first.f (r4.1, (fun i => Ri.enc (r4.2 i)))).bind fun r6 =>
  bif ((decide (0 ≤ r5)) && (decide (r5 < ((r3.1 : Nat) : Int)))) then
  bif (decide ((r3.2 (Int.toNat r5)) ≥ 0)) then
    (tT (tCons (tG (tCons (tI .i64) (tCons (tI .i64) (tOne (tTL Riiii 4 (0, 0, 0, 0)))))) (tOne tB))).dec (.tup [.agg [.val (.int .i64 0), .val (.int .i64 0), .val (.slice none 0 0)], .val (.bool false)])
  else
  bif ((decide (0 ≤ r6)) && (decide (r6 < ((r4.1 : Nat) : Int)))) then
  bif (decide ((r4.2 (Int.toNat r6)) ≥ 0)) then
    (tT (tCons (tG (tCons (tI .i64) (tCons (tI .i64) (tOne (tTL Riiii 4 (0, 0, 0, 0)))))) (tOne tB))).dec (.tup [.agg [.val (.int .i64 0), .val (.int .i64 0), .val (.slice none 0 0)], .val (.bool false)])
  else
  bif ((decide (0 ≤ r6)) && (decide (r6 < ((r4.1 : Nat) : Int)))) then
  bif ((decide (0 ≤ r5)) && (decide (r5 < ((r3.1 : Nat) : Int)))) then
  bif (decide ((r4.2 (Int.toNat r6)) > (r3.2 (Int.toNat r5)))) then
    (shape.Normals.f (r2.1, (fun i => Rii.enc (r2.2 i)))).bind fun r7 =>
    bif ((decide (0 ≤ r6)) && (decide (r6 < ((r7.1 : Nat) : Int)))) then
    bif ((decide (0 ≤ r6)) && (decide (r6 < ((r2.1 : Nat) : Int)))) then
    bif (decide (((r2.1 : Nat) : Int) ≠ 0)) then
    bif ((decide (0 ≤ (Int.tmod (IntKind.i64.wrap (r6 + 1)) ((r2.1 : Nat) : Int)))) && (decide ((Int.tmod (IntKind.i64.wrap (r6 + 1)) ((r2.1 : Nat) : Int)) < ((r2.1 : Nat) : Int)))) then
    (vec.Sub.f (((r2.2 (Int.toNat (Int.tmod (IntKind.i64.wrap (r6 + 1)) ((r2.1 : Nat) : Int)))).1, (r2.2 (Int.toNat (Int.tmod (IntKind.i64.wrap (r6 + 1)) ((r2.1 : Nat) : Int)))).2), ((r2.2 (Int.toNat r6)).1, (r2.2 (Int.toNat r6)).2))).bind fun r8 =>
    (vec.Unit.f (r8.1, r8.2)).bind fun r9 =>
    (shape.Normals.f (r1.1, (fun i => Rii.enc (r1.2 i)))).bind fun r10 =>
    law07.polys.l0 k0 k0 p0_0 p0_1 p0_2 p0_3 p0_4 p0_5 p0_6 p0_7 p0_8 p0_9 p0_10_n (fun i => Rii.enc (p0_10_g i)) p1_0 p1_1 p1_2 p1_3 p1_4 p1_5 p1_6 p1_7 p1_8 p1_9 p1_10_n (fun i => Rii.enc (p1_10_g i)) (r7.2 (Int.toNat r6)).1 (r7.2 (Int.toNat r6)).2 (r2.2 (Int.toNat r6)).1 (r2.2 (Int.toNat r6)).2 (r2.2 (Int.toNat (Int.tmod (IntKind.i64.wrap (r6 + 1)) ((r2.1 : Nat) : Int)))).1 (r2.2 (Int.toNat (Int.tmod (IntKind.i64.wrap (r6 + 1)) ((r2.1 : Nat) : Int)))).2 r9.1.1 r9.1.2 r1.1 (fun i => Rii.enc (r1.2 i)) (IntKind.i64.wrap (64 + (IntKind.i64.wrap (2 * r6)))) (decide ((r4.2 (Int.toNat r6)) > (r3.2 (Int.toNat r5)))) 0 r10.1 (fun i => Rii.enc (r10.2 i)) ((r10.1 : Nat) : Int) 0
    else none
    else none
    else none
    else none
  else
  (shape.Normals.f (r1.1, (fun i => Rii.enc (r1.2 i)))).bind fun r29 =>
  bif ((decide (0 ≤ r5)) && (decide (r5 < ((r29.1 : Nat) : Int)))) then
  bif ((decide (0 ≤ r5)) && (decide (r5 < ((r1.1 : Nat) : Int)))) then
  bif (decide (((r1.1 : Nat) : Int) ≠ 0)) then
  bif ((decide (0 ≤ (Int.tmod (IntKind.i64.wrap (r5 + 1)) ((r1.1 : Nat) : Int)))) && (decide ((Int.tmod (IntKind.i64.wrap (r5 + 1)) ((r1.1 : Nat) : Int)) < ((r1.1 : Nat) : Int)))) then
  (vec.Sub.f (((r1.2 (Int.toNat (Int.tmod (IntKind.i64.wrap (r5 + 1)) ((r1.1 : Nat) : Int)))).1, (r1.2 (Int.toNat (Int.tmod (IntKind.i64.wrap (r5 + 1)) ((r1.1 : Nat) : Int)))).2), ((r1.2 (Int.toNat r5)).1, (r1.2 (Int.toNat r5)).2))).bind fun r30 =>
  (vec.Unit.f (r30.1, r30.2)).bind fun r31 =>
  (shape.Normals.f (r2.1, (fun i => Rii.enc (r2.2 i)))).bind fun r32 =>
  law07.polys.l0 k0 k0 p0_0 p0_1 p0_2 p0_3 p0_4 p0_5 p0_6 p0_7 p0_8 p0_9 p0_10_n (fun i => Rii.enc (p0_10_g i)) p1_0 p1_1 p1_2 p1_3 p1_4 p1_5 p1_6 p1_7 p1_8 p1_9 p1_10_n (fun i => Rii.enc (p1_10_g i)) (r29.2 (Int.toNat r5)).1 (r29.2 (Int.toNat r5)).2 (r1.2 (Int.toNat r5)).1 (r1.2 (Int.toNat r5)).2 (r1.2 (Int.toNat (Int.tmod (IntKind.i64.wrap (r5 + 1)) ((r1.1 : Nat) : Int)))).1 (r1.2 (Int.toNat (Int.tmod (IntKind.i64.wrap (r5 + 1)) ((r1.1 : Nat) : Int)))).2 r31.1.1 r31.1.2 r2.1 (fun i => Rii.enc (r2.2 i)) (IntKind.i64.wrap (32 + (IntKind.i64.wrap (2 * r5)))) (decide ((r4.2 (Int.toNat r6)) > (r3.2 (Int.toNat r5)))) 0 r32.1 (fun i => Rii.enc (r32.2 i)) ((r32.1 : Nat) : Int) 0
  else none
  else none
  else none
  else none
  else none
  else none
  else none
  else none := by kernel_rfl
/-! ### bagatelle/bagatellelaw07.Wanted -/
noncomputable def law07.Wanted.cs : List (Nat × Fw.Summ) := [(37, law07.rounds.s), (38, law07.mixed.s), (14, vec.Neg.s), (39, law07.polys.s)]
theorem law07.Wanted.cs_ok : SumsOk Try.prog law07.Wanted.cs := .cons law07.rounds.ok (.cons law07.mixed.ok (.cons vec.Neg.ok (.cons law07.polys.ok (.nil))))
def law07.Wanted.hs : List (Nat × LHint) := []
noncomputable def law07.Wanted.G : Ctx := ⟨Try.prog, sumAt law07.Wanted.cs, lookH law07.Wanted.hs, true⟩
noncomputable def law07.Wanted.f (x : ((Int × Int × Int × Int × Int × Int × Int × Int × Int × Int × (Nat × (Nat → List AV))) × (Int × Int × Int × Int × Int × Int × Int × Int × Int × Int × (Nat × (Nat → List AV))))) : Option ((Int × Int × (Nat × (Nat → (Int × Int × Int × Int)))) × Bool) := evF law07.Wanted.G 0 Try.f16 ((tCons (tG (tCons (tI .i64) (tCons (tI .i64) (tCons (tI .i64) (tCons (tI .i64) (tCons (tI .i64) (tCons (tI .i64) (tCons (tI .i64) (tCons (tI .i64) (tCons (tI .i64) (tCons (tI .i64) (tOne (tLz 2 (Rii.enc (0, 0))))))))))))))) (tOne (tG (tCons (tI .i64) (tCons (tI .i64) (tCons (tI .i64) (tCons (tI .i64) (tCons (tI .i64) (tCons (tI .i64) (tCons (tI .i64) (tCons (tI .i64) (tCons (tI .i64) (tCons (tI .i64) (tOne (tLz 2 (Rii.enc (0, 0))))))))))))))))).enc x) (tT (tCons (tG (tCons (tI .i64) (tCons (tI .i64) (tOne (tTL Riiii 4 (0, 0, 0, 0)))))) (tOne tB))).dec
noncomputable def law07.Wanted.s : Fw.Summ := .mk' (tCons (tG (tCons (tI .i64) (tCons (tI .i64) (tCons (tI .i64) (tCons (tI .i64) (tCons (tI .i64) (tCons (tI .i64) (tCons (tI .i64) (tCons (tI .i64) (tCons (tI .i64) (tCons (tI .i64) (tOne (tLz 2 (Rii.enc (0, 0))))))))))))))) (tOne (tG (tCons (tI .i64) (tCons (tI .i64) (tCons (tI .i64) (tCons (tI .i64) (tCons (tI .i64) (tCons (tI .i64) (tCons (tI .i64) (tCons (tI .i64) (tCons (tI .i64) (tCons (tI .i64) (tOne (tLz 2 (Rii.enc (0, 0))))))))))))))))) (tT (tCons (tG (tCons (tI .i64) (tCons (tI .i64) (tOne (tTL Riiii 4 (0, 0, 0, 0)))))) (tOne tB))) law07.Wanted.f
theorem law07.Wanted.ok : law07.Wanted.s.Ok Try.prog 16 :=
  summ_ok (hint := lookH law07.Wanted.hs) (fn := Try.f16) (fun x => 0) law07.Wanted.cs_ok (by kernel_rfl) (by kernel_rfl) (by kernel_rfl) (by kernel_rfl) (tCons_ok (tG_ok (tCons_ok (tI_ok _) (tCons_ok (tI_ok _) (tCons_ok (tI_ok _) (tCons_ok (tI_ok _) (tCons_ok (tI_ok _) (tCons_ok (tI_ok _) (tCons_ok (tI_ok _) (tCons_ok (tI_ok _) (tCons_ok (tI_ok _) (tCons_ok (tI_ok _) (tOne_ok (tLz_ok _ _))))))))))))) (tOne_ok (tG_ok (tCons_ok (tI_ok _) (tCons_ok (tI_ok _) (tCons_ok (tI_ok _) (tCons_ok (tI_ok _) (tCons_ok (tI_ok _) (tCons_ok (tI_ok _) (tCons_ok (tI_ok _) (tCons_ok (tI_ok _) (tCons_ok (tI_ok _) (tCons_ok (tI_ok _) (tOne_ok (tLz_ok _ _))))))))))))))) (tT_ok (tCons_ok (tG_ok (tCons_ok (tI_ok _) (tCons_ok (tI_ok _) (tOne_ok (tTL_ok Riiii_ok _ _))))) (tOne_ok tB_ok))) (fun _ => rfl)
theorem law07.Wanted.eq (p0_0 : Int) (p0_1 : Int) (p0_2 : Int) (p0_3 : Int) (p0_4 : Int) (p0_5 : Int) (p0_6 : Int) (p0_7 : Int) (p0_8 : Int) (p0_9 : Int) (p0_10_n : Nat) (p0_10_g : Nat → (Int × Int)) (p1_0 : Int) (p1_1 : Int) (p1_2 : Int) (p1_3 : Int) (p1_4 : Int) (p1_5 : Int) (p1_6 : Int) (p1_7 : Int) (p1_8 : Int) (p1_9 : Int) (p1_10_n : Nat) (p1_10_g : Nat → (Int × Int)) : law07.Wanted.f ((p0_0, p0_1, p0_2, p0_3, p0_4, p0_5, p0_6, p0_7, p0_8, p0_9, (p0_10_n, (fun i => Rii.enc (p0_10_g i)))), (p1_0, p1_1, p1_2, p1_3, p1_4, p1_5, p1_6, p1_7, p1_8, p1_9, (p1_10_n, (fun i => Rii.enc (p1_10_g i))))) =
  bif (p0_8 == 1) then
    bif (p1_8 == 1) then
      (law07.rounds.f ((p0_0, p0_1, p0_2, p0_3, p0_4, p0_5, p0_6, p0_7, p0_8, p0_9, (p0_10_n, (fun i => Rii.enc (p0_10_g i)))), (p1_0, p1_1, p1_2, p1_3, p1_4, p1_5, p1_6, p1_7, p1_8, p1_9, (p1_10_n, (fun i => Rii.enc (p1_10_g i)))))).bind fun r1 =>
      (tT (tCons (tG (tCons (tI .i64) (tCons (tI .i64) (tOne (tTL Riiii 4 (0, 0, 0, 0)))))) (tOne tB))).dec (.tup [.agg [.val (.int .i64 r1.1.1), .val (.int .i64 r1.1.2.1), .lst 4 r1.1.2.2.1 none (fun i => Riiii.enc (r1.1.2.2.2 i))], .val (.bool r1.2)])
    else
    bif (p1_8 == 1) then
      (law07.mixed.f ((p0_0, p0_1, p0_2, p0_3, p0_4, p0_5, p0_6, p0_7, p0_8, p0_9, (p0_10_n, (fun i => Rii.enc (p0_10_g i)))), (p1_0, p1_1, p1_2, p1_3, p1_4, p1_5, p1_6, p1_7, p1_8, p1_9, (p1_10_n, (fun i => Rii.enc (p1_10_g i)))))).bind fun r2 =>
      (tT (tCons (tG (tCons (tI .i64) (tCons (tI .i64) (tOne (tTL Riiii 4 (0, 0, 0, 0)))))) (tOne tB))).dec (.tup [.agg [.val (.int .i64 r2.1.1), .val (.int .i64 r2.1.2.1), .lst 4 r2.1.2.2.1 none (fun i => Riiii.enc (r2.1.2.2.2 i))], .val (.bool r2.2)])
    else
    bif (p0_8 == 1) then
      (law07.mixed.f ((p1_0, p1_1, p1_2, p1_3, p1_4, p1_5, p1_6, p1_7, p1_8, p1_9, (p1_10_n, (fun i => Rii.enc (p1_10_g i)))), (p0_0, p0_1, p0_2, p0_3, p0_4, p0_5, p0_6, p0_7, p0_8, p0_9, (p0_10_n, (fun i => Rii.enc (p0_10_g i)))))).bind fun r3 =>
      bif r3.2 then
        (vec.Neg.f (r3.1.1, r3.1.2.1)).bind fun r4 =>
        (tT (tCons (tG (tCons (tI .i64) (tCons (tI .i64) (tOne (tTL Riiii 4 (0, 0, 0, 0)))))) (tOne tB))).dec (.tup [.agg [.val (.int .i64 r4.1), .val (.int .i64 r4.2), .lst 4 r3.1.2.2.1 none (fun i => Riiii.enc (r3.1.2.2.2 i))], .val (.bool r3.2)])
      else
      (tT (tCons (tG (tCons (tI .i64) (tCons (tI .i64) (tOne (tTL Riiii 4 (0, 0, 0, 0)))))) (tOne tB))).dec (.tup [.agg [.val (.int .i64 r3.1.1), .val (.int .i64 r3.1.2.1), .lst 4 r3.1.2.2.1 none (fun i => Riiii.enc (r3.1.2.2.2 i))], .val (.bool r3.2)])
    else
    (law07.polys.f ((p0_0, p0_1, p0_2, p0_3, p0_4, p0_5, p0_6, p0_7, p0_8, p0_9, (p0_10_n, (fun i => Rii.enc (p0_10_g i)))), (p1_0, p1_1, p1_2, p1_3, p1_4, p1_5, p1_6, p1_7, p1_8, p1_9, (p1_10_n, (fun i => Rii.enc (p1_10_g i)))))).bind fun r5 =>
    (tT (tCons (tG (tCons (tI .i64) (tCons (tI .i64) (tOne (tTL Riiii 4 (0, 0, 0, 0)))))) (tOne tB))).dec (.tup [.agg [.val (.int .i64 r5.1.1), .val (.int .i64 r5.1.2.1), .lst 4 r5.1.2.2.1 none (fun i => Riiii.enc (r5.1.2.2.2 i))], .val (.bool r5.2)])
  else
  bif (p1_8 == 1) then
    (law07.mixed.f ((p0_0, p0_1, p0_2, p0_3, p0_4, p0_5, p0_6, p0_7, p0_8, p0_9, (p0_10_n, (fun i => Rii.enc (p0_10_g i)))), (p1_0, p1_1, p1_2, p1_3, p1_4, p1_5, p1_6, p1_7, p1_8, p1_9, (p1_10_n, (fun i => Rii.enc (p1_10_g i)))))).bind fun r6 =>
    (tT (tCons (tG (tCons (tI .i64) (tCons (tI .i64) (tOne (tTL Riiii 4 (0, 0, 0, 0)))))) (tOne tB))).dec (.tup [.agg [.val (.int .i64 r6.1.1), .val (.int .i64 r6.1.2.1), .lst 4 r6.1.2.2.1 none (fun i => Riiii.enc (r6.1.2.2.2 i))], .val (.bool r6.2)])
  else
  bif (p0_8 == 1) then
    (law07.mixed.f ((p1_0, p1_1, p1_2, p1_3, p1_4, p1_5, p1_6, p1_7, p1_8, p1_9, (p1_10_n, (fun i => Rii.enc (p1_10_g i)))), (p0_0, p0_1, p0_2, p0_3, p0_4, p0_5, p0_6, p0_7, p0_8, p0_9, (p0_10_n, (fun i => Rii.enc (p0_10_g i)))))).bind fun r7 =>
    bif r7.2 then
      (vec.Neg.f (r7.1.1, r7.1.2.1)).bind fun r8 =>
      (tT (tCons (tG (tCons (tI .i64) (tCons (tI .i64) (tOne (tTL Riiii 4 (0, 0, 0, 0)))))) (tOne tB))).dec (.tup [.agg [.val (.int .i64 r8.1), .val (.int .i64 r8.2), .lst 4 r7.1.2.2.1 none (fun i => Riiii.enc (r7.1.2.2.2 i))], .val (.bool r7.2)])
    else
    (tT (tCons (tG (tCons (tI .i64) (tCons (tI .i64) (tOne (tTL Riiii 4 (0, 0, 0, 0)))))) (tOne tB))).dec (.tup [.agg [.val (.int .i64 r7.1.1), .val (.int .i64 r7.1.2.1), .lst 4 r7.1.2.2.1 none (fun i => Riiii.enc (r7.1.2.2.2 i))], .val (.bool r7.2)])
  else
  (law07.polys.f ((p0_0, p0_1, p0_2, p0_3, p0_4, p0_5, p0_6, p0_7, p0_8, p0_9, (p0_10_n, (fun i => Rii.enc (p0_10_g i)))), (p1_0, p1_1, p1_2, p1_3, p1_4, p1_5, p1_6, p1_7, p1_8, p1_9, (p1_10_n, (fun i => Rii.enc (p1_10_g i)))))).bind fun r9 =>
  (tT (tCons (tG (tCons (tI .i64) (tCons (tI .i64) (tOne (tTL Riiii 4 (0, 0, 0, 0)))))) (tOne tB))).dec (.tup [.agg [.val (.int .i64 r9.1.1), .val (.int .i64 r9.1.2.1), .lst 4 r9.1.2.2.1 none (fun i => Riiii.enc (r9.1.2.2.2 i))], .val (.bool r9.2)]) := by kernel_rfl
/-! ### bagatelle/bagatellelaw07.TouchTells -/
noncomputable def law07.TouchTells.cs : List (Nat × Fw.Summ) := [(9, law07.fit.s), (15, law06.Place.Body.s), (11, touch.Of.s), (16, law07.Wanted.s), (17, law07.same.s)]
theorem law07.TouchTells.cs_ok : SumsOk Try.prog law07.TouchTells.cs := .cons law07.fit.ok (.cons law06.Place.Body.ok (.cons touch.Of.ok (.cons law07.Wanted.ok (.cons law07.same.ok (.nil)))))
def law07.TouchTells.hs : List (Nat × LHint) := []
noncomputable def law07.TouchTells.G : Ctx := ⟨Try.prog, sumAt law07.TouchTells.cs, lookH law07.TouchTells.hs, true⟩
noncomputable def law07.TouchTells.f (x : ((Int × Int × Int × Int × Int × Int × Int) × (Int × Int × Int × Int × Int × Int × Int))) : Option Bool := evF law07.TouchTells.G 0 Try.f4 ((tCons (tG (tCons (tI .i64) (tCons (tI .i64) (tCons (tI .i64) (tCons (tI .i64) (tCons (tI .i64) (tCons (tI .i64) (tOne (tI .i64))))))))) (tOne (tG (tCons (tI .i64) (tCons (tI .i64) (tCons (tI .i64) (tCons (tI .i64) (tCons (tI .i64) (tCons (tI .i64) (tOne (tI .i64))))))))))).enc x) tB.dec
noncomputable def law07.TouchTells.s : Fw.Summ := .mk' (tCons (tG (tCons (tI .i64) (tCons (tI .i64) (tCons (tI .i64) (tCons (tI .i64) (tCons (tI .i64) (tCons (tI .i64) (tOne (tI .i64))))))))) (tOne (tG (tCons (tI .i64) (tCons (tI .i64) (tCons (tI .i64) (tCons (tI .i64) (tCons (tI .i64) (tCons (tI .i64) (tOne (tI .i64))))))))))) tB law07.TouchTells.f
theorem law07.TouchTells.ok : law07.TouchTells.s.Ok Try.prog 4 :=
  summ_ok (hint := lookH law07.TouchTells.hs) (fn := Try.f4) (fun x => 0) law07.TouchTells.cs_ok (by kernel_rfl) (by kernel_rfl) (by kernel_rfl) (by kernel_rfl) (tCons_ok (tG_ok (tCons_ok (tI_ok _) (tCons_ok (tI_ok _) (tCons_ok (tI_ok _) (tCons_ok (tI_ok _) (tCons_ok (tI_ok _) (tCons_ok (tI_ok _) (tOne_ok (tI_ok _))))))))) (tOne_ok (tG_ok (tCons_ok (tI_ok _) (tCons_ok (tI_ok _) (tCons_ok (tI_ok _) (tCons_ok (tI_ok _) (tCons_ok (tI_ok _) (tCons_ok (tI_ok _) (tOne_ok (tI_ok _))))))))))) tB_ok (fun _ => rfl)
theorem law07.TouchTells.eq (p0_0 : Int) (p0_1 : Int) (p0_2 : Int) (p0_3 : Int) (p0_4 : Int) (p0_5 : Int) (p0_6 : Int) (p1_0 : Int) (p1_1 : Int) (p1_2 : Int) (p1_3 : Int) (p1_4 : Int) (p1_5 : Int) (p1_6 : Int) : law07.TouchTells.f ((p0_0, p0_1, p0_2, p0_3, p0_4, p0_5, p0_6), (p1_0, p1_1, p1_2, p1_3, p1_4, p1_5, p1_6)) =
  (law07.fit.f ()).bind fun r1 =>
  bif (!r1) then
    some false
  else
  (law06.Place.Body.f (p0_0, p0_1, p0_2, p0_3, p0_4, p0_5, p0_6)).bind fun r2 =>
  (law06.Place.Body.f (p1_0, p1_1, p1_2, p1_3, p1_4, p1_5, p1_6)).bind fun r3 =>
  (touch.Of.f ((r2.1, r2.2.1, r2.2.2.1, r2.2.2.2.1, r2.2.2.2.2.1, r2.2.2.2.2.2.1, r2.2.2.2.2.2.2.1, r2.2.2.2.2.2.2.2.1, r2.2.2.2.2.2.2.2.2.1, r2.2.2.2.2.2.2.2.2.2.1, (r2.2.2.2.2.2.2.2.2.2.2.1, (fun i => Rii.enc (r2.2.2.2.2.2.2.2.2.2.2.2 i)))), (r3.1, r3.2.1, r3.2.2.1, r3.2.2.2.1, r3.2.2.2.2.1, r3.2.2.2.2.2.1, r3.2.2.2.2.2.2.1, r3.2.2.2.2.2.2.2.1, r3.2.2.2.2.2.2.2.2.1, r3.2.2.2.2.2.2.2.2.2.1, (r3.2.2.2.2.2.2.2.2.2.2.1, (fun i => Rii.enc (r3.2.2.2.2.2.2.2.2.2.2.2 i)))))).bind fun r4 =>
  (law07.Wanted.f ((r2.1, r2.2.1, r2.2.2.1, r2.2.2.2.1, r2.2.2.2.2.1, r2.2.2.2.2.2.1, r2.2.2.2.2.2.2.1, r2.2.2.2.2.2.2.2.1, r2.2.2.2.2.2.2.2.2.1, r2.2.2.2.2.2.2.2.2.2.1, (r2.2.2.2.2.2.2.2.2.2.2.1, (fun i => Rii.enc (r2.2.2.2.2.2.2.2.2.2.2.2 i)))), (r3.1, r3.2.1, r3.2.2.1, r3.2.2.2.1, r3.2.2.2.2.1, r3.2.2.2.2.2.1, r3.2.2.2.2.2.2.1, r3.2.2.2.2.2.2.2.1, r3.2.2.2.2.2.2.2.2.1, r3.2.2.2.2.2.2.2.2.2.1, (r3.2.2.2.2.2.2.2.2.2.2.1, (fun i => Rii.enc (r3.2.2.2.2.2.2.2.2.2.2.2 i)))))).bind fun r5 =>
  bif (r4.2 == r5.2) then
    (law07.same.f ((r4.1.1, r4.1.2.1, (r4.1.2.2.1, (fun i => Riiii.enc (r4.1.2.2.2 i)))), (r5.1.1, r5.1.2.1, (r5.1.2.2.1, (fun i => Riiii.enc (r5.1.2.2.2 i)))))).bind fun r6 =>
    some r6
  else
  some false := by kernel_rfl
/-! ### bagatelle/bagatellelaw07.TouchMoved -/
noncomputable def law07.TouchMoved.cs : List (Nat × Fw.Summ) := [(9, law07.fit.s), (15, law06.Place.Body.s), (10, vec.Bring.s), (11, touch.Of.s), (22, vec.Add.s)]
theorem law07.TouchMoved.cs_ok : SumsOk Try.prog law07.TouchMoved.cs := .cons law07.fit.ok (.cons law06.Place.Body.ok (.cons vec.Bring.ok (.cons touch.Of.ok (.cons vec.Add.ok (.nil)))))
def law07.TouchMoved.hs : List (Nat × LHint) := [(0, { mat := [], live := [5, 11, 66, 67, 68], ren := [] })]
noncomputable def law07.TouchMoved.G : Ctx := ⟨Try.prog, sumAt law07.TouchMoved.cs, lookH law07.TouchMoved.hs, true⟩
noncomputable def law07.TouchMoved.g (k0 : Nat) (x : ((Int × Int × Int × Int × Int × Int × Int) × (Int × Int × Int × Int × Int × Int × Int) × (Int × Int))) : Option Bool := evF law07.TouchMoved.G k0 Try.f6 ((tCons (tG (tCons (tI .i64) (tCons (tI .i64) (tCons (tI .i64) (tCons (tI .i64) (tCons (tI .i64) (tCons (tI .i64) (tOne (tI .i64))))))))) (tCons (tG (tCons (tI .i64) (tCons (tI .i64) (tCons (tI .i64) (tCons (tI .i64) (tCons (tI .i64) (tCons (tI .i64) (tOne (tI .i64))))))))) (tOne (tG (tCons (tI .i64) (tOne (tI .i64))))))).enc x) tB.dec
noncomputable def law07.TouchMoved.f (x : ((Int × Int × Int × Int × Int × Int × Int) × (Int × Int × Int × Int × Int × Int × Int) × (Int × Int))) : Option Bool := law07.TouchMoved.g (1000000) x
noncomputable def law07.TouchMoved.s : Fw.Summ := .mk' (tCons (tG (tCons (tI .i64) (tCons (tI .i64) (tCons (tI .i64) (tCons (tI .i64) (tCons (tI .i64) (tCons (tI .i64) (tOne (tI .i64))))))))) (tCons (tG (tCons (tI .i64) (tCons (tI .i64) (tCons (tI .i64) (tCons (tI .i64) (tCons (tI .i64) (tCons (tI .i64) (tOne (tI .i64))))))))) (tOne (tG (tCons (tI .i64) (tOne (tI .i64))))))) tB law07.TouchMoved.f
theorem law07.TouchMoved.ok : law07.TouchMoved.s.Ok Try.prog 6 :=
  summ_ok (hint := lookH law07.TouchMoved.hs) (fn := Try.f6) (fun x => 1000000) law07.TouchMoved.cs_ok (by kernel_rfl) (by kernel_rfl) (by kernel_rfl) (by kernel_rfl) (tCons_ok (tG_ok (tCons_ok (tI_ok _) (tCons_ok (tI_ok _) (tCons_ok (tI_ok _) (tCons_ok (tI_ok _) (tCons_ok (tI_ok _) (tCons_ok (tI_ok _) (tOne_ok (tI_ok _))))))))) (tCons_ok (tG_ok (tCons_ok (tI_ok _) (tCons_ok (tI_ok _) (tCons_ok (tI_ok _) (tCons_ok (tI_ok _) (tCons_ok (tI_ok _) (tCons_ok (tI_ok _) (tOne_ok (tI_ok _))))))))) (tOne_ok (tG_ok (tCons_ok (tI_ok _) (tOne_ok (tI_ok _))))))) tB_ok (fun _ => rfl)
noncomputable def law07.TouchMoved.l0 (k0 k1 : Nat) (v1 : Int) (v2 : Int) (v3 : Int) (v4 : Int) (v5 : Int) (v6 : Int) (v7 : Int) (v8 : Int) (v9 : Int) (v10 : Int) (v11 : Int) (v12 : Int) (v13 : Int) (v14 : Int) (v15 : Int) (v16 : Int) (v17 : Int) (v18 : Int) (v19 : Int) (v20 : Int) (v21 : Int) (v22 : Int) (v23 : Int) (v24 : Int) (v25 : Int) (v26 : Int) (v27 : Nat) (v28 : Nat → List AV) (v29 : Int) (v30 : Int) (v31 : Int) (v32 : Int) (v33 : Int) (v34 : Int) (v35 : Int) (v36 : Int) (v37 : Int) (v38 : Int) (v39 : Nat) (v40 : Nat → List AV) (v41 : Int) (v42 : Int) (v43 : Nat) (v44 : Nat → List AV) (v45 : Int) (v46 : Int) (v47 : Nat) (v48 : Nat → List AV) (v49 : Int) (v50 : Int) : Option Bool :=
  evLoop (lookH law07.TouchMoved.hs 0) 25 (ev law07.TouchMoved.G k0 (codeAt [1, 1, 1, 1, 1, 1, 1, 1, 0, 1, 0, 0] (bodyOf Try.f6)) 0) k1
  ⟨[.top, .top, .top, .top, .top, .ptr 2 0 0, .top, .top, .top, .top, .top, .ptr 24 0 0, .top, .top, .top, .top, .top, .top, .top, .top, .top, .top, .top, .top, .top, .top, .top, .top, .top, .top, .top, .top, .top, .top, .top, .top, .top, .top, .top, .top, .top, .top, .top, .top, .top, .top, .top, .top, .top, .top, .top, .top, .top, .top, .top, .top, .top, .top, .top, .top, .top, .top, .top, .top, .top, .top, .lst 4 v43 none v44, .val (.int .i64 v49), .val (.int .i64 v50), .top, .top, .top, .top, .top, .top, .top, .top, .top, .top, .top, .top, .top, .top, .top, .top, .top, .top, .top, .top, .top, .top, .top, .top, .top, .top, .top, .top, .top, .top, .top], [.live ⟨false, 47, 7, 1, fun _ => [.val (.int .i64 v1), .val (.int .i64 v2), .val (.int .i64 v3), .val (.int .i64 v4), .val (.int .i64 v5), .val (.int .i64 v6), .val (.int .i64 v7)], none⟩, .live ⟨false, 47, 7, 1, fun _ => [.val (.int .i64 v8), .val (.int .i64 v9), .val (.int .i64 v10), .val (.int .i64 v11), .val (.int .i64 v12), .val (.int .i64 v13), .val (.int .i64 v14)], none⟩, .live ⟨false, 24, 2, 1, fun _ => [.val (.int .i64 v15), .val (.int .i64 v16)], none⟩, .free, .free, .free, .free, .live ⟨false, 32, 11, 1, fun _ => [.val (.int .i64 v17), .val (.int .i64 v18), .val (.int .i64 v19), .val (.int .i64 v20), .val (.int .i64 v21), .val (.int .i64 v22), .val (.int .i64 v23), .val (.int .i64 v24), .val (.int .i64 v25), .val (.int .i64 v26), .lst 2 v27 none v28], none⟩, .live ⟨false, 32, 11, 1, fun _ => [.val (.int .i64 v29), .val (.int .i64 v30), .val (.int .i64 v31), .val (.int .i64 v32), .val (.int .i64 v33), .val (.int .i64 v34), .val (.int .i64 v35), .val (.int .i64 v36), .val (.int .i64 v37), .val (.int .i64 v38), .lst 2 v39 none v40], none⟩, .free, .free, .live ⟨false, 35, 3, 1, fun _ => [.val (.int .i64 v41), .val (.int .i64 v42), .lst 4 v43 none v44], none⟩, .free, .free, .free, .free, .free, .free, .free, .free, .free, .free, .free, .free, .live ⟨false, 35, 3, 1, fun _ => [.val (.int .i64 v45), .val (.int .i64 v46), .lst 4 v47 none v48], none⟩]⟩
  (kBlock law07.TouchMoved.G 0 (kSeq law07.TouchMoved.G k0 (codeAt [1, 1, 1, 1, 1, 1, 1, 1, 1] (bodyOf Try.f6)) 0 (kFin law07.TouchMoved.G Try.f6 tB.dec)))
theorem law07.TouchMoved.l0_eq (k0 k1 : Nat) (v1 : Int) (v2 : Int) (v3 : Int) (v4 : Int) (v5 : Int) (v6 : Int) (v7 : Int) (v8 : Int) (v9 : Int) (v10 : Int) (v11 : Int) (v12 : Int) (v13 : Int) (v14 : Int) (v15 : Int) (v16 : Int) (v17 : Int) (v18 : Int) (v19 : Int) (v20 : Int) (v21 : Int) (v22 : Int) (v23 : Int) (v24 : Int) (v25 : Int) (v26 : Int) (v27 : Nat) (v28 : Nat → (Int × Int)) (v29 : Int) (v30 : Int) (v31 : Int) (v32 : Int) (v33 : Int) (v34 : Int) (v35 : Int) (v36 : Int) (v37 : Int) (v38 : Int) (v39 : Nat) (v40 : Nat → (Int × Int)) (v41 : Int) (v42 : Int) (v43 : Nat) (v44 : Nat → (Int × Int × Int × Int)) (v45 : Int) (v46 : Int) (v47 : Nat) (v48 : Nat → (Int × Int × Int × Int)) (v49 : Int) (v50 : Int) : law07.TouchMoved.l0 k0 (k1 + 1) v1 v2 v3 v4 v5 v6 v7 v8 v9 v10 v11 v12 v13 v14 v15 v16 v17 v18 v19 v20 v21 v22 v23 v24 v25 v26 v27 (fun i => Rii.enc (v28 i)) v29 v30 v31 v32 v33 v34 v35 v36 v37 v38 v39 (fun i => Rii.enc (v40 i)) v41 v42 v43 (fun i => Riiii.enc (v44 i)) v45 v46 v47 (fun i => Riiii.enc (v48 i)) v49 v50 =
  bif (decide (v50 < v49)) then
    bif ((decide (0 ≤ v50)) && (decide (v50 < ((v43 : Nat) : Int)))) then
    bif ((decide (0 ≤ v50)) && (decide (v50 < ((v47 : Nat) : Int)))) then
    bif ((v48 (Int.toNat v50)).2.2.2 != (v44 (Int.toNat v50)).2.2.2) then
      some false
    else
    bif ((v48 (Int.toNat v50)).2.2.1 != (v44 (Int.toNat v50)).2.2.1) then
      some false
    else
    (vec.Add.f (((v44 (Int.toNat v50)).1, (v44 (Int.toNat v50)).2.1), (v15, v16))).bind fun r9 =>
    bif (!(((v48 (Int.toNat v50)).1 == r9.1) && (((v48 (Int.toNat v50)).2.1 == r9.2) && true))) then
      some false
    else
    law07.TouchMoved.l0 k0 k1 v1 v2 v3 v4 v5 v6 v7 v8 v9 v10 v11 v12 v13 v14 v15 v16 v17 v18 v19 v20 v21 v22 v23 v24 v25 v26 v27 (fun i => Rii.enc (v28 i)) v29 v30 v31 v32 v33 v34 v35 v36 v37 v38 v39 (fun i => Rii.enc (v40 i)) v41 v42 v43 (fun i => Riiii.enc (v44 i)) v45 v46 v47 (fun i => Riiii.enc (v48 i)) v49 (IntKind.i64.wrap (v50 + 1))
    else none
    else none
  else
  some true := by kernel_rfl
theorem law07.TouchMoved.eq (k0 : Nat) (p0_0 : Int) (p0_1 : Int) (p0_2 : Int) (p0_3 : Int) (p0_4 : Int) (p0_5 : Int) (p0_6 : Int) (p1_0 : Int) (p1_1 : Int) (p1_2 : Int) (p1_3 : Int) (p1_4 : Int) (p1_5 : Int) (p1_6 : Int) (p2_0 : Int) (p2_1 : Int) : law07.TouchMoved.g k0 ((p0_0, p0_1, p0_2, p0_3, p0_4, p0_5, p0_6), (p1_0, p1_1, p1_2, p1_3, p1_4, p1_5, p1_6), (p2_0, p2_1)) =
  (law07.fit.f ()).bind fun r1 =>
  bif (!r1) then
    some false
  else
  (law06.Place.Body.f (p0_0, p0_1, p0_2, p0_3, p0_4, p0_5, p0_6)).bind fun r2 =>
  (law06.Place.Body.f (p1_0, p1_1, p1_2, p1_3, p1_4, p1_5, p1_6)).bind fun r3 =>
  (vec.Bring.f ((p2_0, p2_1), 4294967296000)).bind fun r4 =>
  (touch.Of.f ((r2.1, r2.2.1, r2.2.2.1, r2.2.2.2.1, r2.2.2.2.2.1, r2.2.2.2.2.2.1, r2.2.2.2.2.2.2.1, r2.2.2.2.2.2.2.2.1, r2.2.2.2.2.2.2.2.2.1, r2.2.2.2.2.2.2.2.2.2.1, (r2.2.2.2.2.2.2.2.2.2.2.1, (fun i => Rii.enc (r2.2.2.2.2.2.2.2.2.2.2.2 i)))), (r3.1, r3.2.1, r3.2.2.1, r3.2.2.2.1, r3.2.2.2.2.1, r3.2.2.2.2.2.1, r3.2.2.2.2.2.2.1, r3.2.2.2.2.2.2.2.1, r3.2.2.2.2.2.2.2.2.1, r3.2.2.2.2.2.2.2.2.2.1, (r3.2.2.2.2.2.2.2.2.2.2.1, (fun i => Rii.enc (r3.2.2.2.2.2.2.2.2.2.2.2 i)))))).bind fun r5 =>
  (vec.Add.f ((r2.2.1, r2.2.2.1), (r4.1, r4.2))).bind fun r6 =>
  (vec.Add.f ((r3.2.1, r3.2.2.1), (r4.1, r4.2))).bind fun r7 =>
  (touch.Of.f ((r2.1, r6.1, r6.2, r2.2.2.2.1, r2.2.2.2.2.1, r2.2.2.2.2.2.1, r2.2.2.2.2.2.2.1, r2.2.2.2.2.2.2.2.1, r2.2.2.2.2.2.2.2.2.1, r2.2.2.2.2.2.2.2.2.2.1, (r2.2.2.2.2.2.2.2.2.2.2.1, (fun i => Rii.enc (r2.2.2.2.2.2.2.2.2.2.2.2 i)))), (r3.1, r7.1, r7.2, r3.2.2.2.1, r3.2.2.2.2.1, r3.2.2.2.2.2.1, r3.2.2.2.2.2.2.1, r3.2.2.2.2.2.2.2.1, r3.2.2.2.2.2.2.2.2.1, r3.2.2.2.2.2.2.2.2.2.1, (r3.2.2.2.2.2.2.2.2.2.2.1, (fun i => Rii.enc (r3.2.2.2.2.2.2.2.2.2.2.2 i)))))).bind fun r8 =>
  bif (!(r5.2 == r8.2)) then
    some false
  else
  bif (!((r5.1.1 == r8.1.1) && ((r5.1.2.1 == r8.1.2.1) && true))) then
    some false
  else
  bif (((r5.1.2.2.1 : Nat) : Int) != ((r8.1.2.2.1 : Nat) : Int)) then
    some false
  else
  law07.TouchMoved.l0 k0 k0 p0_0 p0_1 p0_2 p0_3 p0_4 p0_5 p0_6 p1_0 p1_1 p1_2 p1_3 p1_4 p1_5 p1_6 r4.1 r4.2 r2.1 r6.1 r6.2 r2.2.2.2.1 r2.2.2.2.2.1 r2.2.2.2.2.2.1 r2.2.2.2.2.2.2.1 r2.2.2.2.2.2.2.2.1 r2.2.2.2.2.2.2.2.2.1 r2.2.2.2.2.2.2.2.2.2.1 r2.2.2.2.2.2.2.2.2.2.2.1 (fun i => Rii.enc (r2.2.2.2.2.2.2.2.2.2.2.2 i)) r3.1 r7.1 r7.2 r3.2.2.2.1 r3.2.2.2.2.1 r3.2.2.2.2.2.1 r3.2.2.2.2.2.2.1 r3.2.2.2.2.2.2.2.1 r3.2.2.2.2.2.2.2.2.1 r3.2.2.2.2.2.2.2.2.2.1 r3.2.2.2.2.2.2.2.2.2.2.1 (fun i => Rii.enc (r3.2.2.2.2.2.2.2.2.2.2.2 i)) r5.1.1 r5.1.2.1 r5.1.2.2.1 (fun i => Riiii.enc (r5.1.2.2.2 i)) r8.1.1 r8.1.2.1 r8.1.2.2.1 (fun i => Riiii.enc (r8.1.2.2.2 i)) ((r5.1.2.2.1 : Nat) : Int) 0 := by kernel_rfl
/-! ### bagatelle/box.Grow -/
noncomputable def box.Grow.cs : List (Nat × Fw.Summ) := [(13, vec.Sub.s), (22, vec.Add.s)]
theorem box.Grow.cs_ok : SumsOk Try.prog box.Grow.cs := .cons vec.Sub.ok (.cons vec.Add.ok (.nil))
def box.Grow.hs : List (Nat × LHint) := []
noncomputable def box.Grow.G : Ctx := ⟨Try.prog, sumAt box.Grow.cs, lookH box.Grow.hs, true⟩
noncomputable def box.Grow.f (x : ((Int × Int × Int × Int) × Int)) : Option (Int × Int × Int × Int) := evF box.Grow.G 0 Try.f24 ((tCons (tG (tCons (tI .i64) (tCons (tI .i64) (tCons (tI .i64) (tOne (tI .i64)))))) (tOne (tI .i64))).enc x) (tG (tCons (tI .i64) (tCons (tI .i64) (tCons (tI .i64) (tOne (tI .i64)))))).dec
noncomputable def box.Grow.s : Fw.Summ := .mk' (tCons (tG (tCons (tI .i64) (tCons (tI .i64) (tCons (tI .i64) (tOne (tI .i64)))))) (tOne (tI .i64))) (tG (tCons (tI .i64) (tCons (tI .i64) (tCons (tI .i64) (tOne (tI .i64)))))) box.Grow.f
theorem box.Grow.ok : box.Grow.s.Ok Try.prog 24 :=
  summ_ok (hint := lookH box.Grow.hs) (fn := Try.f24) (fun x => 0) box.Grow.cs_ok (by kernel_rfl) (by kernel_rfl) (by kernel_rfl) (by kernel_rfl) (tCons_ok (tG_ok (tCons_ok (tI_ok _) (tCons_ok (tI_ok _) (tCons_ok (tI_ok _) (tOne_ok (tI_ok _)))))) (tOne_ok (tI_ok _))) (tG_ok (tCons_ok (tI_ok _) (tCons_ok (tI_ok _) (tCons_ok (tI_ok _) (tOne_ok (tI_ok _)))))) (fun _ => rfl)
theorem box.Grow.eq (p0_0 : Int) (p0_1 : Int) (p0_2 : Int) (p0_3 : Int) (p1 : Int) : box.Grow.f ((p0_0, p0_1, p0_2, p0_3), p1) =
  (vec.Sub.f ((p0_0, p0_1), (p1, p1))).bind fun r1 =>
  (vec.Add.f ((p0_2, p0_3), (p1, p1))).bind fun r2 =>
  some (r1.1, r1.2, r2.1, r2.2) := by kernel_rfl
/-! ### bagatelle/box.low -/
noncomputable def box.low.cs : List (Nat × Fw.Summ) := []
theorem box.low.cs_ok : SumsOk Try.prog box.low.cs := .nil
def box.low.hs : List (Nat × LHint) := []
noncomputable def box.low.G : Ctx := ⟨Try.prog, sumAt box.low.cs, lookH box.low.hs, true⟩
noncomputable def box.low.f (x : ((Int × Int) × (Int × Int))) : Option (Int × Int) := evF box.low.G 0 Try.f43 ((tCons (tG (tCons (tI .i64) (tOne (tI .i64)))) (tOne (tG (tCons (tI .i64) (tOne (tI .i64)))))).enc x) (tG (tCons (tI .i64) (tOne (tI .i64)))).dec
noncomputable def box.low.s : Fw.Summ := .mk' (tCons (tG (tCons (tI .i64) (tOne (tI .i64)))) (tOne (tG (tCons (tI .i64) (tOne (tI .i64)))))) (tG (tCons (tI .i64) (tOne (tI .i64)))) box.low.f
theorem box.low.ok : box.low.s.Ok Try.prog 43 :=
  summ_ok (hint := lookH box.low.hs) (fn := Try.f43) (fun x => 0) box.low.cs_ok (by kernel_rfl) (by kernel_rfl) (by kernel_rfl) (by kernel_rfl) (tCons_ok (tG_ok (tCons_ok (tI_ok _) (tOne_ok (tI_ok _)))) (tOne_ok (tG_ok (tCons_ok (tI_ok _) (tOne_ok (tI_ok _)))))) (tG_ok (tCons_ok (tI_ok _) (tOne_ok (tI_ok _)))) (fun _ => rfl)
theorem box.low.eq (p0_0 : Int) (p0_1 : Int) (p1_0 : Int) (p1_1 : Int) : box.low.f ((p0_0, p0_1), (p1_0, p1_1)) =
  some ((if p1_0 < p0_0 then p1_0 else p0_0), (if p1_1 < p0_1 then p1_1 else p0_1)) := by kernel_rfl
/-! ### bagatelle/box.high -/
noncomputable def box.high.cs : List (Nat × Fw.Summ) := []
theorem box.high.cs_ok : SumsOk Try.prog box.high.cs := .nil
def box.high.hs : List (Nat × LHint) := []
noncomputable def box.high.G : Ctx := ⟨Try.prog, sumAt box.high.cs, lookH box.high.hs, true⟩
noncomputable def box.high.f (x : ((Int × Int) × (Int × Int))) : Option (Int × Int) := evF box.high.G 0 Try.f44 ((tCons (tG (tCons (tI .i64) (tOne (tI .i64)))) (tOne (tG (tCons (tI .i64) (tOne (tI .i64)))))).enc x) (tG (tCons (tI .i64) (tOne (tI .i64)))).dec
noncomputable def box.high.s : Fw.Summ := .mk' (tCons (tG (tCons (tI .i64) (tOne (tI .i64)))) (tOne (tG (tCons (tI .i64) (tOne (tI .i64)))))) (tG (tCons (tI .i64) (tOne (tI .i64)))) box.high.f
theorem box.high.ok : box.high.s.Ok Try.prog 44 :=
  summ_ok (hint := lookH box.high.hs) (fn := Try.f44) (fun x => 0) box.high.cs_ok (by kernel_rfl) (by kernel_rfl) (by kernel_rfl) (by kernel_rfl) (tCons_ok (tG_ok (tCons_ok (tI_ok _) (tOne_ok (tI_ok _)))) (tOne_ok (tG_ok (tCons_ok (tI_ok _) (tOne_ok (tI_ok _)))))) (tG_ok (tCons_ok (tI_ok _) (tOne_ok (tI_ok _)))) (fun _ => rfl)
theorem box.high.eq (p0_0 : Int) (p0_1 : Int) (p1_0 : Int) (p1_1 : Int) : box.high.f ((p0_0, p0_1), (p1_0, p1_1)) =
  some ((if p1_0 > p0_0 then p1_0 else p0_0), (if p1_1 > p0_1 then p1_1 else p0_1)) := by kernel_rfl
/-! ### bagatelle/box.Of -/
noncomputable def box.Of.cs : List (Nat × Fw.Summ) := [(24, box.Grow.s), (40, shape.Corners.s), (43, box.low.s), (44, box.high.s)]
theorem box.Of.cs_ok : SumsOk Try.prog box.Of.cs := .cons box.Grow.ok (.cons shape.Corners.ok (.cons box.low.ok (.cons box.high.ok (.nil))))
def box.Of.hs : List (Nat × LHint) := [(0, { mat := [], live := [2, 4, 34, 35, 36], ren := [] })]
noncomputable def box.Of.G : Ctx := ⟨Try.prog, sumAt box.Of.cs, lookH box.Of.hs, true⟩
noncomputable def box.Of.g (k0 : Nat) (x : (Int × Int × Int × Int × Int × Int × Int × Int × Int × Int × (Nat × (Nat → List AV)))) : Option (Int × Int × Int × Int) := evF box.Of.G k0 Try.f25 ((tOne (tG (tCons (tI .i64) (tCons (tI .i64) (tCons (tI .i64) (tCons (tI .i64) (tCons (tI .i64) (tCons (tI .i64) (tCons (tI .i64) (tCons (tI .i64) (tCons (tI .i64) (tCons (tI .i64) (tOne (tLz 2 (Rii.enc (0, 0)))))))))))))))).enc x) (tG (tCons (tI .i64) (tCons (tI .i64) (tCons (tI .i64) (tOne (tI .i64)))))).dec
noncomputable def box.Of.f (x : (Int × Int × Int × Int × Int × Int × Int × Int × Int × Int × (Nat × (Nat → List AV)))) : Option (Int × Int × Int × Int) := box.Of.g (1000000) x
noncomputable def box.Of.s : Fw.Summ := .mk' (tOne (tG (tCons (tI .i64) (tCons (tI .i64) (tCons (tI .i64) (tCons (tI .i64) (tCons (tI .i64) (tCons (tI .i64) (tCons (tI .i64) (tCons (tI .i64) (tCons (tI .i64) (tCons (tI .i64) (tOne (tLz 2 (Rii.enc (0, 0)))))))))))))))) (tG (tCons (tI .i64) (tCons (tI .i64) (tCons (tI .i64) (tOne (tI .i64)))))) box.Of.f
theorem box.Of.ok : box.Of.s.Ok Try.prog 25 :=
  summ_ok (hint := lookH box.Of.hs) (fn := Try.f25) (fun x => 1000000) box.Of.cs_ok (by kernel_rfl) (by kernel_rfl) (by kernel_rfl) (by kernel_rfl) (tOne_ok (tG_ok (tCons_ok (tI_ok _) (tCons_ok (tI_ok _) (tCons_ok (tI_ok _) (tCons_ok (tI_ok _) (tCons_ok (tI_ok _) (tCons_ok (tI_ok _) (tCons_ok (tI_ok _) (tCons_ok (tI_ok _) (tCons_ok (tI_ok _) (tCons_ok (tI_ok _) (tOne_ok (tLz_ok _ _)))))))))))))) (tG_ok (tCons_ok (tI_ok _) (tCons_ok (tI_ok _) (tCons_ok (tI_ok _) (tOne_ok (tI_ok _)))))) (fun _ => rfl)
noncomputable def box.Of.l0 (k0 k1 : Nat) (v1 : Int) (v2 : Int) (v3 : Int) (v4 : Int) (v5 : Int) (v6 : Int) (v7 : Int) (v8 : Int) (v9 : Int) (v10 : Int) (v11 : Nat) (v12 : Nat → List AV) (v13 : Int) (v14 : Int) (v15 : Int) (v16 : Int) (v17 : Nat) (v18 : Nat → List AV) (v19 : Int) (v20 : Int) : Option (Int × Int × Int × Int) :=
  evLoop (lookH box.Of.hs 0) 11 (ev box.Of.G k0 (codeAt [1, 1, 1, 1, 0, 1, 0, 0] (bodyOf Try.f25)) 0) k1
  ⟨[.top, .top, .ptr 1 0 0, .top, .ptr 9 0 0, .top, .top, .top, .top, .top, .top, .top, .top, .top, .top, .top, .top, .top, .top, .top, .top, .top, .top, .top, .top, .top, .top, .top, .top, .top, .top, .top, .top, .top, .lst 2 v17 none v18, .val (.int .i64 v19), .val (.int .i64 v20), .top, .top, .top, .top, .top, .top, .top, .top, .top, .top, .top, .top, .top, .top], [.live ⟨false, 32, 11, 1, fun _ => [.val (.int .i64 v1), .val (.int .i64 v2), .val (.int .i64 v3), .val (.int .i64 v4), .val (.int .i64 v5), .val (.int .i64 v6), .val (.int .i64 v7), .val (.int .i64 v8), .val (.int .i64 v9), .val (.int .i64 v10), .lst 2 v11 none v12], none⟩, .live ⟨false, 60, 4, 1, fun _ => [.val (.int .i64 0), .val (.int .i64 0), .val (.int .i64 0), .val (.int .i64 0)], none⟩, .free, .free, .free, .free, .free, .free, .free, .live ⟨false, 60, 4, 1, fun _ => [.val (.int .i64 v13), .val (.int .i64 v14), .val (.int .i64 v15), .val (.int .i64 v16)], none⟩, .free]⟩
  (kBlock box.Of.G 0 (kSeq box.Of.G k0 (codeAt [1, 1, 1, 1, 1] (bodyOf Try.f25)) 0 (kFin box.Of.G Try.f25 (tG (tCons (tI .i64) (tCons (tI .i64) (tCons (tI .i64) (tOne (tI .i64)))))).dec)))
theorem box.Of.l0_eq (k0 k1 : Nat) (v1 : Int) (v2 : Int) (v3 : Int) (v4 : Int) (v5 : Int) (v6 : Int) (v7 : Int) (v8 : Int) (v9 : Int) (v10 : Int) (v11 : Nat) (v12 : Nat → (Int × Int)) (v13 : Int) (v14 : Int) (v15 : Int) (v16 : Int) (v17 : Nat) (v18 : Nat → (Int × Int)) (v19 : Int) (v20 : Int) : box.Of.l0 k0 (k1 + 1) v1 v2 v3 v4 v5 v6 v7 v8 v9 v10 v11 (fun i => Rii.enc (v12 i)) v13 v14 v15 v16 v17 (fun i => Rii.enc (v18 i)) v19 v20 =
  bif (decide (v20 < v19)) then
    bif ((decide (0 ≤ v20)) && (decide (v20 < ((v17 : Nat) : Int)))) then
    (box.low.f ((v13, v14), ((v18 (Int.toNat v20)).1, (v18 (Int.toNat v20)).2))).bind fun r3 =>
    (box.high.f ((v15, v16), ((v18 (Int.toNat v20)).1, (v18 (Int.toNat v20)).2))).bind fun r4 =>
    box.Of.l0 k0 k1 v1 v2 v3 v4 v5 v6 v7 v8 v9 v10 v11 (fun i => Rii.enc (v12 i)) r3.1 r3.2 r4.1 r4.2 v17 (fun i => Rii.enc (v18 i)) v19 (IntKind.i64.wrap (v20 + 1))
    else none
  else
  some (v13, v14, v15, v16) := by kernel_rfl
theorem box.Of.eq (k0 : Nat) (p0_0 : Int) (p0_1 : Int) (p0_2 : Int) (p0_3 : Int) (p0_4 : Int) (p0_5 : Int) (p0_6 : Int) (p0_7 : Int) (p0_8 : Int) (p0_9 : Int) (p0_10_n : Nat) (p0_10_g : Nat → (Int × Int)) : box.Of.g k0 (p0_0, p0_1, p0_2, p0_3, p0_4, p0_5, p0_6, p0_7, p0_8, p0_9, (p0_10_n, (fun i => Rii.enc (p0_10_g i)))) =
  bif (p0_8 == 1) then
    (box.Grow.f ((p0_1, p0_2, p0_1, p0_2), p0_9)).bind fun r1 =>
    some (r1.1, r1.2.1, r1.2.2.1, r1.2.2.2)
  else
  (shape.Corners.f ((p0_8, p0_9, (p0_10_n, (fun i => Rii.enc (p0_10_g i)))), (p0_1, p0_2), p0_5)).bind fun r2 =>
  bif (decide (0 < ((r2.1 : Nat) : Int))) then
  bif (decide (0 < ((r2.1 : Nat) : Int))) then
  box.Of.l0 k0 k0 p0_0 p0_1 p0_2 p0_3 p0_4 p0_5 p0_6 p0_7 p0_8 p0_9 p0_10_n (fun i => Rii.enc (p0_10_g i)) (r2.2 0).1 (r2.2 0).2 (r2.2 0).1 (r2.2 0).2 r2.1 (fun i => Rii.enc (r2.2 i)) ((r2.1 : Nat) : Int) 0
  else none
  else none := by kernel_rfl
/-! ### bagatelle/box.Meet -/
noncomputable def box.Meet.cs : List (Nat × Fw.Summ) := []
theorem box.Meet.cs_ok : SumsOk Try.prog box.Meet.cs := .nil
def box.Meet.hs : List (Nat × LHint) := []
noncomputable def box.Meet.G : Ctx := ⟨Try.prog, sumAt box.Meet.cs, lookH box.Meet.hs, true⟩
noncomputable def box.Meet.f (x : ((Int × Int × Int × Int) × (Int × Int × Int × Int))) : Option Bool := evF box.Meet.G 0 Try.f23 ((tCons (tG (tCons (tI .i64) (tCons (tI .i64) (tCons (tI .i64) (tOne (tI .i64)))))) (tOne (tG (tCons (tI .i64) (tCons (tI .i64) (tCons (tI .i64) (tOne (tI .i64)))))))).enc x) tB.dec
noncomputable def box.Meet.s : Fw.Summ := .mk' (tCons (tG (tCons (tI .i64) (tCons (tI .i64) (tCons (tI .i64) (tOne (tI .i64)))))) (tOne (tG (tCons (tI .i64) (tCons (tI .i64) (tCons (tI .i64) (tOne (tI .i64)))))))) tB box.Meet.f
theorem box.Meet.ok : box.Meet.s.Ok Try.prog 23 :=
  summ_ok (hint := lookH box.Meet.hs) (fn := Try.f23) (fun x => 0) box.Meet.cs_ok (by kernel_rfl) (by kernel_rfl) (by kernel_rfl) (by kernel_rfl) (tCons_ok (tG_ok (tCons_ok (tI_ok _) (tCons_ok (tI_ok _) (tCons_ok (tI_ok _) (tOne_ok (tI_ok _)))))) (tOne_ok (tG_ok (tCons_ok (tI_ok _) (tCons_ok (tI_ok _) (tCons_ok (tI_ok _) (tOne_ok (tI_ok _)))))))) tB_ok (fun _ => rfl)
theorem box.Meet.eq (p0_0 : Int) (p0_1 : Int) (p0_2 : Int) (p0_3 : Int) (p1_0 : Int) (p1_1 : Int) (p1_2 : Int) (p1_3 : Int) : box.Meet.f ((p0_0, p0_1, p0_2, p0_3), (p1_0, p1_1, p1_2, p1_3)) =
  bif (decide (p0_0 ≤ p1_2)) then
    bif (decide (p1_0 ≤ p0_2)) then
      bif (decide (p0_1 ≤ p1_3)) then
        some (decide (p1_1 ≤ p0_3))
      else
      some false
    else
    some false
  else
  some false := by kernel_rfl
/-! ### bagatelle/bagatellelaw07.TouchDeep -/
noncomputable def law07.TouchDeep.cs : List (Nat × Fw.Summ) := [(9, law07.fit.s), (15, law06.Place.Body.s), (11, touch.Of.s), (25, box.Of.s), (24, box.Grow.s), (23, box.Meet.s)]
theorem law07.TouchDeep.cs_ok : SumsOk Try.prog law07.TouchDeep.cs := .cons law07.fit.ok (.cons law06.Place.Body.ok (.cons touch.Of.ok (.cons box.Of.ok (.cons box.Grow.ok (.cons box.Meet.ok (.nil))))))
def law07.TouchDeep.hs : List (Nat × LHint) := [(0, { mat := [], live := [7, 55, 56, 57], ren := [] })]
noncomputable def law07.TouchDeep.G : Ctx := ⟨Try.prog, sumAt law07.TouchDeep.cs, lookH law07.TouchDeep.hs, true⟩
noncomputable def law07.TouchDeep.g (k0 : Nat) (x : ((Int × Int × Int × Int × Int × Int × Int) × (Int × Int × Int × Int × Int × Int × Int))) : Option Bool := evF law07.TouchDeep.G k0 Try.f8 ((tCons (tG (tCons (tI .i64) (tCons (tI .i64) (tCons (tI .i64) (tCons (tI .i64) (tCons (tI .i64) (tCons (tI .i64) (tOne (tI .i64))))))))) (tOne (tG (tCons (tI .i64) (tCons (tI .i64) (tCons (tI .i64) (tCons (tI .i64) (tCons (tI .i64) (tCons (tI .i64) (tOne (tI .i64))))))))))).enc x) tB.dec
noncomputable def law07.TouchDeep.f (x : ((Int × Int × Int × Int × Int × Int × Int) × (Int × Int × Int × Int × Int × Int × Int))) : Option Bool := law07.TouchDeep.g (1000000) x
noncomputable def law07.TouchDeep.s : Fw.Summ := .mk' (tCons (tG (tCons (tI .i64) (tCons (tI .i64) (tCons (tI .i64) (tCons (tI .i64) (tCons (tI .i64) (tCons (tI .i64) (tOne (tI .i64))))))))) (tOne (tG (tCons (tI .i64) (tCons (tI .i64) (tCons (tI .i64) (tCons (tI .i64) (tCons (tI .i64) (tCons (tI .i64) (tOne (tI .i64))))))))))) tB law07.TouchDeep.f
theorem law07.TouchDeep.ok : law07.TouchDeep.s.Ok Try.prog 8 :=
  summ_ok (hint := lookH law07.TouchDeep.hs) (fn := Try.f8) (fun x => 1000000) law07.TouchDeep.cs_ok (by kernel_rfl) (by kernel_rfl) (by kernel_rfl) (by kernel_rfl) (tCons_ok (tG_ok (tCons_ok (tI_ok _) (tCons_ok (tI_ok _) (tCons_ok (tI_ok _) (tCons_ok (tI_ok _) (tCons_ok (tI_ok _) (tCons_ok (tI_ok _) (tOne_ok (tI_ok _))))))))) (tOne_ok (tG_ok (tCons_ok (tI_ok _) (tCons_ok (tI_ok _) (tCons_ok (tI_ok _) (tCons_ok (tI_ok _) (tCons_ok (tI_ok _) (tCons_ok (tI_ok _) (tOne_ok (tI_ok _))))))))))) tB_ok (fun _ => rfl)
noncomputable def law07.TouchDeep.l0 (k0 k1 : Nat) (v1 : Int) (v2 : Int) (v3 : Int) (v4 : Int) (v5 : Int) (v6 : Int) (v7 : Int) (v8 : Int) (v9 : Int) (v10 : Int) (v11 : Int) (v12 : Int) (v13 : Int) (v14 : Int) (v15 : Int) (v16 : Int) (v17 : Int) (v18 : Int) (v19 : Int) (v20 : Int) (v21 : Int) (v22 : Int) (v23 : Int) (v24 : Int) (v25 : Nat) (v26 : Nat → List AV) (v27 : Int) (v28 : Int) (v29 : Int) (v30 : Int) (v31 : Int) (v32 : Int) (v33 : Int) (v34 : Int) (v35 : Int) (v36 : Int) (v37 : Nat) (v38 : Nat → List AV) (v39 : Int) (v40 : Int) (v41 : Nat) (v42 : Nat → List AV) (v43 : Int) (v44 : Int) : Option Bool :=
  evLoop (lookH law07.TouchDeep.hs 0) 30 (ev law07.TouchDeep.G k0 (codeAt [1, 1, 1, 1, 1, 1, 0, 1, 0, 0] (bodyOf Try.f8)) 0) k1
  ⟨[.top, .top, .top, .top, .top, .top, .top, .ptr 10 0 0, .top, .top, .top, .top, .top, .top, .top, .top, .top, .top, .top, .top, .top, .top, .top, .top, .top, .top, .top, .top, .top, .top, .top, .top, .top, .top, .top, .top, .top, .top, .top, .top, .top, .top, .top, .top, .top, .top, .top, .top, .top, .top, .top, .top, .top, .top, .top, .lst 4 v41 none v42, .val (.int .i64 v43), .val (.int .i64 v44), .top, .top, .top, .top, .top, .top, .top, .top, .top, .top, .top, .top, .top, .top, .top, .top, .top, .top, .top, .top, .top, .top, .top, .top, .top, .top, .top], [.live ⟨false, 47, 7, 1, fun _ => [.val (.int .i64 v1), .val (.int .i64 v2), .val (.int .i64 v3), .val (.int .i64 v4), .val (.int .i64 v5), .val (.int .i64 v6), .val (.int .i64 v7)], none⟩, .live ⟨false, 47, 7, 1, fun _ => [.val (.int .i64 v8), .val (.int .i64 v9), .val (.int .i64 v10), .val (.int .i64 v11), .val (.int .i64 v12), .val (.int .i64 v13), .val (.int .i64 v14)], none⟩, .free, .free, .free, .free, .live ⟨false, 32, 11, 1, fun _ => [.val (.int .i64 v15), .val (.int .i64 v16), .val (.int .i64 v17), .val (.int .i64 v18), .val (.int .i64 v19), .val (.int .i64 v20), .val (.int .i64 v21), .val (.int .i64 v22), .val (.int .i64 v23), .val (.int .i64 v24), .lst 2 v25 none v26], none⟩, .live ⟨false, 32, 11, 1, fun _ => [.val (.int .i64 v27), .val (.int .i64 v28), .val (.int .i64 v29), .val (.int .i64 v30), .val (.int .i64 v31), .val (.int .i64 v32), .val (.int .i64 v33), .val (.int .i64 v34), .val (.int .i64 v35), .val (.int .i64 v36), .lst 2 v37 none v38], none⟩, .free, .free, .live ⟨false, 35, 3, 1, fun _ => [.val (.int .i64 v39), .val (.int .i64 v40), .lst 4 v41 none v42], none⟩, .free, .free, .free, .free, .free, .free, .free, .free, .free, .free, .free, .free, .free, .free, .free, .free, .free, .free, .free]⟩
  (kBlock law07.TouchDeep.G 0 (kSeq law07.TouchDeep.G k0 (codeAt [1, 1, 1, 1, 1, 1, 1] (bodyOf Try.f8)) 0 (kFin law07.TouchDeep.G Try.f8 tB.dec)))
theorem law07.TouchDeep.l0_eq (k0 k1 : Nat) (v1 : Int) (v2 : Int) (v3 : Int) (v4 : Int) (v5 : Int) (v6 : Int) (v7 : Int) (v8 : Int) (v9 : Int) (v10 : Int) (v11 : Int) (v12 : Int) (v13 : Int) (v14 : Int) (v15 : Int) (v16 : Int) (v17 : Int) (v18 : Int) (v19 : Int) (v20 : Int) (v21 : Int) (v22 : Int) (v23 : Int) (v24 : Int) (v25 : Nat) (v26 : Nat → (Int × Int)) (v27 : Int) (v28 : Int) (v29 : Int) (v30 : Int) (v31 : Int) (v32 : Int) (v33 : Int) (v34 : Int) (v35 : Int) (v36 : Int) (v37 : Nat) (v38 : Nat → (Int × Int)) (v39 : Int) (v40 : Int) (v41 : Nat) (v42 : Nat → (Int × Int × Int × Int)) (v43 : Int) (v44 : Int) : law07.TouchDeep.l0 k0 (k1 + 1) v1 v2 v3 v4 v5 v6 v7 v8 v9 v10 v11 v12 v13 v14 v15 v16 v17 v18 v19 v20 v21 v22 v23 v24 v25 (fun i => Rii.enc (v26 i)) v27 v28 v29 v30 v31 v32 v33 v34 v35 v36 v37 (fun i => Rii.enc (v38 i)) v39 v40 v41 (fun i => Riiii.enc (v42 i)) v43 v44 =
  bif (decide (v44 < v43)) then
    bif ((decide (0 ≤ v44)) && (decide (v44 < ((v41 : Nat) : Int)))) then
    bif (decide ((v42 (Int.toNat v44)).2.2.1 ≤ 0)) then
      some false
    else
    bif (decide ((v42 (Int.toNat v44)).2.2.2 < 0)) then
      some false
    else
    bif (decide (v44 > 0)) then
      bif (decide (0 < ((v41 : Nat) : Int))) then
      bif ((v42 (Int.toNat v44)).2.2.2 == (v42 0).2.2.2) then
        some false
      else
      law07.TouchDeep.l0 k0 k1 v1 v2 v3 v4 v5 v6 v7 v8 v9 v10 v11 v12 v13 v14 v15 v16 v17 v18 v19 v20 v21 v22 v23 v24 v25 (fun i => Rii.enc (v26 i)) v27 v28 v29 v30 v31 v32 v33 v34 v35 v36 v37 (fun i => Rii.enc (v38 i)) v39 v40 v41 (fun i => Riiii.enc (v42 i)) v43 (IntKind.i64.wrap (v44 + 1))
      else none
    else
    law07.TouchDeep.l0 k0 k1 v1 v2 v3 v4 v5 v6 v7 v8 v9 v10 v11 v12 v13 v14 v15 v16 v17 v18 v19 v20 v21 v22 v23 v24 v25 (fun i => Rii.enc (v26 i)) v27 v28 v29 v30 v31 v32 v33 v34 v35 v36 v37 (fun i => Rii.enc (v38 i)) v39 v40 v41 (fun i => Riiii.enc (v42 i)) v43 (IntKind.i64.wrap (v44 + 1))
    else none
  else
  some true := by kernel_rfl
theorem law07.TouchDeep.eq (k0 : Nat) (p0_0 : Int) (p0_1 : Int) (p0_2 : Int) (p0_3 : Int) (p0_4 : Int) (p0_5 : Int) (p0_6 : Int) (p1_0 : Int) (p1_1 : Int) (p1_2 : Int) (p1_3 : Int) (p1_4 : Int) (p1_5 : Int) (p1_6 : Int) : law07.TouchDeep.g k0 ((p0_0, p0_1, p0_2, p0_3, p0_4, p0_5, p0_6), (p1_0, p1_1, p1_2, p1_3, p1_4, p1_5, p1_6)) =
  (law07.fit.f ()).bind fun r1 =>
  bif (!r1) then
    some false
  else
  (law06.Place.Body.f (p0_0, p0_1, p0_2, p0_3, p0_4, p0_5, p0_6)).bind fun r2 =>
  (law06.Place.Body.f (p1_0, p1_1, p1_2, p1_3, p1_4, p1_5, p1_6)).bind fun r3 =>
  (touch.Of.f ((r2.1, r2.2.1, r2.2.2.1, r2.2.2.2.1, r2.2.2.2.2.1, r2.2.2.2.2.2.1, r2.2.2.2.2.2.2.1, r2.2.2.2.2.2.2.2.1, r2.2.2.2.2.2.2.2.2.1, r2.2.2.2.2.2.2.2.2.2.1, (r2.2.2.2.2.2.2.2.2.2.2.1, (fun i => Rii.enc (r2.2.2.2.2.2.2.2.2.2.2.2 i)))), (r3.1, r3.2.1, r3.2.2.1, r3.2.2.2.1, r3.2.2.2.2.1, r3.2.2.2.2.2.1, r3.2.2.2.2.2.2.1, r3.2.2.2.2.2.2.2.1, r3.2.2.2.2.2.2.2.2.1, r3.2.2.2.2.2.2.2.2.2.1, (r3.2.2.2.2.2.2.2.2.2.2.1, (fun i => Rii.enc (r3.2.2.2.2.2.2.2.2.2.2.2 i)))))).bind fun r4 =>
  bif (!r4.2) then
    bif (((r4.1.2.2.1 : Nat) : Int) == 0) then
      some ((r4.1.1 == 0) && ((r4.1.2.1 == 0) && true))
    else
    some false
  else
  bif (decide (((r4.1.2.2.1 : Nat) : Int) < 1)) then
    some false
  else
  bif (decide (((r4.1.2.2.1 : Nat) : Int) > 2)) then
    some false
  else
  (box.Of.f (r2.1, r2.2.1, r2.2.2.1, r2.2.2.2.1, r2.2.2.2.2.1, r2.2.2.2.2.2.1, r2.2.2.2.2.2.2.1, r2.2.2.2.2.2.2.2.1, r2.2.2.2.2.2.2.2.2.1, r2.2.2.2.2.2.2.2.2.2.1, (r2.2.2.2.2.2.2.2.2.2.2.1, (fun i => Rii.enc (r2.2.2.2.2.2.2.2.2.2.2.2 i))))).bind fun r5 =>
  (box.Grow.f ((r5.1, r5.2.1, r5.2.2.1, r5.2.2.2), 67108864)).bind fun r6 =>
  (box.Of.f (r3.1, r3.2.1, r3.2.2.1, r3.2.2.2.1, r3.2.2.2.2.1, r3.2.2.2.2.2.1, r3.2.2.2.2.2.2.1, r3.2.2.2.2.2.2.2.1, r3.2.2.2.2.2.2.2.2.1, r3.2.2.2.2.2.2.2.2.2.1, (r3.2.2.2.2.2.2.2.2.2.2.1, (fun i => Rii.enc (r3.2.2.2.2.2.2.2.2.2.2.2 i))))).bind fun r7 =>
  (box.Meet.f ((r6.1, r6.2.1, r6.2.2.1, r6.2.2.2), (r7.1, r7.2.1, r7.2.2.1, r7.2.2.2))).bind fun r8 =>
  bif (!r8) then
    some false
  else
  law07.TouchDeep.l0 k0 k0 p0_0 p0_1 p0_2 p0_3 p0_4 p0_5 p0_6 p1_0 p1_1 p1_2 p1_3 p1_4 p1_5 p1_6 r2.1 r2.2.1 r2.2.2.1 r2.2.2.2.1 r2.2.2.2.2.1 r2.2.2.2.2.2.1 r2.2.2.2.2.2.2.1 r2.2.2.2.2.2.2.2.1 r2.2.2.2.2.2.2.2.2.1 r2.2.2.2.2.2.2.2.2.2.1 r2.2.2.2.2.2.2.2.2.2.2.1 (fun i => Rii.enc (r2.2.2.2.2.2.2.2.2.2.2.2 i)) r3.1 r3.2.1 r3.2.2.1 r3.2.2.2.1 r3.2.2.2.2.1 r3.2.2.2.2.2.1 r3.2.2.2.2.2.2.1 r3.2.2.2.2.2.2.2.1 r3.2.2.2.2.2.2.2.2.1 r3.2.2.2.2.2.2.2.2.2.1 r3.2.2.2.2.2.2.2.2.2.2.1 (fun i => Rii.enc (r3.2.2.2.2.2.2.2.2.2.2.2 i)) r4.1.1 r4.1.2.1 r4.1.2.2.1 (fun i => Riiii.enc (r4.1.2.2.2 i)) ((r4.1.2.2.1 : Nat) : Int) 0 := by kernel_rfl
end Go.Proofs.Ytejlappndcakeaa.E
