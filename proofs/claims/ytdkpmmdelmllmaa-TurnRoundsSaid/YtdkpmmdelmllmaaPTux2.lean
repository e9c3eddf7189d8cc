-- Printed by a program of this session (wip/tools/myprint.py) out of the translation; Lean checks it.
import Derived.Test.YtdkpmmdelmllmaaPTux0
import Derived.Test.YtdkpmmdelmllmaaPTux1
namespace Go.Proofs.Ytdkpmmdelmllmaa.PTu
open Go.RowKit Go.Proofs.YtdkpmmdelmllmaaW.PrintWords Go.Proofs.YtdkpmmdelmllmaaW.PrintLast Go.Proofs.YtdkpmmdelmllmaaW.PrintMore
attribute [local go_sem] max2_int min2_int max_two min_two max_three min_three max_four min_four   -- for this text's walks alone
set_option linter.unusedVariables false
set_option linter.unusedSimpArgs false

attribute [local go_sem high] eqA26
/-! ### turn_Wrap: function 10 -/
def turn_Wrap.f (a0 : Int) : Option (Int) := some (Go.bits .and .i64 a0 4294967295)
set_option maxHeartbeats 8000000 in
set_option maxRecDepth 100000 in
theorem turn_Wrap.calls (a0 : Int) (r : Int) (w : World) (h : turn_Wrap.f a0 = some r) :
    Calls Try.prog 10 #[.int .i64 a0] w fun e w' => e = .returned (.int .i64 r) ∧ Drawn0 w w' := by
  have H : (some (Go.bits .and .i64 a0 4294967295)) = some r := h
  clear h
  obtain rfl := Option.some.inj H
  go_enter Try.func10, Try.ntmps10
  go_wp2
  go_ret
  exact ⟨by first | rfl | (simp; done) | (simp [*]; done) | (simp [wrap64]; done) | (congr 2 <;> first | rfl | (unfold wrap64; omega)), by repeat (first | exact Drawn0.refl _ | apply Drawn0.step)⟩

/-! ### turn_Step: function 9 -/
def turn_Step.f (a0 : Int) : Option (Int) := (turn_Wrap.f a0).bind fun t101 => (some (t101 / 4194304))
set_option maxHeartbeats 8000000 in
set_option maxRecDepth 100000 in
theorem turn_Step.calls (a0 : Int) (r : Int) (w : World) (h : turn_Step.f a0 = some r) :
    Calls Try.prog 9 #[.int .i64 a0] w fun e w' => e = .returned (.int .i64 r) ∧ Drawn0 w w' := by
  have H : ((turn_Wrap.f a0).bind fun t101 => (some (t101 / 4194304))) = some r := h
  clear h
  replace H := Option.bind_eq_some_iff.mp H
  obtain ⟨t101, A20, H⟩ := H
  replace H : (some (t101 / 4194304)) = some r := H
  have A2 := Aside0.mk A20
  clear A20
  obtain rfl := Option.some.inj H
  go_enter Try.func9, Try.ntmps9
  go_wp2_with (first | ((with_reducible refine gate_callee (f := 10) rfl ?_); refine goesL_ (some 4) rfl rfl Try.func10 (by kernel_rfl) rfl #[.int .i64 a0] rfl (by (try simp only [List.map_toArray, List.map_cons, List.map_nil]); first | done | rfl | (simp only [List.length_drop, List.length_take]; rfl)) ?_; (with_reducible refine (turn_Wrap.calls a0 t101 _ A2.out).mono ?_); rintro e w' ⟨rfl, ⟨nd, rfl⟩⟩; refine ⟨_, rfl, ?_⟩))
  go_ret
  exact ⟨by first | rfl | (simp; done) | (simp [*]; done) | (simp [wrap64]; done) | (congr 2 <;> first | rfl | (unfold wrap64; omega)), by repeat (first | exact Drawn0.refl _ | apply Drawn0.step)⟩

/-! ### api_Sine: function 17 -/
section
variable {P : Program}
theorem wpList_alloc_to {ops : Array Oper} {rest : List Oper} {o : Oper} {a : Act} {w : World} {Q : Exit → Act → World → Prop} (hg : o.guard = none) (t : TypeId) (ho : o.op = .alloc t)
    (d : Option Tmp) (hd : o.dst = d) (z : Array Value) (hz : (zeroValue t).run P w = .ok (.agg z) w)
    (h : wpList P ops Q rest (a.put d (.pointer (some ⟨w.heap.size, 0, none⟩))) (w.alloc (.cells z t))) : wpList P ops Q (o :: rest) a w := by
  subst hd
  refine wpList_plain hg fun K hK => ?_
  unfold Oper.wp execOp
  simp only [ho, Instr.alloc, Sem.run_bind, hz, Result.andThen_ok, newVar, newRow, Value.cells]
  go_simp
  exact hK _ _ h
theorem setRow_alloc (w : World) (z c : Array Value) (t : TypeId) : (w.alloc (.cells z t)).setRow w.heap.size c = w.alloc (.cells c t) := by
  unfold World.setRow World.alloc
  simp only [World.mk.injEq, and_true]
  apply Array.ext
  · simp
  · intro i h1 h2
    simp only [Array.getElem_modify, Array.getElem_push]
    by_cases hi : i < w.heap.size
    · simp [hi, Nat.ne_of_gt hi]
    · have : i = w.heap.size := by simp at h2; omega
      subst this; simp
theorem cell_alloc_row (w : World) (c : Array Value) (t : TypeId) (j : Nat) : (w.alloc (.cells c t)).cell? ⟨w.heap.size, j, none⟩ = c[j]? :=
  cell_of_row _ _ j c t (0, 0) (heap_alloc_new w _)
end
/-- The sines of the first quarter's 256 steps. -/
def sineTab : List Int := [0, 26353424, 52705856, 79056303, 105403774, 131747276, 158085819, 184418409, 210744057, 237061769, 263370557, 289669429, 315957395, 342233465, 368496651, 394745962, 420980412, 447199012, 473400776, 499584716, 525749847, 551895183, 578019742, 604122538, 630202589, 656258914, 682290530, 708296459, 734275721, 760227338, 786150333, 812043729, 837906553, 863737830, 889536587, 915301854, 941032661, 966728038, 992387019, 1018008636, 1043591926, 1069135926, 1094639673, 1120102207, 1145522571, 1170899806, 1196232957, 1221521071, 1246763195, 1271958380, 1297105676, 1322204136, 1347252816, 1372250773, 1397197066, 1422090755, 1446930903, 1471716574, 1496446837, 1521120759, 1545737412, 1570295869, 1594795204, 1619234497, 1643612827, 1667929275, 1692182927, 1716372869, 1740498191, 1764557983, 1788551342, 1812477362, 1836335144, 1860123788, 1883842400, 1907490086, 1931065957, 1954569124, 1977998702, 2001353810, 2024633568, 2047837100, 2070963532, 2094011993, 2116981616, 2139871536, 2162680890, 2185408821, 2208054473, 2230616993, 2253095531, 2275489241, 2297797281, 2320018810, 2342152991, 2364198992, 2386155981, 2408023134, 2429799626, 2451484637, 2473077351, 2494576955, 2515982640, 2537293599, 2558509031, 2579628136, 2600650120, 2621574191, 2642399561, 2663125446, 2683751066, 2704275644, 2724698408, 2745018589, 2765235421, 2785348143, 2805355999, 2825258235, 2845054101, 2864742853, 2884323748, 2903796051, 2923159027, 2942411948, 2961554089, 2980584729, 2999503152, 3018308645, 3037000500, 3055578014, 3074040487, 3092387225, 3110617535, 3128730733, 3146726136, 3164603066, 3182360851, 3199998822, 3217516315, 3234912670, 3252187232, 3269339351, 3286368382, 3303273682, 3320054617, 3336710553, 3353240863, 3369644927, 3385922125, 3402071844, 3418093478, 3433986423, 3449750080, 3465383855, 3480887161, 3496259414, 3511500034, 3526608449, 3541584088, 3556426389, 3571134792, 3585708745, 3600147697, 3614451106, 3628618433, 3642649144, 3656542712, 3670298613, 3683916329, 3697395348, 3710735162, 3723935269, 3736995171, 3749914379, 3762692404, 3775328765, 3787822988, 3800174601, 3812383140, 3824448145, 3836369162, 3848145741, 3859777440, 3871263820, 3882604450, 3893798902, 3904846754, 3915747591, 3926501002, 3937106583, 3947563934, 3957872662, 3968032378, 3978042699, 3987903250, 3997613658, 4007173558, 4016582591, 4025840401, 4034946641, 4043900968, 4052703044, 4061352537, 4069849124, 4078192482, 4086382299, 4094418266, 4102300081, 4110027446, 4117600071, 4125017671, 4132279966, 4139386683, 4146337555, 4153132319, 4159770720, 4166252509, 4172577440, 4178745276, 4184755784, 4190608739, 4196303920, 4201841112, 4207220108, 4212440704, 4217502704, 4222405917, 4227150159, 4231735252, 4236161021, 4240427302, 4244533933, 4248480760, 4252267634, 4255894413, 4259360959, 4262667143, 4265812840, 4268797931, 4271622305, 4274285855, 4276788480, 4279130086, 4281310585, 4283329896, 4285187942, 4286884652, 4288419964, 4289793820, 4291006167, 4292056960, 4292946160, 4293673732, 4294239650, 4294643893, 4294886444, 4294967296]
def sineCells : Array Value := (sineTab.map (Value.int .i64)).toArray
theorem sine_cell (n : Int) (h0 : 0 ≤ n) (h1 : n < 257) : sineCells[n.toNat]? = some (.int .i64 (sineTab.getD n.toNat 0)) := by
  have hl : sineTab.length = 257 := by decide +kernel
  unfold sineCells
  have : n.toNat < sineTab.length := by omega
  simp [List.getD_eq_getElem?_getD, List.getElem?_eq_getElem this]
theorem sineCells_eq : (sineTab.map (Value.int .i64)).toArray = sineCells := rfl
attribute [local irreducible] sineTab sineCells
def api_Sine.f (a0 : Int) : Option (Int) := if a0 < 0 then (some 0) else (if a0 ≥ 257 then (some 0) else (some (sineTab.getD a0.toNat 0)))
set_option maxHeartbeats 400000 in
set_option maxRecDepth 100000 in
theorem api_Sine.calls (a0 : Int) (r : Int) (w : World) (h : api_Sine.f a0 = some r) :
    Calls Try.prog 17 #[.int .i64 a0] w fun e w' => e = .returned (.int .i64 r) ∧ Below w.heap.size w w' := by
  have H := Aside0.mk h
  clear h
  go_enter Try.func17, Try.ntmps17
  go_upto_region 1 with (fail)
  refine wp_region_lit ?_
  refine wpList_buildFlatArrTo rfl 42 22 257 _ rfl .i64 sineTab (some 4) rfl (by as_aux_lemma => kernel_rfl) (by as_aux_lemma => kernel_rfl) (by as_aux_lemma => kernel_rfl) (by as_aux_lemma => kernel_rfl) ?_
  rw [sineCells_eq]
  refine wpList_alloc_to rfl 42 rfl (some 3) rfl (Array.replicate 257 (.int .i64 0)) (by as_aux_lemma => kernel_rfl) ?_
  refine wpList_store_rowTo rfl 42 _ _ rfl rfl w.heap.size sineCells rfl rfl 42 (Array.replicate 257 (.int .i64 0)) (heap_alloc_new w _) (by as_aux_lemma => kernel_rfl) (by as_aux_lemma => kernel_rfl) (by as_aux_lemma => kernel_rfl) ?_
  rw [setRow_alloc]
  refine wpList_nil ?_
  by_cases h0 : a0 < 0
  · go_wp2
    go_ret
    have H := H.out
    unfold api_Sine.f at H
    rw [if_pos (by omega)] at H
    obtain rfl := Option.some.inj H
    exact ⟨rfl, (Below.refl _ _).alloc (Nat.le_refl _) _⟩
  · by_cases h1 : a0 ≥ 257
    · go_wp2
      go_ret
      have H := H.out
      unfold api_Sine.f at H
      rw [if_neg (by omega), if_pos (by omega)] at H
      obtain rfl := Option.some.inj H
      exact ⟨rfl, (Below.refl _ _).alloc (Nat.le_refl _) _⟩
    · have hi0 : 0 ≤ a0 := by omega
      have hi1 : a0 < 257 := by omega
      have hc : (w.alloc (.cells sineCells 42)).cell? ⟨w.heap.size, a0.toNat, none⟩ = some (.int .i64 (sineTab.getD a0.toNat 0)) := by rw [cell_alloc_row, sine_cell a0 hi0 hi1]
      go_wp2
      go_ret
      have H := H.out
      unfold api_Sine.f at H
      rw [if_neg (by omega), if_neg (by omega)] at H
      obtain rfl := Option.some.inj H
      exact ⟨rfl, (Below.refl _ _).alloc (Nat.le_refl _) _⟩

/-! ### turn_sine: function 16 -/
def turn_sine.f : Nat → Int → Option (Int)
  | 0, _ => none
  | k + 1, a0 => if (Go.bits .and .i64 a0 1023) ≤ 256 then ((api_Sine.f (Go.bits .and .i64 a0 1023)).bind fun t102 => (some t102)) else (if (Go.bits .and .i64 a0 1023) ≤ 512 then ((api_Sine.f (wrap64 (512 - (Go.bits .and .i64 a0 1023)))).bind fun t103 => (some t103)) else ((turn_sine.f k (wrap64 ((Go.bits .and .i64 a0 1023) - 512))).bind fun t104 => (some (wrap64 (-t104)))))
theorem turn_sine.mono_l : ∀ k, (∀ y0, LeO (turn_sine.f k y0) (turn_sine.f (k + 1) y0))
  | 0 => fun _ r h => by simp [turn_sine.f] at h
  | k + 1 => by
    have ih0 := turn_sine.mono_l k
    · intro y0
      unfold turn_sine.f
      repeat' first
      | (with_reducible exact ih0 _)
      | (with_reducible exact LeO.refl _)
      | (with_reducible exact LeO.none _)
      | (with_reducible refine LeO.ite ?_ ?_)
      | (with_reducible refine LeO.bind ?_ (fun _ => ?_))
      | exact ih0 _
      | exact LeO.none _
      | refine LeO.ite ?_ ?_
      | refine LeO.bind ?_ (fun _ => ?_)
theorem turn_sine.mono : ∀ a0 k, LeO (turn_sine.f k a0) (turn_sine.f (k + 1) a0) := by
  intro a0 k
  have ih0 := turn_sine.mono_l k
  exact ih0 a0
set_option maxHeartbeats 8000000 in
set_option maxRecDepth 100000 in
theorem turn_sine.calls (k : Nat) : ∀ (a0 : Int) (r : Int) (w : World) (h : turn_sine.f k a0 = some r),
    Calls Try.prog 16 #[.int .i64 a0] w fun e w' => e = .returned (.int .i64 r) ∧ Below w.heap.size w w' := by
  induction k using Nat.strongRecOn with
  | _ k ih =>
  intro a0 r w h
  cases k with
  | zero => exact absurd h (by simp [turn_sine.f])
  | succ k =>
  simp only [turn_sine.f] at h
  have HB := Aside0.mk (Below.refl w.heap.size w)
  have H : (if (Go.bits .and .i64 a0 1023) ≤ 256 then ((api_Sine.f (Go.bits .and .i64 a0 1023)).bind fun t102 => (some t102)) else (if (Go.bits .and .i64 a0 1023) ≤ 512 then ((api_Sine.f (wrap64 (512 - (Go.bits .and .i64 a0 1023)))).bind fun t103 => (some t103)) else ((turn_sine.f k (wrap64 ((Go.bits .and .i64 a0 1023) - 512))).bind fun t104 => (some (wrap64 (-t104)))))) = some r := h
  clear h
  by_cases c2 : (Go.bits .and .i64 a0 1023) ≤ 256
  · rw [if_pos c2] at H
    have c2b0 : decide ((Go.bits .and .i64 a0 1023) ≤ 256) = true := decide_eq_true c2
    clear c2
    replace H := Option.bind_eq_some_iff.mp H
    obtain ⟨t102, A30, H⟩ := H
    replace H : (some t102) = some r := H
    have A3 := Aside0.mk A30
    clear A30
    obtain rfl := Option.some.inj H
    go_enter Try.func16, Try.ntmps16
    go_wp2_with (first | ((with_reducible refine gate_callee (f := 17) rfl ?_); refine goesL_ (some 9) rfl rfl Try.func17 (by kernel_rfl) rfl #[.int .i64 (Go.bits .and .i64 a0 1023)] rfl (by (try simp only [List.map_toArray, List.map_cons, List.map_nil]); first | done | rfl | (simp only [List.length_drop, List.length_take]; rfl)) ?_; (with_reducible refine (api_Sine.calls (Go.bits .and .i64 a0 1023) t102 _ A3.out).mono ?_); rintro e w4 ⟨rfl, hb⟩; refine ⟨_, rfl, ?_⟩; have n0_ := Aside0.mk (below_step (by repeat (first | (with_reducible first | exact HB.out | apply below_alloc | apply pw_below_drewN | apply below_drew1) | exact HB.out)) hb); clear HB; have HB := n0_; clear n0_; (try clear hb); (try clear hb2); (try clear hk); (try clear hi)))
    go_ret
    exact ⟨by first | rfl | (simp [errW_none, errW_some] <;> rfl) | (simp [*, errW_none, errW_some] <;> rfl) | (simp [wrap64]; done) | (congr 2 <;> first | rfl | (unfold wrap64; omega)), by repeat (first | (with_reducible first | exact HB.out | apply below_alloc | apply pw_below_drewN | apply below_drew1) | exact HB.out)⟩
  · rw [if_neg c2] at H
    have c2b0 : decide ((Go.bits .and .i64 a0 1023) ≤ 256) = false := decide_eq_false c2
    clear c2
    by_cases c5 : (Go.bits .and .i64 a0 1023) ≤ 512
    · rw [if_pos c5] at H
      have c5b0 : decide ((Go.bits .and .i64 a0 1023) ≤ 512) = true := decide_eq_true c5
      clear c5
      replace H := Option.bind_eq_some_iff.mp H
      obtain ⟨t103, A60, H⟩ := H
      replace H : (some t103) = some r := H
      have A6 := Aside0.mk A60
      clear A60
      obtain rfl := Option.some.inj H
      go_enter Try.func16, Try.ntmps16
      go_wp2_with (first | ((with_reducible refine gate_callee (f := 17) rfl ?_); refine goesL_ (some 15) rfl rfl Try.func17 (by kernel_rfl) rfl #[.int .i64 (wrap64 (512 - (Go.bits .and .i64 a0 1023)))] rfl (by (try simp only [List.map_toArray, List.map_cons, List.map_nil]); first | done | rfl | (simp only [List.length_drop, List.length_take]; rfl)) ?_; (with_reducible refine (api_Sine.calls (wrap64 (512 - (Go.bits .and .i64 a0 1023))) t103 _ A6.out).mono ?_); rintro e w7 ⟨rfl, hb⟩; refine ⟨_, rfl, ?_⟩; have n0_ := Aside0.mk (below_step (by repeat (first | (with_reducible first | exact HB.out | apply below_alloc | apply pw_below_drewN | apply below_drew1) | exact HB.out)) hb); clear HB; have HB := n0_; clear n0_; (try clear hb); (try clear hb2); (try clear hk); (try clear hi)))
      go_ret
      exact ⟨by first | rfl | (simp [errW_none, errW_some] <;> rfl) | (simp [*, errW_none, errW_some] <;> rfl) | (simp [wrap64]; done) | (congr 2 <;> first | rfl | (unfold wrap64; omega)), by repeat (first | (with_reducible first | exact HB.out | apply below_alloc | apply pw_below_drewN | apply below_drew1) | exact HB.out)⟩
    · rw [if_neg c5] at H
      have c5b0 : decide ((Go.bits .and .i64 a0 1023) ≤ 512) = false := decide_eq_false c5
      clear c5
      replace H := Option.bind_eq_some_iff.mp H
      obtain ⟨t104, A80, H⟩ := H
      replace H : (some (wrap64 (-t104))) = some r := H
      have A8 := Aside0.mk A80
      clear A80
      obtain rfl := Option.some.inj H
      go_enter Try.func16, Try.ntmps16
      go_wp2_with (first | ((with_reducible refine gate_callee (f := 16) rfl ?_); refine goesL_ (some 18) rfl rfl Try.func16 (by kernel_rfl) rfl #[.int .i64 (wrap64 ((Go.bits .and .i64 a0 1023) - 512))] rfl (by (try simp only [List.map_toArray, List.map_cons, List.map_nil]); first | done | rfl | (simp only [List.length_drop, List.length_take]; rfl)) ?_; (with_reducible refine (ih k (by omega) (wrap64 ((Go.bits .and .i64 a0 1023) - 512)) t104 _ A8.out).mono ?_); rintro e w9 ⟨rfl, hb⟩; refine ⟨_, rfl, ?_⟩; have n0_ := Aside0.mk (below_step (by repeat (first | (with_reducible first | exact HB.out | apply below_alloc | apply pw_below_drewN | apply below_drew1) | exact HB.out)) hb); clear HB; have HB := n0_; clear n0_; (try clear hb); (try clear hb2); (try clear hk); (try clear hi)))
      go_ret
      exact ⟨by first | rfl | (simp [errW_none, errW_some] <;> rfl) | (simp [*, errW_none, errW_some] <;> rfl) | (simp [wrap64]; done) | (congr 2 <;> first | rfl | (unfold wrap64; omega)), by repeat (first | (with_reducible first | exact HB.out | apply below_alloc | apply pw_below_drewN | apply below_drew1) | exact HB.out)⟩

/-! ### turn_Of: function 8 -/
def turn_Of.f (k : Nat) (a0 : Int) : Option (Int × Int) := (turn_Step.f a0).bind fun t106 => ((turn_sine.f k (wrap64 (t106 + 256))).bind fun t107 => ((turn_sine.f k t106).bind fun t108 => (some (t107, t108))))
theorem turn_Of.mono : ∀ a0 k, LeO (turn_Of.f k a0) (turn_Of.f (k + 1) a0) := by
  intro a0 k
  unfold turn_Of.f
  repeat' first
      | (with_reducible exact turn_sine.mono _ _)
      | (with_reducible exact LeO.refl _)
      | (with_reducible exact LeO.none _)
      | (with_reducible refine LeO.ite ?_ ?_)
      | (with_reducible refine LeO.bind ?_ (fun _ => ?_))
      | exact turn_sine.mono _ _
      | exact LeO.none _
      | refine LeO.ite ?_ ?_
      | refine LeO.bind ?_ (fun _ => ?_)
set_option maxHeartbeats 8000000 in
set_option maxRecDepth 100000 in
theorem turn_Of.calls (k : Nat) (a0 : Int) (r1 : Int) (r2 : Int) (w : World) (h : turn_Of.f k a0 = some (r1, r2)) :
    Calls Try.prog 8 #[.int .i64 a0] w fun e w' => e = .returned (.agg #[.int .i64 r1, .int .i64 r2]) ∧ Below w.heap.size w w' := by
  have hu26 := Try.underlying26
  have HB := Aside0.mk (Below.refl w.heap.size w)
  have H : ((turn_Step.f a0).bind fun t106 => ((turn_sine.f k (wrap64 (t106 + 256))).bind fun t107 => ((turn_sine.f k t106).bind fun t108 => (some (t107, t108))))) = some (r1, r2) := h
  clear h
  replace H := Option.bind_eq_some_iff.mp H
  obtain ⟨t106, A20, H⟩ := H
  replace H : ((turn_sine.f k (wrap64 (t106 + 256))).bind fun t107 => ((turn_sine.f k t106).bind fun t108 => (some (t107, t108)))) = some (r1, r2) := H
  have A2 := Aside0.mk A20
  clear A20
  replace H := Option.bind_eq_some_iff.mp H
  obtain ⟨t107, A30, H⟩ := H
  replace H : ((turn_sine.f k t106).bind fun t108 => (some (t107, t108))) = some (r1, r2) := H
  have A3 := Aside0.mk A30
  clear A30
  replace H := Option.bind_eq_some_iff.mp H
  obtain ⟨t108, A40, H⟩ := H
  replace H : (some (t107, t108)) = some (r1, r2) := H
  have A4 := Aside0.mk A40
  clear A40
  simp only [Option.some.injEq, Prod.mk.injEq] at H
  obtain ⟨rfl, rfl⟩ := H
  go_enter Try.func8, Try.ntmps8
  go_wp2_with (first | ((with_reducible refine gate_dst (N := 2) rfl ?_); refine box_event ?hg (N := 2) ?hd (cs := #[.int .i64 0, .int .i64 0]) (t := 26) ?hr ?_; (case hd => rfl); (case hg => rfl); (case hr => first | (go_simp; done) | (go_simp; rfl)); intro gb105 hg w5 hbox hb; have n0_ := Aside0.mk (below_step (by repeat (first | (with_reducible first | exact HB.out | apply below_alloc | apply pw_below_drewN | apply below_drew1) | exact HB.out)) hb); have n1_ := Aside0.mk (hbox); have n2_ := Aside0.mk ((by rw [hg]; exact (below_size (by repeat (first | (with_reducible first | exact HB.out | apply below_alloc | apply pw_below_drewN | apply below_drew1) | exact HB.out))) : w.heap.size ≤ gb105)); have n3_ := Aside0.mk ((by rw [hg]; exact (below_size (by repeat (first | (with_reducible first | exact HB.out | apply below_alloc | apply pw_below_drewN | apply below_drew1) | exact HB.out))) : w.heap.size ≤ gb105)); clear HB; have HB := n0_; have BK105 := n1_; have GW105 := n2_; have GE105 := n3_; clear n0_ n1_ n2_ n3_; clear hb hbox hg) | ((with_reducible refine gate_callee (f := 9) rfl ?_); refine goesL_ (some 5) rfl rfl Try.func9 (by kernel_rfl) rfl #[.int .i64 a0] rfl (by (try simp only [List.map_toArray, List.map_cons, List.map_nil]); first | done | rfl | (simp only [List.length_drop, List.length_take]; rfl)) ?_; (with_reducible refine (turn_Step.calls a0 t106 _ A2.out).mono ?_); rintro e w' ⟨rfl, ⟨nd, rfl⟩⟩; refine ⟨_, rfl, ?_⟩; (try (rw [drewN_self w5]; generalize hq_ : World.drewN w5 _ = w5; have n0_ : Aside0 (w5.heap[gb105]? = some (.cells #[.int .i64 0, .int .i64 0] 26 (0, 0))) := ⟨by rw [← hq_]; exact (by (with_reducible repeat (first | refine blk_drewN ?_ _ | refine blk_drew ?_ | refine blk_alloc ?_ _)); exact BK105.out)⟩; have n1_ : Aside0 (Below w.heap.size w w5) := ⟨by rw [← hq_]; exact (by repeat (first | (with_reducible first | exact HB.out | apply below_alloc | apply pw_below_drewN | apply below_drew1 | refine below_set ?_ GE105.out) | exact HB.out))⟩; clear BK105 HB hq_; have BK105 := n0_; have HB := n1_; clear n0_ n1_))) | ((with_reducible refine gate_callee (f := 16) rfl ?_); refine goesL_ (some 8) rfl rfl Try.func16 (by kernel_rfl) rfl #[.int .i64 (wrap64 (t106 + 256))] rfl (by (try simp only [List.map_toArray, List.map_cons, List.map_nil]); first | done | rfl | (simp only [List.length_drop, List.length_take]; rfl)) ?_; (with_reducible refine (turn_sine.calls k (wrap64 (t106 + 256)) t107 _ A3.out).mono ?_); rintro e w6 ⟨rfl, hb⟩; refine ⟨_, rfl, ?_⟩; have n0_ := Aside0.mk (blk_below (g := gb105) (o := .cells #[.int .i64 0, .int .i64 0] 26 (0, 0)) (by (with_reducible repeat (first | refine blk_drewN ?_ _ | refine blk_drew ?_ | refine blk_alloc ?_ _)); exact BK105.out) hb); have n1_ := Aside0.mk (below_step (by repeat (first | (with_reducible first | exact HB.out | apply below_alloc | apply pw_below_drewN | apply below_drew1 | refine below_set ?_ GE105.out) | exact HB.out)) hb); clear BK105; clear HB; have BK105 := n0_; have HB := n1_; clear n0_ n1_; (try clear hb); (try clear hb2); (try clear hk); (try clear hi)) | ((with_reducible refine gate_callee (f := 16) rfl ?_); refine goesL_ (some 10) rfl rfl Try.func16 (by kernel_rfl) rfl #[.int .i64 t106] rfl (by (try simp only [List.map_toArray, List.map_cons, List.map_nil]); first | done | rfl | (simp only [List.length_drop, List.length_take]; rfl)) ?_; (with_reducible refine (turn_sine.calls k t106 t108 _ A4.out).mono ?_); rintro e w7 ⟨rfl, hb⟩; refine ⟨_, rfl, ?_⟩; have n0_ := Aside0.mk (blk_below (g := gb105) (o := .cells #[.int .i64 0, .int .i64 0] 26 (0, 0)) (by (with_reducible repeat (first | refine blk_drewN ?_ _ | refine blk_drew ?_ | refine blk_alloc ?_ _)); exact BK105.out) hb); have n1_ := Aside0.mk (below_step (by repeat (first | (with_reducible first | exact HB.out | apply below_alloc | apply pw_below_drewN | apply below_drew1 | refine below_set ?_ GE105.out) | exact HB.out)) hb); clear BK105; clear HB; have BK105 := n0_; have HB := n1_; clear n0_ n1_; (try clear hb); (try clear hb2); (try clear hk); (try clear hi); have hcz8_0 : w7.cell? ⟨gb105, 0, none⟩ = some (.int .i64 0) := (blk_cell BK105.out 0).trans rfl; have hcz8_1 : w7.cell? ⟨gb105, 1, none⟩ = some (.int .i64 0) := (blk_cell BK105.out 1).trans rfl; have hfz8_0 := blk_frozen BK105.out 0; have hfz8_1 := blk_frozen BK105.out 1))
  refine bodyPost_ret (results_cell_row rfl _ _ gb105 26 #[.int .i64 t107, .int .i64 t108] (0, 0) _ rfl (by (with_reducible repeat (first | refine blk_drewN ?_ _ | refine blk_drew ?_ | refine blk_alloc ?_ _)); refine blk_put (cs := #[.int .i64 t107, .int .i64 0]) ?_ 1 _ rfl; (with_reducible repeat (first | refine blk_drewN ?_ _ | refine blk_drew ?_ | refine blk_alloc ?_ _)); refine blk_put (cs := #[.int .i64 0, .int .i64 0]) ?_ 0 _ rfl; (with_reducible repeat (first | refine blk_drewN ?_ _ | refine blk_drew ?_ | refine blk_alloc ?_ _)); exact BK105.out) Try.underlying26 rfl (by kernel_rfl)) rfl ?_
  exact ⟨by first | rfl | (simp [errW_none, errW_some] <;> rfl) | (simp [*, errW_none, errW_some] <;> rfl) | (simp [wrap64]; done) | (congr 2 <;> first | rfl | (unfold wrap64; omega)), by repeat (first | (with_reducible first | exact HB.out | apply below_alloc | apply pw_below_drewN | apply below_drew1 | refine below_set ?_ GE105.out) | exact HB.out)⟩

/-! ### bagatellelaw02_fit: function 7 -/
def bagatellelaw02_fit.f (k : Nat)  : Option (Bool) := (turn_Of.f k 1073741824).bind fun bt109 => (if (bt109.1 == 0 && (bt109.2 == 4294967296)) = true then ((turn_Step.f (-1)).bind fun t111 => (some (t111 == 1023))) else (some false))
theorem bagatellelaw02_fit.mono : ∀ k, LeO (bagatellelaw02_fit.f k ) (bagatellelaw02_fit.f (k + 1) ) := by
  intro  k
  unfold bagatellelaw02_fit.f
  repeat' first
      | (with_reducible exact turn_Of.mono _ _)
      | (with_reducible exact LeO.refl _)
      | (with_reducible exact LeO.none _)
      | (with_reducible refine LeO.ite ?_ ?_)
      | (with_reducible refine LeO.bind ?_ (fun _ => ?_))
      | exact turn_Of.mono _ _
      | exact LeO.none _
      | refine LeO.ite ?_ ?_
      | refine LeO.bind ?_ (fun _ => ?_)
set_option maxHeartbeats 8000000 in
set_option maxRecDepth 100000 in
theorem bagatellelaw02_fit.calls (k : Nat)  (r : Bool) (w : World) (h : bagatellelaw02_fit.f k  = some r) :
    Calls Try.prog 7 #[] w fun e w' => e = .returned (.bool r) ∧ Below w.heap.size w w' := by
  have hu26 := Try.underlying26
  have HB := Aside0.mk (Below.refl w.heap.size w)
  have H : ((turn_Of.f k 1073741824).bind fun bt109 => (if (bt109.1 == 0 && (bt109.2 == 4294967296)) = true then ((turn_Step.f (-1)).bind fun t111 => (some (t111 == 1023))) else (some false))) = some r := h
  clear h
  replace H := Option.bind_eq_some_iff.mp H
  obtain ⟨⟨t109, t110⟩, A10, H⟩ := H
  replace H : (if (t109 == 0 && (t110 == 4294967296)) = true then ((turn_Step.f (-1)).bind fun t111 => (some (t111 == 1023))) else (some false)) = some r := H
  have A1 := Aside0.mk A10
  clear A10
  by_cases c2 : (t109 == 0 && (t110 == 4294967296)) = true
  · rw [if_pos c2] at H
    have c2b0 : (t109 == 0 && (t110 == 4294967296)) = true := c2
    (try (have c2b1 : decide (t109 = 0 && (t110 == 4294967296)) = true := by simpa using c2))
    (try (have c2b2 : (t109 == 0 && (t110 == 4294967296)) = true := by simpa using c2))
    clear c2
    replace H := Option.bind_eq_some_iff.mp H
    obtain ⟨t111, A30, H⟩ := H
    replace H : (some (t111 == 1023)) = some r := H
    have A3 := Aside0.mk A30
    clear A30
    obtain rfl := Option.some.inj H
    go_enter Try.func7, Try.ntmps7
    go_wp2_with (first | ((with_reducible refine gate_callee (f := 8) rfl ?_); refine goesL_ (some 1) rfl rfl Try.func8 (by kernel_rfl) rfl #[.int .i64 1073741824] rfl (by (try simp only [List.map_toArray, List.map_cons, List.map_nil]); first | done | rfl | (simp only [List.length_drop, List.length_take]; rfl)) ?_; (with_reducible refine (turn_Of.calls k 1073741824 t109 t110 _ A1.out).mono ?_); rintro e w4 ⟨rfl, hb⟩; refine ⟨_, rfl, ?_⟩; have n0_ := Aside0.mk (below_step (by repeat (first | (with_reducible first | exact HB.out | apply below_alloc | apply pw_below_drewN | apply below_drew1) | exact HB.out)) hb); clear HB; have HB := n0_; clear n0_; (try clear hb); (try clear hb2); (try clear hk); (try clear hi)) | (go_at_call 9; (with_reducible refine (turn_Step.calls (-1) t111 _ A3.out).mono ?_); rintro e w' ⟨rfl, ⟨nd, rfl⟩⟩))
    go_ret
    exact ⟨by first | rfl | (simp [errW_none, errW_some] <;> rfl) | (simp [*, errW_none, errW_some] <;> rfl) | (simp [wrap64]; done) | (congr 2 <;> first | rfl | (unfold wrap64; omega)), by repeat (first | (with_reducible first | exact HB.out | apply below_alloc | apply pw_below_drewN | apply below_drew1) | exact HB.out)⟩
  · rw [if_neg c2] at H
    have c2b0 : (t109 == 0 && (t110 == 4294967296)) = false := by simpa using c2
    (try (have c2b1 : decide (t109 = 0 && (t110 == 4294967296)) = false := by simpa using c2))
    (try (have c2b2 : (t109 == 0 && (t110 == 4294967296)) = false := by simpa using c2))
    (try (have c2b3 : ¬ (t109 = 0 && (t110 == 4294967296)) := by simpa using c2))
    clear c2
    obtain rfl := Option.some.inj H
    go_enter Try.func7, Try.ntmps7
    go_wp2_with (first | ((with_reducible refine gate_callee (f := 8) rfl ?_); refine goesL_ (some 1) rfl rfl Try.func8 (by kernel_rfl) rfl #[.int .i64 1073741824] rfl (by (try simp only [List.map_toArray, List.map_cons, List.map_nil]); first | done | rfl | (simp only [List.length_drop, List.length_take]; rfl)) ?_; (with_reducible refine (turn_Of.calls k 1073741824 t109 t110 _ A1.out).mono ?_); rintro e w5 ⟨rfl, hb⟩; refine ⟨_, rfl, ?_⟩; have n0_ := Aside0.mk (below_step (by repeat (first | (with_reducible first | exact HB.out | apply below_alloc | apply pw_below_drewN | apply below_drew1) | exact HB.out)) hb); clear HB; have HB := n0_; clear n0_; (try clear hb); (try clear hb2); (try clear hk); (try clear hi)))
    go_ret
    exact ⟨by first | rfl | (simp [errW_none, errW_some] <;> rfl) | (simp [*, errW_none, errW_some] <;> rfl) | (simp [wrap64]; done) | (congr 2 <;> first | rfl | (unfold wrap64; omega)), by repeat (first | (with_reducible first | exact HB.out | apply below_alloc | apply pw_below_drewN | apply below_drew1) | exact HB.out)⟩

end Go.Proofs.Ytdkpmmdelmllmaa.PTu
