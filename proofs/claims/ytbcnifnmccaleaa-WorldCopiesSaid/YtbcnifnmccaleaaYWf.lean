/- Worlds: deeds, and worlds made of them. -/
import Derived.Test.YtbcnifnmccaleaaYWe
namespace Go.Proofs.Ytbcnifnmccaleaa.Y
open Go Go.RowKit Go.Proofs.Ytbcnifnmccaleaa.E Go.Proofs.Ytbcnifnmccaleaa.Ma Go.Proofs.Ytbcnifnmccaleaa.Fw
set_option linter.unusedVariables false
set_option linter.unusedSimpArgs false
set_option maxRecDepth 10000

abbrev DT := Int × Int × Int × Int × Int × Int × Int × Int × Int × Int × Int × Int × Int × Int × Int × Int × Int × Int × Int × Int × Int × Int × Int × Int × Int × Int × Int × Int × Int × (Nat × (Nat → List AV))
abbrev PT := Int × Int × Int × Int × Int × Int × Int × Int × Int × Int × (Nat × (Nat → P2))
def rawB (r : PT) : BT := (r.1, r.2.1, r.2.2.1, r.2.2.2.1, r.2.2.2.2.1, r.2.2.2.2.2.1, r.2.2.2.2.2.2.1, r.2.2.2.2.2.2.2.1, r.2.2.2.2.2.2.2.2.1, r.2.2.2.2.2.2.2.2.2.1, (r.2.2.2.2.2.2.2.2.2.2.1, fun i => Rii.enc (r.2.2.2.2.2.2.2.2.2.2.2 i)))
def FineD (d : DT) : Prop := I64 d.2.2.2.2.2.1 ∧ I64 d.2.2.2.2.2.2.1 ∧ I64 d.2.2.2.2.2.2.2.2.1 ∧ I64 d.2.2.2.2.2.2.2.2.2.1 ∧ I64 d.2.2.2.2.2.2.2.2.2.2.1 ∧ I64 d.2.2.2.2.2.2.2.2.2.2.2.2.2.2.1 ∧ I64 d.2.2.2.2.2.2.2.2.2.2.2.2.2.2.2.1 ∧ I64 d.2.2.2.2.2.2.2.2.2.2.2.2.2.2.2.2.1 ∧ I64 d.2.2.2.2.2.2.2.2.2.2.2.2.2.2.2.2.2.1 ∧ I64 d.2.2.2.2.2.2.2.2.2.2.2.2.2.2.2.2.2.2.2.2.1 ∧ I64 d.2.2.2.2.2.2.2.2.2.2.2.2.2.2.2.2.2.2.2.2.2.1 ∧ I64 d.2.2.2.2.2.2.2.2.2.2.2.2.2.2.2.2.2.2.2.2.2.2.1 ∧ I64 d.2.2.2.2.2.2.2.2.2.2.2.2.2.2.2.2.2.2.2.2.2.2.2.1 ∧ I64 d.2.2.2.2.2.2.2.2.2.2.2.2.2.2.2.2.2.2.2.2.2.2.2.2.2.1 ∧ Inner d.2.2.2.2.2.2.2.2.2.2.2.2.2.2.2.2.2.2.2.2.2.2.2.2.2.2.2.2.2
theorem w_i (x : Int) : I64 (IntKind.i64.wrap x) := by rw [IntKind.wrap_i64]; unfold I64; omega
theorem bring_ok {x lo hi : Int} (h : I64 x) (h1 : I64 lo) (h2 : I64 hi) : ∃ y, fix.Bring.f (x, lo, hi) = some y ∧ I64 y := by
  rw [fix.Bring.eq, whole_eq, Option.bind_some]
  have := (wh_s h).i
  refine ⟨_, rfl, ?_⟩
  repeat' split
  all_goals assumption
theorem vbring_ok {x y m : Int} (h : I64 x) (h' : I64 y) (hm : I64 m) : ∃ r : Int × Int, vec.Bring.f ((x, y), m) = some r ∧ I64 r.1 ∧ I64 r.2 := by
  obtain ⟨a, a1, a2⟩ := bring_ok h (w_i (0 - m)) hm
  obtain ⟨b, b1, b2⟩ := bring_ok h' (w_i (0 - m)) hm
  rw [vec.Bring.eq, a1, Option.bind_some, b1, Option.bind_some]
  exact ⟨(a, b), rfl, a2, b2⟩
/-- A body whose numbers may be used. -/
def BodyOk (r : PT) : Prop := I64 r.2.1 ∧ I64 r.2.2.1 ∧ I64 r.2.2.2.1 ∧ I64 r.2.2.2.2.1 ∧ I64 r.2.2.2.2.2.2.1 ∧ ∀ i, i < r.2.2.2.2.2.2.2.2.2.2.1 → I2 (r.2.2.2.2.2.2.2.2.2.2.2 i)
theorem BodyOk.fine {r : PT} (h : BodyOk r) : FineB (rawB r) := ⟨h.1, h.2.1, h.2.2.1, h.2.2.2.1, h.2.2.2.2.1, _, rfl, h.2.2.2.2.2⟩
theorem i0 : I64 0 := by unfold I64; omega

theorem place_ok {a b c d x y e : Int} (hx : I64 x) (hy : I64 y) : ∃ r, law06.Place.Body.f (a, b, c, d, x, y, e) = some r ∧ BodyOk r := by
  obtain ⟨v, v1, v2, v3⟩ := vbring_ok (m := 4294967296000) hx hy (by unfold I64; omega)
  obtain ⟨s, s1, s2⟩ := Seed_eq a b c d
  rw [law06.Place.Body.eq, v1, Option.bind_some, s1, Option.bind_some]
  simp only [dec_tG, dec_tCons, dec_tOne, dec_tI, dec_tTL, decRows_enc Rii_dec, Option.bind_some]
  refine ⟨_, rfl, v2, v3, i0, i0, i0, fun i hi => ?_⟩
  have hi' : i < seedN a b := hi
  show I2 (s i)
  rw [s2 i hi']
  exact (seed_near a b c d i hi').i
theorem dbody_ok {d : DT} (h : FineD d) : ∃ r : PT, law09.Deed.Body.f d = some r ∧ BodyOk r := by
  obtain ⟨x0, x1, x2, x3, x4, x5, x6, x7, x8, x9, x10, x11, x12, x13, x14, x15, x16, x17, x18, x19, x20, x21, x22, x23, x24, x25, x26, x27, x28, n, G⟩ := d
  obtain ⟨a5, a6, a8, a9, a10, a14, a15, a16, a17, a20, a21, a22, a23, a25, g, hG, hg⟩ := h
  dsimp only at a5 a6 a8 a9 a10 a14 a15 a16 a17 a20 a21 a22 a23 a25 hG hg
  subst hG
  obtain ⟨r, r1, r2⟩ := place_ok (a := x1) (b := x2) (c := x3) (d := x4) (e := x7) a5 a6
  obtain ⟨v, v1, v2, v3⟩ := vbring_ok (m := 85899345920) a8 a9 (by unfold I64; omega)
  obtain ⟨s, s1, s2⟩ := bring_ok (x := x10) (lo := -85899345920) (hi := 85899345920) a10 (by unfold I64; omega) (by unfold I64; omega)
  rw [law09.Deed.Body.eq]
  simp only [r1, v1, s1, Option.bind_some, Bool.cond_eq_ite]
  simp only [dec_tG, dec_tCons, dec_tOne, dec_tI, dec_tTL, decRows_enc Rii_dec, Option.bind_some]
  obtain ⟨b1, b2, b3, b4, b5, b7⟩ := r2
  split
  · exact ⟨_, rfl, a20, a21, a22, a23, a25, hg⟩
  · split
    · exact ⟨_, rfl, b1, b2, b3, b4, b5, b7⟩
    · exact ⟨_, rfl, b1, b2, v2, v3, s2, b7⟩
theorem djoint_ok {d : DT} (h : FineD d) : ∃ r : JT, law09.Deed.Joint.f d = some r ∧ FineJ r := by
  obtain ⟨x0, x1, x2, x3, x4, x5, x6, x7, x8, x9, x10, x11, x12, x13, x14, x15, x16, x17, x18, x19, x20, x21, x22, x23, x24, x25, x26, x27, x28, n, G⟩ := d
  obtain ⟨a5, a6, a8, a9, a10, a14, a15, a16, a17, a20, a21, a22, a23, a25, g, hG, hg⟩ := h
  dsimp only at a5 a6 a8 a9 a10 a14 a15 a16 a17 a20 a21 a22 a23 a25 hG hg
  subst hG
  obtain ⟨v, v1, v2, v3⟩ := vbring_ok (m := 17179869184) a14 a15 (by unfold I64; omega)
  obtain ⟨u, u1, u2, u3⟩ := vbring_ok (m := 17179869184) a16 a17 (by unfold I64; omega)
  rw [law09.Deed.Joint.eq, v1, Option.bind_some, u1, Option.bind_some]
  exact ⟨_, rfl, v2, v3, u2, u3⟩

/-! ### What a deed does to a world -/
structure Step (w w' : Wd) : Prop where
  t : w'.t = w.t
  gx : w'.gx = w.gx
  gy : w'.gy = w.gy
  b : w'.bs.1 ≤ w.bs.1 + 1
  nb : w'.nb ≤ w.nb + 1
  j : w'.js.1 ≤ w.js.1 + 1
  nj : w'.nj ≤ w.nj + 1
  c : w'.cs.1 ≤ w.cs.1
theorem Step.refl (w : Wd) : Step w w := ⟨rfl, rfl, rfl, by omega, by omega, by omega, by omega, by omega⟩
section
variable {w : Wd}
theorem doAddB (h : Good w) {b : BT} (hb : FineB b) : ∃ r w', world.AddBody.f (w.raw, b) = some (r, w'.tup) ∧ Good w' ∧ Step w w' := by
  obtain ⟨v, hv⟩ := rightB_some hb
  cases v with
  | false => exact ⟨_, w, AddBody_no b hv hb, h, .refl w⟩
  | true =>
    by_cases hf : 1024 ≤ w.bs.1 ∨ 4611686018427387904 ≤ w.nb
    · exact ⟨_, w, AddBody_full b hv hb hf, h, .refl w⟩
    · have h1 : w.bs.1 < 1024 := by omega
      have h2 : w.nb < 4611686018427387904 := by omega
      refine ⟨_, w.addB b, AddBody_ok b hv hb h1 h2 h.right.nb0, good_addB h hv hb h1 h2, ⟨rfl, rfl, rfl, ?_, ?_, ?_, ?_, ?_⟩⟩
      · exact Nat.le_refl _
      · exact Int.le_refl _
      · exact Nat.le_succ _
      · show w.nj ≤ w.nj + 1; omega
      · exact Nat.le_refl _
theorem doAddJ (h : Good w) {j : JT} (hj : FineJ j) : ∃ r w', world.AddJoint.f (w.raw, j) = some (r, w'.tup) ∧ Good w' ∧ Step w w' := by
  obtain ⟨v, hv⟩ := rightJ_some hj
  cases v with
  | false => exact ⟨_, w, AddJoint_no j hv, h, .refl w⟩
  | true =>
    have hb := h.b
    rcases AddJoint_eq j hv (by omega) h.right.ab h.right.nj0 with ⟨_, e⟩ | ⟨_, _, e⟩ | ⟨ht, h1, h2, e⟩
    · exact ⟨_, w, e, h, .refl w⟩
    · exact ⟨_, w, e, h, .refl w⟩
    · refine ⟨_, w.addJ j, e, good_addJ h hv hj ht h1 h2, ⟨rfl, rfl, rfl, ?_, ?_, ?_, ?_, ?_⟩⟩
      · exact Nat.le_succ _
      · show w.nb ≤ w.nb + 1; omega
      · exact Nat.le_refl _
      · exact Int.le_refl _
      · exact Nat.le_refl _
theorem doRemB (h : Good w) (x : Int) : ∃ r w', world.RemoveBody.f (w.raw, x) = some (r, w'.tup) ∧ Good w' ∧ Step w w' := by
  have hb := h.b
  have hj := h.j
  rcases RemoveBody_eq (by omega) (by omega) h.fine.nc h.right.ab x with ⟨_, y1, y2, y3, e1, e2, e3, e⟩ | ⟨_, e⟩
  · have l1 := filter_le e1
    have l2 := filter_le e2
    have l3 := filter_le e3
    refine ⟨_, _, e, good_removeB h x e1 e2 e3, ⟨rfl, rfl, rfl, ?_, ?_, ?_, ?_, l3⟩⟩
    · show y1.1 ≤ w.bs.1 + 1; omega
    · show w.nb ≤ w.nb + 1; omega
    · show y2.1 ≤ w.js.1 + 1; omega
    · show w.nj ≤ w.nj + 1; omega
  · exact ⟨_, w, e, h, .refl w⟩
theorem doRemJ (h : Good w) (x : Int) : ∃ r w', world.RemoveJoint.f (w.raw, x) = some (r, w'.tup) ∧ Good w' ∧ Step w w' := by
  have hj := h.j
  rcases RemoveJoint_eq (by omega) h.right.aj x with ⟨_, y2, e2, e⟩ | ⟨_, e⟩
  · have l2 := filter_le e2
    refine ⟨_, _, e, good_removeJ h x e2, ⟨rfl, rfl, rfl, ?_, ?_, ?_, ?_, Nat.le_refl _⟩⟩
    · exact Nat.le_succ _
    · show w.nb ≤ w.nb + 1; omega
    · show y2.1 ≤ w.js.1 + 1; omega
    · show w.nj ≤ w.nj + 1; omega
  · exact ⟨_, w, e, h, .refl w⟩
end

/-! ### Made -/
theorem tG_w (t nb nj gx gy : Int) (nB : Nat) (gB : Nat → BT) (nJ : Nat) (gJ : Nat → JT) (nC : Nat) (gC : Nat → CT) :
    (tG WTy).dec (.agg [.val (.int .i64 t), .val (.int .i64 nb), .val (.int .i64 nj), .val (.int .i64 gx), .val (.int .i64 gy), .lst 11 nB none (fun i => RiiiiiiiiiiL2.enc (gB i)), .lst 8 nJ none (fun i => Riiiiiiii.enc (gJ i)), .lst 5 nC none (fun i => Riiiii.enc (gC i))]) = some (t, nb, nj, gx, gy, (nB, gB), (nJ, gJ), (nC, gC)) := by
  simp only [dec_tG, dec_tCons, dec_tOne, dec_tI, dec_tTL, decRows_enc RiiiiiiiiiiL2_dec, decRows_enc Riiiiiiii_dec, decRows_enc Riiiii_dec, Option.bind_some]
def newW : Wd := ⟨0, 1, 1, 0, 0, (0, fun _ => zB), (0, fun _ => zJ), (0, fun _ => zC)⟩
theorem New_eq : world.New.f () = some newW.tup := by
  rw [world.New.eq]
  simp only [dec_tG, dec_tCons, dec_tOne, dec_tI, dec_tTL0, Option.bind_some]
  rfl
theorem good_new : Good newW := by
  have e1 : lst newW.bs = [] := rfl
  have e2 : lst newW.js = [] := rfl
  have e3 : lst newW.cs = [] := rfl
  refine ⟨⟨i0, i0, fun a ha => (by rw [e1] at ha; cases ha), fun a ha => (by rw [e2] at ha; cases ha), (by show (0 : Nat) ≤ _; omega)⟩, ?_⟩
  unfold RightW
  rw [e1, e2, e3]
  exact ⟨by decide, by decide, by decide, by decide, by simp, by simp, by kernel_rfl, by decide, by decide, fun a ha => (by cases ha), fun a ha => (by cases ha), .nil, .nil, fun a ha => (by cases ha), fun a ha => (by cases ha), fun a ha => (by cases ha), .nil⟩
noncomputable def MF (n : Nat) (ds : Nat → DT) (K : Nat) (w : Wd) (i : Int) : Option TWT := law09.Made.l0 1000000 K w.t w.nb w.nj w.gx w.gy w.bs.1 (fun i => RiiiiiiiiiiL2.enc (w.bs.2 i)) w.js.1 (fun i => Riiiiiiii.enc (w.js.2 i)) w.cs.1 (fun i => Riiiii.enc (w.cs.2 i)) n (fun i => RiiiiiiiiiiiiiiiiiiiiiiiiiiiiiL2.enc (ds i)) (n : Int) i
section
variable {n : Nat} {ds : Nat → DT}
noncomputable def opJ (n : Nat) (ds : Nat → DT) (K : Nat) (w : Wd) (i : Int) (d : DT) : Option TWT := (law09.Deed.Joint.f d).bind fun j => (world.AddJoint.f (w.raw, j)).bind fun r => MF n ds K (ofT r.2) (IntKind.i64.wrap (i + 1))
noncomputable def opB (n : Nat) (ds : Nat → DT) (K : Nat) (w : Wd) (i : Int) (d : DT) : Option TWT := (law09.Deed.Body.f d).bind fun j => (world.AddBody.f (w.raw, rawB j)).bind fun r => MF n ds K (ofT r.2) (IntKind.i64.wrap (i + 1))
noncomputable def opRB (n : Nat) (ds : Nat → DT) (K : Nat) (w : Wd) (i : Int) (d : DT) : Option TWT := (world.RemoveBody.f (w.raw, Go.bits .and .i64 d.2.2.2.2.2.2.2.2.2.2.2.2.1 15)).bind fun r => MF n ds K (ofT r.2) (IntKind.i64.wrap (i + 1))
noncomputable def opRJ (n : Nat) (ds : Nat → DT) (K : Nat) (w : Wd) (i : Int) (d : DT) : Option TWT := (world.RemoveJoint.f (w.raw, Go.bits .and .i64 d.2.2.2.2.2.2.2.2.2.2.2.2.1 15)).bind fun r => MF n ds K (ofT r.2) (IntKind.i64.wrap (i + 1))
theorem MF_eq (K : Nat) (w : Wd) (i : Int) : MF n ds (K + 1) w i = bif decide (i < (n : Int)) then (bif (decide (0 ≤ i) && decide (i < ((n : Nat) : Int))) then
    (bif (Go.bits .and .i64 (ds i.toNat).1 7 == 4) then (bif (Go.bits .and .i64 (ds i.toNat).1 7 == 4) then opJ n ds K w i (ds i.toNat) else bif (Go.bits .and .i64 (ds i.toNat).1 7 == 6) then opRB n ds K w i (ds i.toNat) else bif (Go.bits .and .i64 (ds i.toNat).1 7 == 3) then opRJ n ds K w i (ds i.toNat) else opB n ds K w i (ds i.toNat))
     else bif (Go.bits .and .i64 (ds i.toNat).1 7 == 5) then opJ n ds K w i (ds i.toNat) else bif (Go.bits .and .i64 (ds i.toNat).1 7 == 6) then opRB n ds K w i (ds i.toNat) else bif (Go.bits .and .i64 (ds i.toNat).1 7 == 3) then opRJ n ds K w i (ds i.toNat) else opB n ds K w i (ds i.toNat))
    else none) else some w.tup := by
  have e : (tG WTy).dec (.agg [.val (.int .i64 w.t), .val (.int .i64 w.nb), .val (.int .i64 w.nj), .val (.int .i64 w.gx), .val (.int .i64 w.gy), .lst 11 w.bs.1 none (fun i => RiiiiiiiiiiL2.enc (w.bs.2 i)), .lst 8 w.js.1 none (fun i => Riiiiiiii.enc (w.js.2 i)), .lst 5 w.cs.1 none (fun i => Riiiii.enc (w.cs.2 i))]) = some w.tup := tG_w _ _ _ _ _ _ _ _ _ _ _
  rw [← e]
  exact law09.Made.l0_eq 1000000 K w.t w.nb w.nj w.gx w.gy w.bs.1 w.bs.2 w.js.1 w.js.2 w.cs.1 w.cs.2 n ds (n : Int) i
attribute [local irreducible] opJ opB opRB opRJ MF
/-- What a world that is made has. -/
structure Small (k : Nat) (w : Wd) : Prop where
  good : Good w
  t : w.t = 0
  gx : w.gx = 0
  gy : w.gy = 0
  b : w.bs.1 ≤ k
  nb : w.nb ≤ k + 1
  j : w.js.1 ≤ k
  nj : w.nj ≤ k + 1
  c : w.cs.1 = 0
theorem Small.step {k : Nat} {w w' : Wd} (h : Small k w) (g : Good w') (s : Step w w') : Small (k + 1) w' := by
  obtain ⟨h1, h2, h3, h4, h5, h6, h7, h8, h9⟩ := h
  obtain ⟨s1, s2, s3, s4, s5, s6, s7, s8⟩ := s
  exact ⟨g, by omega, by omega, by omega, by omega, by omega, by omega, by omega, by omega⟩
theorem MF_step (hn : n ≤ 1000000) (hd : ∀ i, i < n → FineD (ds i)) (K : Nat) {w : Wd} (i : Nat) (hi : i < n) (h : Small i w) : ∃ w', Small (i + 1) w' ∧ MF n ds (K + 1) w (i : Int) = MF n ds K w' ((i + 1 : Nat) : Int) := by
  rw [MF_eq, lt_nat i n hi, cond_true, ge_nat, cond_true, Int.toNat_natCast]
  have fd := hd i hi
  have hj : ∃ w', Small (i + 1) w' ∧ opJ n ds K w (i : Int) (ds i) = MF n ds K w' ((i + 1 : Nat) : Int) := by
    obtain ⟨j, j1, j2⟩ := djoint_ok fd
    obtain ⟨r, w', e, g, s⟩ := doAddJ h.good j2
    refine ⟨w', h.step g s, ?_⟩
    unfold opJ
    rw [j1, Option.bind_some, e, Option.bind_some, wrap_nat i (by omega)]
    rfl
  have hb : ∃ w', Small (i + 1) w' ∧ opB n ds K w (i : Int) (ds i) = MF n ds K w' ((i + 1 : Nat) : Int) := by
    obtain ⟨j, j1, j2⟩ := dbody_ok fd
    obtain ⟨r, w', e, g, s⟩ := doAddB h.good j2.fine
    refine ⟨w', h.step g s, ?_⟩
    unfold opB
    rw [j1, Option.bind_some, e, Option.bind_some, wrap_nat i (by omega)]
    rfl
  have hrb : ∃ w', Small (i + 1) w' ∧ opRB n ds K w (i : Int) (ds i) = MF n ds K w' ((i + 1 : Nat) : Int) := by
    obtain ⟨r, w', e, g, s⟩ := doRemB h.good (Go.bits .and .i64 (ds i).2.2.2.2.2.2.2.2.2.2.2.2.1 15)
    refine ⟨w', h.step g s, ?_⟩
    unfold opRB
    rw [e, Option.bind_some, wrap_nat i (by omega)]
    rfl
  have hrj : ∃ w', Small (i + 1) w' ∧ opRJ n ds K w (i : Int) (ds i) = MF n ds K w' ((i + 1 : Nat) : Int) := by
    obtain ⟨r, w', e, g, s⟩ := doRemJ h.good (Go.bits .and .i64 (ds i).2.2.2.2.2.2.2.2.2.2.2.2.1 15)
    refine ⟨w', h.step g s, ?_⟩
    unfold opRJ
    rw [e, Option.bind_some, wrap_nat i (by omega)]
    rfl
  simp only [Bool.cond_eq_ite]
  repeat' split
  all_goals first | exact hj | exact hb | exact hrb | exact hrj
theorem MF_run (hn : n ≤ 900000) (hd : ∀ i, i < n → FineD (ds i)) : ∀ (d i K : Nat) (w : Wd), i + d = n → d < K → Small i w → ∃ w', Small n w' ∧ MF n ds K w (i : Int) = some w'.tup
  | 0, i, K + 1, w, h, _, hs => by
    have : i = n := by omega
    subst this
    refine ⟨w, hs, ?_⟩
    rw [MF_eq, nlt_nat i i (by omega), cond_false]
  | d + 1, i, K + 1, w, h, hk, hs => by
    obtain ⟨w', h1, h2⟩ := MF_step (by omega) hd K i (by omega) hs
    rw [h2]
    exact MF_run hn hd d (i + 1) K w' (by omega) (by omega) h1
/-- A world of deeds. -/
theorem Made_eq (hd : ∀ i, i < n → FineD (ds i)) (k : Nat) (hk : k ≤ 900000) : ∃ w, Small (min n k) w ∧ law09.Made.f ((n, fun i => RiiiiiiiiiiiiiiiiiiiiiiiiiiiiiL2.enc (ds i)), (k : Int)) = some w.tup := by
  have e : law09.Made.f ((n, fun i => RiiiiiiiiiiiiiiiiiiiiiiiiiiiiiL2.enc (ds i)), (k : Int)) = law09.Made.g 1000000 ((n, fun i => RiiiiiiiiiiiiiiiiiiiiiiiiiiiiiL2.enc (ds i)), (k : Int)) := rfl
  rw [e, law09.Made.eq, New_eq, Option.bind_some]
  have em : (if (k : Int) < ((n : Nat) : Int) then (k : Int) else ((n : Nat) : Int)) = ((min n k : Nat) : Int) := by split <;> omega
  rw [em]
  have hc : ((decide (0 ≤ ((min n k : Nat) : Int))) && (decide (((min n k : Nat) : Int) ≤ ((n : Nat) : Int)))) = true := by simp; omega
  rw [hc, cond_true, Int.toNat_natCast]
  have e3 : ∀ K, law09.Made.l0 1000000 K newW.tup.1 newW.tup.2.1 newW.tup.2.2.1 newW.tup.2.2.2.1 newW.tup.2.2.2.2.1 newW.tup.2.2.2.2.2.1.1 (fun i => RiiiiiiiiiiL2.enc (newW.tup.2.2.2.2.2.1.2 i)) newW.tup.2.2.2.2.2.2.1.1 (fun i => Riiiiiiii.enc (newW.tup.2.2.2.2.2.2.1.2 i)) newW.tup.2.2.2.2.2.2.2.1 (fun i => Riiiii.enc (newW.tup.2.2.2.2.2.2.2.2 i)) (min n k) (fun i => RiiiiiiiiiiiiiiiiiiiiiiiiiiiiiL2.enc (ds i)) ((min n k : Nat) : Int) 0 = MF (min n k) ds K newW ((0 : Nat) : Int) := fun K => by unfold MF; rfl
  rw [e3]
  exact MF_run (n := min n k) (by omega) (fun i hi => hd i (by omega)) (min n k) 0 1000000 newW (by omega) (by omega) ⟨good_new, rfl, rfl, rfl, Nat.le_refl _, Int.le_refl _, Nat.le_refl _, Int.le_refl _, rfl⟩
end
end Go.Proofs.Ytbcnifnmccaleaa.Y
