/- Worlds: deeds, and worlds made of them. -/
import Derived.Test.YtbcnifnmccaleaaYWe
namespace Go.Proofs.Ytbcnifnmccaleaa.Y
open Go Go.RowKit Go.Proofs.Ytbcnifnmccaleaa.E Go.Proofs.Ytbcnifnmccaleaa.Ma Go.Proofs.Ytbcnifnmccaleaa.Fw
set_option linter.unusedVariables false
set_option linter.unusedSimpArgs false
set_option maxRecDepth 10000

abbrev DT := Int × Int × Int × Int × Int × Int × Int × Int × Int × Int × Int × Int × Int × Int × Int × Int × Int × Int × Int × Int × Int × Int × Int × Int × Int × Int × Int × Int × Int × (Nat × (Nat → List AV))
abbrev PT := Int × Int × Int × Int × Int × Int × Int × Int × Int × Int × (Nat × (Nat → P2))
def rawB (r : PT) : BT := (r.1, r.2.1, r.2.2.1, r.2.2.2.1, r.2.2.2.2.1, r.2.2.2.2.2.1, r.2.2.2.2.2.2.1, r.2.2.2.2.2.2.2.1, r.2.2.2.2.2.2.2.2.1, r.2.2.2.2.2.2.2.2.2.1, (r.2.2.2.2.2.2.2.2.2.2.1, fun i => Rii.enc (r.2.2.2.2.2.2.2.2.2.2.2 i)))
def FineD (d : DT) : Prop := I64 d.2.2.2.2.2.1 ∧ I64 d.2.2.2.2.2.2.1 ∧ I64 d.2.2.2.2.2.2.2.2.1 ∧ I64 d.2.2.2.2.2.2.2.2.2.1 ∧ I64 d.2.2.2.2.2.2.2.2.2.2.1 ∧ I64 d.2.2.2.2.2.2.2.2.2.2.2.2.2.2.1 ∧ I64 d.2.2.2.2.2.2.2.2.2.2.2.2.2.2.2.1 ∧ I64 d.2.2.2.2.2.2.2.2.2.2.2.2.2.2.2.2.1 ∧ I64 d.2.2.2.2.2.2.2.2.2.2.2.2.2.2.2.2.2.1 ∧ I64 d.2.2.2.2.2.2.2.2.2.2.2.2.2.2.2.2.2.2.2.2.1 ∧ I64 d.2.2.2.2.2.2.2.2.2.2.2.2.2.2.2.2.2.2.2.2.2.1 ∧ I64 d.2.2.2.2.2.2.2.2.2.2.2.2.2.2.2.2.2.2.2.2.2.2.1 ∧ I64 d.2.2.2.2.2.2.2.2.2.2.2.2.2.2.2.2.2.2.2.2.2.2.2.1 ∧ I64 d.2.2.2.2.2.2.2.2.2.2.2.2.2.2.2.2.2.2.2.2.2.2.2.2.2.1 ∧ Inner d.2.2.2.2.2.2.2.2.2.2.2.2.2.2.2.2.2.2.2.2.2.2.2.2.2.2.2.2.2
theorem w_i (x : Int) : I64 (IntKind.i64.wrap x) := by rw [IntKind.wrap_i64]; unfold I64; omega
theorem bring_ok {x lo hi : Int} (h : I64 x) (h1 : I64 lo) (h2 : I64 hi) : ∃ y, fix.Bring.f (x, lo, hi) = some y ∧ I64 y := by
  rw [fix.Bring.eq, whole_eq, Option.bind_some]
  have := (wh_s h).i
  refine ⟨_, rfl, ?_⟩
  repeat' split
  all_goals assumption
theorem vbring_ok {x y m : Int} (h : I64 x) (h' : I64 y) (hm : I64 m) : ∃ r : Int × Int, vec.Bring.f ((x, y), m) = some r ∧ I64 r.1 ∧ I64 r.2 := by
  obtain ⟨a, a1, a2⟩ := bring_ok h (w_i (0 - m)) hm
  obtain ⟨b, b1, b2⟩ := bring_ok h' (w_i (0 - m)) hm
  rw [vec.Bring.eq, a1, Option.bind_some, b1, Option.bind_some]
  exact ⟨(a, b), rfl, a2, b2⟩
/-- A body whose numbers may be used. -/
def BodyOk (r : PT) : Prop := I64 r.2.1 ∧ I64 r.2.2.1 ∧ I64 r.2.2.2.1 ∧ I64 r.2.2.2.2.1 ∧ I64 r.2.2.2.2.2.2.1 ∧ ∀ i, i < r.2.2.2.2.2.2.2.2.2.2.1 → I2 (r.2.2.2.2.2.2.2.2.2.2.2 i)
theorem BodyOk.fine {r : PT} (h : BodyOk r) : FineB (rawB r) := ⟨h.1, h.2.1, h.2.2.1, h.2.2.2.1, h.2.2.2.2.1, _, rfl, h.2.2.2.2.2⟩
theorem i0 : I64 0 := by unfold I64; omega

theorem place_ok {a b c d x y e : Int} (hx : I64 x) (hy : I64 y) : ∃ r, law06.Place.Body.f (a, b, c, d, x, y, e) = some r ∧ BodyOk r := by
  obtain ⟨v, v1, v2, v3⟩ := vbring_ok (m := 4294967296000) hx hy (by unfold I64; omega)
  obtain ⟨s, s1, s2⟩ := Seed_eq a b c d
  rw [law06.Place.Body.eq, v1, Option.bind_some, s1, Option.bind_some]
  simp only [dec_tG, dec_tCons, dec_tOne, dec_tI, dec_tTL, decRows_enc Rii_dec, Option.bind_some]
  refine ⟨_, rfl, v2, v3, i0, i0, i0, fun i hi => ?_⟩
  have hi' : i < seedN a b := hi
  show I2 (s i)
  rw [s2 i hi']
  exact (seed_near a b c d i hi').i
theorem dbody_ok {d : DT} (h : FineD d) : ∃ r : PT, law09.Deed.Body.f d = some r ∧ BodyOk r := by
  obtain ⟨x0, x1, x2, x3, x4, x5, x6, x7, x8, x9, x10, x11, x12, x13, x14, x15, x16, x17, x18, x19, x20, x21, x22, x23, x24, x25, x26, x27, x28, n, G⟩ := d
  obtain ⟨a5, a6, a8, a9, a10, a14, a15, a16, a17, a20, a21, a22, a23, a25, g, hG, hg⟩ := h
  dsimp only at a5 a6 a8 a9 a10 a14 a15 a16 a17 a20 a21 a22 a23 a25 hG hg
  subst hG
  obtain ⟨r, r1, r2⟩ := place_ok (a := x1) (b := x2) (c := x3) (d := x4) (e := x7) a5 a6
  obtain ⟨v, v1, v2, v3⟩ := vbring_ok (m := 85899345920) a8 a9 (by unfold I64; omega)
  obtain ⟨s, s1, s2⟩ := bring_ok (x := x10) (lo := -85899345920) (hi := 85899345920) a10 (by unfold I64; omega) (by unfold I64; omega)
  rw [law09.Deed.Body.eq]
  simp only [r1, v1, s1, Option.bind_some, Bool.cond_eq_ite]
  simp only [dec_tG, dec_tCons, dec_tOne, dec_tI, dec_tTL, decRows_enc Rii_dec, Option.bind_some]
  obtain ⟨b1, b2, b3, b4, b5, b7⟩ := r2
  split
  · exact ⟨_, rfl, a20, a21, a22, a23, a25, hg⟩
  · split
    · exact ⟨_, rfl, b1, b2, b3, b4, b5, b7⟩
    · exact ⟨_, rfl, b1, b2, v2, v3, s2, b7⟩
theorem djoint_ok {d : DT} (h : FineD d) : ∃ r : JT, law09.Deed.Joint.f d = some r ∧ FineJ r := by
  obtain ⟨x0, x1, x2, x3, x4, x5, x6, x7, x8, x9, x10, x11, x12, x13, x14, x15, x16, x17, x18, x19, x20, x21, x22, x23, x24, x25, x26, x27, x28, n, G⟩ := d
  obtain ⟨a5, a6, a8, a9, a10, a14, a15, a16, a17, a20, a21, a22, a23, a25, g, hG, hg⟩ := h
  dsimp only at a5 a6 a8 a9 a10 a14 a15 a16 a17 a20 a21 a22 a23 a25 hG hg
  subst hG
  obtain ⟨v, v1, v2, v3⟩ := vbring_ok (m := 17179869184) a14 a15 (by unfold I64; omega)
  obtain ⟨u, u1, u2, u3⟩ := vbring_ok (m := 17179869184) a16 a17 (by unfold I64; omega)
  rw [law09.Deed.Joint.eq, v1, Option.bind_some, u1, Option.bind_some]
  exact ⟨_, rfl, v2, v3, u2, u3⟩

/-! ### What a deed does to a world -/
structure Step (w w' : Wd) : Prop where
  t : w'.t = w.t
  gx : w'.gx = w.gx
  gy : w'.gy = w.gy
  b : w'.bs.1 ≤ w.bs.1 + 1
  nb : w'.nb ≤ w.nb + 1
  j : w'.js.1 ≤ w.js.1 + 1
  nj : w'.nj ≤ w.nj + 1
  c : w'.cs.1 ≤ w.cs.1
theorem Step.refl (w : Wd) : Step w w := ⟨rfl, rfl, rfl, by omega, by omega, by omega, by omega, by omega⟩
section
variable {w : Wd}
theorem doAddB (h : Good w) {b : BT} (hb : FineB b) : ∃ r w', world.AddBody.f (w.raw, b) = some (r, w'.tup) ∧ Good w' ∧ Step w w' := by
  obtain ⟨v, hv⟩ := rightB_some hb
  cases v with
  | false => exact ⟨_, w, AddBody_no b hv hb, h, .refl w⟩
  | true =>
    by_cases hf : 1024 ≤ w.bs.1 ∨ 4611686018427387904 ≤ w.nb
    · exact ⟨_, w, AddBody_full b hv hb hf, h, .refl w⟩
    · have h1 : w.bs.1 < 1024 := by omega
      have h2 : w.nb < 4611686018427387904 := by omega
      refine ⟨_, w.addB b, AddBody_ok b hv hb h1 h2 h.right.nb0, good_addB h hv hb h1 h2, ⟨rfl, rfl, rfl, ?_, ?_, ?_, ?_, ?_⟩⟩
      · exact Nat.le_refl _
      · exact Int.le_refl _
      · exact Nat.le_succ _
      · show w.nj ≤ w.nj + 1; omega
      · exact Nat.le_refl _
theorem doAddJ (h : Good w) {j : JT} (hj : FineJ j) : ∃ r w', world.AddJoint.f (w.raw, j) = some (r, w'.tup) ∧ Good w' ∧ Step w w' := by
  obtain ⟨v, hv⟩ := rightJ_some hj
  cases v with
  | false => exact ⟨_, w, AddJoint_no j hv, h, .refl w⟩
  | true =>
    have hb := h.b
    rcases AddJoint_eq j hv (by omega) h.right.ab h.right.nj0 with ⟨_, e⟩ | ⟨_, _, e⟩ | ⟨ht, h1, h2, e⟩
    · exact ⟨_, w, e, h, .refl w⟩
    · exact ⟨_, w, e, h, .refl w⟩
    · refine ⟨_, w.addJ j, e, good_addJ h hv hj ht h1 h2, ⟨rfl, rfl, rfl, ?_, ?_, ?_, ?_, ?_⟩⟩
      · exact Nat.le_succ _
      · show w.nb ≤ w.nb + 1; omega
      · exact Nat.le_refl _
      · exact Int.le_refl _
      · exact Nat.le_refl _
theorem doRemB (h : Good w) (x : Int) : ∃ r w', world.RemoveBody.f (w.raw, x) = some (r, w'.tup) ∧ Good w' ∧ Step w w' := by
  have hb := h.b
  have hj := h.j
  rcases RemoveBody_eq (by omega) (by omega) h.fine.nc h.right.ab x with ⟨_, y1, y2, y3, e1, e2, e3, e⟩ | ⟨_, e⟩
  · have l1 := filter_le e1
    have l2 := filter_le e2
    have l3 := filter_le e3
    refine ⟨_, _, e, good_removeB h x e1 e2 e3, ⟨rfl, rfl, rfl, ?_, ?_, ?_, ?_, l3⟩⟩
    · show y1.1 ≤ w.bs.1 + 1; omega
    · show w.nb ≤ w.nb + 1; omega
    · show y2.1 ≤ w.js.1 + 1; omega
    · show w.nj ≤ w.nj + 1; omega
  · exact ⟨_, w, e, h, .refl w⟩
theorem doRemJ (h : Good w) (x : Int) : ∃ r w', world.RemoveJoint.f (w.raw, x) = some (r, w'.tup) ∧ Good w' ∧ Step w w' := by
  have hj := h.j
  rcases RemoveJoint_eq (by omega) h.right.aj x with ⟨_, y2, e2, e⟩ | ⟨_, e⟩
  · have l2 := filter_le e2
    refine ⟨_, _, e, good_removeJ h x e2, ⟨rfl, rfl, rfl, ?_, ?_, ?_, ?_, Nat.le_refl _⟩⟩
    · exact Nat.le_succ _
    · show w.nb ≤ w.nb + 1; omega
    · show y2.1 ≤ w.js.1 + 1; omega
    · show w.nj ≤ w.nj + 1; omega
  · exact ⟨_, w, e, h, .refl w⟩
end

/-! ### Made -/
theorem tG_w (t nb nj gx gy : Int) (nB : Nat) (gB : Nat → BT) (nJ : Nat) (gJ : Nat → JT) (nC : Nat) (gC : Nat → CT) :
    (tG WTy).dec (.agg [.val (.int .i64 t), .val (.int .i64 nb), .val (.int .i64 nj), .val (.int .i64 gx), .val (.int .i64 gy), .lst 11 nB none (fun i => RiiiiiiiiiiL2.enc (gB i)), .lst 8 nJ none (fun i => Riiiiiiii.enc (gJ i)), .lst 5 nC none (fun i => Riiiii.enc (gC i))]) = some (t, nb, nj, gx, gy, (nB, gB), (nJ, gJ), (nC, gC)) := by
  simp only [dec_tG, dec_tCons, dec_tOne, dec_tI, dec_tTL, decRows_enc RiiiiiiiiiiL2_dec, decRows_enc Riiiiiiii_dec, decRows_enc Riiiii_dec, Option.bind_some]
def newW : Wd := ⟨0, 1, 1, 0, 0, (0, fun _ => zB), (0, fun _ => zJ), (0, fun _ => zC)⟩
theorem New_eq : world.New.f () = some newW.tup := by
  rw [world.New.eq]
  simp only [dec_tG, dec_tCons, dec_tOne, dec_tI, dec_tTL0, Option.bind_some]
  rfl
theorem good_new : Good newW := by
  have e1 : lst newW.bs = [] := rfl
  have e2 : lst newW.js = [] := rfl
  have e3 : lst newW.cs = [] := rfl
  refine ⟨⟨i0, i0, fun a ha => (by rw [e1] at ha; cases ha), fun a ha => (by rw [e2] at ha; cases ha), (by show (0 : Nat) ≤ _; omega)⟩, ?_⟩
  unfold RightW
  rw [e1, e2, e3]
  exact ⟨by decide, by decide, by decide, by decide, by simp, by simp, by kernel_rfl, by decide, by decide, fun a ha => (by cases ha), fun a ha => (by cases ha), .nil, .nil, fun a ha => (by cases ha), fun a ha => (by cases ha), fun a ha => (by cases ha), .nil⟩
end Go.Proofs.Ytbcnifnmccaleaa.Y
