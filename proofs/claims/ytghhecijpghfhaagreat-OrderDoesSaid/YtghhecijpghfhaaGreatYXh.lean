/- Orders made of deeds; the example of layer 10 (for an E whose nil lists have typed zero rows). -/
import Derived.Test.YtghhecijpghfhaaGreatYXb
namespace Go.Proofs.YtghhecijpghfhaaGreat.Y
open Go Go.RowKit Go.Proofs.YtghhecijpghfhaaGreat.E Go.Proofs.YtghhecijpghfhaaGreat.Ma Go.Proofs.YtghhecijpghfhaaGreat.Fw
set_option linter.unusedVariables false
set_option linter.unusedSimpArgs false
set_option maxRecDepth 10000

abbrev OP := Int × Int × Int × Int × Int × Int × Int × Int × Int × Int × Int × Int × Int × Int × (Nat × (Nat → P2))
def rawO (r : OP) : OT := (r.1, r.2.1, r.2.2.1, r.2.2.2.1, r.2.2.2.2.1, r.2.2.2.2.2.1, r.2.2.2.2.2.2.1, r.2.2.2.2.2.2.2.1, r.2.2.2.2.2.2.2.2.1, r.2.2.2.2.2.2.2.2.2.1, r.2.2.2.2.2.2.2.2.2.2.1, r.2.2.2.2.2.2.2.2.2.2.2.1, r.2.2.2.2.2.2.2.2.2.2.2.2.1, r.2.2.2.2.2.2.2.2.2.2.2.2.2.1, (r.2.2.2.2.2.2.2.2.2.2.2.2.2.2.1, fun i => Rii.enc (r.2.2.2.2.2.2.2.2.2.2.2.2.2.2.2 i)))
def FewD (d : DT) : Prop := d.2.2.2.2.2.2.2.2.2.2.2.2.2.2.2.2.2.2.2.2.2.2.2.2.2.2.2.2.2.1 ≤ 1000
theorem seedN_few (a b : Int) : seedN a b ≤ 1000 := by
  unfold seedN
  split
  · omega
  · split
    · omega
    · have := Int.emod_lt_of_pos (b % 256) (show (0 : Int) < 6 by decide)
      omega
theorem place_few {a b c d x y e : Int} (hx : I64 x) (hy : I64 y) : ∃ r, law06.Place.Body.f (a, b, c, d, x, y, e) = some r ∧ BodyOk r ∧ r.2.2.2.2.2.2.2.2.2.2.1 ≤ 1000 := by
  obtain ⟨v, v1, v2, v3⟩ := vbring_ok (m := 4294967296000) hx hy (by unfold I64; omega)
  obtain ⟨s, s1, s2⟩ := Seed_eq a b c d
  rw [law06.Place.Body.eq, v1, Option.bind_some, s1, Option.bind_some]
  simp only [dec_tG, dec_tCons, dec_tOne, dec_tI, dec_tTL, decRows_enc Rii_dec, Option.bind_some]
  refine ⟨_, rfl, ⟨v2, v3, i0, i0, i0, fun i hi => ?_⟩, seedN_few a b⟩
  have hi' : i < seedN a b := hi
  show I2 (s i)
  rw [s2 i hi']
  exact (seed_near a b c d i hi').i
theorem dbody_few {d : DT} (h : FineD d) (hf : FewD d) : ∃ r : PT, law09.Deed.Body.f d = some r ∧ BodyOk r ∧ r.2.2.2.2.2.2.2.2.2.2.1 ≤ 1000 := by
  obtain ⟨x0, x1, x2, x3, x4, x5, x6, x7, x8, x9, x10, x11, x12, x13, x14, x15, x16, x17, x18, x19, x20, x21, x22, x23, x24, x25, x26, x27, x28, n, G⟩ := d
  obtain ⟨a5, a6, a8, a9, a10, a14, a15, a16, a17, a20, a21, a22, a23, a25, g, hG, hg⟩ := h
  unfold FewD at hf
  dsimp only at a5 a6 a8 a9 a10 a14 a15 a16 a17 a20 a21 a22 a23 a25 hG hg hf
  subst hG
  obtain ⟨r, r1, r2, r3⟩ := place_few (a := x1) (b := x2) (c := x3) (d := x4) (e := x7) a5 a6
  obtain ⟨v, v1, v2, v3⟩ := vbring_ok (m := 85899345920) a8 a9 (by unfold I64; omega)
  obtain ⟨s, s1, s2⟩ := bring_ok (x := x10) (lo := -85899345920) (hi := 85899345920) a10 (by unfold I64; omega) (by unfold I64; omega)
  rw [law09.Deed.Body.eq]
  simp only [r1, v1, s1, Option.bind_some, Bool.cond_eq_ite]
  simp only [dec_tG, dec_tCons, dec_tOne, dec_tI, dec_tTL, decRows_enc Rii_dec, Option.bind_some]
  obtain ⟨b1, b2, b3, b4, b5, b7⟩ := r2
  split
  · exact ⟨_, rfl, ⟨a20, a21, a22, a23, a25, hg⟩, hf⟩
  · split
    · exact ⟨_, rfl, ⟨b1, b2, b3, b4, b5, b7⟩, r3⟩
    · exact ⟨_, rfl, ⟨b1, b2, v2, v3, s2, b7⟩, r3⟩
/-- What a deed's order is. -/
theorem Order_ok {d : DT} (h : FineD d) (hf : FewD d) : ∃ r : OP, law10.Order.f d = some r ∧ FineO (rawO r) := by
  obtain ⟨r, r1, ⟨b1, b2, b3, b4, b5, b7⟩, b6⟩ := dbody_few h hf
  obtain ⟨j, j1, j2, j3, j4, j5⟩ := djoint_ok h
  obtain ⟨x0, x1, x2, x3, x4, x5, x6, x7, x8, x9, x10, x11, x12, x13, x14, x15, x16, x17, x18, x19, x20, x21, x22, x23, x24, x25, x26, x27, x28, n, G⟩ := d
  obtain ⟨a5, a6, a8, a9, a10, a14, a15, a16, a17, a20, a21, a22, a23, a25, g, hG, hg⟩ := h
  dsimp only at a5 a6 a8 a9 a10 a14 a15 a16 a17 a20 a21 a22 a23 a25 hG hg
  subst hG
  obtain ⟨v, v1, v2, v3⟩ := vbring_ok (m := 858993459200) a8 a9 (by unfold I64; omega)
  obtain ⟨u, u1, u2, u3⟩ := vbring_ok (m := 214748364800) a8 a9 (by unfold I64; omega)
  obtain ⟨s, s1, s2⟩ := bring_ok (x := x10) (lo := -858993459200) (hi := 858993459200) a10 (by unfold I64; omega) (by unfold I64; omega)
  rw [law10.Order.eq]
  simp only [r1, j1, v1, u1, s1, Option.bind_some, Bool.cond_eq_ite]
  simp only [dec_tG, dec_tCons, dec_tOne, dec_tI, dec_tTL, dec_tTL0, decRows_enc Rii_dec, Option.bind_some]
  have nil : Inner ((0, fun i => Rii.enc ((fun _ => ((0 : Int), (0 : Int))) i)) : Nat × (Nat → List AV)) := ⟨fun _ => (0, 0), rfl, fun i hi => absurd hi (by show ¬ i < 0; omega)⟩
  have hin : Inner ((r.2.2.2.2.2.2.2.2.2.2.1, fun i => Rii.enc (r.2.2.2.2.2.2.2.2.2.2.2 i)) : Nat × (Nat → List AV)) := ⟨_, rfl, b7⟩
  repeat' split
  all_goals refine ⟨_, rfl, ?_⟩
  all_goals first
    | exact ⟨i0, i0, v2, v3, s2, nil, Nat.zero_le _⟩
    | exact ⟨i0, i0, u2, u3, i0, nil, Nat.zero_le _⟩
    | exact ⟨j2, j3, j4, j5, i0, nil, Nat.zero_le _⟩
    | exact ⟨b1, b2, b3, b4, b5, hin, b6⟩
    | exact ⟨i0, i0, i0, i0, i0, nil, Nat.zero_le _⟩

/-! ### The example -/
noncomputable abbrev AllT : TyL (RWT × (Nat × (Nat → OT))) := tCons (tG (tCons (tI .i64) (tCons (tI .i64) (tCons (tI .i64) (tCons (tI .i64) (tCons (tI .i64) (tCons (tLz 11 (RiiiiiiiiiiL2.enc (0, 0, 0, 0, 0, 0, 0, 0, 0, 0, (0, fun _ => [])))) (tCons (tLz 8 (Riiiiiiii.enc (0, 0, 0, 0, 0, 0, 0, 0))) (tOne (tLz 5 (Riiiii.enc (0, 0, 0, 0, 0)))))))))))) (tOne (tTL RiiiiiiiiiiiiiiL2 15 (0, 0, 0, 0, 0, 0, 0, 0, 0, 0, 0, 0, 0, 0, (0, fun _ => []))))
abbrev nilP : Nat × (Nat → List AV) := (0, fun _ => Rii.enc (0, 0))
theorem inner_nil : Inner nilP := ⟨fun _ => (0, 0), rfl, fun i hi => absurd hi (by show ¬ i < 0; omega)⟩
theorem allT_dec (w : Wd) (n : Nat) (c : Option Nat) (G : Nat → List AV) (os : Nat → OT) (h : ∀ i, RiiiiiiiiiiiiiiL2.dec (G i) = some (os i)) :
    AllT.dec [.agg [.val (.int .i64 w.t), .val (.int .i64 w.nb), .val (.int .i64 w.nj), .val (.int .i64 w.gx), .val (.int .i64 w.gy), .lst 11 w.bs.1 none (fun i => RiiiiiiiiiiL2.enc (w.bs.2 i)), .lst 8 w.js.1 none (fun i => Riiiiiiii.enc (w.js.2 i)), .lst 5 w.cs.1 none (fun i => Riiiii.enc (w.cs.2 i))], .lst 15 n c G] = some (w.raw, (n, os)) := by
  simp only [dec_tG, dec_tCons, dec_tOne, dec_tI, dec_tTL, dec_tLz, Option.bind_some]
  rw [decRows_of _ _ _ (fun i hi => ⟨os i, h i⟩)]
  have : (fun i => (RiiiiiiiiiiiiiiL2.dec (G i)).getD (0, 0, 0, 0, 0, 0, 0, 0, 0, 0, 0, 0, 0, 0, (0, fun _ => []))) = os := by
    funext i; rw [h i]; rfl
  rw [this]; rfl
theorem fr2 : order.Right.f (6, 1, 0, 0, 0, 0, 0, 0, 0, 0, 0, 0, 0, 0, nilP) = some false := by kernel_rfl
theorem fr3 : order.Right.f (0, 0, 0, 0, 0, 0, 0, 0, 0, 0, 0, 0, 0, 0, nilP) = some false := by kernel_rfl
theorem fr6 : order.Right.f (6, 0, 0, 0, 0, 0, 0, (-4294967296), 0, 0, 0, 0, 0, 0, nilP) = some true := by kernel_rfl
theorem over6 (w : Wd) (y : Int) : order.over.f (w.raw, (6, 0, 0, 0, 0, 0, 0, y, 0, 0, 0, 0, 0, 0, nilP)) = some false := by
  unfold Wd.raw
  rw [show (nilP : Nat × (Nat → List AV)) = (0, fun i => Rii.enc ((fun _ => ((0 : Int), (0 : Int))) i)) from rfl, order.over.eq]
  rfl
theorem fine_nil {kd id a b px py vx vy an sp de le sk sr : Int} (h1 : I64 px) (h2 : I64 py) (h3 : I64 vx) (h4 : I64 vy) (h5 : I64 sp) : FineO (kd, id, a, b, px, py, vx, vy, an, sp, de, le, sk, sr, nilP) :=
  ⟨h1, h2, h3, h4, h5, inner_nil, Nat.zero_le _⟩
attribute [local irreducible] order.All.f order.Right.f order.over.f order.Do.f
theorem fit10_true : law10.fit.f () = some true := by
  have h1 : ∀ i : Nat, i = 0 → order.Right.f ((fun i => ((6, 0, 0, 0, 0, 0, 0, (-4294967296), 0, 0, 0, 0, 0, 0, nilP) : OT)) i) = some true := fun i _ => fr6
  rw [law10.fit.eq]
  refine bind_to New_eq ?_
  have hG : ∀ i : Nat, RiiiiiiiiiiiiiiL2.dec (cloL (List.getD [[.val (.int .i64 6), .val (.int .i64 0), .val (.int .i64 0), .val (.int .i64 0), .val (.int .i64 0), .val (.int .i64 0), .val (.int .i64 0), .val (.int .i64 (-4294967296)), .val (.int .i64 0), .val (.int .i64 0), .val (.int .i64 0), .val (.int .i64 0), .val (.int .i64 0), .val (.int .i64 0), .val (.slice none 0 0)]] i [.val (.int .i64 0), .val (.int .i64 0), .val (.int .i64 0), .val (.int .i64 0), .val (.int .i64 0), .val (.int .i64 0), .val (.int .i64 0), .val (.int .i64 0), .val (.int .i64 0), .val (.int .i64 0), .val (.int .i64 0), .val (.int .i64 0), .val (.int .i64 0), .val (.int .i64 0), .val (.slice none 0 0)])) =
      some (if i = 0 then (6, 0, 0, 0, 0, 0, 0, (-4294967296), 0, 0, 0, 0, 0, 0, nilP) else (0, 0, 0, 0, 0, 0, 0, 0, 0, 0, 0, 0, 0, 0, nilP)) := fun i => by
    cases i with
    | zero => kernel_rfl
    | succ i => rw [if_neg (by omega)]; kernel_rfl
  refine bind_to (allT_dec newW 1 (some 1) _ _ hG) ?_
  have hd : order.Do.f (newW.raw, (6, 0, 0, 0, 0, 0, 0, (-4294967296), 0, 0, 0, 0, 0, 0, nilP)) = some ((), ({ newW with gx := 0, gy := -4294967296 } : Wd).tup) := by
    exact Do6 (fine_nil i0 i0 i0 (by unfold I64; omega) i0) rfl
  have hA := All_done (m := 1) (os := fun i => if i = 0 then (6, 0, 0, 0, 0, 0, 0, (-4294967296), 0, 0, 0, 0, 0, 0, nilP) else (0, 0, 0, 0, 0, 0, 0, 0, 0, 0, 0, 0, 0, 0, nilP)) (by omega) (ws := fun i => if i = 0 then newW else { newW with gx := 0, gy := -4294967296 }) good_new (by show (0 : Int) < _; omega) (fun i hi => by
      have : i = 0 := by omega
      subst this
      exact fr6) ⟨fun i hi => by
      have : i = 0 := by omega
      subst this
      exact over6 newW _, fun i hi => by
      have : i = 0 := by omega
      subst this
      exact hd⟩
  refine bind_to hA ?_
  refine cond_t rfl ?_
  refine cond_t rfl ?_
  refine bind_to fr2 ?_
  refine cond_t rfl ?_
  exact bind_to fr3 rfl
end Go.Proofs.YtghhecijpghfhaaGreat.Y
