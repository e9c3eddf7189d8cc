/- OrderSames: orders are the same just if all that they have is; an order that does nothing leaves the world. -/
import Derived.Test.YtghhecijpghfhaaYXd
namespace Go.Proofs.Ytghhecijpghfhaa.Y
open Go Go.RowKit Go.Proofs.Ytghhecijpghfhaa.E Go.Proofs.Ytghhecijpghfhaa.Ma Go.Proofs.Ytghhecijpghfhaa.Fw
set_option linter.unusedVariables false
set_option linter.unusedSimpArgs false
set_option maxRecDepth 10000

theorem SameO.refl (o : OT) : SameO o o := ⟨rfl, rfl, rfl, rfl, rfl, rfl, rfl, rfl, rfl, rfl, rfl, rfl, rfl, rfl, rfl, fun _ _ => rfl⟩
theorem SameO.symm {a b : OT} (h : SameO a b) : SameO b a := by
  obtain ⟨h0, h1, h2, h3, h4, h5, h6, h7, h8, h9, h10, h11, h12, h13, h14, h15⟩ := h
  exact ⟨h0.symm, h1.symm, h2.symm, h3.symm, h4.symm, h5.symm, h6.symm, h7.symm, h8.symm, h9.symm, h10.symm, h11.symm, h12.symm, h13.symm, h14.symm, fun i hi => (h15 i (by rw [h14]; exact hi)).symm⟩
section
variable {w : Wd}
theorem idle2 (h : Good w) : order.Do.f (w.raw, (2, w.nb, 0, 0, 0, 0, 0, 0, 0, 0, 0, 0, 0, 0, (0, fun _ => []))) = some ((), w.tup) := by
  have hb := h.b
  have hj := h.j
  rw [Do_nil]
  rcases RemoveBody_eq (w := w) (by omega) (by omega) h.fine.nc h.right.ab w.nb with ⟨⟨b, hb, e⟩, _⟩ | ⟨_, e⟩
  · have := (h.right.pb b hb).2; omega
  · exact Do2 (fine_nil i0 i0 i0 i0 i0 _) rfl e
theorem idle4 (h : Good w) : order.Do.f (w.raw, (4, w.nj, 0, 0, 0, 0, 0, 0, 0, 0, 0, 0, 0, 0, (0, fun _ => []))) = some ((), w.tup) := by
  have hj := h.j
  rw [Do_nil]
  rcases RemoveJoint_eq (w := w) (by omega) h.right.aj w.nj with ⟨⟨b, hb, e⟩, _⟩ | ⟨_, e⟩
  · have := (h.right.pj b hb).2; omega
  · exact Do4 (fine_nil i0 i0 i0 i0 i0 _) rfl e
theorem idle5 (h : Good w) : order.Do.f (w.raw, (5, w.nb, 0, 0, 0, 0, 5, 0, 0, 0, 0, 0, 0, 0, (0, fun _ => []))) = some ((), w.tup) := by
  rw [Do_nil]
  have hf := fine_nil (kd := 5) (id := w.nb) (a := 0) (b := 0) (an := 0) (de := 0) (le := 0) (sk := 0) (sr := 0) i0 i0 (show I64 5 by unfold I64; omega) i0 i0 ((0, fun _ => []) : Nat × (Nat → List AV))
  rcases push_eq h hf with ⟨p, p1, p2, _⟩ | ⟨_, e⟩
  · have h1 := (h.right.pb _ (mem_lst.2 ⟨p, p1, rfl⟩)).2
    have h2 : (w.bs.2 p).1 = w.nb := p2
    omega
  · exact Do5 hf rfl e
theorem idle3 (h : Good w) : order.Do.f (w.raw, (3, 0, w.nb, (IntKind.i64.wrap (w.nb + 1)), 0, 0, 0, 0, 0, 0, 0, 0, 0, 0, (0, fun _ => []))) = some ((), w.tup) := by
  have hb := h.b
  rw [Do_nil]
  have hf := fine_nil (kd := 3) (id := 0) (a := w.nb) (b := IntKind.i64.wrap (w.nb + 1)) (an := 0) (de := 0) (le := 0) (sk := 0) (sr := 0) i0 i0 i0 i0 i0 ((0, fun _ => []) : Nat × (Nat → List AV))
  obtain ⟨v, hv⟩ := rightJ_some hf.joint
  cases v with
  | false => exact Do3 hf rfl (AddJoint_no _ hv)
  | true =>
    have nt : ¬ ThereL w w.nb := fun ⟨b, hb, e⟩ => by have := (h.right.pb b hb).2; omega
    rcases AddJoint_eq (w := w) _ hv (by omega) h.right.ab h.right.nj0 with ⟨_, e⟩ | ⟨⟨ht, _⟩, _⟩ | ⟨⟨ht, _⟩, _⟩
    · exact Do3 hf rfl e
    · exact absurd ht nt
    · exact absurd ht nt
end
attribute [local irreducible] order.Same.f order.Do.f world.Same.f world.Copy.f law10.Order.f law09.Made.f
set_option maxHeartbeats 4000000 in
theorem Sames_eq {l : Nat} {ds : Nat → DT} (hds : ∀ i, i < l → FineD (ds i)) (d o : DT) (hd : FineD d) (ho : FineD o) : law10.OrderSames.f (d, o, (l, fun i => RiiiiiiiiiiiiiiiiiiiiiiiiiiiiiL2.enc (ds i))) = some true := by
  obtain ⟨d0, d1, d2, d3, d4, d5, d6, d7, d8, d9, d10, d11, d12, d13, d14, d15, d16, d17, d18, d19, d20, d21, d22, d23, d24, d25, d26, d27, d28, n, G⟩ := d
  obtain ⟨o0, o1, o2, o3, o4, o5, o6, o7, o8, o9, o10, o11, o12, o13, o14, o15, o16, o17, o18, o19, o20, o21, o22, o23, o24, o25, o26, o27, o28, n', G'⟩ := o
  have hd' := hd
  have ho' := ho
  obtain ⟨_, _, _, _, _, _, _, _, _, _, _, _, _, _, g, hG, _⟩ := hd'
  obtain ⟨_, _, _, _, _, _, _, _, _, _, _, _, _, _, g', hG', _⟩ := ho'
  dsimp only at hG hG'
  subst hG; subst hG'
  rw [law10.OrderSames.eq]
  refine bind_to fit10_true ?_
  refine cond_f rfl ?_
  by_cases h1 : ((n : Nat) : Int) > 12
  · rw [decide_eq_true h1]; rfl
  rw [decide_eq_false h1, cond_false]
  by_cases h2 : ((n' : Nat) : Int) > 12
  · rw [decide_eq_true h2]; rfl
  rw [decide_eq_false h2, cond_false]
  obtain ⟨x, hx, fx⟩ := Order_ok hd (by show n ≤ 1000; omega)
  obtain ⟨y, hy, fy⟩ := Order_ok ho (by show n' ≤ 1000; omega)
  refine bind_to hx ?_
  refine bind_to hy ?_
  have hn : x.2.2.2.2.2.2.2.2.2.2.2.2.2.2.1 ≤ 1000 := fx.2.2.2.2.2.2
  have hn' : y.2.2.2.2.2.2.2.2.2.2.2.2.2.2.1 ≤ 1000 := fy.2.2.2.2.2.2
  refine cond_t (by simp; omega) ?_
  refine cond_t (by simp; omega) ?_
  refine bind_to hx ?_
  refine bind_to ((sorder fx.2.2.2.2.2.1 fx.2.2.2.2.2.1 (by show x.2.2.2.2.2.2.2.2.2.2.2.2.2.2.1 ≤ _; omega)).t (.refl (rawO x))) ?_
  refine cond_f rfl ?_
  -- another length
  refine bind_to ((sorder (x := rawO x) (y := rawO (x.1, x.2.1, x.2.2.1, x.2.2.2.1, x.2.2.2.2.1, x.2.2.2.2.2.1, x.2.2.2.2.2.2.1, x.2.2.2.2.2.2.2.1, x.2.2.2.2.2.2.2.2.1, x.2.2.2.2.2.2.2.2.2.1, x.2.2.2.2.2.2.2.2.2.2.1, IntKind.i64.wrap (x.2.2.2.2.2.2.2.2.2.2.2.1 + 1), x.2.2.2.2.2.2.2.2.2.2.2.2.1, x.2.2.2.2.2.2.2.2.2.2.2.2.2.1, x.2.2.2.2.2.2.2.2.2.2.2.2.2.2)) fx.2.2.2.2.2.1 fx.2.2.2.2.2.1 (by show x.2.2.2.2.2.2.2.2.2.2.2.2.2.2.1 ≤ _; omega)).f fun hq => ?_) ?_
  · have h3 : x.2.2.2.2.2.2.2.2.2.2.2.1 = IntKind.i64.wrap (x.2.2.2.2.2.2.2.2.2.2.2.1 + 1) := hq.2.2.2.2.2.2.2.2.2.2.2.1
    rw [IntKind.wrap_i64] at h3
    omega
  refine cond_f rfl ?_
  -- a corner more
  have hl : (fun i => cloL (if i = x.2.2.2.2.2.2.2.2.2.2.2.2.2.2.1 then Rii.enc (0, 0) else if i < 0 then (fun _ => Rii.enc (0, 0)) i else (fun i => Rii.enc (x.2.2.2.2.2.2.2.2.2.2.2.2.2.2.2 i)) (i - 0))) = fun i => Rii.enc (upd1 x.2.2.2.2.2.2.2.2.2.2.2.2.2.2.2 x.2.2.2.2.2.2.2.2.2.2.2.2.2.2.1 (0, 0) i) := by
    funext i
    unfold upd1
    split
    · exact Rii_clo _
    · rw [if_neg (by omega)]; exact Rii_clo _
  rw [hl]
  have hin : Inner ((x.2.2.2.2.2.2.2.2.2.2.2.2.2.2.1 + 1, fun i => Rii.enc (upd1 x.2.2.2.2.2.2.2.2.2.2.2.2.2.2.2 x.2.2.2.2.2.2.2.2.2.2.2.2.2.2.1 (0, 0) i)) : Nat × (Nat → List AV)) := by
    obtain ⟨q, hq1, hq2⟩ := fx.2.2.2.2.2.1
    refine ⟨_, rfl, fun i hi => ?_⟩
    have hq3 : (fun i => Rii.enc (x.2.2.2.2.2.2.2.2.2.2.2.2.2.2.2 i)) = fun i => Rii.enc (q i) := hq1
    have hi' : i < x.2.2.2.2.2.2.2.2.2.2.2.2.2.2.1 + 1 := hi
    unfold upd1
    split
    · exact ⟨i0, i0⟩
    · have e := Rii_inj (congrFun hq3 i)
      rw [e]
      exact hq2 i (by show i < x.2.2.2.2.2.2.2.2.2.2.2.2.2.2.1; omega)
  refine bind_to ((sorder (x := rawO x) (y := rawO (x.1, x.2.1, x.2.2.1, x.2.2.2.1, x.2.2.2.2.1, x.2.2.2.2.2.1, x.2.2.2.2.2.2.1, x.2.2.2.2.2.2.2.1, x.2.2.2.2.2.2.2.2.1, x.2.2.2.2.2.2.2.2.2.1, x.2.2.2.2.2.2.2.2.2.2.1, x.2.2.2.2.2.2.2.2.2.2.2.1, x.2.2.2.2.2.2.2.2.2.2.2.2.1, x.2.2.2.2.2.2.2.2.2.2.2.2.2.1, (x.2.2.2.2.2.2.2.2.2.2.2.2.2.2.1 + 1, upd1 x.2.2.2.2.2.2.2.2.2.2.2.2.2.2.2 x.2.2.2.2.2.2.2.2.2.2.2.2.2.2.1 (0, 0)))) fx.2.2.2.2.2.1 hin (by show x.2.2.2.2.2.2.2.2.2.2.2.2.2.2.1 ≤ _; omega)).f fun hq => ?_) ?_
  · have h3 : x.2.2.2.2.2.2.2.2.2.2.2.2.2.2.1 = x.2.2.2.2.2.2.2.2.2.2.2.2.2.2.1 + 1 := hq.2.2.2.2.2.2.2.2.2.2.2.2.2.2.1
    omega
  refine cond_f rfl ?_
  obtain ⟨b1, e1, t1⟩ := sorder (x := rawO x) (y := rawO y) fx.2.2.2.2.2.1 fy.2.2.2.2.2.1 (by show x.2.2.2.2.2.2.2.2.2.2.2.2.2.2.1 ≤ _; omega)
  obtain ⟨b2, e2, t2⟩ := sorder (x := rawO y) (y := rawO x) fy.2.2.2.2.2.1 fx.2.2.2.2.2.1 (by show y.2.2.2.2.2.2.2.2.2.2.2.2.2.2.1 ≤ _; omega)
  refine bind_to e1 ?_
  refine bind_to e2 ?_
  have hbb : b1 = b2 := by
    rw [Bool.eq_iff_iff]
    exact t1.trans (Iff.trans ⟨SameO.symm, SameO.symm⟩ t2.symm)
  refine cond_f (by rw [hbb]; simp) ?_
  obtain ⟨w, hw, hM⟩ := Made_eq hds 8 (by omega)
  refine bind_to hM ?_
  refine bind_to (Copy_eq hw.good) ?_
  refine bind_to (idle2 hw.good) ?_
  refine bind_to (idle4 hw.good) ?_
  refine bind_to (idle5 hw.good) ?_
  refine bind_to (idle3 hw.good) ?_
  exact bind_to ((Same_tells hw.good.seen hw.good.seen).t (.refl w)) rfl
end Go.Proofs.Ytghhecijpghfhaa.Y
