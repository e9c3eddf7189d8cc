/- Worlds: a copy is the same, and goes its own way. -/
import Derived.Test.YtbcnifnmccaleaaYWt
namespace Go.Proofs.Ytbcnifnmccaleaa.Y
open Go Go.RowKit Go.Proofs.Ytbcnifnmccaleaa.E Go.Proofs.Ytbcnifnmccaleaa.Ma Go.Proofs.Ytbcnifnmccaleaa.Fw
set_option linter.unusedVariables false
set_option linter.unusedSimpArgs false
set_option maxRecDepth 10000

def DeedWf (x : DT) : Prop := (Lit.int .i64 x.1).wf = true ∧ (Lit.int .i64 x.2.1).wf = true ∧ (Lit.int .i64 x.2.2.1).wf = true ∧ (Lit.int .i64 x.2.2.2.1).wf = true ∧ (Lit.int .i64 x.2.2.2.2.1).wf = true ∧ (Lit.int .i64 x.2.2.2.2.2.1).wf = true ∧ (Lit.int .i64 x.2.2.2.2.2.2.1).wf = true ∧ (Lit.int .i64 x.2.2.2.2.2.2.2.1).wf = true ∧ (Lit.int .i64 x.2.2.2.2.2.2.2.2.1).wf = true ∧ (Lit.int .i64 x.2.2.2.2.2.2.2.2.2.1).wf = true ∧ (Lit.int .i64 x.2.2.2.2.2.2.2.2.2.2.1).wf = true ∧ (Lit.int .i64 x.2.2.2.2.2.2.2.2.2.2.2.1).wf = true ∧ (Lit.int .i64 x.2.2.2.2.2.2.2.2.2.2.2.2.1).wf = true ∧ (Lit.int .i64 x.2.2.2.2.2.2.2.2.2.2.2.2.2.1).wf = true ∧ (Lit.int .i64 x.2.2.2.2.2.2.2.2.2.2.2.2.2.2.1).wf = true ∧ (Lit.int .i64 x.2.2.2.2.2.2.2.2.2.2.2.2.2.2.2.1).wf = true ∧ (Lit.int .i64 x.2.2.2.2.2.2.2.2.2.2.2.2.2.2.2.2.1).wf = true ∧ (Lit.int .i64 x.2.2.2.2.2.2.2.2.2.2.2.2.2.2.2.2.2.1).wf = true ∧ (Lit.int .i64 x.2.2.2.2.2.2.2.2.2.2.2.2.2.2.2.2.2.2.1).wf = true ∧ (Lit.int .i64 x.2.2.2.2.2.2.2.2.2.2.2.2.2.2.2.2.2.2.2.1).wf = true ∧ (Lit.int .i64 x.2.2.2.2.2.2.2.2.2.2.2.2.2.2.2.2.2.2.2.2.1).wf = true ∧ (Lit.int .i64 x.2.2.2.2.2.2.2.2.2.2.2.2.2.2.2.2.2.2.2.2.2.1).wf = true ∧ (Lit.int .i64 x.2.2.2.2.2.2.2.2.2.2.2.2.2.2.2.2.2.2.2.2.2.2.1).wf = true ∧ (Lit.int .i64 x.2.2.2.2.2.2.2.2.2.2.2.2.2.2.2.2.2.2.2.2.2.2.2.1).wf = true ∧ (Lit.int .i64 x.2.2.2.2.2.2.2.2.2.2.2.2.2.2.2.2.2.2.2.2.2.2.2.2.1).wf = true ∧ (Lit.int .i64 x.2.2.2.2.2.2.2.2.2.2.2.2.2.2.2.2.2.2.2.2.2.2.2.2.2.1).wf = true ∧ (Lit.int .i64 x.2.2.2.2.2.2.2.2.2.2.2.2.2.2.2.2.2.2.2.2.2.2.2.2.2.2.1).wf = true ∧ (Lit.int .i64 x.2.2.2.2.2.2.2.2.2.2.2.2.2.2.2.2.2.2.2.2.2.2.2.2.2.2.2.1).wf = true ∧ (Lit.int .i64 x.2.2.2.2.2.2.2.2.2.2.2.2.2.2.2.2.2.2.2.2.2.2.2.2.2.2.2.2.1).wf = true ∧ (∃ h : Nat → (Int × Int), (x.2.2.2.2.2.2.2.2.2.2.2.2.2.2.2.2.2.2.2.2.2.2.2.2.2.2.2.2.2).2 = (fun i => Rii.enc (h i)) ∧ ∀ i, i < (x.2.2.2.2.2.2.2.2.2.2.2.2.2.2.2.2.2.2.2.2.2.2.2.2.2.2.2.2.2).1 → (fun x => (Lit.int .i64 x.1).wf = true ∧ (Lit.int .i64 x.2).wf = true) (h i))
theorem DeedWf.fine {x : DT} (h : DeedWf x) : FineD x := by
  obtain ⟨w0, w1, w2, w3, w4, w5, w6, w7, w8, w9, w10, w11, w12, w13, w14, w15, w16, w17, w18, w19, w20, w21, w22, w23, w24, w25, w26, w27, w28, h, e, hh⟩ := h
  exact ⟨wf_i w5, wf_i w6, wf_i w8, wf_i w9, wf_i w10, wf_i w14, wf_i w15, wf_i w16, wf_i w17, wf_i w20, wf_i w21, wf_i w22, wf_i w23, wf_i w25, h, e, fun i hi => ⟨wf_i (hh i hi).1, wf_i (hh i hi).2⟩⟩

/-- What the law gives, by the one view of a copy or by the other one. -/
noncomputable def copiesF (x : (Nat × (Nat → List AV)) × (Int × Int × Int × Int × Int × Int × Int × Int × Int × Int × Int × Int × Int × Int × Int × Int × Int × Int × Int × Int × Int × Int × Int × Int × Int × Int × Int × Int × Int × (Nat × (Nat → List AV))) × Int) : Option Bool := open Classical in if law09.WorldCopies.f x = some true ∨ law09.WorldCopies_d.f x = some true then some true else none
theorem either_ok {P : Program} {n : FuncId} {α β : Type} {T : TyL α} {U : Ty β} {f g h : α → Option β} (hf : (Summ.mk' T U f).Ok P n) (hg : (Summ.mk' T U g).Ok P n) (e : ∀ x r, h x = some r → f x = some r ∨ g x = some r) : (Summ.mk' T U h).Ok P n := by
  refine ⟨hf.1, ?_, (fun I h => nomatch (show (none : Option Inl) = some I from h)), (fun T h => nomatch (show (none : Option Tk) = some T from h)), fun M h => nomatch (show (none : Option Mo) = some M from h)⟩
  have f2 := hf.2.1
  have g2 := hg.2.1
  dsimp only [Summ.mk'] at f2 g2 ⊢
  intro l x r hd hr
  rcases e x r hr with e1 | e1
  · exact f2 l x r hd e1
  · exact g2 l x r hd e1
noncomputable abbrev copiesT : TyL ((Nat × (Nat → List AV)) × (Int × Int × Int × Int × Int × Int × Int × Int × Int × Int × Int × Int × Int × Int × Int × Int × Int × Int × Int × Int × Int × Int × Int × Int × Int × Int × Int × Int × Int × (Nat × (Nat → List AV))) × Int) := (tCons (tLz 30 (RiiiiiiiiiiiiiiiiiiiiiiiiiiiiiL2.enc (0, 0, 0, 0, 0, 0, 0, 0, 0, 0, 0, 0, 0, 0, 0, 0, 0, 0, 0, 0, 0, 0, 0, 0, 0, 0, 0, 0, 0, (0, fun _ => [])))) (tCons (tG (tCons (tI .i64) (tCons (tI .i64) (tCons (tI .i64) (tCons (tI .i64) (tCons (tI .i64) (tCons (tI .i64) (tCons (tI .i64) (tCons (tI .i64) (tCons (tI .i64) (tCons (tI .i64) (tCons (tI .i64) (tCons (tI .i64) (tCons (tI .i64) (tCons (tI .i64) (tCons (tI .i64) (tCons (tI .i64) (tCons (tI .i64) (tCons (tI .i64) (tCons (tI .i64) (tCons (tI .i64) (tCons (tI .i64) (tCons (tI .i64) (tCons (tI .i64) (tCons (tI .i64) (tCons (tI .i64) (tCons (tI .i64) (tCons (tI .i64) (tCons (tI .i64) (tCons (tI .i64) (tOne (tLz 2 (Rii.enc (0, 0)))))))))))))))))))))))))))))))))) (tOne (tI .i64))))
theorem copies_ok : (Summ.mk' copiesT tB copiesF).Ok Try.prog 7 := either_ok (T := copiesT) (U := tB) (f := law09.WorldCopies.f) (g := law09.WorldCopies_d.f) law09.WorldCopies.ok law09.WorldCopies_d.ok fun x r h => by
  unfold copiesF at h
  split at h
  · rename_i hx
    cases h
    exact hx
  · cases h
attribute [local irreducible] law09.WorldCopies.f law09.WorldCopies_d.f
theorem WorldCopies_true (n : Nat) (ds : Nat → DT) (a0 a1 a2 a3 a4 a5 a6 a7 a8 a9 a10 a11 a12 a13 a14 a15 a16 a17 a18 a19 a20 a21 a22 a23 a24 a25 a26 a27 a28 : Int) (m : Nat) (G : Nat → P2) (p2 : Int) (wn : n ≤ maxLen) (w0 : ∀ i, i < n → DeedWf (ds i)) (h0 : (Lit.int .i64 a0).wf = true) (h1 : (Lit.int .i64 a1).wf = true) (h2 : (Lit.int .i64 a2).wf = true) (h3 : (Lit.int .i64 a3).wf = true) (h4 : (Lit.int .i64 a4).wf = true) (h5 : (Lit.int .i64 a5).wf = true) (h6 : (Lit.int .i64 a6).wf = true) (h7 : (Lit.int .i64 a7).wf = true) (h8 : (Lit.int .i64 a8).wf = true) (h9 : (Lit.int .i64 a9).wf = true) (h10 : (Lit.int .i64 a10).wf = true) (h11 : (Lit.int .i64 a11).wf = true) (h12 : (Lit.int .i64 a12).wf = true) (h13 : (Lit.int .i64 a13).wf = true) (h14 : (Lit.int .i64 a14).wf = true) (h15 : (Lit.int .i64 a15).wf = true) (h16 : (Lit.int .i64 a16).wf = true) (h17 : (Lit.int .i64 a17).wf = true) (h18 : (Lit.int .i64 a18).wf = true) (h19 : (Lit.int .i64 a19).wf = true) (h20 : (Lit.int .i64 a20).wf = true) (h21 : (Lit.int .i64 a21).wf = true) (h22 : (Lit.int .i64 a22).wf = true) (h23 : (Lit.int .i64 a23).wf = true) (h24 : (Lit.int .i64 a24).wf = true) (h25 : (Lit.int .i64 a25).wf = true) (h26 : (Lit.int .i64 a26).wf = true) (h27 : (Lit.int .i64 a27).wf = true) (h28 : (Lit.int .i64 a28).wf = true)
    (wm : m ≤ maxLen) (wG : ∀ i, i < m → (Lit.int .i64 (G i).1).wf = true ∧ (Lit.int .i64 (G i).2).wf = true) (b0 : (Lit.int .i64 p2).wf = true) :
    copiesF ((n, fun i => RiiiiiiiiiiiiiiiiiiiiiiiiiiiiiL2.enc (ds i)), (a0, a1, a2, a3, a4, a5, a6, a7, a8, a9, a10, a11, a12, a13, a14, a15, a16, a17, a18, a19, a20, a21, a22, a23, a24, a25, a26, a27, a28, (m, fun i => Rii.enc (G i))), p2) = some true := by
  have hd : FineD (a0, a1, a2, a3, a4, a5, a6, a7, a8, a9, a10, a11, a12, a13, a14, a15, a16, a17, a18, a19, a20, a21, a22, a23, a24, a25, a26, a27, a28, (m, fun i => Rii.enc (G i))) := DeedWf.fine ⟨h0, h1, h2, h3, h4, h5, h6, h7, h8, h9, h10, h11, h12, h13, h14, h15, h16, h17, h18, h19, h20, h21, h22, h23, h24, h25, h26, h27, h28, ⟨G, rfl, wG⟩⟩
  obtain ⟨w, hS, hM⟩ := Made_eq (fun i hi => (w0 i hi).fine) 12 (by omega)
  unfold copiesF
  refine if_pos ?_
  by_cases hp : Flat w p2
  · exact .inl (Flat_eq a0 a1 a2 a3 a4 a5 a6 a7 a8 a9 a10 a11 a12 a13 a14 a15 a16 a17 a18 a19 a20 a21 a22 a23 a24 a25 a26 a27 a28 m G p2 hd hS hM hp)
  · exact .inr (Deep_eq a0 a1 a2 a3 a4 a5 a6 a7 a8 a9 a10 a11 a12 a13 a14 a15 a16 a17 a18 a19 a20 a21 a22 a23 a24 a25 a26 a27 a28 m G p2 hd hS hM hp)
end Go.Proofs.Ytbcnifnmccaleaa.Y
