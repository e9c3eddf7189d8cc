/- Worlds: numbers are never given twice (printed by wip/tools/mkwg.py). -/
import Derived.Test.YtbcnifnmccaleaaYWf
namespace Go.Proofs.Ytbcnifnmccaleaa.Y
open Go Go.RowKit Go.Proofs.Ytbcnifnmccaleaa.E Go.Proofs.Ytbcnifnmccaleaa.Ma Go.Proofs.Ytbcnifnmccaleaa.Fw
set_option linter.unusedVariables false
set_option linter.unusedSimpArgs false
set_option maxRecDepth 10000

theorem bind_to {α β : Type} {x : Option α} {a : α} {f : α → Option β} {r : Option β} (h : x = some a) (h2 : f a = r) : x.bind f = r := by rw [h]; exact h2
theorem cond_t {α : Type} {c : Bool} {a b r : α} (h : c = true) (h2 : a = r) : (bif c then a else b) = r := by rw [h]; exact h2
theorem cond_f {α : Type} {c : Bool} {a b r : α} (h : c = false) (h2 : b = r) : (bif c then a else b) = r := by rw [h]; exact h2
theorem AddBody_raw (o_0 : Int) (o_1 : Int) (o_2 : Int) (o_3 : Int) (o_4 : Int) (o_5_n : Nat) (o_5_g : Nat → (Int × Int × Int × Int × Int × Int × Int × Int × Int × Int × (Nat × (Nat → List AV)))) (o_6_n : Nat) (o_6_g : Nat → (Int × Int × Int × Int × Int × Int × Int × Int)) (o_7_n : Nat) (o_7_g : Nat → (Int × Int × Int × Int × Int)) (p0_0 : Int) (p0_1 : Int) (p0_2 : Int) (p0_3 : Int) (p0_4 : Int) (p0_5 : Int) (p0_6 : Int) (p0_7 : Int) (p0_8 : Int) (p0_9 : Int) (p0_10_n : Nat) (p0_10_g : Nat → List AV) : world.AddBody.f ((o_0, o_1, o_2, o_3, o_4, (o_5_n, (fun i => RiiiiiiiiiiL2.enc (o_5_g i))), (o_6_n, (fun i => Riiiiiiii.enc (o_6_g i))), (o_7_n, (fun i => Riiiii.enc (o_7_g i)))), (p0_0, p0_1, p0_2, p0_3, p0_4, p0_5, p0_6, p0_7, p0_8, p0_9, (p0_10_n, p0_10_g))) =
  (world.RightBody.f (p0_0, p0_1, p0_2, p0_3, p0_4, p0_5, p0_6, p0_7, p0_8, p0_9, (p0_10_n, p0_10_g))).bind fun r1 =>
  bif (!r1) then
    outD (tT (tCons (tI .i64) (tOne (tI .i64)))) (tCons (tI .i64) (tCons (tI .i64) (tCons (tI .i64) (tCons (tI .i64) (tCons (tI .i64) (tCons (tTL RiiiiiiiiiiL2 11 (0, 0, 0, 0, 0, 0, 0, 0, 0, 0, (0, fun _ => []))) (tCons (tTL Riiiiiiii 8 (0, 0, 0, 0, 0, 0, 0, 0)) (tOne (tTL Riiiii 5 (0, 0, 0, 0, 0)))))))))) (.tup [.val (.int .i64 0), .val (.int .i64 2)]) [.val (.int .i64 o_0), .val (.int .i64 o_1), .val (.int .i64 o_2), .val (.int .i64 o_3), .val (.int .i64 o_4), .lst 11 o_5_n none (fun i => RiiiiiiiiiiL2.enc (o_5_g i)), .lst 8 o_6_n none (fun i => Riiiiiiii.enc (o_6_g i)), .lst 5 o_7_n none (fun i => Riiiii.enc (o_7_g i))]
  else
  bif (decide (((o_5_n : Nat) : Int) ≥ 1024)) then
    outD (tT (tCons (tI .i64) (tOne (tI .i64)))) (tCons (tI .i64) (tCons (tI .i64) (tCons (tI .i64) (tCons (tI .i64) (tCons (tI .i64) (tCons (tTL RiiiiiiiiiiL2 11 (0, 0, 0, 0, 0, 0, 0, 0, 0, 0, (0, fun _ => []))) (tCons (tTL Riiiiiiii 8 (0, 0, 0, 0, 0, 0, 0, 0)) (tOne (tTL Riiiii 5 (0, 0, 0, 0, 0)))))))))) (.tup [.val (.int .i64 0), .val (.int .i64 3)]) [.val (.int .i64 o_0), .val (.int .i64 o_1), .val (.int .i64 o_2), .val (.int .i64 o_3), .val (.int .i64 o_4), .lst 11 o_5_n none (fun i => RiiiiiiiiiiL2.enc (o_5_g i)), .lst 8 o_6_n none (fun i => Riiiiiiii.enc (o_6_g i)), .lst 5 o_7_n none (fun i => Riiiii.enc (o_7_g i))]
  else
  bif (decide (o_1 ≥ 4611686018427387904)) then
    outD (tT (tCons (tI .i64) (tOne (tI .i64)))) (tCons (tI .i64) (tCons (tI .i64) (tCons (tI .i64) (tCons (tI .i64) (tCons (tI .i64) (tCons (tTL RiiiiiiiiiiL2 11 (0, 0, 0, 0, 0, 0, 0, 0, 0, 0, (0, fun _ => []))) (tCons (tTL Riiiiiiii 8 (0, 0, 0, 0, 0, 0, 0, 0)) (tOne (tTL Riiiii 5 (0, 0, 0, 0, 0)))))))))) (.tup [.val (.int .i64 0), .val (.int .i64 3)]) [.val (.int .i64 o_0), .val (.int .i64 o_1), .val (.int .i64 o_2), .val (.int .i64 o_3), .val (.int .i64 o_4), .lst 11 o_5_n none (fun i => RiiiiiiiiiiL2.enc (o_5_g i)), .lst 8 o_6_n none (fun i => Riiiiiiii.enc (o_6_g i)), .lst 5 o_7_n none (fun i => Riiiii.enc (o_7_g i))]
  else
  (shape.Copy.f (p0_8, p0_9, (p0_10_n, p0_10_g))).bind fun r2 =>
  (slices.Clip_lBody_Body.f (o_5_n, (fun i => RiiiiiiiiiiL2.enc (o_5_g i)))).bind fun r3 =>
  bif ((decide (r3.1 ≤ r3.1)) && (decide ((r3.1 + 1) * 104 ≤ 140737488355328))) then
  outD (tT (tCons (tI .i64) (tOne (tI .i64)))) (tCons (tI .i64) (tCons (tI .i64) (tCons (tI .i64) (tCons (tI .i64) (tCons (tI .i64) (tCons (tTL RiiiiiiiiiiL2 11 (0, 0, 0, 0, 0, 0, 0, 0, 0, 0, (0, fun _ => []))) (tCons (tTL Riiiiiiii 8 (0, 0, 0, 0, 0, 0, 0, 0)) (tOne (tTL Riiiii 5 (0, 0, 0, 0, 0)))))))))) (.tup [.val (.int .i64 o_1), .val (.int .i64 0)]) [.val (.int .i64 o_0), .val (.int .i64 (IntKind.i64.wrap (o_1 + 1))), .val (.int .i64 o_2), .val (.int .i64 o_3), .val (.int .i64 o_4), .lst 11 (r3.1 + 1) none (fun i => cloL (if i = r3.1 then RiiiiiiiiiiL2.enc (o_1, p0_1, p0_2, p0_3, p0_4, p0_5, p0_6, p0_7, r2.1, r2.2.1, (r2.2.2.1, (fun i => Rii.enc (r2.2.2.2 i)))) else RiiiiiiiiiiL2.enc (r3.2 i))), .lst 8 o_6_n none (fun i => Riiiiiiii.enc (o_6_g i)), .lst 5 o_7_n none (fun i => Riiiii.enc (o_7_g i))]
  else none := by kernel_rfl

def circR (de : Int) : BT := (0, 0, 0, 0, 0, 0, 0, de, 1, 4294967296, (0, fun _ => []))
def circ (de : Int) : BT := (0, 0, 0, 0, 0, 0, 0, de, 1, 4294967296, (0, fun _ => Rii.enc (0, 0)))
theorem circ_right (de : Int) (h : de = 0 ∨ de = 4294967296) (G : Nat → List AV) : world.RightBody.f (0, 0, 0, 0, 0, 0, 0, de, 1, 4294967296, (0, G)) = some true := by
  rcases h with rfl | rfl
  · kernel_rfl
  · kernel_rfl
theorem circ_copy (G : Nat → List AV) (hG : ∀ i, (Rii.dec (cloL (G i))).getD (0, 0) = (0, 0)) : shape.Copy.f (1, 4294967296, (0, G)) = some (1, 4294967296, (0, fun _ => (0, 0))) := by
  have e : shape.Copy.f (1, 4294967296, (0, G)) = bif (decide (0 * 16 ≤ 140737488355328)) then
      (tG (tCons (tI .i64) (tCons (tI .i64) (tOne (tTL Rii 2 (0, 0)))))).dec (.agg [.val (.int .i64 1), .val (.int .i64 4294967296), .lst 2 0 none (fun i => cloL (if i < 0 then (fun _ => Rii.enc (0, 0)) i else G (i - 0)))]) else none := by kernel_rfl
  rw [e, show decide (0 * 16 ≤ 140737488355328) = true from rfl, cond_true]
  simp only [dec_tG, dec_tCons, dec_tOne, dec_tI, dec_tTL, Option.bind_some]
  rw [decRows_of _ _ _ (fun i hi => absurd hi (by omega))]
  simp only [Nat.not_lt_zero, if_false, Nat.sub_zero, hG, Option.bind_some]
theorem circ_eq (w : Wd) (de : Int) (h : de = 0 ∨ de = 4294967296) : world.AddBody.f (w.raw, circR de) = world.AddBody.f (w.raw, circ de) := by
  unfold Wd.raw circR circ
  rw [AddBody_raw, AddBody_raw, circ_right de h, circ_right de h, circ_copy _ (fun i => rfl), circ_copy _ (fun i => rfl)]
theorem circ_fine (de : Int) : FineB (circ de) := ⟨i0, i0, i0, i0, i0, fun _ => (0, 0), rfl, fun i hi => absurd hi (by show ¬ i < 0; omega)⟩
theorem addC {w : Wd} (hg : Good w) {de : Int} (h : de = 0 ∨ de = 4294967296) (h1 : w.bs.1 < 1024) (h2 : w.nb < 4611686018427387904) :
    world.AddBody.f (w.raw, circR de) = some ((w.nb, 0), (w.addB (circ de)).tup) ∧ Good (w.addB (circ de)) := by
  have hr : RightB (circ de) := circ_right de h _
  rw [circ_eq w de h]
  exact ⟨AddBody_ok _ hr (circ_fine de) h1 h2 hg.right.nb0, good_addB hg hr (circ_fine de) h1 h2⟩
theorem zero_wrong : world.Right.f (0, 0, 0, 0, 0, (0, fun _ => []), (0, fun _ => []), (0, fun _ => [])) = some false := by kernel_rfl
attribute [local irreducible] world.Right.f world.AddBody.f world.RemoveBody.f world.Body.f
theorem fit_true : law09.fit.f () = some true := by
  obtain ⟨a1, g1⟩ := addC good_new (de := 4294967296) (.inr rfl) (by decide) (by decide)
  obtain ⟨a2, g2⟩ := addC g1 (de := 4294967296) (.inr rfl) (by decide) (by decide)
  rw [law09.fit.eq]
  refine bind_to New_eq ?_
  refine bind_to a1 ?_
  refine bind_to a2 ?_
  refine cond_t rfl ?_
  refine cond_t rfl ?_
  refine cond_t rfl ?_
  refine bind_to g2.tells ?_
  refine cond_t rfl ?_
  refine cond_t rfl ?_
  exact bind_to zero_wrong rfl

/-! ### WorldNumbers -/
section
variable {m : Nat} {gs : Nat → Int}
noncomputable def NF (m : Nat) (gs : Nat → Int) (K : Nat) (w : Wd) (next : Int) (i : Int) : Option Bool := law09.WorldNumbers.l0 1000000 K w.t w.nb w.nj w.gx w.gy w.bs.1 (fun i => RiiiiiiiiiiL2.enc (w.bs.2 i)) w.js.1 (fun i => Riiiiiiii.enc (w.js.2 i)) w.cs.1 (fun i => Riiiii.enc (w.cs.2 i)) next m (fun i => Ry.enc (gs i)) (m : Int) i
noncomputable def addPart (m : Nat) (gs : Nat → Int) (K : Nat) (w : Wd) (next : Int) (i : Int) : Option Bool :=
  (world.AddBody.f (w.raw, circR 0)).bind fun r => bif (r.1.2 != 0) then some false else bif (r.1.1 != next) then some false else bif (r.2.2.1 != IntKind.i64.wrap (next + 1)) then some false else NF m gs K (ofT r.2) (IntKind.i64.wrap (next + 1)) (IntKind.i64.wrap (i + 1))
theorem NF_eq (K : Nat) (w : Wd) (next i : Int) : NF m gs (K + 1) w next i = bif decide (i < (m : Int)) then (bif (decide (0 ≤ i) && decide (i < ((m : Nat) : Int))) then
    (bif decide (((w.bs.1 : Nat) : Int) > 0) then (bif decide (((w.bs.1 : Nat) : Int) ≠ 0) then (bif (decide (0 ≤ Int.tmod (IntKind.i64.wrap (gs i.toNat)) (w.bs.1 : Int)) && decide (Int.tmod (IntKind.i64.wrap (gs i.toNat)) (w.bs.1 : Int) < ((w.bs.1 : Nat) : Int))) then
        ((world.RemoveBody.f (w.raw, (w.bs.2 (Int.tmod (IntKind.i64.wrap (gs i.toNat)) (w.bs.1 : Int)).toNat).1)).bind fun r3 => bif (!r3.1) then some false else
          (world.RemoveBody.f ((ofT r3.2).raw, (w.bs.2 (Int.tmod (IntKind.i64.wrap (gs i.toNat)) (w.bs.1 : Int)).toNat).1)).bind fun r4 => bif r4.1 then some false else
            (world.Body.f ((ofT r4.2).raw, (w.bs.2 (Int.tmod (IntKind.i64.wrap (gs i.toNat)) (w.bs.1 : Int)).toNat).1)).bind fun r5 => bif r5.2 then some false else addPart m gs K (ofT r4.2) next i)
        else none) else none) else addPart m gs K w next i) else none)
    else (world.Right.f w.raw).bind fun r8 => some r8 := law09.WorldNumbers.l0_eq 1000000 K w.t w.nb w.nj w.gx w.gy w.bs.1 w.bs.2 w.js.1 w.js.2 w.cs.1 w.cs.2 next m gs (m : Int) i
theorem NF_at (K : Nat) (w : Wd) (next : Int) (i : Nat) (tq : Int) (htq : Int.tmod (IntKind.i64.wrap (gs i)) (w.bs.1 : Int) = tq) : NF m gs (K + 1) w next (i : Int) = bif decide ((i : Int) < (m : Int)) then (bif (decide (0 ≤ (i : Int)) && decide ((i : Int) < ((m : Nat) : Int))) then
    (bif decide (((w.bs.1 : Nat) : Int) > 0) then (bif decide (((w.bs.1 : Nat) : Int) ≠ 0) then (bif (decide (0 ≤ tq) && decide (tq < ((w.bs.1 : Nat) : Int))) then
        ((world.RemoveBody.f (w.raw, (w.bs.2 tq.toNat).1)).bind fun r3 => bif (!r3.1) then some false else
          (world.RemoveBody.f ((ofT r3.2).raw, (w.bs.2 tq.toNat).1)).bind fun r4 => bif r4.1 then some false else
            (world.Body.f ((ofT r4.2).raw, (w.bs.2 tq.toNat).1)).bind fun r5 => bif r5.2 then some false else addPart m gs K (ofT r4.2) next (i : Int))
        else none) else none) else addPart m gs K w next (i : Int)) else none)
    else (world.Right.f w.raw).bind fun r8 => some r8 := by
  subst htq
  exact NF_eq K w next (i : Int)
attribute [local irreducible] NF
theorem add_step (K : Nat) {w : Wd} (hg : Good w) (i : Nat) (hi : i < 1000000) (h1 : w.bs.1 < 1024) (h2 : w.nb < 4611686018427387904) :
    Good (w.addB (circ 0)) ∧ addPart m gs K w w.nb (i : Int) = NF m gs K (w.addB (circ 0)) (w.addB (circ 0)).nb ((i + 1 : Nat) : Int) := by
  obtain ⟨a1, g1⟩ := addC hg (de := 0) (.inl rfl) h1 h2
  refine ⟨g1, ?_⟩
  unfold addPart
  have hw : IntKind.i64.wrap (w.nb + 1) = w.nb + 1 := by have := hg.right.nb0; rw [IntKind.wrap_i64]; omega
  rw [a1, Option.bind_some, wrap_nat i (by omega), hw]
  have c1 : (((w.nb, (0 : Int)), (w.addB (circ 0)).tup).1.2 != 0) = false := rfl
  have c2 : (((w.nb, (0 : Int)), (w.addB (circ 0)).tup).1.1 != w.nb) = false := by show (w.nb != w.nb) = false; simp
  have c3 : (((w.nb, (0 : Int)), (w.addB (circ 0)).tup).2.2.1 != w.nb + 1) = false := by show (w.nb + 1 != w.nb + 1) = false; simp
  rw [c1, c2, c3]
  rfl
theorem N_step (hgs : ∀ i, i < m → 0 ≤ gs i ∧ gs i < 256) (K : Nat) {w : Wd} (hg : Good w) (i : Nat) (hi : i < m) (hm : m ≤ 20) (hb : w.bs.1 ≤ 10 + i) (hnb : w.nb ≤ 11 + i) :
    ∃ w', Good w' ∧ w'.bs.1 ≤ 10 + (i + 1) ∧ w'.nb ≤ 11 + ((i + 1 : Nat) : Int) ∧ NF m gs (K + 1) w w.nb (i : Int) = NF m gs K w' w'.nb ((i + 1 : Nat) : Int) := by
  by_cases h0 : ((w.bs.1 : Nat) : Int) > 0
  · have hq := hgs i hi
    obtain ⟨q, hq1, hq2⟩ : ∃ q : Nat, Int.tmod (IntKind.i64.wrap (gs i)) (w.bs.1 : Int) = (q : Int) ∧ q < w.bs.1 := by
      have e : IntKind.i64.wrap (gs i) = gs i := by rw [IntKind.wrap_i64]; omega
      rw [e]
      have a1 := Int.tmod_nonneg (w.bs.1 : Int) hq.1
      have a2 := Int.tmod_lt_of_pos (gs i) h0
      exact ⟨(Int.tmod (gs i) (w.bs.1 : Int)).toNat, by omega, by omega⟩
    rw [NF_at K w w.nb i (q : Int) hq1, lt_nat i m hi, cond_true, ge_nat, cond_true, decide_eq_true h0, cond_true, decide_eq_true (show ((w.bs.1 : Nat) : Int) ≠ 0 by omega), cond_true, in_nat q _ hq2, cond_true, Int.toNat_natCast]
    have hj := hg.j
    rcases RemoveBody_eq (by omega) (by omega) hg.fine.nc hg.right.ab (w.bs.2 q).1 with ⟨_, y1, y2, y3, e1, e2, e3, e⟩ | ⟨hno, _⟩
    · have g' := good_removeB hg _ e1 e2 e3
      have l1 := filter_le e1
      have hb' := g'.b
      have hj' := g'.j
      have nt : ¬ ThereL ({ w with bs := y1, js := y2, cs := y3 } : Wd) (w.bs.2 q).1 := by
        rintro ⟨b, hb1, hb2⟩
        have hb3 : b ∈ lst y1 := hb1
        rw [e1, List.mem_filter] at hb3
        have := hb3.2
        unfold goneB at this
        rw [hb2] at this
        simp at this
      obtain ⟨g'', a⟩ := add_step (m := m) (gs := gs) K g' i (by omega) (by show y1.1 < 1024; omega) (by show w.nb < _; omega)
      refine ⟨_, g'', ?_, ?_, ?_⟩
      · show y1.1 + 1 ≤ 10 + (i + 1); omega
      · show w.nb + 1 ≤ 11 + ((i + 1 : Nat) : Int); omega
      · refine bind_to e ?_
        rcases RemoveBody_eq (w := { w with bs := y1, js := y2, cs := y3 }) (by omega) (by omega) g'.fine.nc g'.right.ab (w.bs.2 q).1 with ⟨ht, _⟩ | ⟨_, e'⟩
        · exact absurd ht nt
        · refine bind_to e' ?_
          rcases Body_w { w with bs := y1, js := y2, cs := y3 } (by omega) g'.right.ab (w.bs.2 q).1 with ⟨p, p1, p2, _⟩ | ⟨_, p3⟩
          · exact absurd ⟨_, mem_lst.2 ⟨p, p1, rfl⟩, p2⟩ nt
          · refine bind_to p3 ?_
            exact a
    · exact absurd ⟨_, mem_lst.2 ⟨q, hq2, rfl⟩, rfl⟩ hno
  · rw [NF_at K w w.nb i _ rfl, lt_nat i m hi, cond_true, ge_nat, cond_true, decide_eq_false h0, cond_false]
    obtain ⟨g'', a⟩ := add_step (m := m) (gs := gs) K hg i (by omega) (by omega) (by omega)
    refine ⟨_, g'', ?_, ?_, a⟩
    · show w.bs.1 + 1 ≤ 10 + (i + 1); omega
    · show w.nb + 1 ≤ 11 + ((i + 1 : Nat) : Int); omega
theorem N_run (hgs : ∀ i, i < m → 0 ≤ gs i ∧ gs i < 256) (hm : m ≤ 20) : ∀ (d i K : Nat) (w : Wd), i + d = m → d < K → Good w → w.bs.1 ≤ 10 + i → w.nb ≤ 11 + i → NF m gs K w w.nb (i : Int) = some true
  | 0, i, K + 1, w, h, _, hg, _, _ => by
    have : i = m := by omega
    subst this
    rw [NF_eq, nlt_nat i i (by omega), cond_false, hg.tells]
    rfl
  | d + 1, i, K + 1, w, h, hk, hg, hb, hnb => by
    obtain ⟨w', g', h1, h2, h3⟩ := N_step hgs K hg i (by omega) hm hb hnb
    rw [h3]
    exact N_run hgs hm d (i + 1) K w' (by omega) (by omega) g' h1 h2
theorem Numbers_eq {n : Nat} {ds : Nat → DT} (hd : ∀ i, i < n → FineD (ds i)) (hgs : ∀ i, i < m → 0 ≤ gs i ∧ gs i < 256) : law09.WorldNumbers.f ((n, fun i => RiiiiiiiiiiiiiiiiiiiiiiiiiiiiiL2.enc (ds i)), (m, fun i => Ry.enc (gs i))) = some true := by
  have e : law09.WorldNumbers.f ((n, fun i => RiiiiiiiiiiiiiiiiiiiiiiiiiiiiiL2.enc (ds i)), (m, fun i => Ry.enc (gs i))) = law09.WorldNumbers.g 1000000 ((n, fun i => RiiiiiiiiiiiiiiiiiiiiiiiiiiiiiL2.enc (ds i)), (m, fun i => Ry.enc (gs i))) := rfl
  rw [e, law09.WorldNumbers.eq]
  refine bind_to fit_true ?_
  rw [Bool.not_true, cond_false]
  by_cases hm : ((m : Nat) : Int) > 20
  · rw [decide_eq_true hm]; rfl
  rw [decide_eq_false hm, cond_false]
  obtain ⟨w, hw, hM⟩ := Made_eq hd 10 (by omega)
  refine bind_to hM ?_
  have e3 : ∀ K, law09.WorldNumbers.l0 1000000 K w.tup.1 w.tup.2.1 w.tup.2.2.1 w.tup.2.2.2.1 w.tup.2.2.2.2.1 w.tup.2.2.2.2.2.1.1 (fun i => RiiiiiiiiiiL2.enc (w.tup.2.2.2.2.2.1.2 i)) w.tup.2.2.2.2.2.2.1.1 (fun i => Riiiiiiii.enc (w.tup.2.2.2.2.2.2.1.2 i)) w.tup.2.2.2.2.2.2.2.1 (fun i => Riiiii.enc (w.tup.2.2.2.2.2.2.2.2 i)) w.tup.2.1 m (fun i => Ry.enc (gs i)) ((m : Nat) : Int) 0 = NF m gs K w w.nb ((0 : Nat) : Int) := fun K => by unfold NF; rfl
  rw [e3]
  have h1 := hw.b
  have h2 := hw.nb
  exact N_run hgs (by omega) m 0 1000000 w (by omega) (by omega) hw.good (by omega) (by omega)
end
def DeedWf (x : DT) : Prop := (Lit.int .i64 x.1).wf = true ∧ (Lit.int .i64 x.2.1).wf = true ∧ (Lit.int .i64 x.2.2.1).wf = true ∧ (Lit.int .i64 x.2.2.2.1).wf = true ∧ (Lit.int .i64 x.2.2.2.2.1).wf = true ∧ (Lit.int .i64 x.2.2.2.2.2.1).wf = true ∧ (Lit.int .i64 x.2.2.2.2.2.2.1).wf = true ∧ (Lit.int .i64 x.2.2.2.2.2.2.2.1).wf = true ∧ (Lit.int .i64 x.2.2.2.2.2.2.2.2.1).wf = true ∧ (Lit.int .i64 x.2.2.2.2.2.2.2.2.2.1).wf = true ∧ (Lit.int .i64 x.2.2.2.2.2.2.2.2.2.2.1).wf = true ∧ (Lit.int .i64 x.2.2.2.2.2.2.2.2.2.2.2.1).wf = true ∧ (Lit.int .i64 x.2.2.2.2.2.2.2.2.2.2.2.2.1).wf = true ∧ (Lit.int .i64 x.2.2.2.2.2.2.2.2.2.2.2.2.2.1).wf = true ∧ (Lit.int .i64 x.2.2.2.2.2.2.2.2.2.2.2.2.2.2.1).wf = true ∧ (Lit.int .i64 x.2.2.2.2.2.2.2.2.2.2.2.2.2.2.2.1).wf = true ∧ (Lit.int .i64 x.2.2.2.2.2.2.2.2.2.2.2.2.2.2.2.2.1).wf = true ∧ (Lit.int .i64 x.2.2.2.2.2.2.2.2.2.2.2.2.2.2.2.2.2.1).wf = true ∧ (Lit.int .i64 x.2.2.2.2.2.2.2.2.2.2.2.2.2.2.2.2.2.2.1).wf = true ∧ (Lit.int .i64 x.2.2.2.2.2.2.2.2.2.2.2.2.2.2.2.2.2.2.2.1).wf = true ∧ (Lit.int .i64 x.2.2.2.2.2.2.2.2.2.2.2.2.2.2.2.2.2.2.2.2.1).wf = true ∧ (Lit.int .i64 x.2.2.2.2.2.2.2.2.2.2.2.2.2.2.2.2.2.2.2.2.2.1).wf = true ∧ (Lit.int .i64 x.2.2.2.2.2.2.2.2.2.2.2.2.2.2.2.2.2.2.2.2.2.2.1).wf = true ∧ (Lit.int .i64 x.2.2.2.2.2.2.2.2.2.2.2.2.2.2.2.2.2.2.2.2.2.2.2.1).wf = true ∧ (Lit.int .i64 x.2.2.2.2.2.2.2.2.2.2.2.2.2.2.2.2.2.2.2.2.2.2.2.2.1).wf = true ∧ (Lit.int .i64 x.2.2.2.2.2.2.2.2.2.2.2.2.2.2.2.2.2.2.2.2.2.2.2.2.2.1).wf = true ∧ (Lit.int .i64 x.2.2.2.2.2.2.2.2.2.2.2.2.2.2.2.2.2.2.2.2.2.2.2.2.2.2.1).wf = true ∧ (Lit.int .i64 x.2.2.2.2.2.2.2.2.2.2.2.2.2.2.2.2.2.2.2.2.2.2.2.2.2.2.2.1).wf = true ∧ (Lit.int .i64 x.2.2.2.2.2.2.2.2.2.2.2.2.2.2.2.2.2.2.2.2.2.2.2.2.2.2.2.2.1).wf = true ∧ (∃ h : Nat → (Int × Int), (x.2.2.2.2.2.2.2.2.2.2.2.2.2.2.2.2.2.2.2.2.2.2.2.2.2.2.2.2.2).2 = (fun i => Rii.enc (h i)) ∧ ∀ i, i < (x.2.2.2.2.2.2.2.2.2.2.2.2.2.2.2.2.2.2.2.2.2.2.2.2.2.2.2.2.2).1 → (fun x => (Lit.int .i64 x.1).wf = true ∧ (Lit.int .i64 x.2).wf = true) (h i))
theorem DeedWf.fine {x : DT} (h : DeedWf x) : FineD x := by
  obtain ⟨w0, w1, w2, w3, w4, w5, w6, w7, w8, w9, w10, w11, w12, w13, w14, w15, w16, w17, w18, w19, w20, w21, w22, w23, w24, w25, w26, w27, w28, h, e, hh⟩ := h
  exact ⟨wf_i w5, wf_i w6, wf_i w8, wf_i w9, wf_i w10, wf_i w14, wf_i w15, wf_i w16, wf_i w17, wf_i w20, wf_i w21, wf_i w22, wf_i w23, wf_i w25, h, e, fun i hi => ⟨wf_i (hh i hi).1, wf_i (hh i hi).2⟩⟩
theorem wf_y {n : Int} (h : (Lit.int .u8 n).wf = true) : 0 ≤ n ∧ n < 256 := by
  simp [Lit.wf, Lit.int] at h
  have e1 : IntKind.u8.min = 0 := by decide
  have e2 : IntKind.u8.max = 255 := by decide
  omega
theorem WorldNumbers_true (n : Nat) (ds : Nat → DT) (m : Nat) (gs : Nat → Int) (wn : n ≤ maxLen) (w0 : ∀ i, i < n → DeedWf (ds i)) (wm : m ≤ maxLen) (w1 : ∀ i, i < m → (Lit.int .u8 (gs i)).wf = true) :
    law09.WorldNumbers.f ((n, fun i => RiiiiiiiiiiiiiiiiiiiiiiiiiiiiiL2.enc (ds i)), (m, fun i => Ry.enc (gs i))) = some true := Numbers_eq (fun i hi => (w0 i hi).fine) (fun i hi => wf_y (w1 i hi))
end Go.Proofs.Ytbcnifnmccaleaa.Y
