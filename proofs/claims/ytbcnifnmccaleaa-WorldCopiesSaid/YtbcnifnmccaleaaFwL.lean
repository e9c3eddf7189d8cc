/- A region that draws its order: whatever order is picked, the state at its end is the one of the text's order. -/
import Derived.Test.YtbcnifnmccaleaaFwK
namespace Go.Proofs.Ytbcnifnmccaleaa.Fw
open Go Go.RowKit
set_option linter.unusedVariables false
set_option linter.unusedSimpArgs false

section
variable {P : Program}

def onH (H : List Ent) (e : Eff) : Eff := ⟨e.ok, e.v, H⟩
theorem fieldAddrE_any (t : List AV) (ty : TypeId) (a : AV) (f : Nat) (H : List Ent) : fieldAddrE P ⟨t, H⟩ ty a f = (fieldAddrE P ⟨t, []⟩ ty a f).map (onH H) := by
  unfold fieldAddrE; repeat' split
  all_goals rfl
theorem fieldE_any (t : List AV) (ty : TypeId) (a : AV) (f : Nat) (H : List Ent) : fieldE P ⟨t, H⟩ ty a f = (fieldE P ⟨t, []⟩ ty a f).map (onH H) := by
  unfold fieldE; repeat' split
  all_goals rfl
theorem buildE_any (t : List AV) (ty : TypeId) (ps : List (Nat × AV)) (H : List Ent) : buildE P ⟨t, H⟩ ty ps = (buildE P ⟨t, []⟩ ty ps).map (onH H) := by
  unfold buildE; repeat' split
  all_goals rfl
theorem binE_any (t : List AV) (op : BinOp) (ty : TypeId) (x y : Operand) (a b : AV) (H : List Ent) : binE P ⟨t, H⟩ op ty x y a b = (binE P ⟨t, []⟩ op ty x y a b).map (onH H) := by
  unfold binE; repeat' split
  all_goals rfl
theorem indexE_any (t : List AV) (ty : TypeId) (a b : AV) (H : List Ent) : indexE P ⟨t, H⟩ ty a b = (indexE P ⟨t, []⟩ ty a b).map (onH H) := by
  unfold indexE; repeat' split
  all_goals rfl
theorem extE_any (t : List AV) (a : AV) (i : Nat) (H : List Ent) : extE ⟨t, H⟩ a i = (extE ⟨t, []⟩ a i).map (onH H) := by
  unfold extE; repeat' split
  all_goals rfl
theorem nilE_any (t : List AV) (a : AV) (H : List Ent) : nilE ⟨t, H⟩ a = (nilE ⟨t, []⟩ a).map (onH H) := by
  unfold nilE; repeat' split
  all_goals rfl
theorem pureE_any (t : List AV) (f : List Value → Sem Value) (l : List AV) (H : List Ent) : pureE P ⟨t, H⟩ f l = (pureE P ⟨t, []⟩ f l).map (onH H) := by
  unfold pureE; repeat' split
  all_goals rfl

theorem op_any (t : List AV) (H H' : List Ent) (x : Operand) : St.op ⟨t, H⟩ x = St.op ⟨t, H'⟩ x := rfl

/-- An operation that doesn't look at the table. -/
theorem opf_pure {o : Oper} {t : List AV} (h : touches o.op = false) (H : List Ent) (pos : Nat) : opf P ⟨t, H⟩ pos o = (opf P ⟨t, []⟩ 0 o).map (onH H) := by
  unfold opf
  split
  · rfl
  · rfl
  · simp only [op_any t H []]
    split <;> rfl
  · rename_i ho; rw [ho] at h; cases h
  · rename_i ho; rw [ho] at h; cases h
  · exact buildE_any t _ _ H
  · rename_i ho; rw [ho] at h; cases h
  · rename_i ho; rw [ho] at h; cases h
  · rename_i ho; rw [ho] at h; cases h
  · exact nilE_any t _ H
  · exact binE_any t _ _ _ _ _ _ H
  · exact pureE_any t _ _ H
  · rename_i ho; rw [ho] at h; cases h
  · exact fieldAddrE_any t _ _ _ H
  · exact fieldE_any t _ _ _ H
  · rename_i ho; rw [ho] at h; cases h
  · exact indexE_any t _ _ _ H
  · rename_i ho; rw [ho] at h; cases h
  · exact extE_any t _ _ H
  · split <;> rfl
  · rename_i b args ts ho
    rw [ho] at h
    split
    · cases h
    · cases h
    · cases h
    · exact pureE_any t _ _ H
    · exact pureE_any t _ _ H
    · rfl
  · rfl

theorem optI_congr {t t' : List AV} {H : List Ent} {x : Option Operand} (h : ∀ y, x = some y → St.op ⟨t, H⟩ y = St.op ⟨t', H⟩ y) : optI ⟨t, H⟩ x = optI ⟨t', H⟩ x := by
  cases x with
  | none => rfl
  | some y => unfold optI; simp only; rw [h y rfl]

/-- It looks at its operands alone. -/
theorem opf_congr {o : Oper} {t t' : List AV} {H : List Ent} (pos : Nat) (h : ∀ x ∈ o.op.operands, St.op ⟨t, H⟩ x = St.op ⟨t', H⟩ x) : opf P ⟨t, H⟩ pos o = opf P ⟨t', H⟩ pos o := by
  unfold opf
  split
  · rename_i x ho; simp only [ho, Op.operands] at h; rw [h x (by simp)]; rfl
  · rename_i x ho; simp only [ho, Op.operands] at h; rw [h x (by simp)]; rfl
  · rename_i c x y ho; simp only [ho, Op.operands] at h; rw [h c (by simp), h x (by simp), h y (by simp)]; rfl
  · rfl
  · rename_i x ho; simp only [ho, Op.operands] at h; rw [h x (by simp)]; rfl
  · rename_i ty ps ho
    simp only [ho, Op.operands] at h
    have : (ps.toList.map fun p => (p.1, St.op ⟨t, H⟩ p.2)) = ps.toList.map fun p => (p.1, St.op ⟨t', H⟩ p.2) := List.map_congr_left fun p hp => by rw [h p.2 (by simp; exact ⟨p.1, by simpa using hp⟩)]
    rw [this]; rfl
  · rename_i ty n ps ho
    simp only [ho, Op.operands] at h
    have : (ps.toList.map fun p => (p.1, St.op ⟨t, H⟩ p.2)) = ps.toList.map fun p => (p.1, St.op ⟨t', H⟩ p.2) := List.map_congr_left fun p hp => by rw [h p.2 (by simp; exact ⟨p.1, by simpa using hp⟩)]
    rw [this]; rfl
  · rename_i ty x ho; simp only [ho, Op.operands] at h; rw [h x (by simp)]; rfl
  · rename_i ty x v ho; simp only [ho, Op.operands] at h; rw [h x (by simp), h v (by simp)]; rfl
  · rename_i x ho; simp only [ho, Op.operands] at h; rw [h x (by simp)]; rfl
  · rename_i bop ty x y yt ho; simp only [ho, Op.operands] at h; rw [h x (by simp), h y (by simp)]; rfl
  · rename_i uop ty x ho; simp only [ho, Op.operands] at h; rw [h x (by simp)]; rfl
  · rename_i src dst x ho; simp only [ho, Op.operands] at h; rw [h x (by simp)]; unfold convE strE; rfl
  · rename_i ty x f ho; simp only [ho, Op.operands] at h; rw [h x (by simp)]; rfl
  · rename_i ty x f ho; simp only [ho, Op.operands] at h; rw [h x (by simp)]; rfl
  · rename_i ty x i ho; simp only [ho, Op.operands] at h; rw [h x (by simp), h i (by simp)]; rfl
  · rename_i ty x i ho; simp only [ho, Op.operands] at h; rw [h x (by simp), h i (by simp)]; rfl
  · rename_i ty x lo hi mx ho
    simp only [ho, Op.operands] at h
    rw [optI_congr (x := lo) (t' := t') (fun y hy => h y (by subst hy; simp)), optI_congr (x := hi) (t' := t') (fun y hy => h y (by subst hy; simp)), optI_congr (x := mx) (t' := t') (fun y hy => h y (by subst hy; simp)), h x (by simp)]
    rfl
  · rename_i x i ho; simp only [ho, Op.operands] at h; rw [h x (by simp)]; rfl
  · rename_i f first caps ho
    simp only [ho, Op.operands] at h
    have : caps.toList.map (St.op ⟨t, H⟩) = caps.toList.map (St.op ⟨t', H⟩) := List.map_congr_left fun p hp => h p (by simp; exact .inr (by simpa using hp))
    rw [this]; rfl
  · rename_i b args ts ho
    simp only [ho, Op.operands, Call.operands] at h
    have hm : ∀ x ∈ args.toList, St.op ⟨t, H⟩ x = St.op ⟨t', H⟩ x := fun x hx => h x (by simpa using hx)
    split
    · rename_i x ha
      rw [hm x (by rw [ha]; simp)]; rfl
    · rename_i x y ha
      rw [hm x (by rw [ha]; simp), hm y (by rw [ha]; simp)]; rfl
    · rename_i x ha
      rw [hm x (by rw [ha]; simp)]; rfl
    · rw [List.map_congr_left hm]; rfl
    · rw [List.map_congr_left hm]; rfl
    · rfl
  · rfl
end
end Go.Proofs.Ytbcnifnmccaleaa.Fw
