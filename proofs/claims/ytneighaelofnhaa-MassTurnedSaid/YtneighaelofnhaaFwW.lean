/- What pev.py's prints are made of: continuations, lists of typed rows. -/
import Derived.Test.YtneighaelofnhaaFwV
namespace Go.Proofs.Ytneighaelofnhaa.Fw
open Go Go.RowKit
set_option linter.unusedVariables false
set_option linter.unusedSimpArgs false

/-- A part of a code. -/
def codeAt : List Nat → Code → Code
  | [], c => c
  | 0 :: r, .seq a _ => codeAt r a
  | _ :: r, .seq _ b => codeAt r b
  | 0 :: r, .cond _ a _ => codeAt r a
  | _ :: r, .cond _ _ b => codeAt r b
  | _ :: r, .block _ a => codeAt r a
  | _ :: r, .loop a => codeAt r a
  | _ :: r, .scope a => codeAt r a
  | _, c => c
def bodyOf (fn : Func) : Code := match fn.body with
  | some c => c
  | none => .skip
section
variable {R : Type}
def kFin (Γ : Ctx) (fn : Func) (D : AV → Option R) : AExit → St → Option R := fun e s =>
  match e with
  | .exit _ => none
  | _ => match finish Γ.P fn s with
    | some v => D v
    | none => none
noncomputable def kSeq (Γ : Ctx) (k : Nat) (b : Code) (blk : Nat) (K : AExit → St → Option R) : AExit → St → Option R := fun e s =>
  match e with
  | .normal => ev Γ k b blk s K
  | .exit i => K (.exit i) s
  | .ret => K .ret s
def kBlock (id : Nat) (K : AExit → St → Option R) : AExit → St → Option R := fun e s =>
  match e with
  | .normal => K .normal s
  | .exit i => match Nat.beq i id with
    | true => K .normal s
    | false => K (.exit i) s
  | .ret => K .ret s
noncomputable def kLoop (h : LHint) (n0 : Nat) (b : St → (AExit → St → Option R) → Option R) (k : Nat) (K : AExit → St → Option R) : AExit → St → Option R := fun e s =>
  match e with
  | .normal => match canon h n0 s with
    | some s => evLoop h n0 b k s K
    | none => none
  | .exit i => K (.exit i) s
  | .ret => K .ret s
end
def lookH : List (Nat × LHint) → Nat → LHint
  | [], _ => {}
  | (k, h) :: r, g => match Nat.beq k g with
    | true => h
    | false => lookH r g

/-! ### Lists of rows -/
noncomputable def decRows {α : Type} (T : TyL α) (z : α) (n : Nat) (g : Nat → List AV) : Option (Nat × (Nat → α)) :=
  open Classical in if ∀ i, i < n → ∃ x, T.dec (g i) = some x then some (n, fun i => (T.dec (g i)).getD z) else none
noncomputable def decTL {α : Type} (T : TyL α) (sz : Nat) (z : α) : AV → Option (Nat × (Nat → α))
  | .lst sz' n _ g => match Nat.beq sz' sz with
    | true => decRows T z n g
    | false => none
  | .val (.slice none 0 0) => some (0, fun _ => z)
  | _ => none
/-- A list of rows of a type. -/
noncomputable def tTL {α : Type} (T : TyL α) (sz : Nat) (z : α) : Ty (Nat × (Nat → α)) := ⟨fun x => .lst sz x.1 none (fun i => T.enc (x.2 i)), decTL T sz z⟩

theorem tTL_ok {α : Type} {T : TyL α} (hT : T.Ok) (sz : Nat) (z : α) : (tTL T sz z).Ok := ⟨fun {a x} h RO v hv => by
  simp only [tTL, decTL] at h
  split at h
  · rename_i sz' n c g
    split at h
    · rename_i he
      have := Nat.eq_of_beq_eq_true he
      subst this
      unfold decRows at h
      split at h
      · rename_i hall
        cases h
        have enc : ∀ i, i < n → ∃ x, T.dec (g i) = some x ∧ (T.dec (g i)).getD z = x := fun i hi => by
          obtain ⟨x, hx⟩ := hall i hi
          exact ⟨x, hx, by rw [hx]; rfl⟩
        cases hv with
        | lst H _ _ cap get b off c arr hb hn hc hs hg h1 hh =>
          -- the cells of a row
          have row : ∀ i, i < n → CR (fun _ => none) RO noHp (T.enc ((T.dec (g i)).getD z)) ((List.range sz').map fun k => arr.getD (off + i * sz' + k) undef) := by
            intro i hi
            obtain ⟨x, hx, hx'⟩ := enc i hi
            rw [hx']
            refine hT.ok hx ⟨by simp [hg i hi], fun k c v e1 e2 => ?_⟩
            have hk : k < sz' := by have := (List.getElem?_eq_some_iff.1 e1).1; rw [hg i hi] at this; exact this
            have hlt : off + i * sz' + k < arr.size := by
              have : (i + 1) * sz' ≤ n * sz' := Nat.mul_le_mul_right _ hi
              rw [Nat.add_mul] at this
              omega
            simp [List.getElem?_range hk] at e2
            refine hh i k c v hi e1 ?_
            rw [← e2, Array.getElem?_eq_getElem hlt]
            simp [Array.getD, hlt]
          refine .lst _ _ _ _ _ b off c arr hb hn (fun x hx => by cases hx) hs (fun i hi => ?_) h1 fun i k c v hi e1 e2 => ?_
          · have := (row i hi).1
            simpa using this
          · have hlen : (T.enc ((T.dec (g i)).getD z)).length = sz' := by have := (row i hi).1; simpa using this
            have hk : k < sz' := by have := (List.getElem?_eq_some_iff.1 e1).1; rw [hlen] at this; exact this
            refine (row i hi).2 k c v e1 ?_
            have hlt : off + i * sz' + k < arr.size := (Array.getElem?_eq_some_iff.1 e2).1
            rw [Array.getElem?_eq_getElem hlt] at e2
            cases e2
            simp [List.getElem?_range hk, Array.getD, hlt]
        | lst0 H _ cap get hc => exact .lst0 _ _ _ _ (fun x hx => by cases hx)
      · cases h
    · cases h
  · cases h
    have := hv.val_eq
    subst this
    exact .lst0 _ _ _ _ (fun x hx => by cases hx)
  · cases h⟩

theorem dec_tG {α : Type} (T : TyL α) (cs : List AV) : (tG T).dec (.agg cs) = T.dec cs := rfl
theorem dec_tT {α : Type} (T : TyL α) (cs : List AV) : (tT T).dec (.tup cs) = T.dec cs := rfl
theorem dec_tCons {α β : Type} (T : Ty α) (U : TyL β) (a : AV) (r : List AV) : (tCons T U).dec (a :: r) = (T.dec a).bind fun x => (U.dec r).bind fun y => some (x, y) := by
  show decC T U (a :: r) = _
  simp only [decC]
  cases T.dec a with
  | none => rfl
  | some x => cases U.dec r <;> rfl
theorem dec_tOne {α : Type} (T : Ty α) (a : AV) : (tOne T).dec [a] = T.dec a := rfl
theorem dec_tI (k : IntKind) (n : Int) : (tI k).dec (.val (.int k n)) = some n := by cases k <;> rfl
theorem dec_tB (b : Bool) : tB.dec (.val (.bool b)) = some b := rfl
theorem dec_tS (b : ByteArray) : tS.dec (.val (.string b)) = some b := rfl
theorem dec_tTL {α : Type} (T : TyL α) (sz : Nat) (z : α) (n : Nat) (c : Option Nat) (G : Nat → List AV) : (tTL T sz z).dec (.lst sz n c G) = decRows T z n G := by
  show decTL T sz z (.lst sz n c G) = _
  simp only [decTL, Nat.beq_refl]
theorem dec_tTL0 {α : Type} (T : TyL α) (sz : Nat) (z : α) : (tTL T sz z).dec (.val (.slice none 0 0)) = some (0, fun _ => z) := rfl
/-- A string's bytes, as numbers. -/
def strB (s : ByteArray) (i : Nat) : Int := ((s.data.getD i 0).toNat : Nat)
/-- Rows that were written may be read. -/
theorem decRows_enc {α : Type} {T : TyL α} (hT : ∀ x, T.dec (T.enc x) = some x) (z : α) (n : Nat) (g : Nat → α) : decRows T z n (fun i => T.enc (g i)) = some (n, g) := by
  unfold decRows
  rw [if_pos fun i _ => ⟨g i, hT _⟩]
  congr 2
  funext i
  rw [hT]; rfl
def upd1 {α : Type} (g : Nat → α) (n : Nat) (v : α) : Nat → α := fun i => if i = n then v else g i
/-- Rows that are right as far as the list goes. -/
theorem decRows_of {α : Type} {T : TyL α} (z : α) (n : Nat) (G : Nat → List AV) (h : ∀ i, i < n → ∃ x, T.dec (G i) = some x) : decRows T z n G = some (n, fun i => (T.dec (G i)).getD z) := by
  unfold decRows
  rw [if_pos h]
/-- A list that stands in the text. -/
theorem lit_rows {α : Type} {T : TyL α} (hC : ∀ x, cloL (T.enc x) = T.enc x) (z : α) (l : List α) : (fun i => cloL (List.getD (List.map T.enc l) i (T.enc z))) = fun i => T.enc (l.getD i z) := by
  funext i
  rw [List.getD_eq_getElem?_getD, List.getElem?_map, List.getD_eq_getElem?_getD]
  cases l[i]? with
  | none => exact hC z
  | some x => exact hC x
theorem lit_rows_ren {α : Type} {T : TyL α} (f : Nat → Option Nat) (hR : ∀ x, renL f (T.enc x) = T.enc x) (z : α) (l : List α) : (fun i => renL f (List.getD (List.map T.enc l) i (T.enc z))) = fun i => T.enc (l.getD i z) := by
  funext i
  rw [List.getD_eq_getElem?_getD, List.getElem?_map, List.getD_eq_getElem?_getD]
  cases l[i]? with
  | none => exact hR z
  | some x => exact hR x
theorem decRows_lit {α : Type} {T : TyL α} (hT : ∀ x, T.dec (T.enc x) = some x) (hC : ∀ x, cloL (T.enc x) = T.enc x) (z : α) (l : List α) : decRows T z l.length (fun i => cloL (List.getD (List.map T.enc l) i (T.enc z))) = some (l.length, fun i => l.getD i z) := by
  rw [lit_rows hC, decRows_enc hT]
theorem row_upd_ren {α : Type} {T : TyL α} (hR : ∀ f x, renL f (T.enc x) = T.enc x) (f : Nat → Option Nat) (g : Nat → α) (n : Nat) (v : α) : (fun i => renL f (if i = n then T.enc v else T.enc (g i))) = fun i => T.enc (upd1 g n v i) := by
  funext i
  unfold upd1
  split <;> exact hR _ _
theorem row_upd_clo {α : Type} {T : TyL α} (hC : ∀ x, cloL (T.enc x) = T.enc x) (g : Nat → α) (n : Nat) (v : α) : (fun i => cloL (if i = n then T.enc v else T.enc (g i))) = fun i => T.enc (upd1 g n v i) := by
  funext i
  unfold upd1
  split <;> exact hC _
theorem row_upd {α : Type} (T : TyL α) (g : Nat → α) (n : Nat) (v : α) : (fun i => if i = n then T.enc v else T.enc (g i)) = fun i => T.enc (upd1 g n v i) := by
  funext i
  unfold upd1
  split <;> rfl
theorem rowsDec_enc {α : Type} {T : TyL α} (hT : ∀ x, T.dec (T.enc x) = some x) (z : α) (n : Nat) (g : Nat → α) : rowsDec T z n (fun i => T.enc (g i)) = some (n, g) := by
  unfold rowsDec
  rw [if_pos fun i _ => ⟨g i, hT _⟩]
  congr 2
  funext i
  rw [hT]; rfl
/-- A result of one's own, its rows typed. -/
theorem own_dec {α β : Type} {T : OwnT α β} {cs l : List AV} {x : α} (h1 : lastSlc cs = some l) (h2 : T.pre.dec (cloL l) = some x) (hT : ∀ x, T.row.dec (T.row.enc x) = some x) (n : Nat) (g : Nat → β) :
    T.dec (.agg cs) ⟨true, T.e, T.sz, n, fun i => T.row.enc (g i), none⟩ = some (x, (n, g)) := by
  unfold OwnT.dec
  simp only [h1, h2, Nat.beq_refl, Bool.and_self, rowsDec_enc hT]
end Go.Proofs.Ytneighaelofnhaa.Fw
