/- What pev.py's prints are made of: continuations, lists of typed rows. -/
import Derived.Test.YtbcnifnmccaleaaFwV
namespace Go.Proofs.Ytbcnifnmccaleaa.Fw
open Go Go.RowKit
set_option linter.unusedVariables false
set_option linter.unusedSimpArgs false

/-- A part of a code. -/
def codeAt : List Nat → Code → Code
  | [], c => c
  | 0 :: r, .seq a _ => codeAt r a
  | _ :: r, .seq _ b => codeAt r b
  | 0 :: r, .cond _ a _ => codeAt r a
  | _ :: r, .cond _ _ b => codeAt r b
  | _ :: r, .block _ a => codeAt r a
  | _ :: r, .loop a => codeAt r a
  | _ :: r, .scope a => codeAt r a
  | _, c => c
def bodyOf (fn : Func) : Code := match fn.body with
  | some c => c
  | none => .skip
section
variable {R : Type}
def kFin (Γ : Ctx) (fn : Func) (D : AV → Option R) : AExit → St → Option R := fun e s =>
  match e with
  | .exit _ => none
  | _ => match finish Γ.P fn s with
    | some v => D v
    | none => none
def kFinT (Γ : Ctx) (fn : Func) (D : AV → Ob → Option R) : AExit → St → Option R := fun e s =>
  match e with
  | .exit _ => none
  | _ => match resultsOf Γ.P s fn.results.toList with
    | some [.slc q 0 n' _] => match hp s.H q with
      | .live ob' => D (.slc 0 0 none none) { ob' with n := slcLen n' ob'.n 0, get := fun i => cloL (ob'.get i), lit := none }
      | _ => none
    | _ => none
def kFinW (Γ : Ctx) (fn : Func) (D : AV → Ob → Option R) : AExit → St → Option R := fun e s =>
  match e with
  | .exit _ => none
  | _ => match resultsOf Γ.P s fn.results.toList with
    | some l => match idsL l with
      | [o] => match hp s.H o with
        | .live ob => D (ren (pick0 o) (packA l)) { ob with get := fun i => cloL (ob.get i), lit := none }
        | _ => none
      | _ => none
    | none => none
noncomputable def kFinG (Γ : Ctx) (fn : Func) (ty : TypeId) (D : AV → List AV → Option R) : AExit → St → Option R := fun e s =>
  match e with
  | .exit _ => none
  | _ => match hp s.H 0 with
    | .live ob0 =>
      let s1 := s.frzL (idsL (flatO ob0))
      match resultsOf Γ.P s1 fn.results.toList with
      | some l => match hp s1.H 0 with
        | .live ob' => match Nat.beq ob'.ty ty && Nat.beq (flatO ob').length (ob'.n * ob'.sz) with
          | true => D (clo (packA l)) (cloL (flatO ob'))
          | false => none
        | _ => none
      | none => none
    | _ => none
noncomputable def kSeq (Γ : Ctx) (k : Nat) (b : Code) (blk : Nat) (K : AExit → St → Option R) : AExit → St → Option R := fun e s =>
  match e with
  | .normal => ev Γ k b blk s K
  | .exit i => K (.exit i) s
  | .ret => K .ret s
def kBlock (Γ : Ctx) (id : Nat) (K : AExit → St → Option R) : AExit → St → Option R := fun e s =>
  match e with
  | .normal => jnS Γ.gate (Γ.hint id).bk id s (K .normal)
  | .exit i => match Nat.beq i id with
    | true => jnS Γ.gate (Γ.hint id).bk id s (K .normal)
    | false => K (.exit i) s
  | .ret => K .ret s
noncomputable def kTurns (b : St → (AExit → St → Option R) → Option R) (k : Nat) (K : AExit → St → Option R) : AExit → St → Option R := fun e s =>
  match e with
  | .normal => evTurns b k s K
  | .exit i => K (.exit i) s
  | .ret => K .ret s
noncomputable def kLoop (h : LHint) (n0 : Nat) (b : St → (AExit → St → Option R) → Option R) (k : Nat) (K : AExit → St → Option R) : AExit → St → Option R := fun e s =>
  match e with
  | .normal => match canon h n0 (s.frzL h.cfr) with
    | some s => evLoop h n0 b k s K
    | none => none
  | .exit i => K (.exit i) s
  | .ret => K .ret s
end
def lookH : List (Nat × LHint) → Nat → LHint
  | [], _ => {}
  | (k, h) :: r, g => match Nat.beq k g with
    | true => h
    | false => lookH r g

/-! ### Lists of rows -/
noncomputable def decRows {α : Type} (T : TyL α) (z : α) (n : Nat) (g : Nat → List AV) : Option (Nat × (Nat → α)) :=
  open Classical in if ∀ i, i < n → ∃ x, T.dec (g i) = some x then some (n, fun i => (T.dec (g i)).getD z) else none
noncomputable def decTL {α : Type} (T : TyL α) (sz : Nat) (z : α) : AV → Option (Nat × (Nat → α))
  | .lst sz' n _ g => match Nat.beq sz' sz with
    | true => decRows T z n g
    | false => none
  | .val (.slice none 0 0) => some (0, fun _ => z)
  | _ => none
/-- A list of rows of a type. -/
noncomputable def tTL {α : Type} (T : TyL α) (sz : Nat) (z : α) : Ty (Nat × (Nat → α)) := ⟨fun x => .lst sz x.1 none (fun i => T.enc (x.2 i)), decTL T sz z⟩

theorem tTL_ok {α : Type} {T : TyL α} (hT : T.Ok) (sz : Nat) (z : α) : (tTL T sz z).Ok := ⟨fun {a x} h RO v hv => by
  simp only [tTL, decTL] at h
  split at h
  · rename_i sz' n c g
    split at h
    · rename_i he
      have := Nat.eq_of_beq_eq_true he
      subst this
      unfold decRows at h
      split at h
      · rename_i hall
        cases h
        have enc : ∀ i, i < n → ∃ x, T.dec (g i) = some x ∧ (T.dec (g i)).getD z = x := fun i hi => by
          obtain ⟨x, hx⟩ := hall i hi
          exact ⟨x, hx, by rw [hx]; rfl⟩
        cases hv with
        | lst H _ _ cap get b off c arr hb hn hc hs hg h1 hh =>
          -- the cells of a row
          have row : ∀ i, i < n → CR (fun _ => none) RO noHp (T.enc ((T.dec (g i)).getD z)) ((List.range sz').map fun k => arr.getD (off + i * sz' + k) undef) := by
            intro i hi
            obtain ⟨x, hx, hx'⟩ := enc i hi
            rw [hx']
            refine hT.ok hx ⟨by simp [hg i hi], fun k c v e1 e2 => ?_⟩
            have hk : k < sz' := by have := (List.getElem?_eq_some_iff.1 e1).1; rw [hg i hi] at this; exact this
            have hlt : off + i * sz' + k < arr.size := by
              have : (i + 1) * sz' ≤ n * sz' := Nat.mul_le_mul_right _ hi
              rw [Nat.add_mul] at this
              omega
            simp [List.getElem?_range hk] at e2
            refine hh i k c v hi e1 ?_
            rw [← e2, Array.getElem?_eq_getElem hlt]
            simp [Array.getD, hlt]
          refine .lst _ _ _ _ _ b off c arr hb hn (fun x hx => by cases hx) hs (fun i hi => ?_) h1 fun i k c v hi e1 e2 => ?_
          · have := (row i hi).1
            simpa using this
          · have hlen : (T.enc ((T.dec (g i)).getD z)).length = sz' := by have := (row i hi).1; simpa using this
            have hk : k < sz' := by have := (List.getElem?_eq_some_iff.1 e1).1; rw [hlen] at this; exact this
            refine (row i hi).2 k c v e1 ?_
            have hlt : off + i * sz' + k < arr.size := (Array.getElem?_eq_some_iff.1 e2).1
            rw [Array.getElem?_eq_getElem hlt] at e2
            cases e2
            simp [List.getElem?_range hk, Array.getD, hlt]
        | lst0 H _ cap get a hc => exact .lst0 _ _ _ _ a (fun x hx => by cases hx)
      · cases h
    · cases h
  · cases h
    have := hv.val_eq
    subst this
    exact .lst0 _ _ _ _ none (fun x hx => by cases hx)
  · cases h⟩

theorem dec_tG {α : Type} (T : TyL α) (cs : List AV) : (tG T).dec (.agg cs) = T.dec cs := rfl
theorem dec_tT {α : Type} (T : TyL α) (cs : List AV) : (tT T).dec (.tup cs) = T.dec cs := rfl
theorem dec_tCons {α β : Type} (T : Ty α) (U : TyL β) (a : AV) (r : List AV) : (tCons T U).dec (a :: r) = (T.dec a).bind fun x => (U.dec r).bind fun y => some (x, y) := by
  show decC T U (a :: r) = _
  simp only [decC]
  cases T.dec a with
  | none => rfl
  | some x => cases U.dec r <;> rfl
theorem dec_tOne {α : Type} (T : Ty α) (a : AV) : (tOne T).dec [a] = T.dec a := rfl
theorem dec_tI (k : IntKind) (n : Int) : (tI k).dec (.val (.int k n)) = some n := by cases k <;> rfl
theorem dec_tB (b : Bool) : tB.dec (.val (.bool b)) = some b := rfl
theorem dec_tS (b : ByteArray) : tS.dec (.val (.string b)) = some b := rfl
theorem dec_tTL {α : Type} (T : TyL α) (sz : Nat) (z : α) (n : Nat) (c : Option Nat) (G : Nat → List AV) : (tTL T sz z).dec (.lst sz n c G) = decRows T z n G := by
  show decTL T sz z (.lst sz n c G) = _
  simp only [decTL, Nat.beq_refl]
theorem dec_tTL0 {α : Type} (T : TyL α) (sz : Nat) (z : α) : (tTL T sz z).dec (.val (.slice none 0 0)) = some (0, fun _ => z) := rfl
/-- A string's bytes, as numbers. -/
def strB (s : ByteArray) (i : Nat) : Int := ((s.data.getD i 0).toNat : Nat)
/-- Rows that were written may be read. -/
theorem decRows_enc {α : Type} {T : TyL α} (hT : ∀ x, T.dec (T.enc x) = some x) (z : α) (n : Nat) (g : Nat → α) : decRows T z n (fun i => T.enc (g i)) = some (n, g) := by
  unfold decRows
  rw [if_pos fun i _ => ⟨g i, hT _⟩]
  congr 2
  funext i
  rw [hT]; rfl
def upd1 {α : Type} (g : Nat → α) (n : Nat) (v : α) : Nat → α := fun i => if i = n then v else g i
/-- Rows that are right as far as the list goes. -/
theorem decRows_of {α : Type} {T : TyL α} (z : α) (n : Nat) (G : Nat → List AV) (h : ∀ i, i < n → ∃ x, T.dec (G i) = some x) : decRows T z n G = some (n, fun i => (T.dec (G i)).getD z) := by
  unfold decRows
  rw [if_pos h]
/-- A list that stands in the text. -/
theorem lit_rows {α : Type} {T : TyL α} (hC : ∀ x, cloL (T.enc x) = T.enc x) (z : α) (l : List α) : (fun i => cloL (List.getD (List.map T.enc l) i (T.enc z))) = fun i => T.enc (l.getD i z) := by
  funext i
  rw [List.getD_eq_getElem?_getD, List.getElem?_map, List.getD_eq_getElem?_getD]
  cases l[i]? with
  | none => exact hC z
  | some x => exact hC x
theorem lit_rows_ren {α : Type} {T : TyL α} (f : Nat → Option Nat) (hR : ∀ x, renL f (T.enc x) = T.enc x) (z : α) (l : List α) : (fun i => renL f (List.getD (List.map T.enc l) i (T.enc z))) = fun i => T.enc (l.getD i z) := by
  funext i
  rw [List.getD_eq_getElem?_getD, List.getElem?_map, List.getD_eq_getElem?_getD]
  cases l[i]? with
  | none => exact hR z
  | some x => exact hR x
theorem decRows_lit {α : Type} {T : TyL α} (hT : ∀ x, T.dec (T.enc x) = some x) (hC : ∀ x, cloL (T.enc x) = T.enc x) (z : α) (l : List α) : decRows T z l.length (fun i => cloL (List.getD (List.map T.enc l) i (T.enc z))) = some (l.length, fun i => l.getD i z) := by
  rw [lit_rows hC, decRows_enc hT]
theorem row_upd_ren {α : Type} {T : TyL α} (hR : ∀ f x, renL f (T.enc x) = T.enc x) (f : Nat → Option Nat) (g : Nat → α) (n : Nat) (v : α) : (fun i => renL f (if i = n then T.enc v else T.enc (g i))) = fun i => T.enc (upd1 g n v i) := by
  funext i
  unfold upd1
  split <;> exact hR _ _
theorem row_upd_clo {α : Type} {T : TyL α} (hC : ∀ x, cloL (T.enc x) = T.enc x) (g : Nat → α) (n : Nat) (v : α) : (fun i => cloL (if i = n then T.enc v else T.enc (g i))) = fun i => T.enc (upd1 g n v i) := by
  funext i
  unfold upd1
  split <;> exact hC _
theorem row_upd {α : Type} (T : TyL α) (g : Nat → α) (n : Nat) (v : α) : (fun i => if i = n then T.enc v else T.enc (g i)) = fun i => T.enc (upd1 g n v i) := by
  funext i
  unfold upd1
  split <;> rfl
theorem rowsDec_enc {α : Type} {T : TyL α} (hT : ∀ x, T.dec (T.enc x) = some x) (z : α) (n : Nat) (g : Nat → α) : rowsDec T z n (fun i => T.enc (g i)) = some (n, g) := by
  unfold rowsDec
  rw [if_pos fun i _ => ⟨g i, hT _⟩]
  congr 2
  funext i
  rw [hT]; rfl
/-- A result of one's own, its rows typed. -/
theorem own_dec {α β : Type} {T : OwnT α β} {cs l : List AV} {x : α} (h1 : lastSlc cs = some l) (h2 : T.pre.dec (cloL l) = some x) (hT : ∀ x, T.row.dec (T.row.enc x) = some x) (n : Nat) (g : Nat → β) :
    T.dec (.agg cs) ⟨true, T.e, T.sz, n, fun i => T.row.enc (g i), none⟩ = some (x, (n, g)) := by
  unfold OwnT.dec
  simp only [h1, h2, Nat.beq_refl, Bool.and_self, rowsDec_enc hT]

/-! ### Function values, captured variables -/
def decF {α : Type} (f : FuncId) (T : TyL α) : AV → Option α
  | .fn f' cs => match Nat.beq f' f with
    | true => T.dec cs
    | false => none
  | _ => none
/-- The function value of f, with what it has captured. -/
def tF {α : Type} (f : FuncId) (T : TyL α) : Ty α := ⟨fun x => .fn f (T.enc x), decF f T⟩
theorem tF_ok {α : Type} (f : FuncId) {T : TyL α} (hT : T.Ok) : (tF f T).Ok := ⟨fun {a x} h RO v hv => by
  simp only [tF, decF] at h
  split at h
  · rename_i f' cs
    split at h
    · rename_i he
      have := Nat.eq_of_beq_eq_true he
      subst this
      cases hv with
      | fn _ _ _ vs hl hh =>
        have q := hT.ok h (RO := RO) (vs := vs.toList) ⟨by simpa using hl, fun k c v e1 e2 => hh k c v e1 (by simpa using e2)⟩
        exact .fn _ _ _ vs (by simpa using q.1) fun k c v e1 e2 => q.2 k c v e1 (by simpa using e2)
    · cases h
  · cases h⟩
def decP {α : Type} (T : TyL α) : AV → Option α
  | .rp cs 0 => T.dec cs
  | _ => none
/-- The address of cells that stay as they are. -/
def tP {α : Type} (T : TyL α) : Ty α := ⟨fun x => .rp (T.enc x) 0, decP T⟩
theorem tP_ok {α : Type} {T : TyL α} (hT : T.Ok) : (tP T).Ok := ⟨fun {a x} h RO v hv => by
  simp only [tP, decP] at h
  split at h
  · rename_i cs
    cases hv with
    | rp _ _ _ b off arr hb hs hh =>
      have hlen : ((arr.toList.drop off).take cs.length).length = cs.length := by simp; omega
      have q := hT.ok h (RO := RO) (vs := (arr.toList.drop off).take cs.length) ⟨hlen.symm, fun k c v e1 e2 => by
        have hk : k < cs.length := (List.getElem?_eq_some_iff.1 e1).1
        rw [List.getElem?_take, if_pos hk, List.getElem?_drop] at e2
        exact hh k c v e1 (by simpa using e2)⟩
      have hl2 : (T.enc x).length = cs.length := by have := q.1; omega
      refine .rp _ _ 0 b off arr hb (by omega) fun k c v e1 e2 => ?_
      have hk : k < cs.length := by have := (List.getElem?_eq_some_iff.1 e1).1; omega
      refine q.2 k c v e1 ?_
      rw [List.getElem?_take, if_pos hk, List.getElem?_drop]
      simpa using e2
  · cases h⟩

/-! ### Lists of one's own, their rows typed -/
structure RowT (β : Type) where
  row : TyL β
  e : TypeId
  sz : Nat
  z : β
noncomputable def RowT.dec {β : Type} (T : RowT β) (v : AV) (ob : Ob) : Option (Nat × (Nat → β)) := match v with
  | .slc 0 0 none none => match ob.row && Nat.beq ob.ty T.e && Nat.beq ob.sz T.sz with
    | true => rowsDec T.row T.z ob.n ob.get
    | false => none
  | _ => none
def RowT.ob {β : Type} (T : RowT β) (x : Nat × (Nat → β)) : Ob := ⟨true, T.e, T.sz, x.1, fun i => T.row.enc (x.2 i), none⟩
theorem RowT.of {β : Type} {T : RowT β} (hT : T.row.Ok) {v : AV} {ob : Ob} {y : Nat × (Nat → β)} (h : T.dec v ob = some y) {pl : Option Pl} {RO : RoMap} {w' : World} {cv : Value} {Q : Nat → Prop} (hv : VR (fun _ => pl) RO (hp [.live ob]) v cv)
    (hpl : (pl = none ∧ ob.n = 0) ∨ ∃ b arr, pl = some ⟨b, arr.size⟩ ∧ RO b = none ∧ Q b ∧ CellsAt w' b arr ob.ty ∧ ObR (fun _ => none) RO noHp ob arr) :
    VR (fun _ => pl) RO (hp [.live (T.ob y)]) (.slc 0 0 none none) cv ∧ ((pl = none ∧ (T.ob y).n = 0) ∨ ∃ b arr, pl = some ⟨b, arr.size⟩ ∧ RO b = none ∧ Q b ∧ CellsAt w' b arr (T.ob y).ty ∧ ObR (fun _ => none) RO noHp (T.ob y) arr) := by
  unfold RowT.dec at h
  split at h
  · split at h
    · rename_i hc
      simp only [Bool.and_eq_true] at hc
      have hty := Nat.eq_of_beq_eq_true hc.1.2
      have hsz := Nat.eq_of_beq_eq_true hc.2
      unfold rowsDec at h
      split at h
      · rename_i hall
        cases h
        refine ⟨?_, ?_⟩
        · cases hv with
          | slc _ _ _ _ _ _ b off c h0 hn hk hcap hq =>
            obtain ⟨q1, q2, q3, m, q4, q5⟩ := hq ob rfl
            refine .slc _ _ _ _ _ _ b off c (fun e => by cases e) hn hk hcap fun ob2 h2 => ?_
            cases h2
            exact ⟨q1, q2, by show off = 0 * T.sz; rw [← hsz]; exact q3, m, q4, by show _ * T.sz ≤ m; rw [← hsz]; exact q5⟩
          | slc0 _ _ _ _ a0 h0 hk hcap hq =>
            obtain ⟨q1, q2⟩ := hq ob rfl
            refine .slc0 _ _ _ _ a0 (fun e => by cases e) hk hcap fun ob2 h2 => ?_
            cases h2
            exact ⟨q1, q2⟩
        · rcases hpl with ⟨h1, h2⟩ | ⟨b, arr, h1, h2, h3, h4, h5, h6, h7, h8⟩
          · exact .inl ⟨h1, h2⟩
          · have row : ∀ i, i < ob.n → CR (fun _ => none) RO noHp (T.row.enc ((T.row.dec (ob.get i)).getD T.z)) ((arr.toList.drop (i * ob.sz)).take ob.sz) := fun i hi => by
              obtain ⟨x, hx⟩ := hall i hi
              rw [hx]
              exact hT.ok hx (ObR.row (ob := ob) ⟨h5, h6, h7, h8⟩ hi)
            have hszs : ∀ i, i < ob.n → ((arr.toList.drop (i * ob.sz)).take ob.sz).length = ob.sz := fun i hi => by
              have := row_le (s := ob.sz) hi
              simp; omega
            refine .inr ⟨b, arr, h1, h2, h3, by show CellsAt w' b arr T.e; rw [← hty]; exact h4, by show ob.n * T.sz ≤ _; rw [← hsz]; exact h5, fun i hi => ?_, fun i k a v hi e1 e2 => ?_, fun j v hj hv => h8 j v (by rw [hsz]; exact hj) hv⟩
            · show (T.row.enc _).length = T.sz
              have := (row i hi).1
              rw [hszs i hi] at this
              exact this.trans hsz
            · have hlen3 : (T.row.enc ((T.row.dec (ob.get i)).getD T.z)).length = ob.sz := by have := (row i hi).1; rw [hszs i hi] at this; exact this
              have hk : k < ob.sz := by
                have := (List.getElem?_eq_some_iff.1 e1).1
                exact Nat.lt_of_lt_of_eq this hlen3
              refine (row i hi).2 k a v e1 ?_
              have e2' : arr[i * T.sz + k]? = some v := e2
              rw [List.getElem?_take, if_pos hk, List.getElem?_drop, hsz]
              simpa using e2'
      · cases h
    · cases h
  · cases h
theorem RowT.dec_typed {β : Type} {T : RowT β} {a : AV} {n : Nat} {g : Nat → β} (hT : ∀ x, T.row.dec (T.row.enc x) = some x) : T.dec (.slc 0 0 none none) ⟨true, T.e, T.sz, n, fun i => T.row.enc (g i), none⟩ = some (n, g) := by
  unfold RowT.dec
  simp only [Nat.beq_refl, Bool.and_self, rowsDec_enc hT]

/-- A function whose result is a list of the caller's own. -/
def Summ.mkB {α β : Type} (T : TyL α) (U : RowT β) (f : α → Option (Nat × (Nat → β))) : Summ := { A := α, R := Nat × (Nat → β), dec := T.dec, f := f, enc := fun _ => .slc 0 0 none none, own := true, ob := U.ob }
theorem bsumm_ok {P : Program} {l : List (Nat × Summ)} {hint : Nat → LHint} {α β : Type} {T : TyL α} {U : RowT β} {f : α → Option (Nat × (Nat → β))} {n : FuncId} {fn : Func} (k : α → Nat) (hl : SumsOk P l) (hm : P.follows .mixedOrders = true)
    (hf : P.funcs[n]? = some fn) (hn : (fn.name == "runtime.NumGoroutine") = false) (hb : fn.body.isNone = false) (hT : T.Ok) (hU : U.row.Ok)
    (he : ∀ x, f x = evW ⟨P, sumAt l, hint, true⟩ (k x) fn (T.enc x) U.dec) : (Summ.mkB T U f).Ok P n := by
  refine ⟨⟨fn, hf, hn, hb⟩, ?_, (fun I h => nomatch (show (none : Option Inl) = some I from h)), (fun T h => nomatch (show (none : Option Tk) = some T from h)), fun M h => nomatch (show (none : Option Mo) = some M from h)⟩
  dsimp only [Summ.mkB]
  intro as x r hd hr RO w cargs hro hcr
  have h1 : evW ⟨P, sumAt l, hint, true⟩ (k x) fn (T.enc x) U.dec = some r := (he x).symm.trans hr
  have hcr' := hT.ok hd hcr
  refine (own_ok (Γ := ⟨P, sumAt l, hint, true⟩) hl.sumAt hm hf h1 hro hcr').mono fun e w' ⟨v, ob, cv, RO', h2, h3, ⟨pl, h4, h9⟩, h5, h6, h7, h8⟩ => ?_
  exact ⟨cv, RO', h2, ⟨pl, (RowT.of hU h3 h4 (Q := fun b => w.heap.size ≤ b) h9)⟩, h5, h6, h7, h8⟩
/-- A function that is handed a list and gives one. -/
def decTk {α : Type} (sz : Nat) (T : TyL α) : List AV → Option ((Nat × (Nat → List AV)) × α)
  | .lst sz' n _ g :: r => match Nat.beq sz' sz with
    | true => match T.dec r with
      | some y => some ((n, g), y)
      | none => none
    | false => none
  | _ => none
def Summ.mkT {α β : Type} (T : TyL α) (U : RowT β) (f : (Nat × (Nat → List AV)) × α → Option (Nat × (Nat → β))) : Summ :=
  { A := Empty, R := Empty, dec := fun _ => none, f := fun _ => none, enc := fun _ => .top, tk := some ⟨_, _, U.e, decTk U.sz T, f, fun _ => .slc 0 0 none none, U.ob⟩ }
theorem tsumm_ok {P : Program} {l : List (Nat × Summ)} {hint : Nat → LHint} {α β : Type} {T : TyL α} {U : RowT β} {f : (Nat × (Nat → List AV)) × α → Option (Nat × (Nat → β))} {n : FuncId} {fn : Func} (k : (Nat × (Nat → List AV)) × α → Nat) (hl : SumsOk P l) (hm : P.follows .mixedOrders = true)
    (hf : P.funcs[n]? = some fn) (hn : (fn.name == "runtime.NumGoroutine") = false) (hb : fn.body.isNone = false) (hT : T.Ok) (hU : U.row.Ok)
    (he : ∀ x, f x = evT ⟨P, sumAt l, hint, true⟩ (k x) fn ⟨true, U.e, U.sz, x.1.1, x.1.2, none⟩ (T.enc x.2) U.dec) : (Summ.mkT T U f).Ok P n := by
  refine ⟨⟨fn, hf, hn, hb⟩, ?_, (fun I h => nomatch (show (none : Option Inl) = some I from h)), fun K h => ?_, fun M h => nomatch (show (none : Option Mo) = some M from h)⟩
  · dsimp only [Summ.mkT]
    intro as x
    exact x.elim
  · have e : (some ⟨_, _, U.e, decTk U.sz T, f, fun _ => .slc 0 0 none none, U.ob⟩ : Option Tk) = some K := h
    cases e
    intro sz m cap g rest x r hd hr RO w pl v0 cargs hro hpl hv0 hcr
    have hd' : decTk U.sz T (.lst sz m cap g :: rest) = some x := hd
    simp only [decTk] at hd'
    split at hd'
    · rename_i hq
      have := Nat.eq_of_beq_eq_true hq
      subst this
      split at hd'
      · rename_i y hy
        cases hd'
        have h1 : evT ⟨P, sumAt l, hint, true⟩ (k ((m, g), y)) fn ⟨true, U.e, U.sz, m, g, none⟩ (T.enc y) U.dec = some r := (he ((m, g), y)).symm.trans hr
        refine (take_ok (Γ := ⟨P, sumAt l, hint, true⟩) hl.sumAt hm hf h1 hro hpl hv0 (hT.ok hy hcr)).mono fun e w' ⟨ob, cv, RO', pl', h2, h3, h4, h5, h6⟩ => ?_
        exact ⟨cv, RO', pl', h2, (RowT.of hU h3 h4 (Q := fun b => w.heap.size ≤ b ∨ ∃ m, pl = some ⟨b, m⟩) h5).1, (RowT.of hU h3 h4 (Q := fun b => w.heap.size ≤ b ∨ ∃ m, pl = some ⟨b, m⟩) h5).2, h6⟩
      · cases hd'
    · cases hd'

/-! ### Lists without room behind them -/
noncomputable def decTC {α : Type} (T : TyL α) (sz : Nat) (z : α) : AV → Option (Nat × (Nat → α))
  | .lst sz' n (some c) g => match Nat.beq sz' sz && Nat.beq c n with
    | true => decRows T z n g
    | false => none
  | _ => none
/-- A list of rows of a type, without room behind it. -/
noncomputable def tTC {α : Type} (T : TyL α) (sz : Nat) (z : α) : Ty (Nat × (Nat → α)) := ⟨fun x => .lst sz x.1 (some x.1) (fun i => T.enc (x.2 i)), decTC T sz z⟩
theorem tTC_ok {α : Type} {T : TyL α} (hT : T.Ok) (sz : Nat) (z : α) : (tTC T sz z).Ok := ⟨fun {a x} h RO v hv => by
  simp only [tTC, decTC] at h
  split at h
  · rename_i sz' n c g
    split at h
    · rename_i he
      simp only [Bool.and_eq_true] at he
      have e1 := Nat.eq_of_beq_eq_true he.1
      have e2 := Nat.eq_of_beq_eq_true he.2
      subst e1; subst e2
      have hd : (tTL T sz' z).dec (.lst sz' c (some c) g) = some x := by rw [dec_tTL]; exact h
      have q := (tTL_ok hT sz' z).ok hd hv
      have hx : x.1 = c := by
        unfold decRows at h
        split at h
        · cases h; rfl
        · cases h
      have hq : VR (fun _ => none) RO noHp (.lst sz' x.1 none fun i => T.enc (x.2 i)) v := q
      show VR (fun _ => none) RO noHp (.lst sz' x.1 (some x.1) fun i => T.enc (x.2 i)) v
      have key : ∀ {A : AV}, A = .lst sz' x.1 none (fun i => T.enc (x.2 i)) → VR (fun _ => none) RO noHp A v → (∀ a, v = .slice a x.1 x.1 → True) → (∃ a, v = .slice a x.1 x.1) → VR (fun _ => none) RO noHp (.lst sz' x.1 (some x.1) fun i => T.enc (x.2 i)) v := by
        intro A hA hA2 _ hv2
        cases hA2 with
        | lst H sz n cap get b off c arr hb hn hc hs hg h1 hh =>
          cases hA
          obtain ⟨a, ha⟩ := hv2
          cases ha
          exact .lst _ _ _ _ _ b off _ arr hb (Nat.le_refl _) (fun y hy => by cases hy; rfl) hs hg h1 hh
        | lst0 H sz cap get a hc =>
          injection hA with f1 f2 f3 f4
          rw [← f2]
          exact .lst0 _ _ _ _ a (fun y hy => by cases hy; rfl)
        | _ => cases hA
      refine key rfl hq (fun _ _ => trivial) ?_
      rw [hx]
      cases hv with
      | lst H _ _ cap get b off c' arr hb hn hc hs hg h1 hh => exact ⟨_, by rw [hc c rfl]⟩
      | lst0 H _ cap get a hc => exact ⟨_, rfl⟩
    · cases h
  · cases h⟩
theorem dec_tTC {α : Type} (T : TyL α) (sz : Nat) (z : α) (n : Nat) (G : Nat → List AV) : (tTC T sz z).dec (.lst sz n (some n) G) = decRows T z n G := by
  show decTC T sz z (.lst sz n (some n) G) = _
  simp only [decTC, Nat.beq_refl, Bool.and_self]

/-! ### slices.Clone -/
noncomputable def cloneF {β : Type} (U : RowT β) (y : Nat) (zr : List AV) (x : Nat × (Nat → List AV)) : Option (Nat × (Nat → β)) :=
  bif decide ((0 + x.1) * y ≤ 140737488355328) then rowsDec U.row U.z (0 + x.1) (fun i => cloL (appGet 0 (fun _ => zr) x.2 none i)) else none
theorem cloneF_typed {β : Type} {U : RowT β} (hC : ∀ x, cloL (U.row.enc x) = U.row.enc x) (hT : ∀ x, U.row.dec (U.row.enc x) = some x) (y : Nat) (zr : List AV) (n : Nat) (g : Nat → β) :
    cloneF U y zr (n, fun i => U.row.enc (g i)) = bif decide (n * y ≤ 140737488355328) then some (n, g) else none := by
  unfold cloneF
  have e : (fun i => cloL (appGet 0 (fun _ => zr) (fun i => U.row.enc (g i)) none i)) = fun i => U.row.enc (g i) := by
    funext i
    simp [appGet, hC]
  simp only [e, Nat.zero_add, rowsDec_enc hT]
theorem owned0 {β : Type} {U : RowT β} {y r : Nat × (Nat → β)} (h : y.1 = 0) (h' : r.1 = 0) {w w' : World} {cv : Value} {RO : RoMap} (ho : Owned w w' (U.ob y) (.slc 0 0 none none) cv RO) : Owned w w' (U.ob r) (.slc 0 0 none none) cv RO := by
  obtain ⟨pl, hv, hpl⟩ := ho
  refine ⟨pl, ?_, ?_⟩
  · cases hv with
    | slc _ _ _ _ _ _ b off c h0 hn hk hcap hq =>
      obtain ⟨q1, q2, q3, m, q4, q5⟩ := hq _ rfl
      refine .slc _ _ _ _ _ _ b off c (fun e => by cases e) hn hk hcap fun ob2 h2 => ?_
      cases h2
      have e1 : (U.ob y).n = 0 := h
      have e2 : (U.ob r).n = 0 := h'
      exact ⟨by omega, fun hh => by have := q2 hh; omega, q3, m, q4, q5⟩
    | slc0 _ _ _ _ a0 h0 hk hcap hq =>
      obtain ⟨q1, q2⟩ := hq _ rfl
      refine .slc0 _ _ _ _ a0 (fun e => by cases e) hk hcap fun ob2 h2 => ?_
      cases h2
      exact ⟨h', q2⟩
  · rcases hpl with ⟨h1, h2⟩ | ⟨b, arr, h1, h2, h3, h4, h5, h6, h7, h8⟩
    · exact .inl ⟨h1, h'⟩
    · have e2 : (U.ob r).n = 0 := h'
      exact .inr ⟨b, arr, h1, h2, h3, h4, by rw [e2]; simp, fun i hi => absurd hi (by rw [e2]; simp), fun i k a v hi => absurd hi (by rw [e2]; simp), fun j v hj => absurd hj (by rw [e2]; simp)⟩
theorem clone_ok {P : Program} {β : Type} {U : RowT β} {y : Nat} {zr : List AV} {n : FuncId} {fn : Func} (hm : P.follows .mixedOrders = true)
    (hf : P.funcs[n]? = some fn) (hn : (fn.name == "runtime.NumGoroutine") = false) (hb : fn.body.isNone = false) (hU : U.row.Ok)
    (h0 : evF ⟨P, sumAt [], fun _ => {}, true⟩ 0 fn [.val (.slice none 0 0)] some = some (.val (.slice none 0 0)))
    (h1 : ∀ m g, evW ⟨P, sumAt [], fun _ => {}, true⟩ 0 fn [.lst U.sz (m + 1) none g] U.dec = bif decide ((0 + (m + 1)) * y ≤ 140737488355328) then U.dec (.slc 0 0 none none) ⟨true, U.e, U.sz, 0 + (m + 1), fun i => cloL (appGet 0 (fun _ => zr) g none i), none⟩ else none)
    (h2 : ∀ q c, evW ⟨P, sumAt [], fun _ => {}, true⟩ 0 fn [.val (.slice (some q) 0 c)] U.dec = U.dec (.slc 0 0 none none) ⟨true, U.e, U.sz, 0, fun _ => cloL zr, none⟩) :
    (Summ.mkB (tOne (tL U.sz)) U (cloneF U y zr)).Ok P n := by
  refine ⟨⟨fn, hf, hn, hb⟩, ?_, (fun I h => nomatch (show (none : Option Inl) = some I from h)), (fun T h => nomatch (show (none : Option Tk) = some T from h)), fun M h => nomatch (show (none : Option Mo) = some M from h)⟩
  dsimp only [Summ.mkB]
  intro as x r hd hr RO w cargs hro hcr
  have hcr' := (tOne_ok (tL_ok U.sz)).ok hd hcr
  obtain ⟨N, g⟩ := x
  have hl1 : cargs.toList.length = 1 := hcr'.1.symm
  obtain ⟨v, hv⟩ : ∃ v, cargs.toList = [v] := List.length_eq_one_iff.1 hl1
  have hvv : VR (fun _ => none) RO noHp (.lst U.sz N none g) v := hcr'.2 0 _ _ rfl (by rw [hv]; rfl)
  unfold cloneF at hr
  have one : ∀ {a : AV}, VR (fun _ => none) RO noHp a v → CR (fun _ => none) RO noHp [a] cargs.toList := fun {a} ha => ⟨by rw [hv]; rfl, fun k c u e1 e2 => by
    rw [hv] at e2
    cases k with
    | zero => simp at e1 e2; subst e1; subst e2; exact ha
    | succ k => simp at e1⟩
  have hnil : SumsOk P [] := .nil
  have zero : N = 0 → r.1 = 0 := by
    intro hN
    subst hN
    cases hdd : decide ((0 + 0) * y ≤ 140737488355328) with
    | false => rw [hdd] at hr; cases hr
    | true =>
      rw [hdd] at hr
      unfold rowsDec at hr
      simp only [cond_true] at hr
      split at hr
      · cases hr; rfl
      · cases hr
  have dec0 : ∃ z, U.dec (.slc 0 0 none none) ⟨true, U.e, U.sz, 0, fun _ => cloL zr, none⟩ = some z ∧ z.1 = 0 := by
    unfold RowT.dec rowsDec
    simp only [Nat.beq_refl, Bool.and_self]
    rw [if_pos fun i hi => absurd hi (by omega)]
    exact ⟨_, rfl, rfl⟩
  have caseE : ∀ q c, v = .slice (some q) 0 c → N = 0 → Calls P n cargs w fun e w' => ∃ cv RO', e = .returned cv ∧ Owned w w' (U.ob r) (.slc 0 0 none none) cv RO' ∧ Below w.heap.size w w' ∧ (∀ b arr, RO b = some arr → RO' b = some arr) ∧ (∀ b arr, RO' b = some arr → RO b = none → w.heap.size ≤ b) ∧ RoOk RO' w' := by
    intro q c hv2 hN
    obtain ⟨z, hz, hz0⟩ := dec0
    refine (own_ok (Γ := ⟨P, sumAt [], fun _ => {}, true⟩) hnil.sumAt hm hf ((h2 q c).trans hz) hro (one (by rw [hv2]; exact .val _ _ rfl))).mono fun e w' ⟨a, ob, cv, RO', q2, q3, ⟨pl, q4, q9⟩, q5, q6, q7, q8⟩ => ?_
    exact ⟨cv, RO', q2, owned0 hz0 (zero hN) ⟨pl, (RowT.of hU q3 q4 (Q := fun b => w.heap.size ≤ b) q9)⟩, q5, q6, q7, q8⟩
  generalize hA : (AV.lst U.sz N none g) = A at hvv
  cases hvv with
  | lst H sz n' cap get b off c arr hb' hn' hc hs hg h1' hh =>
    cases hA
    cases N with
    | zero => exact caseE _ c rfl rfl
    | succ m =>
      have e : evW ⟨P, sumAt [], fun _ => {}, true⟩ 0 fn [.lst U.sz (m + 1) none g] U.dec = some r := by
        rw [h1 m g]
        rw [← hr]
        unfold RowT.dec
        simp only [Nat.beq_refl, Bool.and_self]
      refine (own_ok (Γ := ⟨P, sumAt [], fun _ => {}, true⟩) hnil.sumAt hm hf e hro (one (.lst _ _ _ _ _ b off c arr hb' hn' hc hs hg h1' hh))).mono fun e w' ⟨a, ob, cv, RO', q2, q3, ⟨pl, q4, q9⟩, q5, q6, q7, q8⟩ => ?_
      exact ⟨cv, RO', q2, ⟨pl, (RowT.of hU q3 q4 (Q := fun b => w.heap.size ≤ b) q9)⟩, q5, q6, q7, q8⟩
  | lst0 H sz cap get a hc =>
    cases hA
    cases a with
    | none =>
      refine (closed_ok (Γ := ⟨P, sumAt [], fun _ => {}, true⟩) hnil.sumAt hm hf h0 hro (one (.val _ _ rfl))).mono fun e w' ⟨u, cv, RO', q2, q3, q4, q5, q6, q7, q8⟩ => ?_
      cases q3
      have := q4.val_eq
      subst this
      refine ⟨_, RO', q2, ⟨none, ?_, .inl ⟨rfl, zero rfl⟩⟩, q5, q6, q7, q8⟩
      exact .slc0 _ 0 none none none (by simp [hp]) (fun y hy => by cases hy) (fun y hy => by cases hy) fun ob2 hh2 => by
        have : U.ob r = ob2 := by simpa [hp] using hh2
        subst this
        exact ⟨zero rfl, rfl⟩
    | some a => exact caseE a 0 rfl rfl
  | _ => cases hA
end Go.Proofs.Ytbcnifnmccaleaa.Fw
