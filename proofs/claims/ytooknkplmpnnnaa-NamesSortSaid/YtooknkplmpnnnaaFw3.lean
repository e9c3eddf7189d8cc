/- A list of one's own, sorted by the library. -/
import Derived.Test.YtooknkplmpnnnaaFwU
import Derived.Test.YtooknkplmpnnnaaShelf
namespace Go.Proofs.Ytooknkplmpnnnaa.Fw
open Go Go.RowKit Go.Proofs Go.Shelf
set_option linter.unusedVariables false
set_option linter.unusedSimpArgs false
set_option maxRecDepth 100000

def intAt : List AV → Int
  | [.val (.int _ x)] => x
  | _ => 0
noncomputable def intsD (n : Nat) (g : Nat → List AV) : Option (Nat → Int) :=
  open Classical in if ∀ i, i < n → ∃ x : Int, g i = [.val (.int .i64 x)] then some (fun i => intAt (g i)) else none
/-- What stands at i when the first n are sorted. -/
def sortAt (n : Nat) (y : Nat → Int) (i : Nat) : Int := (((List.range n).map y).mergeSort fun x y => decide (x ≤ y)).getD i 0
noncomputable def sortInl : Inl := ⟨fun l H K => match l with
  | [.slc o 0 none _] => match hp H o with
    | .live ob => match ob.row && Nat.beq ob.sz 1 with
      | true => bif decide (ob.n < 4611686018427387904) then (intsD ob.n ob.get).bind fun y => K undefA (H.set o (.live { ob with get := fun i => [.val (.int .i64 (sortAt ob.n y i))] })) else none
      | false => none
    | _ => none
  | _ => none⟩
noncomputable def Summ.mkS : Summ := { A := Empty, R := Empty, dec := fun _ => none, f := fun _ => none, enc := fun _ => .top, inl := some sortInl }

section
variable {P : Program} {w0 w : World} {W : Nat → Prop} {F : RoMap} {ρ : Pm} {RO : RoMap}
/-- A list's block holds other rows. -/
theorem SR.row {H : Hp} {o b m : Nat} {ob : Ob} {get' : Nat → List AV} {arr' : Array Value} {w' : World} (h : SR w0 W F ρ RO H w) (hl : H o = .live ob) (hp : ρ o = some ⟨b, m⟩) (hos : w'.os = w.os) (ht : w'.tape = w.tape) (hout : w'.output = w.output)
    (hsize : w.heap.size ≤ w'.heap.size) (hkept : ∀ k, k < w.heap.size → k ≠ b → w'.heap[k]? = w.heap[k]?) (hblk : CellsAt w' b arr' ob.ty) (hm : arr'.size = m) (hnm : ob.n * ob.sz ≤ m) (hlen : ∀ i, i < ob.n → (get' i).length = ob.sz)
    (hval : ∀ (i k : Nat) a v, i < ob.n → (get' i)[k]? = some a → arr'[i * ob.sz + k]? = some v → VR (fun _ => none) RO noHp a v) (hone : ∀ (j : Nat) v, j < ob.n * ob.sz → arr'[j]? = some v → v.oneCell' = true) :
    SR w0 W F ρ RO (upd H o (.live { ob with get := get' })) w' ∧ Ext ρ RO H ρ RO (upd H o (.live { ob with get := get' })) := by
  have E : Ext ρ RO H ρ RO (upd H o (.live { ob with get := get' })) := Ext.put hl rfl rfl
  rcases h.obj o ob hl with ⟨hg, _⟩ | ⟨b0, m0, arr0, g1, g2, g3, g4, g5, g6, g7, g8, g9⟩
  · rw [hg] at hp; cases hp
  rw [g1] at hp; cases hp
  have hb : b < w.heap.size := g4.lt
  have liveOf : ∀ k x, upd H o (.live { ob with get := get' }) k = .live x → k ≠ o → H k = .live x := fun k x hx hk => by simpa [upd, hk] using hx
  have isB : ∀ (c : Nat) (x : Obj), w.heap[c]? = some x → isCells x = false → w'.heap[c]? = some x := fun c x e hc => by
    have hcb : c ≠ b := fun e2 => by
      subst e2
      obtain ⟨f, _, e3⟩ := g4
      rw [e3] at e; cases e; cases hc
    rw [hkept c (lt_get e) hcb]; exact e
  refine ⟨⟨hos.trans h.os, ht.trans h.tape, hout.trans h.output, Nat.le_trans h.size hsize, fun k hk hW => ?_, fun k x hx => ?_, fun k k' x x' c m1 m2 h1 h2 p1 p2 => ?_, fun c arr hc => ?_, h.old, h.fix,
    (h.mo.mono (fun _ _ h => h) isB fun _ _ => ⟨rfl, rfl⟩).upd rfl (fun _ _ => rfl) (fun _ _ h _ => h)⟩, E⟩
  · have hkb : k ≠ b := by
      rintro rfl
      rcases g3 with g3 | g3
      · omega
      · exact hW g3
    rw [hkept k (Nat.lt_of_lt_of_le hk h.size) hkb]
    exact h.kept k hk hW
  · by_cases hk : k = o
    · subst hk
      have e : x = { ob with get := get' } := by simp [upd] at hx; exact hx.symm
      subst e
      exact .inr ⟨b, m, arr', g1, g2, g3, hblk, hm, hnm, hlen, fun i kk a v hi e1 e2 => (hval i kk a v hi e1 e2).closed _ _, hone⟩
    · have hx' := liveOf k x hx hk
      rcases h.obj k x hx' with hg | ⟨c, m1, arr, p1, p2, p3, p4, p5, p6, p7, p8, p9⟩
      · exact .inl hg
      · have hlt : c < w.heap.size := p4.lt
        have hcb : c ≠ b := fun e => by subst e; exact hk (h.inj k o x ob c m1 m hx' hl p1 g1)
        exact .inr ⟨c, m1, arr, p1, p2, p3, p4.at (hkept c hlt hcb), p5, p6, p7, fun i k' a' v hi e1 e2 => (p8 i k' a' v hi e1 e2).ext (fun _ _ h => h) _ E, p9⟩
  · have l1 : ∃ y, H k = .live y := by
      by_cases hk : k = o
      · subst hk; exact ⟨ob, hl⟩
      · exact ⟨x, liveOf k x h1 hk⟩
    have l2 : ∃ y, H k' = .live y := by
      by_cases hk : k' = o
      · subst hk; exact ⟨ob, hl⟩
      · exact ⟨x', liveOf k' x' h2 hk⟩
    obtain ⟨y, l1⟩ := l1
    obtain ⟨y', l2⟩ := l2
    exact h.inj k k' y y' c m1 m2 l1 l2 p1 p2
  · obtain ⟨t, f, e⟩ := h.ro c arr hc
    have hcb : c ≠ b := fun e2 => by subst e2; rw [g2] at hc; cases hc
    exact ⟨t, f, by rw [hkept c (lt_get e) hcb]; exact e⟩
theorem intsD_spec {n : Nat} {g : Nat → List AV} {y : Nat → Int} (h : intsD n g = some y) : ∀ i, i < n → g i = [.val (.int .i64 (y i))] := by
  unfold intsD at h
  split at h
  · rename_i hc
    cases h
    intro i hi
    obtain ⟨x, hx⟩ := hc i hi
    show g i = [AV.val (.int .i64 (intAt (g i)))]
    rw [hx]; rfl
  · cases h
theorem intsD_of {n : Nat} {g : Nat → List AV} {y : Nat → Int} (h : ∀ i, g i = [.val (.int .i64 (y i))]) : intsD n g = some y := by
  unfold intsD
  rw [if_pos fun i _ => ⟨y i, h i⟩]
  congr 1
  funext i
  rw [h i]; rfl
/-- The library's sort, gone into. -/
theorem sort_inl {f : FuncId}
    (hS : ∀ (blk off cap : Nat) (zs : List Int) (w : World), Go.Sort.Holds (Value.int .i64) w blk off zs.toArray → blk < w.heap.size → zs.length < 4611686018427387904 → Calls P f #[.slice (some ⟨blk, off, none⟩) zs.length cap] w fun e w' =>
      e = .returned (.tuple #[]) ∧ ∃ n os, w' = Go.Sort.grow (Go.Sort.putRow (Value.int .i64) (Go.Sort.ahead w n) blk off (zs.mergeSort fun x y => decide (x ≤ y)).toArray) os)
    (h0 : ∀ (p : Option Addr) (cap : Nat) (w : World), Calls P f #[.slice p 0 cap] w fun e w' => e = .returned (.tuple #[]) ∧ w' = w) : sortInl.Ok P f := by
  intro R l H K r hr w0 w W F ρ RO cargs hs hc
  unfold sortInl at hr
  dsimp only at hr
  split at hr
  · rename_i o cap
    split at hr
    · rename_i ob hob
      split at hr
      · rename_i hrow
        simp only [Bool.and_eq_true] at hrow
        have hsz := Nat.eq_of_beq_eq_true hrow.2
        cases hlt : decide (ob.n < 4611686018427387904) with
        | false => rw [hlt, cond_false] at hr; cases hr
        | true =>
          rw [hlt, cond_true, Option.bind_eq_some_iff] at hr
          obtain ⟨y, hy, hk⟩ := hr
          have hlt' : ob.n < 4611686018427387904 := of_decide_eq_true hlt
          have hy' := intsD_spec hy
          obtain ⟨hcl, hcv⟩ := hc
          have hcs : ∃ cv, cargs = #[cv] := by
            have : cargs.size = 1 := by simpa using hcl.symm
            exact ⟨cargs[0], by apply Array.ext <;> simp_all⟩
          obtain ⟨cv, rfl⟩ := hcs
          have vs := hcv 0 (.slc o 0 none cap) cv rfl rfl
          have hql : o < H.length := by
            rcases Nat.lt_or_ge o H.length with h | h
            · exact h
            · unfold hp at hob
              rw [List.getD_eq_getElem?_getD, List.getElem?_eq_none h] at hob
              cases hob
          cases vs with
          | slc _ _ _ n _ _ b off c k0 hn hk' hc' h =>
            obtain ⟨q1, q2, q3, m, q4, q5⟩ := h ob hob
            have hn' : n = ob.n := by have := q2 rfl; omega
            subst hn'
            have hoff : off = 0 := by rw [q3]; simp
            subst hoff
            rcases hs.obj o ob hob with ⟨hg, _⟩ | ⟨b0, m0, arr, g1, g2, g3, g4, g5, g6, g7, g8, g9⟩
            · rw [hg] at q4; cases q4
            rw [g1] at q4; cases q4
            have hcells : ∀ j, j < ob.n → arr[j]? = some (.int .i64 (y j)) := fun j hj => by
              have hj2 : j < arr.size := by rw [hsz] at g6; omega
              have := g8 j 0 (.val (.int .i64 (y j))) arr[j] hj (by rw [hy' j hj]; rfl) (by rw [hsz]; simp [hj2])
              have e := this.val_eq
              rw [Array.getElem?_eq_getElem hj2, e]
            obtain ⟨fr, fr1, fr2⟩ := g4
            have hblk : b < w.heap.size := lt_get fr2
            have hH : Go.Sort.Holds (Value.int .i64) w b 0 ((List.range ob.n).map y).toArray := by
              intro j hj
              have hj' : j < ob.n := by simpa using hj
              refine ⟨?_, ?_⟩
              · simp only [World.cell?, fr2, Nat.zero_add, Option.isSome_none, Bool.false_eq_true, if_false]
                rw [hcells j hj']
                simp [hj']
              · simp only [World.frozen?, fr2, Nat.zero_add]
                rcases fr1 with rfl | fr1
                · simp
                · have : j < arr.size := by rw [hsz] at g6; omega
                  simp; omega
            have hlen : ((List.range ob.n).map y).length = ob.n := by simp
            have hcall := hS b 0 c ((List.range ob.n).map y) w hH hblk (by rw [hlen]; exact hlt')
            rw [hlen] at hcall
            refine hcall.mono fun e w' ⟨he, nd, os, hw⟩ => ?_
            subst he
            have hsl : (((List.range ob.n).map y).mergeSort fun x y => decide (x ≤ y)).length = ob.n := by rw [List.length_mergeSort, hlen]
            have hblk' : w'.heap[b]? = some (.cells (Go.Sort.putCells (Value.int .i64) 0 (((List.range ob.n).map y).mergeSort fun x y => decide (x ≤ y)).toArray arr) ob.ty fr) := by
              subst hw
              unfold Go.Sort.grow Go.Sort.putRow Go.Sort.mapBlock Go.Sort.ahead
              simp only
              rw [Array.getElem?_append_left (by simpa using hblk), Array.getElem?_modify, if_pos rfl, fr2]
              rfl
            obtain ⟨S, E⟩ := hs.row (get' := fun i => [.val (.int .i64 (sortAt ob.n y i))]) (arr' := Go.Sort.putCells (Value.int .i64) 0 (((List.range ob.n).map y).mergeSort fun x y => decide (x ≤ y)).toArray arr) (w' := w') hob g1
              (by subst hw; rfl) (by subst hw; rfl) (by subst hw; rfl) (by subst hw; simp [Go.Sort.grow, Go.Sort.putRow, Go.Sort.mapBlock, Go.Sort.ahead])
              (fun k hk1 hk2 => by
                subst hw
                unfold Go.Sort.grow Go.Sort.putRow Go.Sort.mapBlock Go.Sort.ahead
                simp only
                rw [Array.getElem?_append_left (by simpa using hk1), Array.getElem?_modify, if_neg (Ne.symm hk2)])
              ⟨fr, by simpa [Go.Sort.putCells] using fr1, hblk'⟩ (by simp [Go.Sort.putCells, g5]) g6 (fun i _ => by rw [hsz]; rfl)
              (fun i kk a v hi e1 e2 => by
                have hkk : kk = 0 := by
                  cases kk with
                  | zero => rfl
                  | succ kk => simp at e1
                subst hkk
                simp at e1; subst e1
                rw [hsz] at e2
                have hi2 : i < arr.size := by rw [hsz] at g6; omega
                have hi3 : i < (((List.range ob.n).map y).mergeSort fun x y => decide (x ≤ y)).length := by rw [hsl]; exact hi
                have ev : v = .int .i64 (sortAt ob.n y i) := by
                  simp only [Nat.mul_one, Nat.add_zero, Go.Sort.putCells, Array.getElem?_mapIdx, Array.getElem?_eq_getElem hi2, Option.map_some, Nat.zero_le, true_and, Nat.zero_add, List.size_toArray] at e2
                  rw [if_pos hi3] at e2
                  cases e2
                  unfold sortAt
                  simp [List.getD_eq_getElem?_getD, List.getElem?_eq_getElem hi3, hi3]
                rw [ev]; exact .val _ _ rfl)
              (fun j v hj e2 => by
                rw [hsz] at hj
                have hj2 : j < arr.size := by rw [hsz] at g6; omega
                have hi3 : j < (((List.range ob.n).map y).mergeSort fun x y => decide (x ≤ y)).length := by rw [hsl]; omega
                simp only [Go.Sort.putCells, Array.getElem?_mapIdx, Array.getElem?_eq_getElem hj2, Option.map_some, Nat.zero_le, true_and, Nat.zero_add, List.size_toArray] at e2
                rw [if_pos hi3] at e2
                cases e2; rfl)
            have eH := hp_set (e := .live { ob with get := fun i => [.val (.int .i64 (sortAt ob.n y i))] }) hql
            refine ⟨undefA, _, .tuple #[], ρ, RO, rfl, hk, .undefA, ?_, ?_⟩
            · rw [eH]; exact S
            · rw [eH]; exact E
          | slc0 _ _ _ _ a k0 hk' hc' h =>
            obtain ⟨q1, q2⟩ := h ob hob
            refine (h0 (nl a) 0 w).mono fun e w' ⟨he, hw⟩ => ?_
            subst he; subst hw
            have eH := hp_set (e := .live { ob with get := fun i => [.val (.int .i64 (sortAt ob.n y i))] }) hql
            have E : Ext ρ RO (hp H) ρ RO (upd (hp H) o (.live { ob with get := fun i => [.val (.int .i64 (sortAt ob.n y i))] })) := Ext.put hob rfl rfl
            refine ⟨undefA, _, .tuple #[], ρ, RO, rfl, hk, .undefA, ?_, by rw [eH]; exact E⟩
            rw [eH]
            have lv : ∀ k x, upd (hp H) o (.live { ob with get := fun i => [.val (.int .i64 (sortAt ob.n y i))] }) k = .live x → (k = o ∧ x = { ob with get := fun i => [.val (.int .i64 (sortAt ob.n y i))] }) ∨ (k ≠ o ∧ hp H k = .live x) := fun k x hx => by
              by_cases hk : k = o
              · subst hk; simp [upd] at hx; exact .inl ⟨rfl, hx.symm⟩
              · exact .inr ⟨hk, by simpa [upd, hk] using hx⟩
            refine ⟨hs.os, hs.tape, hs.output, hs.size, hs.kept, fun k x hx => ?_, fun k k' x x' b m m' h1 h2 p1 p2 => ?_, hs.ro, hs.old, hs.fix, hs.mo.upd rfl (fun _ _ => rfl) (fun _ _ h _ => h)⟩
            · rcases lv k x hx with ⟨rfl, rfl⟩ | ⟨hk, hx'⟩
              · exact .inl ⟨q2, q1⟩
              · rcases hs.obj k x hx' with hg | ⟨c, m1, arr, p1, p2, p3, p4, p5, p6, p7, p8, p9⟩
                · exact .inl hg
                · exact .inr ⟨c, m1, arr, p1, p2, p3, p4, p5, p6, p7, fun i k' a' v hi e1 e2 => (p8 i k' a' v hi e1 e2).ext (fun _ _ h => h) _ E, p9⟩
            · have l1 : ∃ y, hp H k = .live y := by
                rcases lv k x h1 with ⟨rfl, _⟩ | ⟨_, h⟩
                · exact ⟨ob, hob⟩
                · exact ⟨x, h⟩
              have l2 : ∃ y, hp H k' = .live y := by
                rcases lv k' x' h2 with ⟨rfl, _⟩ | ⟨_, h⟩
                · exact ⟨ob, hob⟩
                · exact ⟨x', h⟩
              obtain ⟨y1, l1⟩ := l1
              obtain ⟨y2, l2⟩ := l2
              exact hs.inj k k' y1 y2 b m m' l1 l2 p1 p2
      · cases hr
    · cases hr
  · cases hr
end
theorem sort_ok : Summ.mkS.Ok Try.prog 17 := by
  refine ⟨⟨Try.f17, by kernel_rfl, by kernel_rfl, by kernel_rfl⟩, ?_, fun I h => ?_, fun T h => nomatch (show (none : Option Tk) = some T from h)⟩
  · dsimp only [Summ.mkS]
    intro l x
    exact x.elim
  · have e : some sortInl = some I := h
    cases e
    intro R
    exact sort_inl (P := Try.prog) (f := 17) (fun blk off cap zs w hH hb hs => Try.slices_Sort_int blk off cap zs w hH hb hs) (fun p cap w => Try.slices_Sort_int_none p cap w) (R := R)
end Go.Proofs.Ytooknkplmpnnnaa.Fw
