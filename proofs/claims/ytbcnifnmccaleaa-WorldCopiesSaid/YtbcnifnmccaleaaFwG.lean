/- Append and slicing do in a world what the evaluator says; so does each operation but a call. -/
import Derived.Test.YtbcnifnmccaleaaFwF
namespace Go.Proofs.Ytbcnifnmccaleaa.Fw
open Go Go.RowKit
set_option linter.unusedVariables false
set_option linter.unusedSimpArgs false

section
variable {P : Program} {w0 w : World} {W : Nat → Prop} {F : RoMap} {ρ : Pm} {RO : RoMap} {s : St} {a : Act}

/-- What a slice reads as. -/
theorem src_sound {b : AV} {cv : Value} {ty sz m : Nat} {g : Nat → List AV} {lit : Option Nat} (hr : rowOf s b = some (ty, sz, m, g, lit)) (hv : VR ρ RO (hp s.H) b cv) (hS : SR w0 W F ρ RO (hp s.H) w) :
    ∃ A c, cv = .slice A m c ∧ (∀ i, i < m → (g i).length = sz) ∧ (0 < m → ∃ bb off, A = some ⟨bb, off, none⟩ ∧ ∃ news : List Value, news.length = m * sz ∧ (∀ (j : Nat) v, news[j]? = some v → w.cell? ⟨bb, off + j, none⟩ = some v) ∧
      (∀ (i k : Nat) c v, i < m → (g i)[k]? = some c → news[i * sz + k]? = some v → VR ρ RO (hp s.H) c v) ∧ ∀ v ∈ news, v.oneCell' = true) := by
  have cut : ∀ (arr : Array Value) (off n sz : Nat), off + n * sz ≤ arr.size → ((arr.toList.drop off).take (n * sz)).length = n * sz ∧ ∀ (j : Nat) v, ((arr.toList.drop off).take (n * sz))[j]? = some v → j < n * sz ∧ arr[off + j]? = some v := by
    intro arr off n sz h
    refine ⟨by simp; omega, fun j v hj => ?_⟩
    rw [List.getElem?_take] at hj
    split at hj
    · rw [List.getElem?_drop] at hj; exact ⟨by assumption, by simpa using hj⟩
    · cases hj
  unfold rowOf at hr
  split at hr
  · rename_i o' lo n' cap
    split at hr
    · rename_i ob hl
      cases hr
      cases hv with
      | slc _ _ _ n _ _ bb off c g0 gn gk gc hq =>
        obtain ⟨q1, q2, q3, m, q4, q5⟩ := hq ob hl
        have hn := slcLen_eq q2 gk
        rw [hn]
        rcases hS.obj o' ob hl with ⟨g1, _⟩ | ⟨b', m', arr, g1, g2, g3, g4, g5, g6, g7, g8, g9⟩
        · rw [g1] at q4; cases q4
        have eb : b' = bb ∧ m' = m := by rw [g1] at q4; cases q4; exact ⟨rfl, rfl⟩
        obtain ⟨rfl, rfl⟩ := eb
        refine ⟨_, c, rfl, fun i hi => g7 (i + lo) (by omega), fun hpos => ⟨b', off, rfl, ?_⟩⟩
        have hoff : off = lo * ob.sz := q3
        have hle : off + n * ob.sz ≤ arr.size := by
          rw [hoff, ← Nat.add_mul]
          have := Nat.mul_le_mul_right ob.sz q1
          omega
        obtain ⟨c1, c2⟩ := cut arr off n ob.sz hle
        refine ⟨_, c1, fun j v hj => ?_, fun i k c v hi h1 h2 => ?_, fun v hv => ?_⟩
        · rw [g4.cell]; exact (c2 j v hj).2
        · obtain ⟨_, h3⟩ := c2 _ v h2
          refine g8 (i + lo) k c v (by omega) h1 ?_
          rw [Nat.add_mul, ← hoff, Nat.add_comm (i * ob.sz) off, Nat.add_assoc]; exact h3
        · obtain ⟨j, hj, rfl⟩ := List.getElem_of_mem hv
          obtain ⟨h3, h4⟩ := c2 j _ (List.getElem?_eq_getElem hj)
          refine g9 (off + j) _ ?_ h4
          have := Nat.mul_le_mul_right ob.sz q1
          rw [Nat.add_mul] at this
          omega
      | slc0 _ _ _ _ _ g0 gk gc hq =>
        obtain ⟨q1, q2⟩ := hq ob hl
        rw [slcLen_eq (n := 0) (fun _ => by omega) (fun z hz => (gk z hz).symm)]
        exact ⟨_, 0, rfl, fun i hi => by omega, fun h => by omega⟩
    · cases hr
  · rename_i sz' n' cap get
    cases hr
    cases hv with
    | lst _ _ _ _ _ bb off c arr hb hn hcap hs hg hone hq =>
      refine ⟨_, c, rfl, hg, fun hpos => ⟨bb, off, rfl, ?_⟩⟩
      obtain ⟨t, f, hw⟩ := hS.ro bb arr hb
      obtain ⟨c1, c2⟩ := cut arr off m sz hs
      refine ⟨_, c1, fun j v hj => ?_, fun i k c v hi h1 h2 => ?_, fun v hv => ?_⟩
      · rw [cell_of_row w bb _ arr t f hw]; exact (c2 j v hj).2
      · obtain ⟨_, h3⟩ := c2 _ v h2
        rw [← Nat.add_assoc] at h3
        exact (hq i k c v hi h1 h3).closed _ _
      · obtain ⟨j, hj, rfl⟩ := List.getElem_of_mem hv
        obtain ⟨h3, h4⟩ := c2 j _ (List.getElem?_eq_getElem hj)
        exact hone j _ h3 h4
    | lst0 => exact ⟨_, 0, rfl, fun i hi => by omega, fun h => by omega⟩
  · cases hr

theorem appRows_spec : ∀ (rs : List (List AV)) (g : Nat → List AV) (n i : Nat), (i < n → appRows g n rs i = g i) ∧ (n ≤ i → i < n + rs.length → appRows g n rs i = rs.getD (i - n) [])
  | [], g, n, i => ⟨fun _ => rfl, fun h1 h2 => by simp at h2; omega⟩
  | r :: rs, g, n, i => by
    obtain ⟨h1, h2⟩ := appRows_spec rs (fun i => if i = n then r else g i) (n + 1) i
    refine ⟨fun h => ?_, fun h3 h4 => ?_⟩
    · simp only [appRows]
      rw [h1 (by omega), if_neg (by omega)]
    · simp only [appRows]
      by_cases e : i = n
      · subst e
        rw [h1 (by omega), if_pos rfl]
        simp
      · simp only [List.length_cons] at h4
        rw [h2 (by omega) (by omega)]
        have : i - n = (i - (n + 1)) + 1 := by omega
        rw [this]
        simp

theorem appGet_spec {n m : Nat} {g h : Nat → List AV} {lit : Option Nat} (hl : litOk m lit = true) (i : Nat) : (i < n → appGet n g h lit i = g i) ∧ (n ≤ i → i < n + m → appGet n g h lit i = h (i - n)) := by
  cases lit with
  | none =>
    simp only [appGet]
    exact ⟨fun hi => if_pos hi, fun h1 h2 => if_neg (by omega)⟩
  | some k =>
    have hk : k = m := Nat.eq_of_beq_eq_true hl
    subst hk
    obtain ⟨h1, h2⟩ := appRows_spec ((List.range k).map h) g n i
    refine ⟨h1, fun h3 h4 => ?_⟩
    simp only [appGet]
    rw [h2 h3 (by simpa using h4)]
    have : i - n < k := by omega
    simp [List.getD_eq_getElem?_getD, List.getElem?_range this]

/-- The rows of two lists of cells, one behind the other. -/
theorem obr_append {H : Hp} {ty sz n m : Nat} {g g2 : Nat → List AV} {lit : Option Nat} {olds news rest : List Value} (hlit : litOk m lit = true) (ho : olds.length = n * sz) (hn : news.length = m * sz)
    (hg : ∀ i, i < n → (g i).length = sz) (hg2 : ∀ i, i < m → (g2 i).length = sz)
    (h1 : ∀ (i k : Nat) c v, i < n → (g i)[k]? = some c → olds[i * sz + k]? = some v → VR ρ RO H c v)
    (h2 : ∀ (i k : Nat) c v, i < m → (g2 i)[k]? = some c → news[i * sz + k]? = some v → VR ρ RO H c v)
    (o1 : ∀ v ∈ olds, v.oneCell' = true) (o2 : ∀ v ∈ news, v.oneCell' = true) : ObR ρ RO H ⟨true, ty, sz, n + m, appGet n g g2 lit, none⟩ (olds ++ news ++ rest).toArray := by
  refine ⟨by simp [Nat.add_mul, ho, hn], fun i hi => ?_, fun i k c v hi k1 k2 => ?_, fun j v hj hv => ?_⟩
  · have hi' : i < n + m := hi
    obtain ⟨e1, e2⟩ := appGet_spec (n := n) (g := g) (h := g2) hlit i
    by_cases hin : i < n
    · show (appGet n g g2 lit i).length = sz
      rw [e1 hin]; exact hg i hin
    · show (appGet n g g2 lit i).length = sz
      rw [e2 (by omega) hi']; exact hg2 _ (by omega)
  · have hi' : i < n + m := hi
    obtain ⟨e1, e2⟩ := appGet_spec (n := n) (g := g) (h := g2) hlit i
    have k1' : (appGet n g g2 lit i)[k]? = some c := k1
    have k2' : (olds ++ (news ++ rest))[i * sz + k]? = some v := by
      rw [List.getElem?_toArray, List.append_assoc] at k2; exact k2
    by_cases hin : i < n
    · rw [e1 hin] at k1'
      have hk : k < sz := by have := (List.getElem?_eq_some_iff.1 k1').1; rwa [hg i hin] at this
      have hle := row_le (s := sz) hin
      rw [List.getElem?_append, if_pos (by omega)] at k2'
      exact h1 i k c v hin k1' k2'
    · rw [e2 (by omega) hi'] at k1'
      have hk : k < sz := by have := (List.getElem?_eq_some_iff.1 k1').1; rwa [hg2 _ (by omega)] at this
      have hle := row_le (s := sz) (show i - n < m by omega)
      have e3 : i * sz = n * sz + (i - n) * sz := by rw [← Nat.add_mul]; congr 1; omega
      rw [List.getElem?_append, if_neg (by omega), List.getElem?_append, if_pos (by omega)] at k2'
      have e4 : i * sz + k - olds.length = (i - n) * sz + k := by omega
      rw [e4] at k2'
      exact h2 _ k c v (by omega) k1' k2'
  · have hj' : j < (n + m) * sz := hj
    rw [Nat.add_mul] at hj'
    rw [List.getElem?_toArray, List.append_assoc, List.getElem?_append] at hv
    split at hv
    · exact o1 v (List.mem_of_getElem? hv)
    · rw [List.getElem?_append, if_pos (by omega)] at hv
      exact o2 v (List.mem_of_getElem? hv)

theorem run_append_room' {P : Program} (w : World) (t ty e : TypeId) (i : TypeInfo) (ht : P.underlying t = some (.slice e)) (hi : P.info? e = some i)
    (g sLen sCap : Nat) (cur : Array Value) (hg : CellsAt w g cur e)
    (a : Addr) (m c : Nat) (news : List Value) (hl : news.length = m * i.size) (hnews : ∀ (j : Nat) u, news[j]? = some u → w.cell? (a.add j) = some u) (h1 : ∀ u ∈ news, u.oneCell' = true)
    (hroom : sLen + m ≤ sCap) (hfit : sLen * i.size + news.length ≤ cur.size) :
    (Builtin.append_ #[t, t] ty #[.slice (some ⟨g, 0, none⟩) sLen sCap, .slice (some a) m c]).run P w =
      .ok (.slice (some ⟨g, 0, none⟩) (sLen + m) sCap) (w.setRow g (cur.toList.take (sLen * i.size) ++ news ++ cur.toList.drop (sLen * i.size + news.length)).toArray) := by
  have hf := run_firstCells_some (P := P) w i.size m a m c news hl hnews
  have hst := CellsAt.storing (P := P) (o := sLen * i.size) news 0 cur w hg (by simpa using hfit) h1
  simp only [Nat.add_zero] at hst
  simp [Builtin.append_, run_underlying ht, sizeOf, typeInfo, hi, Builtin.lenOf, hroom, hf, Addr.add_lit, hst]

/-- An object goes over into another one: in its block, with other cells. -/
theorem SR.move {o pos : Nat} {ob ob' : Ob} {b m : Nat} {arr arr' : Array Value} {H : Hp} (h : SR w0 W F ρ RO H w) (hl : H o = .live ob) (hf : H pos = .free) (hp : ρ o = some ⟨b, m⟩) (hw : CellsAt w b arr ob.ty)
    (ht : ob'.ty = ob.ty) (hsz : arr'.size = m) (hob : ObR ρ RO H ob' arr') :
    SR w0 W F (updP ρ pos (some ⟨b, m⟩)) RO (upd (upd H o .dead) pos (.live ob')) (w.setRow b arr') ∧ Ext ρ RO H (updP ρ pos (some ⟨b, m⟩)) RO (upd (upd H o .dead) pos (.live ob')) := by
  have hne : pos ≠ o := fun e => by rw [e, hl] at hf; cases hf
  have E : Ext ρ RO H (updP ρ pos (some ⟨b, m⟩)) RO (upd (upd H o .dead) pos (.live ob')) :=
    (Ext.kill (o := o)).trans (Ext.new (by simp [upd, hne, hf]) _ _)
  rcases h.obj o ob hl with ⟨hg, _⟩ | ⟨b', m', arr0, h1, h2, h3, h4, h5, h6, h7, h8, h9⟩
  · rw [hg] at hp; cases hp
  have eb : b' = b ∧ m' = m := by rw [h1] at hp; cases hp; exact ⟨rfl, rfl⟩
  obtain ⟨rfl, rfl⟩ := eb
  have old : ∀ k x, k ≠ pos → upd (upd H o .dead) pos (.live ob') k = .live x → H k = .live x ∧ k ≠ o := by
    intro k x hk hx
    simp only [upd, hk, if_false] at hx
    split at hx
    · cases hx
    · exact ⟨hx, by assumption⟩
  have hmo : MapsOk (fun b => w0.heap.size ≤ b ∨ W b) (updP ρ pos (some ⟨b', m'⟩)) RO (upd (upd H o .dead) pos (.live ob')) (w.setRow b' arr') :=
    (h.mo.upd (ρ' := ρ) (pos := o) (e := .dead) rfl (fun _ _ => rfl) (fun _ _ h _ => h)).upd rfl (fun k hk => by simp [updP, hk]) (fun b2 o2 e hc => by
      have hn2 : b2 ≠ b' := fun e2 => by
        subst e2
        obtain ⟨f, _, e3⟩ := hw
        rw [e3] at e; cases e; cases hc
      rw [setRow_other w b' b2 arr' hn2]; exact e)
  refine ⟨⟨h.os, h.tape, h.output, by have := h.size; simpa using this, ?_, ?_, ?_, ?_, h.old, h.fix, hmo⟩, E⟩
  · intro k hk hW
    have hkb : k ≠ b' := fun e => by subst e; rcases h3 with h3 | h3 <;> first | omega | exact hW h3
    rw [setRow_other w b' k arr' hkb]
    exact h.kept k hk hW
  · intro k x hx
    by_cases hk : k = pos
    · subst hk
      have : ob' = x := by simpa [upd] using hx
      subst this
      have hR := hob.ext E
      exact .inr ⟨b', m', arr', by simp [updP], h2, h3, by rw [ht]; exact hw.row (by rw [hsz, hw.inj h4, h5]), hsz, by rw [← hsz]; exact hR.1, hR.2.1, hR.2.2.1, hR.2.2.2⟩
    · obtain ⟨hx', hko⟩ := old k x hk hx
      rcases h.obj k x hx' with ⟨g1, g2⟩ | ⟨bk, mk, ak, g1, g2, g3, g4, g5, g6, g7, g8, g9⟩
      · exact .inl ⟨by simp [updP, hk, g1], g2⟩
      · have hne : bk ≠ b' := fun e => hko (h.inj k o x ob b' mk m' hx' hl (e ▸ g1) h1)
        exact .inr ⟨bk, mk, ak, by simp [updP, hk, g1], g2, g3, g4.other hne, g5, g6, g7, fun i kk a v hi e1 e2 => (g8 i kk a v hi e1 e2).ext E.1 _ E, g9⟩
  · intro k k' x x' b1 m1 m2 hx hx' p1 p2
    by_cases hk : k = pos <;> by_cases hk' : k' = pos
    · rw [hk, hk']
    · obtain ⟨hy, hyo⟩ := old k' x' hk' hx'
      subst hk
      simp [updP] at p1
      rw [show updP ρ k (some ⟨b', m'⟩) k' = ρ k' by simp [updP, hk']] at p2
      obtain ⟨rfl, rfl⟩ := p1
      exact absurd (h.inj k' o x' ob b' m2 m' hy hl p2 h1) hyo
    · obtain ⟨hy, hyo⟩ := old k x hk hx
      subst hk'
      simp [updP] at p2
      rw [show updP ρ k' (some ⟨b', m'⟩) k = ρ k by simp [updP, hk]] at p1
      obtain ⟨rfl, rfl⟩ := p2
      exact absurd (h.inj k o x ob b' m1 m' hy hl p1 h1) hyo
    · obtain ⟨hy, _⟩ := old k x hk hx
      obtain ⟨hy', _⟩ := old k' x' hk' hx'
      exact h.inj k k' x x' b1 m1 m2 hy hy' (by simpa [updP, hk] using p1) (by simpa [updP, hk'] using p2)
  · intro b1 a hb1
    obtain ⟨t, f, e⟩ := h.ro b1 a hb1
    have hne : b1 ≠ b' := fun e => by subst e; rw [h2] at hb1; cases hb1
    exact ⟨t, f, by rw [setRow_other w b' b1 arr' hne]; exact e⟩

theorem upd_free {H : Hp} {o pos : Nat} {ob : Ob} (hl : H o = .live ob) (hf : H pos = .free) : upd H o .dead pos = .free := by
  have hne : pos ≠ o := fun e => by rw [e, hl] at hf; cases hf
  simp [upd, hne, hf]

/-- The value that append gives, and the table behind it, of a fresh block. -/
theorem good_fresh {x : Sem Next} {pos : Nat} {ob : Ob} {arr : Array Value} {c : Nat} {H2 : List Ent} {H1 : Hp} {b : Bool} (hH : hp H2 = upd H1 pos (.live ob)) (hE : Ext ρ RO (hp s.H) ρ RO H1) (hS : SR w0 W F ρ RO H1 w) (h2 : H1 pos = .free) (hlen : s.H.length ≤ H2.length)
    (hob : ObR ρ RO H1 ob arr) (hc : ob.n ≤ c) (hcs : c * ob.sz ≤ arr.size)
    (hx : x.run P w = .ok (.value (.slice (some ⟨w.heap.size, 0, none⟩) ob.n c)) (w.drew.alloc (.cells arr ob.ty))) : Good P x w0 W F ρ RO s.H w ⟨b, .slc pos 0 none none, H2⟩ := by
  have hn : SR w0 W F (updP ρ pos (some ⟨w.heap.size, arr.size⟩)) RO (upd H1 pos (.live ob)) (w.drew.alloc (.cells arr ob.ty)) := (hS.drew1).new h2 hob
  refine ⟨_, _, updP ρ pos (some ⟨w.heap.size, arr.size⟩), .inl hx, ?_, ?_, ?_, hlen, by simp⟩
  · show VR _ _ (hp H2) _ _
    rw [hH]
    refine .slc _ pos 0 ob.n none none w.heap.size 0 c (by simp [upd]) hc (fun y hy => by cases hy) (fun y hy => by cases hy) fun ob' hl => ?_
    have : ob = ob' := by simpa [upd] using hl
    subst this
    exact ⟨by omega, fun _ => by omega, by simp, arr.size, by simp [updP], by simpa using hcs⟩
  · show SR _ _ _ _ _ (hp H2) _
    rw [hH]; exact hn
  · show Ext _ _ _ _ _ (hp H2)
    rw [hH]; exact hE.trans (.new h2 _ _)

theorem good_ghost {x : Sem Next} {pos : Nat} {ob : Ob} {H2 : List Ent} {H1 : Hp} {b : Bool} {a0 : Option Addr} (hH : hp H2 = upd H1 pos (.live ob)) (hE : Ext ρ RO (hp s.H) ρ RO H1) (hS : SR w0 W F ρ RO H1 w) (h2 : H1 pos = .free) (hlen : s.H.length ≤ H2.length) (h0 : ob.n = 0)
    (hx : x.run P w = .ok (.value (.slice (nl a0) 0 0)) w) : Good P x w0 W F ρ RO s.H w ⟨b, .slc pos 0 none none, H2⟩ := by
  refine ⟨_, w, updP ρ pos none, .inl hx, ?_, ?_, ?_, hlen, Nat.le_refl _⟩
  · show VR _ _ (hp H2) _ _
    rw [hH]
    refine .slc0 _ pos none none a0 (by simp [upd]) (fun y hy => by cases hy) (fun y hy => by cases hy) fun ob' hl => ?_
    have : ob = ob' := by simpa [upd] using hl
    subst this
    exact ⟨h0, by simp [updP]⟩
  · show SR _ _ _ _ _ (hp H2) _
    rw [hH]; exact hS.ghost h2 h0
  · show Ext _ _ _ _ _ (hp H2)
    rw [hH]; exact hE.trans (.new h2 _ _)

theorem ext_dead {o : Nat} : Ext ρ RO (hp s.H) ρ RO (upd (hp s.H) o .dead) := .kill
theorem sr_dead {o : Nat} (hS : SR w0 W F ρ RO (hp s.H) w) : SR w0 W F ρ RO (upd (hp s.H) o .dead) w :=
  hS.less .kill (fun k x hx => by
    simp only [upd] at hx
    split at hx
    · cases hx
    · exact hx) fun k hk => by
    simp only [upd] at hk ⊢
    split at hk
    · exact absurd rfl hk
    · rename_i hne; rw [if_neg hne]
end
end Go.Proofs.Ytbcnifnmccaleaa.Fw
