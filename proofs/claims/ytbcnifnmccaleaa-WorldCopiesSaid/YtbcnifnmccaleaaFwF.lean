/- Each operation does in a world what the evaluator says: indices, slices, numbers, append. -/
import Derived.Test.YtbcnifnmccaleaaFwE
import Derived.Laws.StructEq
import Derived.Laws.Concat
namespace Go.Proofs.Ytbcnifnmccaleaa.Fw
open Go Go.RowKit
set_option linter.unusedVariables false
set_option linter.unusedSimpArgs false

section
variable {P : Program} {w0 w : World} {W : Nat → Prop} {F : RoMap} {ρ : Pm} {RO : RoMap} {s : St} {a : Act}

theorem slcLen_eq {n' : Option Nat} {m lo n : Nat} (h1 : n' = none → lo + n = m) (h2 : ∀ x, n' = some x → n = x) : slcLen n' m lo = n := by
  cases n' with
  | none => have := h1 rfl; simp only [slcLen]; omega
  | some z => exact (h2 z rfl).symm

theorem and_true {p q : Prop} [Decidable p] [Decidable q] (h : (decide p && decide q) = true) : p ∧ q := by simpa using h

theorem indexAddr_sound {o : Oper} {t : TypeId} {x y : Operand} {e : Eff} (ho : o.op = .indexAddr t x y) (h : indexAddrE P s t (s.op x) (s.op y) = some e) (hok : e.ok = true) (hS : SR w0 W F ρ RO (hp s.H) w) (hT : TR ρ RO (hp s.H) s.tmps a) :
    Good P (execOp a.eval o) w0 W F ρ RO s.H w e := by
  have hv := op_sound hT x
  have hi := op_sound hT y
  unfold indexAddrE at h
  split at h
  · rename_i k i hy
    rw [hy] at hi
    have hi := hi.val_eq
    split at h
    · rename_i el hu
      have run : ∀ b off n c sz, szT P el = some sz → a.eval x = .slice (some ⟨b, off, none⟩) n c → 0 ≤ i → i < (n : Int) → (execOp a.eval o).run P w = .ok (.value (.pointer (some ⟨b, off + i.toNat * sz, none⟩))) w := by
        intro b off n c sz hsz hx h0 h1
        obtain ⟨inf, g1, g2⟩ := szT_spec hsz
        unfold execOp
        simp [ho, hx, hi, Instr.indexAt, asIntOf, run_underlying hu, h0, h1, sizeOf, typeInfo, g1, g2, add_none]
      generalize hce : a.eval x = cv at hv
      split at h
      · rename_i sz o' lo n' cap hsz hx
        rw [hx] at hv
        split at h
        · rename_i ob hl
          split at h
          · rename_i hc
            obtain ⟨rfl, c2⟩ := hc
            cases h
            obtain ⟨h0, h1⟩ := and_true hok
            cases hv with
            | slc _ _ _ n _ _ b off c g0 gn gk gc hq =>
              obtain ⟨q1, q2, q3, m, q4, q5⟩ := hq ob hl
              have hn := slcLen_eq q2 gk
              have h1' : i < (n : Int) := by rw [← hn]; exact h1
              have hpos : 0 < n := by omega
              refine .same (run b off n c ob.sz hsz hce h0 h1') hS (.ptr _ _ _ _ _ _ g0 fun ob2 hl2 => ?_)
              have : ob2 = ob := by rw [hl] at hl2; cases hl2; rfl
              subst this
              refine ⟨by omega, ?_, m, q4⟩
              rw [q3, Nat.add_mul]; omega
            | slc0 _ _ _ _ _ g0 gk gc hq =>
              obtain ⟨q1, q2⟩ := hq ob hl
              exfalso
              have hn : slcLen n' ob.n 0 = 0 := slcLen_eq (fun _ => by omega) (fun z hz => (gk z hz).symm)
              rw [hn] at h1
              simp at h1
              omega
          · cases h
        · cases h
      · rename_i sz sz' n cap get hsz hx
        rw [hx] at hv
        split at h
        · rename_i hc
          obtain ⟨rfl, c2⟩ := hc
          cases h
          obtain ⟨h0, h1⟩ := and_true hok
          cases hv with
          | lst _ _ _ _ _ b off c arr hb hn hcap hs hg hone hq =>
            have hlt : i.toNat < n := by omega
            have hle := row_le (s := sz) hlt
            have := run b off n c sz hsz hce h0 h1
            refine .same this hS ?_
            have hz := hg i.toNat hlt
            exact .rp _ (get i.toNat) 0 b (off + i.toNat * sz) arr hb (by omega) fun kk cc vv k1 k2 => hq i.toNat kk cc vv hlt k1 k2
          | lst0 => simp at h1; omega
        · cases h
      · cases h
    · rename_i len el hu
      have run : ∀ b off sz, szT P el = some sz → a.eval x = .pointer (some ⟨b, off, none⟩) → 0 ≤ i → i < (len : Int) → (execOp a.eval o).run P w = .ok (.value (.pointer (some ⟨b, off + i.toNat * sz, none⟩))) w := by
        intro b off sz hsz hx h0 h1
        obtain ⟨inf, g1, g2⟩ := szT_spec hsz
        unfold execOp
        simp [ho, hx, hi, Instr.indexAt, asIntOf, run_underlying hu, Instr.sureAddr, h0, h1, sizeOf, typeInfo, g1, g2, add_none]
      generalize hce : a.eval x = cv at hv
      split at h
      · rename_i sz o' hsz hx
        rw [hx] at hv
        split at h
        · rename_i ob hl
          split at h
          · rename_i hc
            obtain ⟨c1, rfl, rfl, c4⟩ := hc
            cases h
            obtain ⟨h0, h1⟩ := and_true hok
            cases hv with
            | ptr _ _ _ _ b off g0 hq =>
              obtain ⟨q1, q2, m, q3⟩ := hq ob hl
              have hoff : off = 0 := by rw [q2]; simp
              subst hoff
              refine .same (run b 0 ob.sz hsz hce h0 h1) hS (.ptr _ _ _ _ _ _ g0 fun ob2 hl2 => ?_)
              have : ob2 = ob := by rw [hl] at hl2; cases hl2; rfl
              subst this
              exact ⟨by omega, by simp, m, q3⟩
          · cases h
        · cases h
      · cases h
    · cases h
  · cases h

theorem index_sound {o : Oper} {t : TypeId} {x y : Operand} {e : Eff} (ho : o.op = .index t x y) (h : indexE P s t (s.op x) (s.op y) = some e) (hok : e.ok = true) (hS : SR w0 W F ρ RO (hp s.H) w) (hT : TR ρ RO (hp s.H) s.tmps a) :
    Good P (execOp a.eval o) w0 W F ρ RO s.H w e := by
  have hv := op_sound hT x
  have hi := op_sound hT y
  unfold indexE at h
  split at h
  · rename_i k i hy
    rw [hy] at hi
    have hi := hi.val_eq
    split at h
    · rename_i b hu hx
      rw [hx] at hv
      have hx' := hv.val_eq
      cases h
      obtain ⟨h0, h1⟩ := and_true hok
      refine .same (cv := .int .u8 ((b.data.getD i.toNat 0).toNat : Nat)) ?_ hS (.val _ _ rfl)
      have hlt : i.toNat < b.size := by omega
      have e1 : b[i.toNat]? = some (b.data.getD i.toNat 0) := by
        rw [getElem?_pos b i.toNat hlt]
        have hd : i.toNat < b.data.size := hlt
        simp [ByteArray.getElem_eq_getElem_data, Array.getElem?_eq_getElem hd]
      unfold execOp
      simp [ho, hx', hi, Instr.index, asIntOf, run_underlying hu, h0, e1]
    · rename_i len el k' n0 cs hu hx
      rw [hx] at hv
      split at h
      · rename_i ns hsz hag hns
        split at h
        · rename_i hlen
          cases h
          obtain ⟨h0, h1⟩ := and_true hok
          obtain ⟨vs, hce, hc⟩ := hv.aggCR
          obtain ⟨g1, g2⟩ := intsOf_spec k' hns
          obtain ⟨inf, i1, i2⟩ := szT_spec hsz
          have hlt : i.toNat < ns.length := by omega
          have hlv : i.toNat < vs.size := by have := hc.1; rw [← g1] at this; simp at this; omega
          have e1 := g2 i.toNat
          rw [List.getElem?_eq_getElem hlt] at e1
          have e2 := (hc.2 i.toNat _ vs[i.toNat] e1 (by simp [hlv])).val_eq
          have e3 : ns.getD i.toNat 0 = ns[i.toNat] := by simp [List.getD_eq_getElem?_getD, List.getElem?_eq_getElem hlt]
          refine .same (cv := .int k' (ns.getD i.toNat 0)) ?_ hS (.val _ _ rfl)
          rw [e3, ← e2]
          unfold execOp
          simp [ho, hce, hi, Instr.index, asIntOf, run_underlying hu, h0, h1, sizeOf, typeInfo, i1, i2, part, run_isAgg_false hag, hlv]
        · cases h
      · rename_i sz hsz hag
        split at h
        · rename_i hlen
          cases h
          obtain ⟨h0, h1⟩ := and_true hok
          obtain ⟨vs, hce, hc⟩ := hv.aggCR
          obtain ⟨inf, i1, i2⟩ := szT_spec hsz
          have hvl : vs.size = len * sz := by have := hc.1; simp at this; omega
          have hrow := row_le (s := sz) (show i.toNat < len by omega)
          have hex : (vs.extract (i.toNat * sz) (i.toNat * sz + sz)).toList = (vs.toList.drop (i.toNat * sz)).take sz := by
            rw [Array.toList_extract, List.extract_eq_take_drop]
            congr 1; omega
          refine .same (cv := .agg (vs.extract (i.toNat * sz) (i.toNat * sz + sz))) ?_ hS ?_
          · unfold execOp
            simp [ho, hce, hi, Instr.index, asIntOf, run_underlying hu, h0, h1, sizeOf, typeInfo, i1, i2, part, run_isAgg_true hag]
          · refine CR.agg ?_
            rw [hex]
            exact (hc.drop _).take _
        · cases h
      · cases h
    · cases h
  · cases h

theorem ext_sound {o : Oper} {x : Operand} {i : Nat} {e : Eff} (ho : o.op = .extract x i) (h : extE s (s.op x) i = some e) (hS : SR w0 W F ρ RO (hp s.H) w) (hT : TR ρ RO (hp s.H) s.tmps a) :
    Good P (execOp a.eval o) w0 W F ρ RO s.H w e := by
  have hv := op_sound hT x
  unfold extE at h
  split at h
  · rename_i vs hx
    rw [hx] at hv
    obtain ⟨us, hce, hc⟩ := hv.tupCR
    split at h
    · rename_i v hi
      cases h
      have hlt : i < us.size := by have := (List.getElem?_eq_some_iff.1 hi).1; rw [hc.1] at this; simpa using this
      refine .same (cv := us[i]) ?_ hS (hc.2 i v _ hi (by simp [hlt]))
      unfold execOp
      simp [ho, hce, Instr.extract, hlt]
    · cases h
  · cases h

theorem mem_cr (hT : TR ρ RO (hp s.H) s.tmps a) : ∀ l : List Operand, CR ρ RO (hp s.H) (l.map s.op) (l.map a.eval)
  | [] => .nil
  | x :: r => .cons (op_sound hT x) (mem_cr hT r)

theorem makeFunc_sound {o : Oper} {f : FuncId} {first caps : Array Operand} (ho : o.op = .makeFunc (.func f) first caps) (h0 : first.size = 0) (hS : SR w0 W F ρ RO (hp s.H) w) (hT : TR ρ RO (hp s.H) s.tmps a) :
    Good P (execOp a.eval o) w0 W F ρ RO s.H w ⟨true, .fn f (caps.toList.map s.op), s.H⟩ := by
  have : first = #[] := Array.eq_empty_of_size_eq_zero h0
  subst this
  refine .same (cv := .func (.func f) #[] (caps.map a.eval)) ?_ hS ?_
  · unfold execOp
    simp [ho, Instr.makeFunc]
  · have := mem_cr hT caps.toList
    exact .fn _ f _ _ (by simp) fun k c v h1 h2 => this.2 k c v h1 (by simpa using h2)

theorem nil_sound {o : Oper} {x : Operand} {e : Eff} (ho : o.op = .nilCheck x) (h : nilE s (s.op x) = some e) (hS : SR w0 W F ρ RO (hp s.H) w) (hT : TR ρ RO (hp s.H) s.tmps a) :
    Good P (execOp a.eval o) w0 W F ρ RO s.H w e := by
  have hv := op_sound hT x
  unfold nilE at h
  split at h <;> first | (cases h; done) | skip
  all_goals
    rename_i hx
    cases h
    rw [hx] at hv ⊢
    refine .same (cv := a.eval x) ?_ hS hv
    generalize hce : a.eval x = cv at hv
    unfold execOp
    cases hv <;> simp [ho, hce]

/-! ### The same? -/
theorem fieldsOf_eq {t : TypeId} {fs : Array Field} (h : P.underlying t = some (.struct fs)) : P.fieldsOf t = fs := by simp [Program.fieldsOf, h]
theorem eqFs_sound {rec : TypeId → AV → AV → Option Bool} {d : Nat} {xs ys : List AV} {vs us : Array Value} (hx : CR ρ RO (hp s.H) xs vs.toList) (hy : CR ρ RO (hp s.H) ys us.toList)
    (ih : ∀ t a b v u r, rec t a b = some r → VR ρ RO (hp s.H) a v → VR ρ RO (hp s.H) b u → (Op.equalIn d t v u).run P w = .ok r w) :
    ∀ (l : List Field) {r : Bool}, eqFs P rec xs ys l = some r → (Op.eqFields d vs us l).run P w = .ok r w
  | [], r, h => by cases h; simp [Op.eqFields, Sem.run]
  | f :: q, r, h => by
    unfold eqFs at h
    split at h
    · cases h
    · rename_i hn
      split at h
      · rename_i a b ha hb
        split at h
        · rename_i x y h1 h2
          cases h
          obtain ⟨v, e1, e2⟩ := run_part (s := s) (w := w) ha hx
          obtain ⟨u, e3, e4⟩ := run_part (s := s) (w := w) hb hy
          have e5 := ih _ _ _ _ _ _ h1 e2 e4
          have e6 := eqFs_sound hx hy ih q h2
          simp only [Op.eqFields, if_pos hn, Sem.run_bind, e1, e3, e5, Result.andThen_ok]
          cases x
          · simp [Sem.run]
          · simpa using e6
        · cases h
      · cases h
theorem eqA_sound : ∀ (d : Nat) {m : Nat} {t : TypeId} {a b : AV} {v u : Value} {r : Bool}, eqA P d t a b = some r → VR ρ RO (hp s.H) a v → VR ρ RO (hp s.H) b u → (Op.equalIn (m + d) t v u).run P w = .ok r w
  | 0, m, t, a, b, v, u, r, h, _, _ => by cases h
  | d + 1, m, t, a, b, v, u, r, h, hv, hu => by
    unfold eqA at h
    split at h
    · have := hv.val_eq; have := hu.val_eq; subst_vars
      split at h
      · rename_i ht; cases h; exact run_equalIn_bool' w _ _ _ _ ht
      · cases h
    · rename_i k x k' y
      have := hv.val_eq; have := hu.val_eq; subst_vars
      split at h
      · rename_i ht
        split at h
        · rename_i hk; subst hk; cases h; exact run_equalIn_int w _ _ _ _ _ _ ht
        · cases h
      · cases h
    · have := hv.val_eq; have := hu.val_eq; subst_vars
      split at h
      · rename_i ht; cases h; exact run_equalIn_string w _ _ _ _ ht
      · cases h
    · rename_i xs ys
      split at h
      · rename_i fs ht
        split at h
        · cases h
        · rename_i hp
          obtain ⟨vs, rfl, hx⟩ := hv.aggCR
          obtain ⟨us, rfl, hy⟩ := hu.aggCR
          have hf := fieldsOf_eq ht
          rw [show m + (d + 1) = (m + d) + 1 from rfl, run_equalIn_struct w (m + d) t vs us (by rw [hf]; exact ht) hp, hf]
          exact eqFs_sound hx hy (fun t a b v u r h1 h2 h3 => eqA_sound d h1 h2 h3) _ h
      · cases h
    · cases h

/-! ### Numbers -/
theorem bin_sound {o : Oper} {bop : BinOp} {t yt : TypeId} {x y : Operand} {e : Eff} (ho : o.op = .binOp bop t x y yt) (h : binE P s bop t x y (s.op x) (s.op y) = some e) (hok : e.ok = true) (hS : SR w0 W F ρ RO (hp s.H) w) (hT : TR ρ RO (hp s.H) s.tmps a) :
    Good P (execOp a.eval o) w0 W F ρ RO s.H w e := by
  have hv := op_sound hT x
  have hu := op_sound hT y
  have run : ∀ (v u r : Value), a.eval x = v → a.eval y = u → (do eqGuard bop t x y v u; binOp bop t v u : Sem Value).run P w = .ok r w → (execOp a.eval o).run P w = .ok (.value r) w := by
    intro v u r h1 h2 h3
    unfold execOp
    simp only [ho, h1, h2]
    rw [Sem.run_bind, h3]
    rfl
  have ints : ∀ (k k' : IntKind) (n m : Int), eqGuard bop t x y (.int k n) (.int k' m) = pure () := by
    intro k k' n m
    unfold eqGuard
    cases bop <;> rfl
  unfold binE at h
  split at h
  · rename_i k n k' m hx hy
    rw [hx] at hv; rw [hy] at hu
    have e1 := hv.val_eq
    have e2 := hu.val_eq
    split at h
    · split at h
      · rename_i hk
        subst hk
        cases h
        have hm : m ≠ 0 := by simpa using hok
        refine .same (run _ _ _ e1 e2 ?_) hS (.val _ _ rfl)
        rw [ints]
        simp [binOp, Op.intDiv, hm]
      · cases h
    · split at h
      · rename_i hk
        subst hk
        cases h
        have hm : m ≠ 0 := by simpa using hok
        refine .same (run _ _ _ e1 e2 ?_) hS (.val _ _ rfl)
        rw [ints]
        simp [binOp, Op.intDiv, hm]
      · cases h
    · cases h
      have hm : 0 ≤ m := by simpa using hok
      refine .same (run _ _ _ e1 e2 ?_) hS (.val _ _ rfl)
      rw [ints]
      have hm' : ¬ m < 0 := by omega
      simp [binOp, Op.shift, hm']
    · cases h
      have hm : 0 ≤ m := by simpa using hok
      refine .same (run _ _ _ e1 e2 ?_) hS (.val _ _ rfl)
      rw [ints]
      have hm' : ¬ m < 0 := by omega
      simp [binOp, Op.shift, hm']
    · split at h
      · rename_i r hr
        cases h
        refine .same (run _ _ r e1 e2 ?_) hS (.ofV r)
        rw [ints, Sem.run_bind]
        exact pureOf_run hr w
      · cases h
  · rename_i v u hx hy
    rw [hx] at hv; rw [hy] at hu
    split at h
    · cases h
      have hm : v.size + u.size ≤ 9223372036854775807 := by simpa using hok
      refine .sameB (run _ _ _ hv.val_eq hu.val_eq ?_) hS (.val _ _ rfl)
      have e0 : eqGuard .add t x y (.string v) (.string u) = pure () := by unfold eqGuard; rfl
      rw [e0]
      rw [binOp_string_add]
      rw [Sem.run_bind]
      exact run_string_add_sum w v u hm
    · split at h
      · rename_i r hr
        cases h
        refine .same (run _ _ r hv.val_eq hu.val_eq ?_) hS (.ofV r)
        exact pureOf_run hr w
      · cases h
  · rename_i v u _ _ hx hy
    rw [hx] at hv; rw [hy] at hu
    split at h
    · rename_i r hr
      cases h
      exact .same (run _ _ r hv.val_eq hu.val_eq (pureOf_run hr w)) hS (.ofV r)
    · cases h
  · rename_i xs ys hx hy
    rw [hx] at hv; rw [hy] at hu
    obtain ⟨vs, e1, hcx⟩ := hv.aggCR
    obtain ⟨us, e2, hcy⟩ := hu.aggCR
    rw [e1] at hv; rw [e2] at hu
    split at h
    · cases h
    · rename_i hg
      have key : ∀ b, eqA P 16 t (.agg xs) (.agg ys) = some b → (Op.equalIn 10000 t (.agg vs) (.agg us)).run P w = .ok b w := fun b hb =>
        eqA_sound (s := s) (w := w) 16 (m := 9984) hb hv hu
      split at h
      · split at h
        · rename_i b hb
          cases h
          refine .same (run _ _ (.bool b) e1 e2 ?_) hS (.val _ _ rfl)
          rw [Sem.run_bind, run_eqGuard_agg w _ t x y vs us hg, Result.andThen_ok, run_eql_struct, key b hb, Result.andThen_ok]
        · cases h
      · split at h
        · rename_i b hb
          cases h
          refine .same (run _ _ (.bool (!b)) e1 e2 ?_) hS (.val _ _ rfl)
          rw [Sem.run_bind, run_eqGuard_agg w _ t x y vs us hg, Result.andThen_ok, run_neq_struct, key b hb, Result.andThen_ok]
        · cases h
      · cases h
  · rename_i sz n cap g hx hy
    rw [hx] at hv; rw [hy] at hu
    have e2 := hu.val_eq
    generalize hcx : a.eval x = cx at hv
    have key : n ≠ 0 → ∃ b off c, cx = .slice (some ⟨b, off, none⟩) n c := fun hn => by
      cases hv with
      | lst _ _ _ _ _ b off c => exact ⟨b, off, c, rfl⟩
      | lst0 => exact absurd rfl hn
    have heq : ∀ {el : TypeId}, P.underlying t = some (.slice el) → ∀ (ad : Addr) (n c : Nat), (Op.equalIn Op.maxDepth t (.slice (some ad) n c) (.slice none 0 0)).run P w = .ok false w := fun hut ad n c => by
      show (Op.equalIn (9999 + 1) t _ _).run P w = _
      unfold Op.equalIn
      rw [Sem.run_bind, run_underlying hut]
      rfl
    split at h
    · rename_i el hut
      split at h
      · cases h
        obtain ⟨b, off, c, e1⟩ := key (by simpa using hok)
        subst e1
        refine .same (run _ _ (.bool false) hcx e2 ?_) hS (.val _ _ rfl)
        simp [eqGuard, binOp, Op.equal, heq hut]
      · cases h
        obtain ⟨b, off, c, e1⟩ := key (by simpa using hok)
        subst e1
        refine .same (run _ _ (.bool true) hcx e2 ?_) hS (.val _ _ rfl)
        simp [eqGuard, binOp, Op.equal, heq hut]
      · cases h
    · cases h
  · cases h

theorem un_sound {o : Oper} {uop : UnOp} {t : TypeId} {x : Operand} {e : Eff} (ho : o.op = .unOp uop t x) (h : pureE P s (fun l => Op.unary uop (l.getD 0 undef)) [s.op x] = some e) (hS : SR w0 W F ρ RO (hp s.H) w) (hT : TR ρ RO (hp s.H) s.tmps a) :
    Good P (execOp a.eval o) w0 W F ρ RO s.H w e := by
  unfold pureE at h
  split at h
  · rename_i vs hvs
    split at h
    · rename_i r hr
      cases h
      have := valsV_eq hvs (mem_cr hT [x])
      refine .same ?_ hS (.ofV r)
      unfold execOp
      simp only [ho]
      rw [← this] at hr
      rw [Sem.run_bind, show Op.unary uop (a.eval x) = Op.unary uop ((List.map a.eval [x]).getD 0 undef) from rfl, pureOf_run hr w]
      rfl
    · cases h
  · cases h
theorem conv_sound {o : Oper} {src dst : TypeId} {x : Operand} {e : Eff} (ho : o.op = .convert src dst x) (h : pureE P s (fun l => convert src dst (l.getD 0 undef)) [s.op x] = some e) (hS : SR w0 W F ρ RO (hp s.H) w) (hT : TR ρ RO (hp s.H) s.tmps a) :
    Good P (execOp a.eval o) w0 W F ρ RO s.H w e := by
  unfold pureE at h
  split at h
  · rename_i vs hvs
    split at h
    · rename_i r hr
      cases h
      have := valsV_eq hvs (mem_cr hT [x])
      refine .same ?_ hS (.ofV r)
      unfold execOp
      simp only [ho]
      rw [← this] at hr
      rw [Sem.run_bind, show convert src dst (a.eval x) = convert src dst ((List.map a.eval [x]).getD 0 undef) from rfl, pureOf_run hr w]
      rfl
    · cases h
  · cases h

theorem run_builtin {o : Oper} {b : Builtin} {args : Array Operand} {ts : Array TypeId} (ho : o.op = .call { callee := .builtin b, args, argTypes := ts }) {r : Value} {w' : World}
    (h : (builtin b ts o.type (args.map fun | .const _ => true | _ => false) (args.map a.eval)).run P w = .ok (.value r) w') : (execOp a.eval o).run P w = .ok (.value r) w' := by
  unfold execOp
  simp only [ho, resolve, Sem.run_bind]
  exact h

theorem max_sound {o : Oper} {args : Array Operand} {ts : Array TypeId} {e : Eff} (ho : o.op = .call { callee := .builtin .max, args, argTypes := ts }) (h : pureE P s (fun vs => Builtin.max_ #[] 0 vs.toArray) (args.toList.map s.op) = some e) (hS : SR w0 W F ρ RO (hp s.H) w) (hT : TR ρ RO (hp s.H) s.tmps a) :
    Good P (execOp a.eval o) w0 W F ρ RO s.H w e := by
  unfold pureE at h
  split at h
  · rename_i vs hvs
    split at h
    · rename_i r hr
      cases h
      have := valsV_eq hvs (mem_cr hT args.toList)
      refine .same (run_builtin ho ?_) hS (.ofV r)
      rw [← this] at hr
      have e1 : Builtin.max_ ts o.type (args.map a.eval) = Builtin.max_ #[] 0 (args.toList.map a.eval).toArray := by simp [Builtin.max_]
      simp only [builtin]
      rw [Sem.run_bind, e1, pureOf_run hr w]
      rfl
    · cases h
  · cases h
theorem min_sound {o : Oper} {args : Array Operand} {ts : Array TypeId} {e : Eff} (ho : o.op = .call { callee := .builtin .min, args, argTypes := ts }) (h : pureE P s (fun vs => Builtin.min_ #[] 0 vs.toArray) (args.toList.map s.op) = some e) (hS : SR w0 W F ρ RO (hp s.H) w) (hT : TR ρ RO (hp s.H) s.tmps a) :
    Good P (execOp a.eval o) w0 W F ρ RO s.H w e := by
  unfold pureE at h
  split at h
  · rename_i vs hvs
    split at h
    · rename_i r hr
      cases h
      have := valsV_eq hvs (mem_cr hT args.toList)
      refine .same (run_builtin ho ?_) hS (.ofV r)
      rw [← this] at hr
      have e1 : Builtin.min_ ts o.type (args.map a.eval) = Builtin.min_ #[] 0 (args.toList.map a.eval).toArray := by simp [Builtin.min_]
      simp only [builtin]
      rw [Sem.run_bind, e1, pureOf_run hr w]
      rfl
    · cases h
  · cases h

theorem len_sound {o : Oper} {x : Operand} {args : Array Operand} {ts : Array TypeId} {t : TypeId} {e : Eff} (ho : o.op = .call { callee := .builtin .len, args, argTypes := ts }) (ha : args.toList = [x]) (ht : ts[0]? = some t) (h : lenE P s t (s.op x) = some e) (hS : SR w0 W F ρ RO (hp s.H) w) (hT : TR ρ RO (hp s.H) s.tmps a) :
    Good P (execOp a.eval o) w0 W F ρ RO s.H w e := by
  have hv := op_sound hT x
  have harr : args = #[x] := by apply Array.toList_inj.1; rw [ha]
  subst harr
  have run : ∀ r, (Builtin.len_ #[t] 0 #[a.eval x]).run P w = .ok r w → (execOp a.eval o).run P w = .ok (.value r) w := by
    intro r hr
    refine run_builtin ho ?_
    simp only [builtin]
    have : Builtin.len_ ts o.type (#[x].map a.eval) = Builtin.len_ #[t] 0 #[a.eval x] := by simp [Builtin.len_, ht]
    rw [Sem.run_bind, this, hr]
    rfl
  unfold lenE at h
  split at h
  · rename_i v hx
    rw [hx] at hv
    split at h
    · rename_i r hr
      cases h
      refine .same (run r ?_) hS (.ofV r)
      rw [hv.val_eq]
      exact pureOf_run hr w
    · cases h
  · split at h
    · rename_i el hu
      split at h
      · rename_i ty sz n g lit hr
        cases h
        have key : ∃ A c, a.eval x = .slice A n c := by
          generalize hce : a.eval x = cv at hv
          unfold rowOf at hr
          split at hr
          · rename_i o' lo n' cap hx
            rw [hx] at hv
            split at hr
            · rename_i ob hl
              cases hr
              cases hv with
              | slc _ _ _ n2 _ _ b off c g0 gn gk gc hq =>
                obtain ⟨q1, q2, q3⟩ := hq ob hl
                exact ⟨some ⟨b, off, none⟩, c, by rw [slcLen_eq q2 gk]⟩
              | slc0 _ _ _ _ _ g0 gk gc hq =>
                obtain ⟨q1, q2⟩ := hq ob hl
                exact ⟨_, 0, by rw [slcLen_eq (n := 0) (fun _ => by omega) (fun z hz => (gk z hz).symm)]⟩
            · cases hr
          · rename_i sz' n' cap get hx
            rw [hx] at hv
            cases hr
            cases hv with
            | lst _ _ _ _ _ b off c => exact ⟨_, c, rfl⟩
            | lst0 => exact ⟨_, 0, rfl⟩
          · cases hr
        obtain ⟨A, c, hx⟩ := key
        refine .same (run (.int .i64 (n : Int)) ?_) hS (.val _ _ rfl)
        rw [hx]
        simp [Builtin.len_, run_underlying hu, goInt]
      · cases h
    · rename_i n el hu
      cases h
      refine .same (run (.int .i64 (n : Int)) ?_) hS (.val _ _ rfl)
      generalize a.eval x = v
      cases v <;> simp [Builtin.len_, run_underlying hu, goInt]
    · cases h
end
end Go.Proofs.Ytbcnifnmccaleaa.Fw
