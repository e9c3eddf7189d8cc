/- A value's and a heap's shape without addresses, what it means that a world bears them, and how such facts last. -/
import Derived.Below
import Derived.Still
import Derived.Laws.AppendOwn
import Derived.Laws.CopyRow
import Derived.Deep.WholeRow
import Derived.KernelRfl
namespace Go.Proofs.Ytbcnifnmccaleaa.Fw
open Go
set_option linter.unusedVariables false

/-- A value without addresses: 'o' is a number of a table of objects. -/
inductive AV where
  | val (v : Value)
  | ptr (o i j : Nat)
  | rp (cs : List AV) (j : Nat)
  | slc (o lo : Nat) (n cap : Option Nat)
  | lst (sz n : Nat) (cap : Option Nat) (get : Nat → List AV)
  | fn (f : FuncId) (caps : List AV)
  | agg (cs : List AV)
  | tup (vs : List AV)
  | mp (o : Nat)
  | itr (o : Nat)
  | top
instance : Inhabited AV := ⟨.top⟩

/-- An object: n elements of sz cells each. 'row': more than one, or to be written one by one. -/
structure Ob where
  row : Bool
  ty : TypeId
  sz : Nat
  n : Nat
  get : Nat → List AV
  lit : Option Nat := none

/-- 'mapd': a map with whole numbers as keys, in the order in which they came; what it gives for each number (for those that are no keys: the zero). 'iter': a walk over the map m, and the keys that are left ('cur': the key at which it stands). -/
structure Lf where
  l : List Int
  cur : Option Int := none
inductive Ent where
  | free
  | dead
  | live (o : Ob)
  | mapd (en : Option Nat) (ks : List Int) (get : Int → List AV)
  | iter (m : Nat) (left : Lf)
/-- Maps, walks over them, all others. -/
def Ent.kind : Ent → Nat
  | .mapd .. => 1
  | .iter .. => 2
  | _ => 0

abbrev Hp := Nat → Ent
def hp (H : List Ent) : Hp := fun o => H.getD o .free
def noHp : Hp := fun _ => .free

/-- Where an object lies: its block, and how many cells that has. 'none': nowhere (a nil slice's). -/
structure Pl where
  b : Nat
  m : Nat
abbrev Pm := Nat → Option Pl
abbrev RoMap := Nat → Option (Array Value)
/-- Where an empty slice points: nowhere, or somewhere. -/
def nl (a : Option Addr) : Option Addr := a

/-- 'v' is what 'a' says. -/
inductive VR (ρ : Pm) (RO : RoMap) : Hp → AV → Value → Prop where
  | val (H : Hp) (v : Value) (h : v.oneCell' = true) : VR ρ RO H (.val v) v
  | top (H : Hp) (v : Value) : VR ρ RO H .top v
  | agg (H : Hp) (cs : List AV) (vs : Array Value) (hl : cs.length = vs.size) (h : ∀ (k : Nat) c v, cs[k]? = some c → vs[k]? = some v → VR ρ RO H c v) : VR ρ RO H (.agg cs) (.agg vs)
  | tup (H : Hp) (cs : List AV) (vs : Array Value) (hl : cs.length = vs.size) (h : ∀ (k : Nat) c v, cs[k]? = some c → vs[k]? = some v → VR ρ RO H c v) : VR ρ RO H (.tup cs) (.tuple vs)
  | fn (H : Hp) (f : FuncId) (cs : List AV) (vs : Array Value) (hl : cs.length = vs.size) (h : ∀ (k : Nat) c v, cs[k]? = some c → vs[k]? = some v → VR ρ RO H c v) : VR ρ RO H (.fn f cs) (.func (.func f) #[] vs)
  | ptr (H : Hp) (o i j b off : Nat) (h0 : H o ≠ .free) (h : ∀ ob, H o = .live ob → i < ob.n ∧ off = i * ob.sz + j ∧ ∃ m, ρ o = some ⟨b, m⟩) : VR ρ RO H (.ptr o i j) (.pointer (some ⟨b, off, none⟩))
  | rp (H : Hp) (cs : List AV) (j b off : Nat) (arr : Array Value) (hb : RO b = some arr) (hs : off + cs.length ≤ arr.size)
      (h : ∀ (k : Nat) c v, cs[k]? = some c → arr[off + k]? = some v → VR ρ RO noHp c v) : VR ρ RO H (.rp cs j) (.pointer (some ⟨b, off + j, none⟩))
  | slc (H : Hp) (o lo n : Nat) (n' cap : Option Nat) (b off c : Nat) (h0 : H o ≠ .free) (hn : n ≤ c) (hk : ∀ x, n' = some x → n = x) (hc : ∀ x, cap = some x → c = x)
      (h : ∀ ob, H o = .live ob → lo + n ≤ ob.n ∧ (n' = none → lo + n = ob.n) ∧ off = lo * ob.sz ∧ ∃ m, ρ o = some ⟨b, m⟩ ∧ (lo + c) * ob.sz ≤ m) : VR ρ RO H (.slc o lo n' cap) (.slice (some ⟨b, off, none⟩) n c)
  | slc0 (H : Hp) (o : Nat) (n' cap : Option Nat) (a : Option Addr) (h0 : H o ≠ .free) (hk : ∀ x, n' = some x → x = 0) (hc : ∀ x, cap = some x → x = 0) (h : ∀ ob, H o = .live ob → ob.n = 0 ∧ ρ o = none) : VR ρ RO H (.slc o 0 n' cap) (.slice (nl a) 0 0)
  | lst (H : Hp) (sz n : Nat) (cap : Option Nat) (get : Nat → List AV) (b off c : Nat) (arr : Array Value) (hb : RO b = some arr) (hn : n ≤ c) (hc : ∀ x, cap = some x → c = x)
      (hs : off + n * sz ≤ arr.size) (hg : ∀ i, i < n → (get i).length = sz) (h1 : ∀ (j : Nat) v, j < n * sz → arr[off + j]? = some v → v.oneCell' = true)
      (h : ∀ (i k : Nat) a v, i < n → (get i)[k]? = some a → arr[off + i * sz + k]? = some v → VR ρ RO noHp a v) : VR ρ RO H (.lst sz n cap get) (.slice (some ⟨b, off, none⟩) n c)
  | lst0 (H : Hp) (sz : Nat) (cap : Option Nat) (get : Nat → List AV) (a : Option Addr) (hc : ∀ x, cap = some x → x = 0) : VR ρ RO H (.lst sz 0 cap get) (.slice (nl a) 0 0)
  | mp (H : Hp) (o b : Nat) (h0 : H o ≠ .free) (h : (H o).kind = 1 → ∃ m, ρ o = some ⟨b, m⟩) : VR ρ RO H (.mp o) (.map (some b))
  | itr (H : Hp) (o b : Nat) (h0 : H o ≠ .free) (h : (H o).kind = 2 → ∃ m, ρ o = some ⟨b, m⟩) : VR ρ RO H (.itr o) (.pointer (some ⟨b, 0, none⟩))

/-- The later table knows all that the elder one knew, or has forgotten it. -/
def Ext (ρ : Pm) (RO : RoMap) (H : Hp) (ρ' : Pm) (RO' : RoMap) (H' : Hp) : Prop :=
  (∀ b arr, RO b = some arr → RO' b = some arr) ∧
  (∀ o, H o ≠ .free → H' o ≠ .free ∧ ∀ ob', H' o = .live ob' → ρ' o = ρ o ∧ ∃ ob, H o = .live ob ∧ ob'.sz = ob.sz ∧ ob'.n = ob.n) ∧
  ∀ o, H o ≠ .free → (H' o).kind ≠ 0 → ρ' o = ρ o ∧ (H o).kind = (H' o).kind

theorem Ext.refl (ρ : Pm) (RO : RoMap) (H : Hp) : Ext ρ RO H ρ RO H := ⟨fun _ _ h => h, fun o h => ⟨h, fun ob' h' => ⟨rfl, ob', h', rfl, rfl⟩⟩, fun _ _ _ => ⟨rfl, rfl⟩⟩

theorem Ext.trans {ρ RO H ρ1 RO1 H1 ρ2 RO2 H2} (h : Ext ρ RO H ρ1 RO1 H1) (k : Ext ρ1 RO1 H1 ρ2 RO2 H2) : Ext ρ RO H ρ2 RO2 H2 := by
  refine ⟨fun b arr e => k.1 b arr (h.1 b arr e), fun o e => ?_, fun o e e2 => ?_⟩
  · obtain ⟨a1, a2⟩ := h.2.1 o e
    obtain ⟨b1, b2⟩ := k.2.1 o a1
    refine ⟨b1, fun ob' e' => ?_⟩
    obtain ⟨c1, ob1, c2, c3, c4⟩ := b2 ob' e'
    obtain ⟨d1, ob, d2, d3, d4⟩ := a2 ob1 c2
    exact ⟨c1.trans d1, ob, d2, c3.trans d3, c4.trans d4⟩
  · obtain ⟨a1, a2⟩ := h.2.1 o e
    obtain ⟨c1, c2⟩ := k.2.2 o a1 e2
    obtain ⟨d1, d2⟩ := h.2.2 o e (by rw [c2]; exact e2)
    exact ⟨c1.trans d1, d2.trans c2⟩

theorem Ext.noHp {ρ RO ρ' : _} {RO' : RoMap} (h : ∀ b (arr : Array Value), RO b = some arr → RO' b = some arr) : Ext ρ RO noHp ρ' RO' noHp :=
  ⟨h, fun o e => absurd rfl e, fun o e => absurd rfl e⟩

theorem VR.ext {ρ : Pm} {RO : RoMap} {ρ' : Pm} {RO' : RoMap} (hro : ∀ b arr, RO b = some arr → RO' b = some arr) {H : Hp} {a : AV} {v : Value} (h : VR ρ RO H a v) :
    ∀ H', Ext ρ RO H ρ' RO' H' → VR ρ' RO' H' a v := by
  induction h with
  | val H v h => exact fun H' _ => .val H' v h
  | top H v => exact fun H' _ => .top H' v
  | agg H cs vs hl h ih => exact fun H' e => .agg H' cs vs hl fun k c v h1 h2 => ih k c v h1 h2 H' e
  | tup H cs vs hl h ih => exact fun H' e => .tup H' cs vs hl fun k c v h1 h2 => ih k c v h1 h2 H' e
  | fn H f cs vs hl h ih => exact fun H' e => .fn H' f cs vs hl fun k c v h1 h2 => ih k c v h1 h2 H' e
  | ptr H o i j b off h0 h =>
    intro H' e
    obtain ⟨e1, e2⟩ := e.2.1 o h0
    refine .ptr H' o i j b off e1 fun ob' hl => ?_
    obtain ⟨r1, ob, r2, r3, r4⟩ := e2 ob' hl
    obtain ⟨q1, q2, m, q3⟩ := h ob r2
    exact ⟨by omega, by rw [r3]; exact q2, m, by rw [r1]; exact q3⟩
  | rp H cs j b off arr hb hs h ih =>
    exact fun H' e => .rp H' cs j b off arr (hro _ _ hb) hs fun k c v h1 h2 => ih k c v h1 h2 noHp (Ext.noHp hro)
  | slc H o lo n n' cap b off c h0 hn hk hc h =>
    intro H' e
    obtain ⟨e1, e2⟩ := e.2.1 o h0
    refine .slc H' o lo n n' cap b off c e1 hn hk hc fun ob' hl => ?_
    obtain ⟨r1, ob, r2, r3, r4⟩ := e2 ob' hl
    obtain ⟨q1, q5, q2, m, q3, q4⟩ := h ob r2
    exact ⟨by omega, fun z => by have := q5 z; omega, by rw [r3]; exact q2, m, by rw [r1]; exact q3, by rw [r3]; exact q4⟩
  | slc0 H o n' cap a h0 hk hc h =>
    intro H' e
    obtain ⟨e1, e2⟩ := e.2.1 o h0
    refine .slc0 H' o n' cap a e1 hk hc fun ob' hl => ?_
    obtain ⟨r1, ob, r2, r3, r4⟩ := e2 ob' hl
    obtain ⟨q1, q2⟩ := h ob r2
    exact ⟨by omega, by rw [r1]; exact q2⟩
  | lst H sz n cap get b off c arr hb hn hc hs hg h1 h ih =>
    exact fun H' e => .lst H' sz n cap get b off c arr (hro _ _ hb) hn hc hs hg h1 fun i k a v g1 g2 g3 => ih i k a v g1 g2 g3 noHp (Ext.noHp hro)
  | lst0 H sz cap get a hc => exact fun H' e => .lst0 H' sz cap get a hc
  | mp H o b h0 h =>
    intro H' e
    refine .mp H' o b (e.2.1 o h0).1 fun hk => ?_
    obtain ⟨e1, e2⟩ := e.2.2 o h0 (by rw [hk]; decide)
    rw [e1]; exact h (e2.trans hk)
  | itr H o b h0 h =>
    intro H' e
    refine .itr H' o b (e.2.1 o h0).1 fun hk => ?_
    obtain ⟨e1, e2⟩ := e.2.2 o h0 (by rw [hk]; decide)
    rw [e1]; exact h (e2.trans hk)

/-- What holds without objects holds with any. -/
theorem VR.closed {ρ : Pm} {RO : RoMap} {a : AV} {v : Value} (h : VR ρ RO noHp a v) (ρ' : Pm) (H : Hp) : VR ρ' RO H a v :=
  h.ext (fun _ _ h => h) H ⟨fun _ _ h => h, fun o e => absurd rfl e, fun o e => absurd rfl e⟩

def isCell : AV → Bool
  | .agg _ | .tup _ | .top => false
  | _ => true

theorem VR.cell {ρ RO H a v} (h : VR ρ RO H a v) (hc : isCell a = true) : v.oneCell' = true := by
  cases h <;> first | assumption | rfl | cases hc

/-- A block of these cells, of which none is fixed (a conversion's mark lies behind them). -/
def CellsAt (w : World) (b : Nat) (arr : Array Value) (t : TypeId) : Prop := ∃ f : Nat × Nat, (f = (0, 0) ∨ arr.size ≤ f.1) ∧ w.heap[b]? = some (.cells arr t f)
/-- One value of cells: itself, or a struct. -/
def packV (agg : Bool) (cs : List AV) : AV := match agg with
  | true => .agg cs
  | false => match cs with
    | [a] => a
    | _ => .top
/-- What stands at no key. 'none': a whole number; 'some n': an array of n. -/
def zeroEn : Option Nat → Value
  | none => .int .i64 0
  | some n => .agg (Array.replicate n (.int .i64 0))
/-- A block that bears a map: its keys, and what stands at each. -/
def MapAt (RO : RoMap) (w : World) (b : Nat) (en : Option Nat) (ks : List Int) (get : Int → List AV) : Prop :=
  ∃ (es : Array MapEntry) (clock : Nat), w.heap[b]? = some (.map es clock) ∧ es.toList.map (·.key) = ks.map (Value.int .i64 ·) ∧ ks.Nodup ∧ ks.length ≤ clock ∧ True ∧
    (∀ (i : Nat) (e : MapEntry) k, es[i]? = some e → ks[i]? = some k → VR (fun _ => none) RO noHp (packV en.isSome (get k)) e.val ∧ e.born < clock) ∧ es.toList.Pairwise (fun x y => x.born ≠ y.born) ∧ ∀ k, k ∉ ks → VR (fun _ => none) RO noHp (packV en.isSome (get k)) (zeroEn en)
/-- A block that bears a walk over such a map: the keys that are left. -/
def IterAt (w : World) (r b : Nat) (ks : List Int) (left : Lf) : Prop :=
  ∃ (es : Array MapEntry) (clock : Nat) (since : Nat) (seen : Array Nat) (last : Nat), w.heap[b]? = some (.map es clock) ∧ w.heap[r]? = some (.mapIter (some b) since seen last) ∧ (since ≤ last ∧ last ≤ clock ∧ ∀ k, left.cur = some k → clock = last ∧ ∃ (i : Nat) (e : MapEntry), es[i]? = some e ∧ ks[i]? = some k ∧ seen.back? = some e.born) ∧
    (∀ e ∈ es.toList, e.born < since) ∧ (left.l.Nodup ∧ ∀ k ∈ left.l, k ∈ ks) ∧ ∀ (i : Nat) (e : MapEntry) k, es[i]? = some e → ks[i]? = some k → (k ∈ left.l ↔ ¬ seen.contains e.born = true)
structure MapsOk (Bk : Nat → Prop) (ρ : Pm) (RO : RoMap) (H : Hp) (w : World) : Prop where
  map : ∀ o en ks get, H o = .mapd en ks get → ∃ b m, ρ o = some ⟨b, m⟩ ∧ Bk b ∧ MapAt RO w b en ks get
  iter : ∀ o q left, H o = .iter q left → ∃ r m, ρ o = some ⟨r, m⟩ ∧ Bk r ∧ (∃ x since seen last, w.heap[r]? = some (.mapIter x since seen last)) ∧ ∀ en ks get, H q = .mapd en ks get → ∃ b m', ρ q = some ⟨b, m'⟩ ∧ IterAt w r b ks left
  inj : ∀ o o' b m m', (H o).kind ≠ 0 → (H o').kind ≠ 0 → ρ o = some ⟨b, m⟩ → ρ o' = some ⟨b, m'⟩ → o = o'
  fr : ∀ o q left, H o = .iter q left → H q ≠ .free
/-- The world bears the table. 'w0': how it was when the call began; 'W': those of its blocks that may be written. -/
structure SR (w0 : World) (W : Nat → Prop) (F : RoMap) (ρ : Pm) (RO : RoMap) (H : Hp) (w : World) : Prop where
  os : w.os = w0.os
  tape : w.tape = w0.tape
  output : w.output = w0.output
  size : w0.heap.size ≤ w.heap.size
  kept : ∀ k, k < w0.heap.size → ¬ W k → w.heap[k]? = w0.heap[k]?
  obj : ∀ o ob, H o = .live ob → (ρ o = none ∧ ob.n = 0) ∨ ∃ b m arr, ρ o = some ⟨b, m⟩ ∧ RO b = none ∧ (w0.heap.size ≤ b ∨ W b) ∧ CellsAt w b arr ob.ty ∧ arr.size = m ∧ ob.n * ob.sz ≤ m ∧
    (∀ i, i < ob.n → (ob.get i).length = ob.sz) ∧ (∀ (i k : Nat) a v, i < ob.n → (ob.get i)[k]? = some a → arr[i * ob.sz + k]? = some v → VR ρ RO H a v) ∧ ∀ (j : Nat) v, j < ob.n * ob.sz → arr[j]? = some v → v.oneCell' = true
  inj : ∀ o o' ob ob' b m m', H o = .live ob → H o' = .live ob' → ρ o = some ⟨b, m⟩ → ρ o' = some ⟨b, m'⟩ → o = o'
  ro : ∀ b arr, RO b = some arr → ∃ t f, w.heap[b]? = some (.cells arr t f)
  old : ∀ b arr, RO b = some arr → F b = some arr ∨ w0.heap.size ≤ b ∨ W b
  fix : ∀ b arr, F b = some arr → RO b = some arr
  mo : MapsOk (fun b => w0.heap.size ≤ b ∨ W b) ρ RO H w

/-- Is it a block of cells? -/
def isCells : Obj → Bool
  | .cells .. => true
  | _ => false
theorem MapAt.mono {RO RO' : RoMap} {w w' : World} {b : Nat} {en : Option Nat} {ks : List Int} {get : Int → List AV} (h : MapAt RO w b en ks get) (hro : ∀ b arr, RO b = some arr → RO' b = some arr) (hk : ∀ (b : Nat) (o : Obj), w.heap[b]? = some o → isCells o = false → w'.heap[b]? = some o) : MapAt RO' w' b en ks get := by
  obtain ⟨es, clock, h1, h2, h3, h4, h5, h6, h7, h8⟩ := h
  exact ⟨es, clock, hk _ _ h1 rfl, h2, h3, h4, h5, fun i e k e1 e2 => ⟨(h6 i e k e1 e2).1.ext hro _ (Ext.noHp hro), (h6 i e k e1 e2).2⟩, h7, fun k hk' => (h8 k hk').ext hro _ (Ext.noHp hro)⟩
theorem IterAt.mono {w w' : World} {r b : Nat} {ks : List Int} {left : Lf} (h : IterAt w r b ks left) (hk : ∀ (b : Nat) (o : Obj), w.heap[b]? = some o → isCells o = false → w'.heap[b]? = some o) : IterAt w' r b ks left := by
  obtain ⟨es, clock, since, seen, last, h1, h2, h3⟩ := h
  exact ⟨es, clock, since, seen, last, hk _ _ h1 rfl, hk _ _ h2 rfl, h3⟩
theorem IterAt.off {w : World} {r b : Nat} {ks : List Int} {left : Lf} (h : IterAt w r b ks left) : IterAt w r b ks ⟨left.l, none⟩ := by
  obtain ⟨es, clock, since, seen, last, h1, h2, h3, h4⟩ := h
  exact ⟨es, clock, since, seen, last, h1, h2, ⟨h3.1, h3.2.1, fun _ h => by cases h⟩, h4⟩
/-- Maps stay if no block but those of cells changes, and no map comes. -/
theorem MapsOk.mono {Bk : Nat → Prop} {ρ ρ' : Pm} {RO RO' : RoMap} {H H' : Hp} {w w' : World} (h : MapsOk Bk ρ RO H w) (hro : ∀ b arr, RO b = some arr → RO' b = some arr) (hk : ∀ (b : Nat) (o : Obj), w.heap[b]? = some o → isCells o = false → w'.heap[b]? = some o)
    (hH : ∀ o, (H' o).kind ≠ 0 → H' o = H o ∧ ρ' o = ρ o) (nf : ∀ o q left, H' o = .iter q left → H q ≠ .free → H' q ≠ .free := by intro _ _ _ _ h; exact h) : MapsOk Bk ρ' RO' H' w' := by
  refine ⟨fun o en ks get e => ?_, fun o q left e => ?_, fun o o' b m m' k1 k2 e1 e2 => ?_, fun o q left e => nf o q left e (h.fr o q left (((hH o (by rw [e]; simp [Ent.kind])).1) ▸ e))⟩
  · obtain ⟨a1, a2⟩ := hH o (by rw [e]; simp [Ent.kind])
    obtain ⟨b, m, b1, b2, b3⟩ := h.map o en ks get (a1 ▸ e)
    exact ⟨b, m, by rw [a2]; exact b1, b2, b3.mono hro hk⟩
  · obtain ⟨a1, a2⟩ := hH o (by rw [e]; simp [Ent.kind])
    obtain ⟨r, m, b1, b2, ⟨x, since, seen, last, b4⟩, b3⟩ := h.iter o q left (a1 ▸ e)
    refine ⟨r, m, by rw [a2]; exact b1, b2, ⟨x, since, seen, last, hk _ _ b4 rfl⟩, fun en ks get e2 => ?_⟩
    obtain ⟨c1, c2⟩ := hH q (by rw [e2]; simp [Ent.kind])
    obtain ⟨b, m', d1, d2⟩ := b3 en ks get (c1 ▸ e2)
    exact ⟨b, m', by rw [c2]; exact d1, d2.mono hk⟩
  · obtain ⟨a1, a2⟩ := hH o k1
    obtain ⟨c1, c2⟩ := hH o' k2
    exact h.inj o o' b m m' (a1 ▸ k1) (c1 ▸ k2) (a2 ▸ e1) (c2 ▸ e2)
theorem MapsOk.imp {Bk Bk' : Nat → Prop} {ρ : Pm} {RO : RoMap} {H : Hp} {w : World} (h : MapsOk Bk ρ RO H w) (hB : ∀ b, Bk b → Bk' b) : MapsOk Bk' ρ RO H w :=
  ⟨fun o en ks get e => let ⟨b, m, h1, h2, h3⟩ := h.map o en ks get e; ⟨b, m, h1, hB b h2, h3⟩, fun o q left e => let ⟨b, m, h1, h2, h3⟩ := h.iter o q left e; ⟨b, m, h1, hB b h2, h3⟩, h.inj, h.fr⟩
/-- No maps at all. -/
theorem MapsOk.none {Bk : Nat → Prop} {ρ : Pm} {RO : RoMap} {H : Hp} {w : World} (h : ∀ o, (H o).kind = 0) : MapsOk Bk ρ RO H w :=
  ⟨fun o en ks get e => (by have := h o; rw [e] at this; cases this), fun o q left e => (by have := h o; rw [e] at this; cases this), fun o _ _ _ _ k => absurd (h o) k, fun o q left e => (by have := h o; rw [e] at this; cases this)⟩
end Go.Proofs.Ytbcnifnmccaleaa.Fw
