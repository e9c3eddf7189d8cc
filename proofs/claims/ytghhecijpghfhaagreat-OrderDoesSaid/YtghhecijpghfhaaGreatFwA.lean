/- A value's and a heap's shape without addresses, what it means that a world bears them, and how such facts last. -/
import Derived.Below
import Derived.Still
import Derived.Laws.AppendOwn
import Derived.Laws.CopyRow
import Derived.Deep.WholeRow
import Derived.KernelRfl
namespace Go.Proofs.YtghhecijpghfhaaGreat.Fw
open Go
set_option linter.unusedVariables false

/-- A value without addresses: 'o' is a number of a table of objects. -/
inductive AV where
  | val (v : Value)
  | ptr (o i j : Nat)
  | rp (cs : List AV) (j : Nat)
  | slc (o lo : Nat) (n cap : Option Nat)
  | lst (sz n : Nat) (cap : Option Nat) (get : Nat → List AV)
  | fn (f : FuncId) (caps : List AV)
  | agg (cs : List AV)
  | tup (vs : List AV)
  | top
instance : Inhabited AV := ⟨.top⟩

/-- An object: n elements of sz cells each. 'row': more than one, or to be written one by one. -/
structure Ob where
  row : Bool
  ty : TypeId
  sz : Nat
  n : Nat
  get : Nat → List AV
  lit : Option Nat := none

inductive Ent where
  | free
  | dead
  | live (o : Ob)

abbrev Hp := Nat → Ent
def hp (H : List Ent) : Hp := fun o => H.getD o .free
def noHp : Hp := fun _ => .free

/-- Where an object lies: its block, and how many cells that has. 'none': nowhere (a nil slice's). -/
structure Pl where
  b : Nat
  m : Nat
abbrev Pm := Nat → Option Pl
abbrev RoMap := Nat → Option (Array Value)
/-- Where an empty slice points: nowhere, or somewhere. -/
def nl (a : Option Addr) : Option Addr := a

/-- 'v' is what 'a' says. -/
inductive VR (ρ : Pm) (RO : RoMap) : Hp → AV → Value → Prop where
  | val (H : Hp) (v : Value) (h : v.oneCell' = true) : VR ρ RO H (.val v) v
  | top (H : Hp) (v : Value) : VR ρ RO H .top v
  | agg (H : Hp) (cs : List AV) (vs : Array Value) (hl : cs.length = vs.size) (h : ∀ (k : Nat) c v, cs[k]? = some c → vs[k]? = some v → VR ρ RO H c v) : VR ρ RO H (.agg cs) (.agg vs)
  | tup (H : Hp) (cs : List AV) (vs : Array Value) (hl : cs.length = vs.size) (h : ∀ (k : Nat) c v, cs[k]? = some c → vs[k]? = some v → VR ρ RO H c v) : VR ρ RO H (.tup cs) (.tuple vs)
  | fn (H : Hp) (f : FuncId) (cs : List AV) (vs : Array Value) (hl : cs.length = vs.size) (h : ∀ (k : Nat) c v, cs[k]? = some c → vs[k]? = some v → VR ρ RO H c v) : VR ρ RO H (.fn f cs) (.func (.func f) #[] vs)
  | ptr (H : Hp) (o i j b off : Nat) (h0 : H o ≠ .free) (h : ∀ ob, H o = .live ob → i < ob.n ∧ off = i * ob.sz + j ∧ ∃ m, ρ o = some ⟨b, m⟩) : VR ρ RO H (.ptr o i j) (.pointer (some ⟨b, off, none⟩))
  | rp (H : Hp) (cs : List AV) (j b off : Nat) (arr : Array Value) (hb : RO b = some arr) (hs : off + cs.length ≤ arr.size)
      (h : ∀ (k : Nat) c v, cs[k]? = some c → arr[off + k]? = some v → VR ρ RO noHp c v) : VR ρ RO H (.rp cs j) (.pointer (some ⟨b, off + j, none⟩))
  | slc (H : Hp) (o lo n : Nat) (n' cap : Option Nat) (b off c : Nat) (h0 : H o ≠ .free) (hn : n ≤ c) (hk : ∀ x, n' = some x → n = x) (hc : ∀ x, cap = some x → c = x)
      (h : ∀ ob, H o = .live ob → lo + n ≤ ob.n ∧ (n' = none → lo + n = ob.n) ∧ off = lo * ob.sz ∧ ∃ m, ρ o = some ⟨b, m⟩ ∧ (lo + c) * ob.sz ≤ m) : VR ρ RO H (.slc o lo n' cap) (.slice (some ⟨b, off, none⟩) n c)
  | slc0 (H : Hp) (o : Nat) (n' cap : Option Nat) (a : Option Addr) (h0 : H o ≠ .free) (hk : ∀ x, n' = some x → x = 0) (hc : ∀ x, cap = some x → x = 0) (h : ∀ ob, H o = .live ob → ob.n = 0 ∧ ρ o = none) : VR ρ RO H (.slc o 0 n' cap) (.slice (nl a) 0 0)
  | lst (H : Hp) (sz n : Nat) (cap : Option Nat) (get : Nat → List AV) (b off c : Nat) (arr : Array Value) (hb : RO b = some arr) (hn : n ≤ c) (hc : ∀ x, cap = some x → c = x)
      (hs : off + n * sz ≤ arr.size) (hg : ∀ i, i < n → (get i).length = sz) (h1 : ∀ (j : Nat) v, j < n * sz → arr[off + j]? = some v → v.oneCell' = true)
      (h : ∀ (i k : Nat) a v, i < n → (get i)[k]? = some a → arr[off + i * sz + k]? = some v → VR ρ RO noHp a v) : VR ρ RO H (.lst sz n cap get) (.slice (some ⟨b, off, none⟩) n c)
  | lst0 (H : Hp) (sz : Nat) (cap : Option Nat) (get : Nat → List AV) (a : Option Addr) (hc : ∀ x, cap = some x → x = 0) : VR ρ RO H (.lst sz 0 cap get) (.slice (nl a) 0 0)

/-- The later table knows all that the elder one knew, or has forgotten it. -/
def Ext (ρ : Pm) (RO : RoMap) (H : Hp) (ρ' : Pm) (RO' : RoMap) (H' : Hp) : Prop :=
  (∀ b arr, RO b = some arr → RO' b = some arr) ∧
  ∀ o, H o ≠ .free → H' o ≠ .free ∧ ∀ ob', H' o = .live ob' → ρ' o = ρ o ∧ ∃ ob, H o = .live ob ∧ ob'.sz = ob.sz ∧ ob'.n = ob.n

theorem Ext.refl (ρ : Pm) (RO : RoMap) (H : Hp) : Ext ρ RO H ρ RO H := ⟨fun _ _ h => h, fun o h => ⟨h, fun ob' h' => ⟨rfl, ob', h', rfl, rfl⟩⟩⟩

theorem Ext.trans {ρ RO H ρ1 RO1 H1 ρ2 RO2 H2} (h : Ext ρ RO H ρ1 RO1 H1) (k : Ext ρ1 RO1 H1 ρ2 RO2 H2) : Ext ρ RO H ρ2 RO2 H2 := by
  refine ⟨fun b arr e => k.1 b arr (h.1 b arr e), fun o e => ?_⟩
  obtain ⟨a1, a2⟩ := h.2 o e
  obtain ⟨b1, b2⟩ := k.2 o a1
  refine ⟨b1, fun ob' e' => ?_⟩
  obtain ⟨c1, ob1, c2, c3, c4⟩ := b2 ob' e'
  obtain ⟨d1, ob, d2, d3, d4⟩ := a2 ob1 c2
  exact ⟨c1.trans d1, ob, d2, c3.trans d3, c4.trans d4⟩

theorem Ext.noHp {ρ RO ρ' : _} {RO' : RoMap} (h : ∀ b (arr : Array Value), RO b = some arr → RO' b = some arr) : Ext ρ RO noHp ρ' RO' noHp :=
  ⟨h, fun o e => absurd rfl e⟩

theorem VR.ext {ρ : Pm} {RO : RoMap} {ρ' : Pm} {RO' : RoMap} (hro : ∀ b arr, RO b = some arr → RO' b = some arr) {H : Hp} {a : AV} {v : Value} (h : VR ρ RO H a v) :
    ∀ H', Ext ρ RO H ρ' RO' H' → VR ρ' RO' H' a v := by
  induction h with
  | val H v h => exact fun H' _ => .val H' v h
  | top H v => exact fun H' _ => .top H' v
  | agg H cs vs hl h ih => exact fun H' e => .agg H' cs vs hl fun k c v h1 h2 => ih k c v h1 h2 H' e
  | tup H cs vs hl h ih => exact fun H' e => .tup H' cs vs hl fun k c v h1 h2 => ih k c v h1 h2 H' e
  | fn H f cs vs hl h ih => exact fun H' e => .fn H' f cs vs hl fun k c v h1 h2 => ih k c v h1 h2 H' e
  | ptr H o i j b off h0 h =>
    intro H' e
    obtain ⟨e1, e2⟩ := e.2 o h0
    refine .ptr H' o i j b off e1 fun ob' hl => ?_
    obtain ⟨r1, ob, r2, r3, r4⟩ := e2 ob' hl
    obtain ⟨q1, q2, m, q3⟩ := h ob r2
    exact ⟨by omega, by rw [r3]; exact q2, m, by rw [r1]; exact q3⟩
  | rp H cs j b off arr hb hs h ih =>
    exact fun H' e => .rp H' cs j b off arr (hro _ _ hb) hs fun k c v h1 h2 => ih k c v h1 h2 noHp (Ext.noHp hro)
  | slc H o lo n n' cap b off c h0 hn hk hc h =>
    intro H' e
    obtain ⟨e1, e2⟩ := e.2 o h0
    refine .slc H' o lo n n' cap b off c e1 hn hk hc fun ob' hl => ?_
    obtain ⟨r1, ob, r2, r3, r4⟩ := e2 ob' hl
    obtain ⟨q1, q5, q2, m, q3, q4⟩ := h ob r2
    exact ⟨by omega, fun z => by have := q5 z; omega, by rw [r3]; exact q2, m, by rw [r1]; exact q3, by rw [r3]; exact q4⟩
  | slc0 H o n' cap a h0 hk hc h =>
    intro H' e
    obtain ⟨e1, e2⟩ := e.2 o h0
    refine .slc0 H' o n' cap a e1 hk hc fun ob' hl => ?_
    obtain ⟨r1, ob, r2, r3, r4⟩ := e2 ob' hl
    obtain ⟨q1, q2⟩ := h ob r2
    exact ⟨by omega, by rw [r1]; exact q2⟩
  | lst H sz n cap get b off c arr hb hn hc hs hg h1 h ih =>
    exact fun H' e => .lst H' sz n cap get b off c arr (hro _ _ hb) hn hc hs hg h1 fun i k a v g1 g2 g3 => ih i k a v g1 g2 g3 noHp (Ext.noHp hro)
  | lst0 H sz cap get a hc => exact fun H' e => .lst0 H' sz cap get a hc

/-- What holds without objects holds with any. -/
theorem VR.closed {ρ : Pm} {RO : RoMap} {a : AV} {v : Value} (h : VR ρ RO noHp a v) (ρ' : Pm) (H : Hp) : VR ρ' RO H a v :=
  h.ext (fun _ _ h => h) H ⟨fun _ _ h => h, fun o e => absurd rfl e⟩

def isCell : AV → Bool
  | .agg _ | .tup _ | .top => false
  | _ => true

theorem VR.cell {ρ RO H a v} (h : VR ρ RO H a v) (hc : isCell a = true) : v.oneCell' = true := by
  cases h <;> first | assumption | rfl | cases hc

/-- A block of these cells, of which none is fixed (a conversion's mark lies behind them). -/
def CellsAt (w : World) (b : Nat) (arr : Array Value) (t : TypeId) : Prop := ∃ f : Nat × Nat, (f = (0, 0) ∨ arr.size ≤ f.1) ∧ w.heap[b]? = some (.cells arr t f)
/-- The world bears the table. 'w0': how it was when the call began; 'W': those of its blocks that may be written. -/
structure SR (w0 : World) (W : Nat → Prop) (F : RoMap) (ρ : Pm) (RO : RoMap) (H : Hp) (w : World) : Prop where
  os : w.os = w0.os
  tape : w.tape = w0.tape
  output : w.output = w0.output
  size : w0.heap.size ≤ w.heap.size
  kept : ∀ k, k < w0.heap.size → ¬ W k → w.heap[k]? = w0.heap[k]?
  obj : ∀ o ob, H o = .live ob → (ρ o = none ∧ ob.n = 0) ∨ ∃ b m arr, ρ o = some ⟨b, m⟩ ∧ RO b = none ∧ (w0.heap.size ≤ b ∨ W b) ∧ CellsAt w b arr ob.ty ∧ arr.size = m ∧ ob.n * ob.sz ≤ m ∧
    (∀ i, i < ob.n → (ob.get i).length = ob.sz) ∧ (∀ (i k : Nat) a v, i < ob.n → (ob.get i)[k]? = some a → arr[i * ob.sz + k]? = some v → VR ρ RO H a v) ∧ ∀ (j : Nat) v, j < ob.n * ob.sz → arr[j]? = some v → v.oneCell' = true
  inj : ∀ o o' ob ob' b m m', H o = .live ob → H o' = .live ob' → ρ o = some ⟨b, m⟩ → ρ o' = some ⟨b, m'⟩ → o = o'
  ro : ∀ b arr, RO b = some arr → ∃ t f, w.heap[b]? = some (.cells arr t f)
  old : ∀ b arr, RO b = some arr → F b = some arr ∨ w0.heap.size ≤ b ∨ W b
  fix : ∀ b arr, F b = some arr → RO b = some arr

end Go.Proofs.YtghhecijpghfhaaGreat.Fw
