/- The evaluator: what a function's code does to values without addresses. -/
import Derived.Test.YtbcnifnmccaleaaFwA
namespace Go.Proofs.Ytbcnifnmccaleaa.Fw
open Go
set_option linter.unusedVariables false

/-- How long a slice is. -/
def slcLen (n : Option Nat) (m lo : Nat) : Nat :=
  match n with
  | some n => n
  | none => m - lo
structure St where
  tmps : List AV
  H : List Ent

def undefA : AV := .tup []
def cellV (c : Value) : AV := if c.oneCell' then .val c else .top
def ofV : Value → AV
  | .agg cs => .agg (cs.toList.map cellV)
  | .tuple vs => .tup (vs.toList.map cellV)
  | v => .val v
def St.op (s : St) : Operand → AV
  | .tmp t => s.tmps.getD t undefA
  | .const v => ofV v
  | .global g => .val (.pointer (some ⟨g, 0, none⟩))
  | .func f => .fn f []
def St.put (s : St) (d : Option Tmp) (v : AV) (H : List Ent) : St := ⟨match d with | some d => s.tmps.set d v | none => s.tmps, H⟩

/-- What a computation comes to that looks at nothing but the types. -/
def pureOf (P : Program) {α : Type} : Sem α → Option α
  | .pure a => some a
  | .program k => pureOf P (k P)
  | _ => none

def valsV : List AV → Option (List Value)
  | [] => some []
  | .val v :: r => match valsV r with | some l => some (v :: l) | none => none
  | _ => none
def toV : AV → Option Value
  | .val v => some v
  | .agg cs => match valsV cs with | some l => some (.agg l.toArray) | none => none
  | _ => none
/-- A value's cells. -/
def cellsA : AV → List AV
  | .agg cs => cs
  | a => [a]

/-- What an operation does: 'ok': whether it goes on; the value; the table behind it. -/
structure Eff where
  ok : Bool
  v : AV
  H : List Ent

def aggT (P : Program) (t : TypeId) : Option Bool :=
  match P.underlying t with
  | some (.struct _) | some (.array _ _) => some true
  | some _ => some false
  | none => none
def szT (P : Program) (t : TypeId) : Option Nat := match P.info? t with | some i => some i.size | none => none
def zeroT (P : Program) (t : TypeId) : Option (List AV) :=
  match P.info? t with
  | some i => match i.zero with
    | some z => match (cellsA (ofV z)).all isCell with
      | true => some (cellsA (ofV z))
      | false => none
    | none => none
  | none => none

def intsOf (k : IntKind) : List AV → Option (List Int)
  | [] => some []
  | .val (.int k' n) :: r => if k' = k then (match intsOf k r with | some l => some (n :: l) | none => none) else none
  | _ => none
/-- A fresh object of a type, with these cells. -/
def newOb (P : Program) (t : TypeId) (cells : List AV) : Option Ob :=
  match P.underlying t with
  | some (.array len e) =>
    match szT P e with
    | some sz => if sz = 0 ∨ len = 0 ∨ cells.length ≠ len * sz then none else
      match cells with
      | .val (.int k _) :: _ => match intsOf k cells with
        | some ns => if sz = 1 then some ⟨true, t, sz, len, fun i => [.val (.int k (ns.getD i 0))], none⟩ else some ⟨true, t, sz, len, fun i => (cells.drop (i * sz)).take sz, none⟩
        | none => some ⟨true, t, sz, len, fun i => (cells.drop (i * sz)).take sz, none⟩
      | .mp _ :: _ => some ⟨true, t, sz, len, fun i => (cells.drop (i * sz)).take sz, some 1000000⟩
      | _ => some ⟨true, t, sz, len, fun i => (cells.drop (i * sz)).take sz, none⟩
    | none => none
  | some _ => some ⟨false, t, cells.length, 1, fun _ => cells, none⟩
  | none => none

def mkE (s : St) (v : AV) : Option Eff := some ⟨true, v, s.H⟩
def fresh (s : St) (pos : Nat) (ob : Ob) : List Ent := if pos = s.H.length then s.H ++ [.live ob] else s.H.set pos (.live ob)

def allocE (P : Program) (s : St) (pos : Nat) (t : TypeId) : Option Eff :=
  match zeroT P t with
  | some z => match newOb P t z with
    | some ob => some ⟨true, .ptr pos 0 0, fresh s pos ob⟩
    | none => none
  | none => none
def boxE (P : Program) (s : St) (pos : Nat) (t : TypeId) (a : AV) : Option Eff :=
  match szT P t with
  | some n => if (cellsA a).length = n ∧ (cellsA a).all isCell then
      match newOb P t (cellsA a) with
      | some ob => some ⟨true, .ptr pos 0 0, fresh s pos ob⟩
      | none => none
    else none
  | none => none
def loadE (P : Program) (s : St) (t : TypeId) (a : AV) : Option Eff :=
  match a with
  | .ptr o i j => match hp s.H o with
    | .live ob => match aggT P t, szT P t with
      | some true, some n =>
        if ob.row ∧ ob.sz < j + n then (if i = 0 ∧ j = 0 ∧ n = ob.n * ob.sz then some ⟨true, .agg ((List.range ob.n).flatMap ob.get), s.H⟩ else none)
        else if j + n ≤ ob.sz then some ⟨true, .agg (((ob.get i).drop j).take n), s.H⟩ else none
      | some false, some _ => match (ob.get i)[j]? with
        | some c => some ⟨true, c, s.H⟩
        | none => none
      | _, _ => none
    | _ => none
  | .rp cs j => match aggT P t, szT P t with
    | some true, some n => if j + n ≤ cs.length then some ⟨true, .agg ((cs.drop j).take n), s.H⟩ else none
    | some false, some _ => match cs[j]? with
      | some c => some ⟨true, c, s.H⟩
      | none => none
    | _, _ => none
  | _ => none
def setRow (ob : Ob) (i : Nat) (r : List AV) : Ob := { ob with get := if ob.row then (fun x => if x = i then r else ob.get x) else fun _ => r }
def storeE (P : Program) (s : St) (t : TypeId) (a v : AV) : Option Eff :=
  match a with
  | .ptr o i j => match hp s.H o with
    | .live ob => match szT P t with
      | some n =>
        if (cellsA v).length = n ∧ (cellsA v).all isCell ∧ j + n ≤ ob.sz ∧ (ob.row = true ∨ ob.n = 1) then
          some ⟨true, undefA, s.H.set o (.live (setRow ob i ((ob.get i).take j ++ cellsA v ++ (ob.get i).drop (j + n))))⟩
        else if (cellsA v).length = n ∧ (cellsA v).all isCell ∧ i = 0 ∧ j = 0 ∧ n = ob.n * ob.sz then
          match newOb P ob.ty (cellsA v) with
          | some ob' => match Nat.beq ob'.n ob.n && Nat.beq ob'.sz ob.sz with
            | true => some ⟨true, undefA, s.H.set o (.live ob')⟩
            | false => none
          | none => none
        else none
      | none => none
    | _ => none
  | _ => none
def fieldAddrE (P : Program) (s : St) (t : TypeId) (a : AV) (f : Nat) : Option Eff :=
  match P.underlying t with
  | some (.struct fs) => match fs[f]? with
    | some g => match szT P g.type with
      | some n => if n = 0 then none else match a with
        | .ptr o i j => mkE s (.ptr o i (j + g.offset))
        | .rp cs j => mkE s (.rp cs (j + g.offset))
        | _ => none
      | none => none
    | none => none
  | _ => none
def partA (P : Program) (t : TypeId) (cs : List AV) (off : Nat) : Option AV :=
  match aggT P t, szT P t with
  | some true, some n => some (.agg ((cs.drop off).take n))
  | some false, some _ => cs[off]?
  | _, _ => none
def fieldE (P : Program) (s : St) (t : TypeId) (a : AV) (f : Nat) : Option Eff :=
  match P.underlying t with
  | some (.struct fs) => match fs[f]? with
    | some g => match a with
      | .agg cs => match partA P g.type cs g.offset with
        | some v => mkE s v
        | none => none
      | _ => none
    | none => none
  | _ => none
def notTop : AV → Bool
  | .top => false
  | _ => true
def fillA (place : Nat → Option (Nat × Nat)) (cells : List AV) : List (Nat × AV) → Option (List AV)
  | [] => some cells
  | (i, v) :: rest => match place i with
    | none => none
    | some (off, size) =>
      if notTop v = true ∧ (cellsA v).length = size ∧ off + size ≤ cells.length then fillA place (cells.take off ++ cellsA v ++ cells.drop (off + size)) rest else none
def placesT (P : Program) (t : TypeId) : Option (Nat → Option (Nat × Nat)) :=
  match P.underlying t with
  | some (.array _ e) => match P.info? e with
    | some ie => some (fun i => some (i * ie.size, ie.size))
    | none => none
  | some (.struct fields) => match fields.toList.mapM (fun f => (P.info? f.type).map fun i => (f.offset, i.size)) with
    | some places => some (places.toArray[·]?)
    | none => none
  | _ => none
def buildE (P : Program) (s : St) (t : TypeId) (parts : List (Nat × AV)) : Option Eff :=
  match zeroT P t, placesT P t with
  | some z, some pl => match fillA pl z parts with
    | some cs => mkE s (.agg cs)
    | none => none
  | _, _ => none
def rowsFill (z : List AV) (sz : Nat) : List (List AV) → List (Nat × AV) → Option (List (List AV))
  | rs, [] => some rs
  | rs, (i, v) :: rest => if (cellsA v).length = sz ∧ i < rs.length ∧ (cellsA v).all isCell then rowsFill z sz (rs.set i (cellsA v)) rest else none
def buildSliceE (P : Program) (s : St) (pos : Nat) (t : TypeId) (len : Nat) (parts : List (Nat × AV)) : Option Eff :=
  match P.underlying t with
  | some (.slice e) => match szT P e, zeroT P e with
    | some sz, some z => if sz = 0 ∨ z.length ≠ sz ∨ 16777216 < len * sz then none else if len = 0 then (match parts with
      | [] => some ⟨true, .slc pos 0 none none, fresh s pos ⟨true, e, sz, 0, fun _ => z, none⟩⟩
      | _ => none) else
      match rowsFill z sz (List.replicate len z) parts with
      | some rs => some ⟨true, .slc pos 0 none (some len), fresh s pos ⟨true, e, sz, len, fun i => rs.getD i z, some len⟩⟩
      | none => none
    | _, _ => none
  | _ => none

/-- A slice as a row that may be read: its length, its elements. -/
def rowOf (s : St) : AV → Option (Nat × Nat × Nat × (Nat → List AV) × Option Nat)
  | .slc o lo n _ => match hp s.H o with
    | .live ob => some (ob.ty, ob.sz, (slcLen n ob.n lo), (fun i => ob.get (i + lo)), if lo = 0 ∧ n = none then ob.lit else none)
    | _ => none
  | .lst sz n _ get => some (0, sz, n, get, none)
  | _ => none
def lenE (P : Program) (s : St) (t : TypeId) (a : AV) : Option Eff :=
  match a with
  | .val v => match pureOf P (Builtin.len_ #[t] 0 #[v]) with
    | some r => mkE s (ofV r)
    | none => none
  | a => match P.underlying t with
    | some (.slice _) => match rowOf s a with
      | some (_, _, n, _, _) => mkE s (.val (.int .i64 (n : Int)))
      | none => none
    | some (.array n _) => mkE s (.val (.int .i64 (n : Int)))
    | _ => none
def indexAddrE (P : Program) (s : St) (t : TypeId) (a ix : AV) : Option Eff :=
  match ix with
  | .val (.int _ x) => match P.underlying t with
    | some (.slice e) => match szT P e, a with
      | some sz, .slc o lo n _ => match hp s.H o with
        | .live ob => if sz = ob.sz ∧ sz ≠ 0 then some ⟨decide (0 ≤ x) && decide (x < (slcLen n ob.n lo : Int)), .ptr o (x.toNat + lo) 0, s.H⟩ else none
        | _ => none
      | some sz, .lst sz' n _ get => if sz = sz' ∧ sz ≠ 0 then some ⟨decide (0 ≤ x) && decide (x < (n : Int)), .rp (get x.toNat) 0, s.H⟩ else none
      | _, _ => none
    | some (.array len e) => match szT P e, a with
      | some sz, .ptr o 0 0 => match hp s.H o with
        | .live ob => if ob.row ∧ sz = ob.sz ∧ len = ob.n ∧ sz ≠ 0 then some ⟨decide (0 ≤ x) && decide (x < (len : Int)), .ptr o x.toNat 0, s.H⟩ else none
        | _ => none
      | _, _ => none
    | _ => none
  | _ => none
def indexE (P : Program) (s : St) (t : TypeId) (a ix : AV) : Option Eff :=
  match ix with
  | .val (.int _ x) => match P.underlying t, a with
    | some .string, .val (.string b) => some ⟨decide (0 ≤ x) && decide (x < (b.size : Int)), .val (.int .u8 ((b.data.getD x.toNat 0).toNat : Nat)), s.H⟩
    | some (.array len e), .agg (.val (.int k n0) :: cs) => match szT P e, aggT P e, intsOf k (.val (.int k n0) :: cs) with
      | some 1, some false, some ns => if ns.length = len then some ⟨decide (0 ≤ x) && decide (x < (len : Int)), .val (.int k (ns.getD x.toNat 0)), s.H⟩ else none
      | some sz, some true, _ => if (cs.length + 1) = len * sz then some ⟨decide (0 ≤ x) && decide (x < (len : Int)), .agg (((.val (.int k n0) :: cs).drop (x.toNat * sz)).take sz), s.H⟩ else none
      | _, _, _ => none
    | _, _ => none
  | _ => none
def appRows (g : Nat → List AV) (n : Nat) : List (List AV) → (Nat → List AV)
  | [] => g
  | r :: rs => appRows (fun i => if i = n then r else g i) (n + 1) rs
def appGet (n : Nat) (g : Nat → List AV) (h : Nat → List AV) : Option Nat → (Nat → List AV)
  | some k => appRows g n ((List.range k).map h)
  | none => fun i => if i < n then g i else h (i - n)
/-- Is a length that stands in the text the right one? -/
def litOk (m : Nat) : Option Nat → Bool
  | some k => Nat.beq k m
  | none => true
def appendE (P : Program) (s : St) (pos : Nat) (ts : Array TypeId) (a b : AV) : Option Eff :=
  match ts[0]? with
  | some t => if ts[1]? = some t then match P.underlying t with
    | some (.slice e) => match P.info? e, zeroT P e with
      | some inf, some z => if inf.size = 0 ∨ inf.bytes = 0 ∨ z.length ≠ inf.size then none else
        match rowOf s b with
        | some (_, sz2, m, g2, lit2) => if sz2 = inf.size ∧ litOk m lit2 = true then match a with
          | .val (.slice none 0 0) => some ⟨decide (m * inf.bytes ≤ 140737488355328), .slc pos 0 none none, fresh s pos ⟨true, e, inf.size, m, appGet 0 (fun _ => z) g2 lit2, none⟩⟩
          | .slc o 0 none cap => match hp s.H o with
            | .live ob => if ob.ty = e ∧ ob.sz = inf.size ∧ ob.row then
                some ⟨decide ((ob.n + m) * inf.bytes ≤ 140737488355328), .slc pos 0 none none, fresh ⟨s.tmps, s.H.set o .dead⟩ pos ⟨true, e, inf.size, ob.n + m, appGet ob.n ob.get g2 lit2, none⟩⟩ else none
            | _ => none
          | .lst sz n (some c) g => if sz = inf.size then
              some ⟨decide (c ≤ n) && (decide (0 < m) && decide ((n + m) * inf.bytes ≤ 140737488355328)), .slc pos 0 none none, fresh s pos ⟨true, e, inf.size, n + m, appGet n g g2 lit2, none⟩⟩ else none
          | _ => none
          else none
        | none => match b with
          | .val (.slice _ 0 _) => match a with
            | .val (.slice none 0 0) => mkE s a
            | .slc _ _ _ _ => mkE s a
            | _ => none
          | _ => none
      | _, _ => none
    | _ => none
    else none
  | none => none
def optI (s : St) : Option Operand → Option (Option Int)
  | none => some none
  | some x => match s.op x with
    | .val (.int _ n) => some (some n)
    | _ => none
def sliceE (P : Program) (s : St) (t : TypeId) (a : AV) (lo hi mx : Option Int) : Option Eff :=
  match P.underlying t with
  | some .string => match a, mx with
    | .val (.string b), none => match lo, hi with
      | some l, none => some ⟨decide (0 ≤ l) && decide (l ≤ (b.size : Int)), .val (.string (b.extract l.toNat b.size)), s.H⟩
      | none, some h => some ⟨decide (0 ≤ h) && decide (h ≤ (b.size : Int)), .val (.string (b.extract 0 h.toNat)), s.H⟩
      | some l, some h => some ⟨decide (0 ≤ h) && decide (h ≤ (b.size : Int)) && (decide (0 ≤ l) && decide (l ≤ h)), .val (.string (b.extract l.toNat h.toNat)), s.H⟩
      | none, none => mkE s a
    | _, _ => none
  | some (.slice e) => match szT P e, a with
    | some sz, .lst sz' n cap get => if sz = sz' then match lo, hi, mx with
      | some l, none, none => some ⟨decide (0 ≤ l) && decide (l ≤ (n : Int)), .lst sz (n - l.toNat) (match cap with | some c => some (c - l.toNat) | none => none) (fun i => get (l.toNat + i)), s.H⟩
      | none, some h, none => some ⟨decide (0 ≤ h) && decide (h ≤ (n : Int)), .lst sz h.toNat cap get, s.H⟩
      | none, some h, some m => some ⟨decide (0 ≤ h) && decide (h ≤ m) && decide (m ≤ (n : Int)), .lst sz h.toNat (some m.toNat) get, s.H⟩
      | _, _, _ => none else none
    | some sz, .slc o 0 n cap => match hp s.H o with
      | .live ob => if sz = ob.sz then match lo, hi, mx with
        | none, some h, none => some ⟨decide (0 ≤ h) && decide (h ≤ (slcLen n ob.n 0 : Int)), .slc o 0 (some h.toNat) cap, s.H⟩
        | some l, none, none => match n with
          | none => some ⟨decide (0 ≤ l) && decide (l < (ob.n : Int)), .slc o l.toNat none none, s.H⟩
          | some _ => none
        | _, _, _ => none else none
      | _ => none
    | _, _ => none
  | some (.array len e) => match szT P e, a with
    | some sz, .ptr o 0 0 => match hp s.H o with
      | .live ob => if ob.row ∧ sz = ob.sz ∧ len = ob.n ∧ sz ≠ 0 then match lo, hi, mx with
        | none, none, none => mkE s (.slc o 0 none none)
        | _, _, _ => none else none
      | _ => none
    | _, _ => none
  | _ => none
def eqFs (P : Program) (rec : TypeId → AV → AV → Option Bool) (xs ys : List AV) : List Field → Option Bool
  | [] => some true
  | f :: r => if f.name = "_" then none else match partA P f.type xs f.offset, partA P f.type ys f.offset with
    | some a, some b => match rec f.type a b, eqFs P rec xs ys r with
      | some x, some y => some (x && y)
      | _, _ => none
    | _, _ => none
/-- Are two values the same? 'd': how deep a type is looked into. -/
def eqA (P : Program) : Nat → TypeId → AV → AV → Option Bool
  | 0, _, _, _ => none
  | d + 1, t, a, b => match a, b with
    | .val (.bool x), .val (.bool y) => match P.underlying t with
      | some .bool => some (x == y)
      | _ => none
    | .val (.int k x), .val (.int k' y) => match P.underlying t with
      | some (.int _) => if k = k' then some (x == y) else none
      | _ => none
    | .val (.string x), .val (.string y) => match P.underlying t with
      | some .string => some (x.toList == y.toList)
      | _ => none
    | .agg xs, .agg ys => match P.underlying t with
      | some (.struct fs) => match P.stoodInHeld t with
        | true => none
        | false => eqFs P (eqA P d) xs ys fs.toList
      | _ => none
    | _, _ => none
def binE (P : Program) (s : St) (op : BinOp) (t : TypeId) (x y : Operand) (a b : AV) : Option Eff :=
  match a, b with
  | .val (.int k n), .val (.int k' m) => match op with
    | .quo => if k = k' then some ⟨decide (m ≠ 0), .val (.int k (k.wrap (n.tdiv m))), s.H⟩ else none
    | .rem => if k = k' then some ⟨decide (m ≠ 0), .val (.int k (n.tmod m)), s.H⟩ else none
    | .shl => some ⟨decide (0 ≤ m), .val (.int k (k.wrap (n * 2 ^ min m.toNat k.bits))), s.H⟩
    | .shr => some ⟨decide (0 ≤ m), .val (.int k (n.fdiv (2 ^ min m.toNat k.bits))), s.H⟩
    | _ => match pureOf P (binOp op t (.int k n) (.int k' m)) with
      | some r => mkE s (ofV r)
      | none => none
  | .val (.string v), .val (.string u) => match op with
    | .add => some ⟨decide (v.size + u.size ≤ 9223372036854775807), .val (.string (v ++ u)), s.H⟩
    | _ => match pureOf P (do eqGuard op t x y (.string v) (.string u); binOp op t (.string v) (.string u)) with
      | some r => mkE s (ofV r)
      | none => none
  | .val v, .val u => match pureOf P (do eqGuard op t x y v u; binOp op t v u) with
    | some r => mkE s (ofV r)
    | none => none
  | .agg xs, .agg ys => match P.eqGuardType P.depth t with
    | true => none
    | false => match op with
      | .eql => match eqA P 16 t (.agg xs) (.agg ys) with
        | some b => mkE s (.val (.bool b))
        | none => none
      | .neq => match eqA P 16 t (.agg xs) (.agg ys) with
        | some b => mkE s (.val (.bool (!b)))
        | none => none
      | _ => none
  | .lst _ n _ _, .val (.slice none 0 0) => match P.underlying t with
    | some (.slice _) => match op with
      | .eql => some ⟨decide (n ≠ 0), .val (.bool false), s.H⟩
      | .neq => some ⟨decide (n ≠ 0), .val (.bool true), s.H⟩
      | _ => none
    | _ => none
  | _, _ => none
def extE (s : St) (a : AV) (i : Nat) : Option Eff :=
  match a with
  | .tup vs => match vs[i]? with
    | some v => mkE s v
    | none => none
  | _ => none
def pureE (P : Program) (s : St) (f : List Value → Sem Value) (l : List AV) : Option Eff :=
  match valsV l with
  | some vs => match pureOf P (f vs) with
    | some r => mkE s (ofV r)
    | none => none
  | none => none
/-- Rows of one byte each. -/
noncomputable def u8ok (n : Nat) (g : Nat → List AV) : Bool := @decide (∀ i, i < n → ∃ x : Int, g i = [.val (.int .u8 x)]) (Classical.propDecidable _)
def u8At : List AV → UInt8
  | [.val (.int _ x)] => UInt8.ofNat x.toNat
  | _ => 0
/-- The string of these bytes. -/
def strOf (n : Nat) (g : Nat → List AV) : ByteArray := ⟨((List.range n).map fun i => u8At (g i)).toArray⟩
noncomputable def strE (P : Program) (s : St) (src dst : TypeId) (a : AV) : Option Eff :=
  match P.underlying src, P.underlying dst with
  | some (.slice e), some .string => match P.underlying e, rowOf s a with
    | some (.int .u8), some (_, _, n, g, _) => some ⟨u8ok n g, .val (.string (strOf n g)), s.H⟩
    | _, _ => none
  | _, _ => none
noncomputable def convE (P : Program) (s : St) (pos : Nat) (src dst : TypeId) (a : AV) : Option Eff :=
  match a with
  | .val (.string b) => match P.underlying src, P.underlying dst with
    | some .string, some (.slice e) => match P.underlying e with
      | some (.int .u8) => some ⟨true, .slc pos 0 none none, fresh s pos ⟨true, e, 1, b.size, fun i => [.val (.int .u8 ((b.data.getD i 0).toNat : Nat))], none⟩⟩
      | _ => none
    | _, _ => pureE P s (fun l => convert src dst (l.getD 0 undef)) [a]
  | .slc _ _ _ _ => strE P s src dst a
  | .lst _ _ _ _ => strE P s src dst a
  | _ => pureE P s (fun l => convert src dst (l.getD 0 undef)) [a]
def nilE (s : St) (a : AV) : Option Eff :=
  match a with
  | .ptr _ _ _ | .rp _ _ | .fn _ _ => mkE s a
  | _ => none

/-- The rows of a list from one on become zero. -/
def clearE (P : Program) (s : St) (t : TypeId) (a : AV) : Option Eff :=
  match P.underlying t with
  | some (.slice e) => match a, szT P e, zeroT P e with
    | .slc o lo none _, some sz, some z => match hp s.H o with
      | .live ob => if ob.sz = sz ∧ z.length = sz ∧ ob.row = true then
          some ⟨true, undefA, s.H.set o (.live { ob with get := fun i => if i < lo then ob.get i else z })⟩ else none
      | _ => none
    | _, _, _ => none
  | _ => none
/-- Every operation but a call of a function. -/
noncomputable def opf (P : Program) (s : St) (pos : Nat) (o : Oper) : Option Eff :=
  match o.op with
  | .move x | .assign x => mkE s (s.op x)
  | .pick c a b => match s.op c with
    | .val (.bool x) => mkE s (match x with | true => s.op a | false => s.op b)
    | _ => none
  | .alloc t => allocE P s pos t
  | .box t v => boxE P s pos t (s.op v)
  | .build t ps => buildE P s t (ps.toList.map fun p => (p.1, s.op p.2))
  | .buildSlice t n ps => buildSliceE P s pos t n (ps.toList.map fun p => (p.1, s.op p.2))
  | .load t a => loadE P s t (s.op a)
  | .store t a v => storeE P s t (s.op a) (s.op v)
  | .nilCheck x => nilE s (s.op x)
  | .binOp op t x y _ => binE P s op t x y (s.op x) (s.op y)
  | .unOp op _ x => pureE P s (fun l => Op.unary op (l.getD 0 undef)) [s.op x]
  | .convert src dst x => convE P s pos src dst (s.op x)
  | .fieldAddr t x f => fieldAddrE P s t (s.op x) f
  | .field t x f => fieldE P s t (s.op x) f
  | .indexAddr t x i => indexAddrE P s t (s.op x) (s.op i)
  | .index t x i => indexE P s t (s.op x) (s.op i)
  | .slice t x lo hi mx => match optI s lo, optI s hi, optI s mx with
    | some lo, some hi, some mx => sliceE P s t (s.op x) lo hi mx
    | _, _, _ => none
  | .extract t i => extE s (s.op t) i
  | .makeFunc (.func f) first caps => if first.size = 0 then mkE s (.fn f (caps.toList.map s.op)) else none
  | .call { callee := .builtin b, args, argTypes } => match b, args.toList with
    | .len, [x] => match argTypes[0]? with
      | some t => lenE P s t (s.op x)
      | none => none
    | .append, [x, y] => appendE P s pos argTypes (s.op x) (s.op y)
    | .clear, [x] => match argTypes[0]? with
      | some t => clearE P s t (s.op x)
      | none => none
    | .max, l => pureE P s (fun vs => Builtin.max_ #[] 0 vs.toArray) (l.map s.op)
    | .min, l => pureE P s (fun vs => Builtin.min_ #[] 0 vs.toArray) (l.map s.op)
    | _, _ => none
  | _ => none

/-! ### Objects become fixed -/
mutual
def clo : AV → AV
  | .slc _ _ _ _ => .top
  | .ptr _ _ _ => .top
  | .agg cs => .agg (cloL cs)
  | .tup cs => .tup (cloL cs)
  | .fn f cs => .fn f (cloL cs)
  | .val v => .val v
  | .rp cs j => .rp cs j
  | .lst sz n cap get => .lst sz n cap get
  | .mp _ => .top
  | .itr _ => .top
  | .top => .top
def cloL : List AV → List AV
  | [] => []
  | a :: r => clo a :: cloL r
end
mutual
def frz (o : Nat) (ob : Ob) : AV → AV
  | .slc o' lo n cap => if o' = o then .lst ob.sz (slcLen n ob.n lo) cap (fun i => cloL (ob.get (i + lo))) else .slc o' lo n cap
  | .ptr o' i j => if o' = o then .rp (cloL (ob.get i)) j else .ptr o' i j
  | .agg cs => .agg (frzC o ob cs)
  | .tup cs => .tup (frzC o ob cs)
  | .fn f cs => .fn f (frzC o ob cs)
  | .val v => .val v
  | .rp cs j => .rp cs j
  | .lst sz n cap get => .lst sz n cap get
  | .mp o' => .mp o'
  | .itr o' => .itr o'
  | .top => .top
def frzC (o : Nat) (ob : Ob) : List AV → List AV
  | [] => []
  | a :: r => frz o ob a :: frzC o ob r
end
/-- An array of maps is marked. -/
def mapLit : Option Nat → Bool
  | some k => Nat.beq k 1000000
  | none => false
def mapRow (f : Nat → Option Nat) : List AV → Bool
  | [.mp o] => match f o with
    | some o' => Nat.beq o' o
    | none => false
  | _ => false
def mapRows (f : Nat → Option Nat) (get : Nat → List AV) : Nat → Bool
  | 0 => true
  | n + 1 => mapRow f (get n) && mapRows f get n
def frzGet (o : Nat) (ob x : Ob) : Nat → List AV := match mapLit x.lit with
  | true => match mapRows some x.get x.n with
    | true => x.get
    | false => fun i => frzC o ob (x.get i)
  | false => fun i => frzC o ob (x.get i)
def frzEnt (o : Nat) (ob : Ob) : Ent → Ent
  | .live x => .live { x with get := frzGet o ob x }
  | e => e
def St.frz (s : St) (o : Nat) : St :=
  match hp s.H o with
  | .live ob => ⟨frzC o ob s.tmps, (s.H.set o .dead).map (frzEnt o ob)⟩
  | _ => s
/-- The objects that a function value has captured. -/
def capI : List AV → List Nat
  | [] => []
  | .ptr o _ _ :: r => o :: capI r
  | _ :: r => capI r
/-! The slices that a value names, and what it has captured. -/
mutual
def idsOf : AV → List Nat
  | .slc o _ _ _ => [o]
  | .ptr _ _ _ => []
  | .agg cs => idsL cs
  | .tup cs => idsL cs
  | .fn _ cs => capI cs
  | .val _ => []
  | .rp _ _ => []
  | .lst _ _ _ _ => []
  | .mp _ => []
  | .itr _ => []
  | .top => []
def idsL : List AV → List Nat
  | [] => []
  | a :: r => idsOf a ++ idsL r
end
def St.frzL (s : St) : List Nat → St
  | [] => s
  | o :: r => (s.frz o).frzL r

/-- A function that is gone into where it is called: what it gives, and the table behind it. -/
structure Inl where
  run : {R : Type} → List AV → List Ent → (AV → List Ent → Option R) → Option R
/-- What is known of a function that is handed, first, a list of the caller's own (with elements of type 'ty'), which is the caller's no more behind the call; its result holds a list that is the caller's own. -/
structure Tk where
  A : Type
  R : Type
  ty : TypeId
  dec : List AV → Option A
  f : A → Option R
  enc : R → AV
  ob : R → Ob
/-- What is known of a function whose result holds lists of the caller's own: objects 0, 1, .. -/
structure Mo where
  A : Type
  R : Type
  dec : List AV → Option A
  f : A → Option R
  enc : R → AV
  obs : R → List Ob
/-- What is known of a function: 'f' tells what it gives, for values without objects. -/
structure Summ where
  A : Type
  R : Type
  dec : List AV → Option A
  f : A → Option R
  enc : R → AV
  /-- Is the first argument an object's address, its cells (of type 'ty') the first thing to decode? 'new': its cells behind the call. -/
  op : Bool := false
  ty : TypeId := 0
  new : R → List AV := fun _ => []
  /-- Does the result hold object 0, a list of rows that is the caller's own? 'ob': that list. -/
  own : Bool := false
  ob : R → Ob := fun _ => ⟨true, 0, 1, 0, fun _ => [], none⟩
  inl : Option Inl := none
  tk : Option Tk := none
  mo : Option Mo := none

inductive AExit where
  | normal
  | exit (id : Nat)
  | ret

/-- Where a slice's handle stands. -/
inductive Loc where
  | tmp (t : Nat)
  | cell (o i j : Nat)
/-- Rows of a type: those of an object that was written to are told by its values again. -/
structure RTy where
  β : Type
  enc : β → List AV
  dec : List AV → Option β
  z : β
  ok : ∀ {l : List AV} {x : β}, dec l = some x → ∀ {RO : RoMap} {vs : List Value}, (l.length = vs.length ∧ ∀ (k : Nat) c v, l[k]? = some c → vs[k]? = some v → VR (fun _ => none) RO noHp c v) →
    ((enc x).length = vs.length ∧ ∀ (k : Nat) c v, (enc x)[k]? = some c → vs[k]? = some v → VR (fun _ => none) RO noHp c v)
structure LHint where
  mat : List (Loc × TypeId) := []
  live : List Nat := []
  ren : List (Loc × Nat) := []
  unroll : Bool := false
  frz : List Nat := []
  lst : List (Loc × TypeId) := []
  rt : Option (Nat → Option RTy) := none
  /-- Where ways meet: behind a region of that number, or ('bk') behind the block: how many objects there are to be, which of them are kept, which temporaries are. -/
  rk : List (Nat × Nat × List Nat × List Nat) := []
  bk : List (Nat × Nat × List Nat × List Nat) := []
  /-- The lists that are closed at a turn's end. -/
  cfr : List Nat := []
  /-- From which state on the loop is gone through turn by turn. -/
  peel : Option (St → Option Bool) := none
  /-- Hints for a function's operations (they stand at number 1000000): is there any? what a load gives (by the temporary; none: nothing is gone on with); what is closed ahead of an operation; which objects a list's rows name. -/
  xt : Bool := false
  told : List (Nat × Option AV) := []
  pre : List (Nat × List Nat) := []
  deep : List (Nat × List Nat) := []
  /-- An operation (by its temporary) that nothing is gone on with if that object is there. -/
  stop : List (Nat × Nat) := []

structure Ctx where
  P : Program
  sums : Nat → Option Summ
  hint : Nat → LHint
  /-- Where ways meet nothing is gone on with as long as this is not known. -/
  gate : Bool := true

def calleeOf (s : St) (o : Oper) : Option (FuncId × List AV × List Operand) :=
  match o.op with
  | .call { callee := .value f, args, .. } => match s.op f with
    | .fn g caps => some (g, caps, args.toList)
    | _ => none
  | _ => none

mutual
def ren (f : Nat → Option Nat) : AV → AV
  | .slc o lo n _ => match f o with
    | some o => .slc o lo n none
    | none => .top
  | .ptr o i j => match f o with
    | some o => .ptr o i j
    | none => .top
  | .agg cs => .agg (renL f cs)
  | .tup cs => .tup (renL f cs)
  | .fn g cs => .fn g (renL f cs)
  | .val v => .val v
  | .rp cs j => .rp cs j
  | .lst sz n cap get => .lst sz n cap get
  | .mp o => match f o with
    | some o => .mp o
    | none => .top
  | .itr o => match f o with
    | some o => .itr o
    | none => .top
  | .top => .top
def renL (f : Nat → Option Nat) : List AV → List AV
  | [] => []
  | a :: r => ren f a :: renL f r
end
def renOb (f : Nat → Option Nat) (ob : Ob) : Ob := { ob with get := fun i => renL f (ob.get i), lit := none }
/-- New numbers, from n0 on. -/
def shF (n0 k o : Nat) : Option Nat := match Nat.blt o k with
  | true => some (n0 + o)
  | false => none
/-- Objects from number k on. -/
def setL : Nat → List Ob → List Ent → List Ent
  | _, [], H => H
  | k, ob :: r, H => setL (k + 1) r (H.set k (.live ob))
def findN {α : Type} : List (Nat × α) → Nat → Option α
  | [], _ => none
  | (k, a) :: r, x => match Nat.beq k x with
    | true => some a
    | false => findN r x
/-- Object 0 is to lie there. -/
def toPos (pos : Nat) : Nat → Option Nat
  | 0 => some pos
  | _ => none
mutual
/-- No reference to anything. -/
def plainA : AV → Bool
  | .val _ => true
  | .agg cs => plainL cs
  | .tup cs => plainL cs
  | _ => false
def plainL : List AV → Bool
  | [] => true
  | a :: r => plainA a && plainL r
end
/-- All cells of an object. -/
def flatO (ob : Ob) : List AV := match ob.row with
  | true => (List.range ob.n).flatMap ob.get
  | false => ob.get 0
/-- A call that is handed an object's address: which object, and what the summary is told. -/
def openE (s : St) (S : Summ) (caps : List AV) : List AV → Option (Nat × S.A)
  | .ptr o 0 0 :: rest => match caps with
    | [] => match idsL rest with
      | [] => match hp s.H o with
        | .live ob => match Nat.beq ob.ty S.ty && Nat.beq (flatO ob).length (ob.n * ob.sz) with
          | true => match S.dec (.agg (cloL (flatO ob)) :: cloL rest) with
            | some a => some (o, a)
            | none => none
          | false => none
        | _ => none
      | _ => none
    | _ => none
  | _ => none
/-- The table behind it. -/
def openH (P : Program) (s : St) (S : Summ) (q : Nat) (r : S.R) : Option (List Ent) :=
  match hp s.H q with
  | .live ob => match newOb P ob.ty (S.new r) with
    | some ob' => match Nat.beq ob'.n ob.n && Nat.beq ob'.sz ob.sz with
      | true => some (s.H.set q (.live ob'))
      | false => none
    | none => none
  | _ => none
/-! ### Maps with whole numbers as keys -/
def zeroIs : Option Nat → Value → Bool
  | none, .int .i64 a => a == 0
  | some n, .agg vs => Nat.beq vs.size n && vs.toList.all fun v => match v with
    | .int .i64 a => a == 0
    | _ => false
  | _, _ => false
def enOfE (P : Program) (e : TypeId) : Option (Option Nat) := match P.underlying e with
  | some (.int .i64) => some none
  | some (.array n e') => match P.underlying e' with
    | some (.int .i64) => some (some n)
    | _ => none
  | _ => none
/-- What such a map holds. 'none': whole numbers, 'some n': arrays of n of them. -/
def enOf (P : Program) (t : TypeId) : Option (Option Nat) := match P.underlying t with
  | some (.map k e) => match P.underlying k with
    | some (.int .i64) => match enOfE P e with
      | some en => match P.info? e with
        | some i => match i.zero with
          | some z => match zeroIs en z with
            | true => some en
            | false => none
          | none => none
        | none => none
      | none => none
    | _ => none
  | _ => none
def eqEn : Option Nat → Option Nat → Bool
  | none, none => true
  | some a, some b => Nat.beq a b
  | _, _ => false
def zeroC : Option Nat → List AV
  | none => [.val (.int .i64 0)]
  | some n => List.replicate n (.val (.int .i64 0))
def memI : List Int → Int → Bool
  | [], _ => false
  | a :: r, k => a == k || memI r k
def putI (ks : List Int) (k : Int) : List Int := bif memI ks k then ks else ks ++ [k]
def delI (ks : List Int) (k : Int) : List Int := ks.filter fun a => !(a == k)
/-- The cells of what is put. -/
def cellsEn : Option Nat → AV → Option (List AV)
  | none, .val v => some [.val v]
  | some n, .agg cs => match Nat.beq cs.length n && plainL cs with
    | true => some cs
    | false => none
  | _, _ => none
/-- Walks over map q, behind a put: none is known any more; behind a removal: without the key. -/
def walksOff (q : Nat) : Ent → Ent
  | .iter m left => match Nat.beq m q with
    | true => .dead
    | false => .iter m left
  | e => e
def walksDel (q : Nat) (k : Int) : Ent → Ent
  | .iter m left => match Nat.beq m q with
    | true => .iter m ⟨delI left.l k, none⟩
    | false => .iter m left
  | e => e
def mapE (P : Program) (s : St) (o : Oper) : Option Eff := match o.op with
  | .makeMap t none => match enOf P t with
    | some en => some ⟨true, .mp s.H.length, s.H ++ [.mapd en [] fun _ => zeroC en]⟩
    | none => none
  | .lookup t m x ok => match s.op m with
    | .mp q => match s.op x with
      | .val (.int .i64 k) => match hp s.H q with
        | .mapd en ks get => match enOf P t with
          | some en' => match eqEn en en' with
            | true => match ok with
              | true => some ⟨true, .tup [packV en.isSome (get k), .val (.bool (memI ks k))], s.H⟩
              | false => some ⟨true, packV en.isSome (get k), s.H⟩
            | false => none
          | none => none
        | _ => none
      | _ => none
    | _ => none
  | .mapUpdate t m x v => match s.op m with
    | .mp q => match s.op x with
      | .val (.int .i64 k) => match hp s.H q with
        | .mapd en ks get => match enOf P t with
          | some en' => match eqEn en en' with
            | true => match cellsEn en (s.op v) with
              | some cs => some ⟨true, undefA, (s.H.set q (.mapd en (putI ks k) fun j => bif j == k then cs else get j)).map (walksOff q)⟩
              | none => none
            | false => none
          | none => none
        | _ => none
      | _ => none
    | _ => none
  | .range t m => match s.op m with
    | .mp q => match hp s.H q with
      | .mapd en ks get => match enOf P t with
        | some en' => match eqEn en en' with
          | true => some ⟨true, .itr s.H.length, s.H ++ [.iter q ⟨ks, none⟩]⟩
          | false => none
        | none => none
      | _ => none
    | _ => none
  | .entry it => match s.op it with
    | .itr q => match hp s.H q with
      | .iter m left => match hp s.H m with
        | .mapd en _ get => match left.cur with
          | some k => some ⟨true, .tup [.val (.int .i64 k), packV en.isSome (get k)], s.H⟩
          | none => none
        | _ => none
      | _ => none
    | _ => none
  | .call { callee := .builtin .delete, args, argTypes } => match args.toList, argTypes.toList with
    | [m, x], [t, _] => match s.op m with
      | .mp q => match s.op x with
        | .val (.int .i64 k) => match hp s.H q with
          | .mapd en ks get => match enOf P t with
            | some en' => match eqEn en en' with
              | true => some ⟨true, .tup [], (s.H.set q (.mapd en (delI ks k) fun j => bif j == k then zeroC en else get j)).map (walksDel q k)⟩
              | false => none
            | none => none
          | _ => none
        | _ => none
      | _ => none
    | _, _ => none
  | .call { callee := .builtin .len, args, argTypes } => match args.toList, argTypes.toList with
    | [m], [t] => match s.op m with
      | .mp q => match hp s.H q with
        | .mapd en ks get => match enOf P t with
          | some en' => match eqEn en en' with
            | true => some ⟨true, .val (.int .i64 ks.length), s.H⟩
            | false => none
          | none => none
        | _ => none
      | _ => none
    | _, _ => none
  | _ => none
/-- A walk's step: which walk, over which map, what is left. -/
def nextOf (s : St) (o : Oper) : Option (Nat × Nat × Option Nat × Lf × (Int → List AV)) := match o.op with
  | .next it false => match s.op it with
    | .itr q => match hp s.H q with
      | .iter m left => match hp s.H m with
        | .mapd en _ get => some (q, m, en, left, get)
        | _ => none
      | _ => none
    | _ => none
  | _ => none
def nextS (s : St) (o : Oper) (q m : Nat) (en : Option Nat) (left : Lf) (get : Int → List AV) (k : Int) : St :=
  s.put o.dst (.tup [.val (.bool true), .val (.int .i64 k), packV en.isSome (get k)]) (s.H.set q (.iter m ⟨delI left.l k, some k⟩))
/-- What all keys that may come next lead to. -/
noncomputable def nextK {R : Type} (left : List Int) (f : Int → Option R) (z : Option R) : Option R := match left with
  | [] => z
  | a :: l => open Classical in if h : ∃ r, ∀ k ∈ a :: l, f k = some r then some (Classical.choose h) else none
/-- An element of an array of maps: which one is asked for by cases. -/
def splitOf (s : St) (o : Oper) : Option (TypeId × AV × Int × Nat) := match o.op with
  | .indexAddr t a ix => match s.op a with
    | .ptr q 0 0 => match s.op ix with
      | .val (.int .i64 x) => match hp s.H q with
        | .live ob => match ob.row, ob.get 0 with
          | true, [.mp _] => some (t, s.op a, x, ob.n)
          | _, _ => none
        | _ => none
      | _ => none
    | _ => none
  | _ => none
def splitK {R : Type} (x : Int) (f : Nat → Option R) : Nat → Nat → Option R
  | 0, _ => none
  | n + 1, j => bif x == (j : Int) then f j else splitK x f n (j + 1)
section
variable (Γ : Ctx) {R : Type}
/-- One operation. -/
noncomputable def evO (o : Oper) (pos : Nat) (s : St) (K : St → Option R) : Option R :=
  match calleeOf s o with
  | some (g, caps, args) =>
    let ids := idsL (args.map s.op ++ caps)
    let s1 := s.frzL ids
    match Γ.sums g with
    | some S => match S.op with
      | false => match S.dec (cloL (args.map s1.op ++ caps)) with
        | some a => (S.f a).bind fun r => match S.own with
          | true => K (s1.put o.dst (ren (toPos pos) (S.enc r)) (fresh s1 pos (S.ob r)))
          | false => match plainA (S.enc r) with
            | true => K (s.put o.dst (S.enc r) s.H)
            | false => K (s1.put o.dst (S.enc r) s1.H)
        | none => none
      | true => match openE s S caps (args.map s.op) with
        | some (q, a) => (S.f a).bind fun r => match openH Γ.P s S q r with
          | some H' => K (s.put o.dst (S.enc r) H')
          | none => none
        | none => none
    | none => none
  | none => match opf Γ.P s pos o with
    | some e => match e.ok with
      | true => K (s.put o.dst e.v e.H)
      | false => none
    | none => none
def inlOf (s : St) (o : Oper) : Option (Inl × List AV) :=
  match calleeOf s o with
  | some (g, caps, args) => match Γ.sums g with
    | some S => match S.inl with
      | some I => some (I, args.map s.op ++ caps)
      | none => none
    | none => none
  | none => none
/-- A call that is handed a list: the state without it, and what the summary is told. -/
def takeE (s : St) (T : Tk) (caps : List AV) : List Operand → Option (St × T.A)
  | x :: rest => match caps with
    | [] => match (s.frzL (idsL (rest.map s.op))).op x with
      | .slc q 0 none _ => match hp (s.frzL (idsL (rest.map s.op))).H q with
        | .live ob => match Nat.beq ob.ty T.ty && ob.row with
          | true => match T.dec (.lst ob.sz ob.n none (fun i => cloL (ob.get i)) :: cloL (rest.map (s.frzL (idsL (rest.map s.op))).op)) with
            | some a => some (⟨(s.frzL (idsL (rest.map s.op))).tmps, (s.frzL (idsL (rest.map s.op))).H.set q .dead⟩, a)
            | none => none
          | false => none
        | _ => none
      | _ => none
    | _ => none
  | _ => none
def takeOf (s : St) (o : Oper) : Option ((T : Tk) × (St × T.A)) :=
  match calleeOf s o with
  | some (g, caps, args) => match Γ.sums g with
    | some S => match S.tk with
      | some T => match takeE s T caps args with
        | some p => some ⟨T, p⟩
        | none => none
      | none => none
    | none => none
  | none => none
/-- The lists of an object that a call is to open. -/
def preOf (s : St) (o : Oper) : List Nat :=
  match calleeOf s o with
  | some (g, _, args) => match Γ.sums g with
    | some S => match S.op with
      | true => match args.map s.op with
        | .ptr q _ _ :: _ => match hp s.H q with
          | .live ob => idsL (flatO ob)
          | _ => []
        | _ => []
      | false => []
    | none => []
  | none => []
/-- One operation of a region in the order of the text. -/
noncomputable def evI0 (o : Oper) (s : St) (K : St → Option R) : Option R :=
  match inlOf Γ s o with
  | some (I, l) => I.run l s.H fun v H' => K (s.put o.dst v H')
  | none => match takeOf Γ s o with
    | some ⟨T, s2, a⟩ => (T.f a).bind fun r => K (s2.put o.dst (ren (toPos s2.H.length) (T.enc r)) (s2.H ++ [.live (T.ob r)]))
    | none => match mapE Γ.P s o with
      | some e => K (s.put o.dst e.v e.H)
      | none => match nextOf s o with
      | some (q, m, en, left, get) => nextK left.l (fun k => K (nextS s o q m en left get k)) (K (s.put o.dst (.tup [.val (.bool false)]) s.H))
      | none => match splitOf s o with
      | some (t, a, x, n) => splitK x (fun j => match indexAddrE Γ.P s t a (.val (.int .i64 (j : Int))) with
        | some e => match e.ok with
          | true => K (s.put o.dst e.v e.H)
          | false => none
        | none => none) n 0
      | none => evO Γ o s.H.length (s.frzL (preOf Γ s o)) K
/-- A load of what the hint tells. -/
noncomputable def toldE (s : St) (o : Oper) : Option Eff := match o.dst with
  | some d => match findN (Γ.hint 1000000).told d with
    | some c => match c with
      | none => some ⟨false, .top, s.H⟩
      | some c => match o.op with
        | .load t a => match s.op a with
          | .ptr q i j => match hp s.H q with
            | .live ob => match aggT Γ.P t, szT Γ.P t with
              | some false, some _ => some ⟨@decide ((ob.get i)[j]? = some c) (Classical.propDecidable _), c, s.H⟩
              | _, _ => none
            | _ => none
          | _ => none
        | _ => none
    | none => none
  | none => none
/-- These lists, and what their rows name, that first. -/
def deepL (d : List (Nat × List Nat)) : List Nat → List Nat
  | [] => []
  | o :: r => match findN d o with
    | some l => l ++ o :: deepL d r
    | none => o :: deepL d r
def isDeep (s : St) (o : Oper) : Bool := match calleeOf s o with
  | some (_, caps, args) => (idsL (args.map s.op ++ caps)).any fun q => (findN (Γ.hint 1000000).deep q).isSome
  | none => false
/-- A call with a plain result that lists are lent to whose rows name objects. -/
def evLentD (o : Oper) (s : St) (K : AV → Option R) : Option R := match calleeOf s o with
  | some (g, caps, args) => match Γ.sums g with
    | some S => match S.op || S.own with
      | true => none
      | false => match S.dec (cloL (args.map (s.frzL (deepL (Γ.hint 1000000).deep (idsL (args.map s.op ++ caps)))).op ++ caps)) with
        | some a => (S.f a).bind fun r => match plainA (S.enc r) with
          | true => K (S.enc r)
          | false => none
        | none => none
    | none => none
  | none => none
def preH (o : Oper) : List Nat := match o.dst with
  | some d => (findN (Γ.hint 1000000).pre d).getD []
  | none => []
def stopB (s : St) (o : Oper) : Bool := match o.dst with
  | some d => match findN (Γ.hint 1000000).stop d with
    | some q => match hp s.H q with
      | .live _ => true
      | _ => false
    | none => false
  | none => false
noncomputable def evI (o : Oper) (s : St) (K : St → Option R) : Option R := match (Γ.hint 1000000).xt with
  | false => evI0 Γ o s K
  | true => match stopB Γ s o with
    | true => none
    | false => match toldE Γ s o with
    | some e => match e.ok with
      | true => K (s.put o.dst e.v e.H)
      | false => none
    | none => match isDeep Γ s o with
      | true => evLentD Γ o s fun v => K (s.put o.dst v s.H)
      | false => evI0 Γ o (s.frzL (preH Γ o)) K
/-- The temporary of operation j holds this Bool. -/
def St.know (s : St) (ops : Array Oper) (j : Nat) (b : Bool) : St :=
  match ops[j]? with
  | some o => match o.dst with
    | some d => ⟨s.tmps.set d (.val (.bool b)), s.H⟩
    | none => s
  | none => s
def guardVal (s : St) (ops : Array Oper) (j : Nat) : Option (Option Bool) :=
  match ops[j]? with
  | some o => match o.dst with
    | some d => match s.tmps.getD d undefA with
      | .val (.bool b) => some (some b)
      | .top => none
      | _ => some none
    | none => some none
  | none => some none
/-- Operations in their order. -/
noncomputable def evL (ops : Array Oper) : List Oper → St → (St → Option R) → Option R
  | [], s, K => K s
  | o :: rest, s, K => match o.guard with
    | none => evI Γ o s fun s => evL ops rest s K
    | some (j, want) => match guardVal s ops j with
      | some (some b) => match want with
        | true => match b with
          | true => evI Γ o (s.know ops j true) fun s => evL ops rest s K
          | false => evL ops rest ((s.know ops j false).put o.dst undefA s.H) K
        | false => match b with
          | true => evL ops rest ((s.know ops j true).put o.dst undefA s.H) K
          | false => evI Γ o (s.know ops j false) fun s => evL ops rest s K
      | some none => evL ops rest (s.put o.dst undefA s.H) K
      | none => none
end
/-- Does it look at the table? -/
def touches : Op → Bool
  | .load .. | .store .. | .alloc _ | .box .. | .buildSlice .. | .indexAddr .. | .slice .. | .makeSlice .. | .convert .. => true
  | .call { callee := .builtin b, .. } => match b with
    | .max | .min => false
    | _ => true
  | .call _ => true
  | _ => false
/-- May it change what was there? -/
def writes : Op → Bool
  | .store .. => true
  | .call { callee := .builtin b, .. } => match b with
    | .max | .min | .len => false
    | _ => true
  | _ => false
/-- Everybody else that looks at the table comes surely before, or behind. -/
def serial (ops : List Oper) (bs : List Nat) (i : Nat) : Bool :=
  ops.zipIdx.all fun (o, j) => j == i || !touches o.op || (bs.getD i 0).testBit j || (bs.getD j 0).testBit i
/-- Everybody else does. -/
def serialAll (ops : List Oper) (bs : List Nat) (i : Nat) : Bool :=
  ops.zipIdx.all fun (_, j) => j == i || (bs.getD i 0).testBit j || (bs.getD j 0).testBit i
def maskE (base bits own : Nat) : Nat → List Ent → List Ent
  | _, [] => []
  | k, e :: r => (if k < base || bits.testBit ((k - base) / 4) || (k - base) / 4 == own then e else .dead) :: maskE base bits own (k + 1) r
/-- What comes surely before each operation: the edges, and what comes before their ends. -/
def bsOk (ops : List Oper) (bs : List Nat) : Bool :=
  (bs.all fun b => decide (b < 2 ^ ops.length)) && ops.zipIdx.all fun (o, j) => (List.range ops.length).all fun k =>
    !(bs.getD j 0).testBit k || o.after.toList.any fun e => Region.binds .any e && (e.on == k || (bs.getD e.on 0).testBit k)
def lexOk (ops : List Oper) : Bool :=
  ops.zipIdx.all fun (o, j) => o.after.toList.all fun e => !Region.binds .any e || decide (e.on < j)
def apartB (ops : Array Oper) (bs : List Nat) : Bool :=
  ops.toList.zipIdx.all fun (x, i) => ops.toList.zipIdx.all fun (y, j) => i == j || (bs.getD i 0).testBit j || (bs.getD j 0).testBit i || x.apart ops y
/-- No operation of the region assigns it. -/
def extT (ops : List Oper) (a : Tmp) : Bool := ops.all fun o => match o.dst with
  | some d => !Nat.beq d a
  | none => true
/-- The temporary from outside the region that an address is made of. -/
def rootT (ops : List Oper) : Nat → Operand → Option Tmp
  | 0, _ => none
  | n + 1, .tmp a => match extT ops a with
    | true => some a
    | false => match ops.find? (fun o => match o.dst with | some d => Nat.beq d a | none => false) with
      | some o => match o.op with
        | .fieldAddr _ x _ => rootT ops n x
        | .nilCheck x => rootT ops n x
        | .indexAddr _ x _ => rootT ops n x
        | _ => none
      | none => none
  | _, _ => none
/-- The objects that operations store to, which may come before number i as well as behind it. -/
def killL (ops : List Oper) (bs : List Nat) (i : Nat) (tmps : List AV) : List Nat :=
  ops.zipIdx.filterMap fun (o, j) => match j == i || (bs.getD i 0).testBit j || (bs.getD j 0).testBit i with
    | true => none
    | false => match o.op with
      | .store _ x _ => match rootT ops 4 x with
        | some a => match tmps.getD a undefA with
          | .ptr q _ _ => some q
          | _ => none
        | none => none
      | _ => none
def killE (base : Nat) : List Nat → List Ent → List Ent
  | [], H => H
  | q :: l, H => killE base l (if q < base then H.set q .dead else H)
/-- What operation number i sees of the table. -/
def viewE (ops : List Oper) (bs : List Nat) (base i : Nat) (tmps : List AV) (H : List Ent) : List Ent :=
  killE base (killL ops bs i tmps) (maskE base (bs.getD i 0) i 0 H)
/-- Is object q hidden from all others that may come before, or behind? -/
def apartOk (ops : List Oper) (bs : List Nat) (base i q : Nat) (tmps : List AV) : Bool :=
  ops.zipIdx.all fun (o, j) => j == i || !touches o.op || (bs.getD i 0).testBit j || (bs.getD j 0).testBit i ||
    (if q < base then (killL ops bs j tmps).contains q else !(bs.getD j 0).testBit ((q - base) / 4) && !((q - base) / 4 == j))
def storeTo : Op → Option Operand
  | .store _ x _ => some x
  | _ => none
/-- Which object an operation changes, if it is one, and hidden from all that may come before, or behind. -/
def placeOf (ops : List Oper) (bs : List Nat) (base i : Nat) (o : Oper) (s : St) : Option Nat :=
  match writes o.op with
  | false => some (base + 4 * i)
  | true => match storeTo o.op with
    | some x => match s.op x with
      | .ptr q _ _ => match apartOk ops bs base i q s.tmps with
        | true => some q
        | false => none
      | _ => none
    | none => none
def hasPtr : List AV → Bool
  | .ptr _ _ _ :: _ => true
  | _ => false
def freezes (s : St) (o : Oper) : Bool :=
  match calleeOf s o with
  | some (_, caps, args) => !(idsL (args.map s.op ++ caps)).isEmpty || hasPtr (args.map s.op)
  | none => false
section
variable (Γ : Ctx) {R : Type}
def liveAll (H : List Ent) : List Nat → Bool
  | [] => true
  | q :: l => match hp H q with
    | .live _ => liveAll H l
    | _ => false
/-- A call that lists are lent to, and that gives plain values. -/
def evLent (o : Oper) (s : St) (K : AV → Option R) : Option R :=
  match calleeOf s o with
  | some (g, caps, args) => match Γ.sums g with
    | some S => match S.op || S.own with
      | true => none
      | false => match liveAll s.H (idsL (args.map s.op ++ caps)) with
        | true => match S.dec (cloL (args.map (s.frzL (idsL (args.map s.op ++ caps))).op ++ caps)) with
          | some a => (S.f a).bind fun r => match plainA (S.enc r) with
            | true => K (S.enc r)
            | false => none
          | none => none
        | false => none
    | none => none
  | none => none
/-- A call whose result holds several lists of the caller's own. -/
def moOf (s : St) (o : Oper) : Option ((M : Mo) × M.A) := match freezes s o with
  | true => none
  | false => match calleeOf s o with
    | some (g, caps, args) => match Γ.sums g with
      | some S => match S.mo with
        | some M => match M.dec (cloL (args.map s.op ++ caps)) with
          | some x => some ⟨M, x⟩
          | none => none
        | none => none
      | none => none
    | none => none
/-- Operation number i of a region that draws its order; its objects: from base + 4 i on. -/
noncomputable def evDO (ops : List Oper) (bs : List Nat) (base i : Nat) (o : Oper) (s : St) (K : St → Option R) : Option R :=
  match moOf Γ s o with
  | some ⟨M, x⟩ => (M.f x).bind fun r => match Nat.ble (M.obs r).length 4 with
    | true => K (s.put o.dst (ren (shF (base + 4 * i) (M.obs r).length) (M.enc r)) (setL (base + 4 * i) ((M.obs r).map (renOb (shF (base + 4 * i) (M.obs r).length))) s.H))
    | false => none
  | none => match touches o.op with
  | false => evO Γ o (base + 4 * i) s K
  | true => match freezes s o with
    | true => match serialAll ops bs i with
      | true => evO Γ o (base + 4 * i) s K
      | false => evLent Γ o ⟨s.tmps, viewE ops bs base i s.tmps s.H⟩ fun v => K (s.put o.dst v s.H)
    | false => match writes o.op && serial ops bs i with
      | true => evO Γ o (base + 4 * i) s K
      | false => match placeOf ops bs base i o s with
        | some q => evO Γ o (base + 4 * i) ⟨s.tmps, viewE ops bs base i s.tmps s.H⟩ fun s' => K ⟨s'.tmps, s.H.set q (s'.H.getD q .free)⟩
        | none => none
noncomputable def evD (ops : Array Oper) (bs : List Nat) (base : Nat) : Nat → List Oper → St → (St → Option R) → Option R
  | _, [], s, K => K s
  | i, o :: rest, s, K => match o.guard with
    | none => evDO Γ ops.toList bs base i o s fun s => evD ops bs base (i + 1) rest s K
    | some (j, want) => match guardVal s ops j with
      | some (some b) => match want with
        | true => match b with
          | true => evDO Γ ops.toList bs base i o (s.know ops j true) fun s => evD ops bs base (i + 1) rest s K
          | false => evD ops bs base (i + 1) rest ((s.know ops j false).put o.dst undefA s.H) K
        | false => match b with
          | true => evD ops bs base (i + 1) rest ((s.know ops j true).put o.dst undefA s.H) K
          | false => evDO Γ ops.toList bs base i o (s.know ops j false) fun s => evD ops bs base (i + 1) rest s K
      | some none => evD ops bs base (i + 1) rest (s.put o.dst undefA s.H) K
      | none => none

/-! ### Loops: the state at the head -/
def Loc.get (s : St) : Loc → Option AV
  | .tmp t => s.tmps[t]?
  | .cell o i j => match hp s.H o with
    | .live ob => (ob.get i)[j]?
    | _ => none
def Loc.put (s : St) (v : AV) : Loc → St
  | .tmp t => ⟨s.tmps.set t v, s.H⟩
  | .cell o i j => match hp s.H o with
    | .live ob => if (ob.row = true ∨ ob.n = 1) ∧ i < ob.n then ⟨s.tmps, s.H.set o (.live (setRow ob i ((ob.get i).set j v)))⟩ else s
    | _ => s
/-- A nil slice becomes an object without elements. -/
def matS (P : Program) (s : St) : List (Loc × TypeId) → Option St
  | [] => some s
  | (l, e) :: r => match l.get s, szT P e, zeroT P e with
    | some (.val (.slice none 0 0)), some sz, some z => if sz = 0 then none else
      let s' := Loc.put s (.slc s.H.length 0 none none) l
      matS P ⟨s'.tmps, s'.H ++ [.live ⟨true, e, sz, 0, fun _ => z, none⟩]⟩ r
    | _, _, _ => none
/-- A nil slice is a list without elements. -/
def lstS (P : Program) (s : St) : List (Loc × TypeId) → Option St
  | [] => some s
  | (l, e) :: r => match l.get s, szT P e, zeroT P e with
    | some (.val (.slice none 0 0)), some sz, some z => lstS P (Loc.put s (.lst sz 0 none (fun _ => z)) l) r
    | _, _, _ => none
def renGet (f : Nat → Option Nat) (x : Ob) : Nat → List AV := match mapLit x.lit with
  | true => match mapRows f x.get x.n with
    | true => x.get
    | false => fun i => renL f (x.get i)
  | false => fun i => renL f (x.get i)
def renLit (l : Option Nat) : Option Nat := match mapLit l with
  | true => l
  | false => none
def renEnt (f : Nat → Option Nat) : Ent → Ent
  | .live x => .live { x with get := renGet f x, lit := renLit x.lit }
  | .iter m left => match f m with
    | some m' => .iter m' ⟨left.l, none⟩
    | none => .dead
  | e => e
def slcId : AV → Option Nat
  | .slc o _ _ _ => some o
  | _ => none
/-- The objects that are to have new numbers: (the old one, the new one). -/
def renPairs (s : St) : List (Loc × Nat) → Option (List (Nat × Nat))
  | [] => some []
  | (l, k) :: r => match l.get s with
    | some a => match slcId a, renPairs s r with
      | some o, some ps => some ((o, k) :: ps)
      | _, _ => none
    | none => none
def lookF (ps : List (Nat × Nat)) (n0 o : Nat) : Option Nat :=
  match ps with
  | [] => if o < n0 then some o else none
  | (a, k) :: r => if a = o then some k else if k = o then none else lookF r n0 o
def lookB (ps : List (Nat × Nat)) (k : Nat) : Nat :=
  match ps with
  | [] => k
  | (a, k') :: r => if k' = k then a else lookB r k
def keepL (live : List Nat) : Nat → List AV → List AV
  | _, [] => []
  | t, a :: r => (if live.contains t then a else .top) :: keepL live (t + 1) r
/-- The state as it stands at the loop's head. -/
def canon (h : LHint) (n0 : Nat) (s : St) : Option St :=
  match renPairs s h.ren with
  | some ps =>
    if (ps.map (·.1)).Nodup ∧ (ps.map (·.2)).Nodup ∧ ps.all (fun p => decide (p.2 < n0) && (p.1 == p.2 || decide (n0 ≤ p.1))) then
      some ⟨renL (lookF ps n0) (keepL h.live 0 s.tmps), (List.range n0).map fun k => renEnt (lookF ps n0) (s.H.getD (lookB ps k) .free)⟩
    else none
  | none => none
/-- A loop that is gone through turn by turn. -/
def evTurns (b : St → (AExit → St → Option R) → Option R) : Nat → St → (AExit → St → Option R) → Option R
  | 0, _, _ => none
  | k + 1, s, K => b s fun e s' => match e with
    | .normal => evTurns b k s' K
    | .exit i => K (.exit i) s'
    | .ret => K .ret s'
def peelB (h : LHint) (s : St) : Bool := match h.peel with
  | none => false
  | some f => (f s).getD false
def evLoop (h : LHint) (n0 : Nat) (b : St → (AExit → St → Option R) → Option R) : Nat → St → (AExit → St → Option R) → Option R
  | 0, _, _ => none
  | k + 1, s, K => match peelB h s with
    | true => evTurns b 2 s K
    | false => b s fun e s' => match e with
      | .normal => match canon h n0 (s'.frzL h.cfr) with
        | some s'' => evLoop h n0 b k s'' K
        | none => none
      | .exit i => K (.exit i) s'
      | .ret => K .ret s'
/-- Rows are told by their values again. -/
noncomputable def rowsD (T : RTy) (n : Nat) (g : Nat → List AV) : Option (Nat → T.β) :=
  open Classical in if ∀ i, i < n → ∃ x, T.dec (g i) = some x then some (fun i => (T.dec (g i)).getD T.z) else none
noncomputable def rtE {R : Type} (rt : Nat → Option RTy) : List Ent → (List Ent → Option R) → Option R
  | [], K => K []
  | .live ob :: r, K => match rt ob.ty with
    | some T => match ob.row with
      | true => (rowsD T ob.n (fun i => cloL (ob.get i))).bind fun y => rtE rt r fun l => K (.live { ob with get := fun i => T.enc (y i) } :: l)
      | false => rtE rt r fun l => K (.live ob :: l)
    | none => rtE rt r fun l => K (.live ob :: l)
  | e :: r, K => rtE rt r fun l => K (e :: l)
def hasStore : List Oper → Bool
  | [] => false
  | o :: r => match o.op with
    | .store .. => true
    | .call { callee := .builtin .append, .. } => true
    | _ => hasStore r
noncomputable def rtS {R : Type} (h : LHint) (ops : List Oper) (s : St) (K : St → Option R) : Option R := match h.rt with
  | none => K s
  | some rt => match hasStore ops with
    | true => rtE rt s.H fun H => K ⟨s.tmps, H⟩
    | false => K s
/-- Where ways meet, all states have one form. -/
def gateE {R : Type} (g : Bool) (x : Option R) : Option R := match g with
  | true => x
  | false => none
def jnS {R : Type} (g : Bool) (l : List (Nat × Nat × List Nat × List Nat)) (id : Nat) (s : St) (K : St → Option R) : Option R := match l with
  | [] => K s
  | (j, n, keep, live) :: r => match Nat.beq j id with
    | true => match Nat.ble s.H.length n with
      | true => gateE g (K ⟨keepL live 0 s.tmps, (List.range n).map fun k => match keep.contains k with
        | true => s.H.getD k .free
        | false => .dead⟩)
      | false => none
    | false => jnS g r id s K
/-- A function's code. 'blk': the block at hand, by which a loop's hint is found. -/
noncomputable def ev (k : Nat) : Code → Nat → St → (AExit → St → Option R) → Option R
  | .skip, _, s, K => K .normal s
  | .region id ops draw, blk, s, K => match draw with
    | false => evL Γ ops ops.toList s fun s => rtS (Γ.hint blk) ops.toList s fun s => jnS Γ.gate (Γ.hint blk).rk id s (K .normal)
    | true => match lexOk ops.toList && bsOk ops.toList (Region.before ops).toList && apartB ops (Region.before ops).toList with
      | true => evD Γ ops (Region.before ops).toList s.H.length 0 ops.toList ⟨s.tmps, s.H ++ List.replicate (4 * ops.size) .free⟩ fun s => rtS (Γ.hint blk) ops.toList s fun s => jnS Γ.gate (Γ.hint blk).rk id s (K .normal)
      | false => none
  | .seq a b, blk, s, K => ev k a blk s fun e s => match e with
    | .normal => ev k b blk s K
    | .exit i => K (.exit i) s
    | .ret => K .ret s
  | .cond c a b, blk, s, K => match s.op c with
    | .val (.bool x) => match x with
      | true => ev k a blk s K
      | false => ev k b blk s K
    | _ => none
  | .block id a, _, s, K => ev k a id s fun e s => match e with
    | .normal => jnS Γ.gate (Γ.hint id).bk id s (K .normal)
    | .exit i => match Nat.beq i id with
      | true => jnS Γ.gate (Γ.hint id).bk id s (K .normal)
      | false => K (.exit i) s
    | .ret => K .ret s
  | .loop a, blk, s, K => match (Γ.hint blk).unroll with
    | true => evTurns (ev k a blk) 9 s K
    | false => match (lstS Γ.P (s.frzL (Γ.hint blk).frz) (Γ.hint blk).lst).bind fun s => matS Γ.P s (Γ.hint blk).mat with
      | some s => match canon { (Γ.hint blk) with ren := [] } s.H.length s with
        | some s => evLoop (Γ.hint blk) s.H.length (ev k a blk) k s K
        | none => none
      | none => none
  | .exit id, _, s, K => K (.exit id) s
  | .scope a, blk, s, K => ev k a blk s K
  | .label _, _, s, K => K .normal s
  | .ret, _, s, K => K .ret s
  | _, _, _, _ => none

/-- A function's result, from its last state. -/
def resultsOf (P : Program) (s : St) : List ResultVar → Option (List AV)
  | [] => some []
  | .tmp t :: r => match resultsOf P s r with
    | some l => some (s.tmps.getD t undefA :: l)
    | none => none
  | .cell a t :: r => match loadE P s t (s.tmps.getD a undefA), resultsOf P s r with
    | some e, some l => some (e.v :: l)
    | _, _ => none
def packA : List AV → AV
  | [a] => a
  | l => .tup l
def finish (P : Program) (fn : Func) (s : St) : Option AV :=
  match resultsOf P s fn.results.toList with
  | some l => match resultsOf P (s.frzL (idsL l)) fn.results.toList with
    | some l => some (clo (packA l))
    | none => none
  | none => none
def initS (fn : Func) (args : List AV) : St := ⟨args ++ List.replicate (fn.ntmps - args.length) undefA, []⟩
/-- What a function gives, decoded. -/
noncomputable def evF (k : Nat) (fn : Func) (args : List AV) (D : AV → Option R) : Option R :=
  match fn.body with
  | some c => ev Γ k c 0 (initS fn args) fun e s => match e with
    | .exit _ => none
    | _ => match finish Γ.P fn s with
      | some v => D v
      | none => none
  | none => none
/-- Object o is to be object 0. -/
def pick0 (o : Nat) (x : Nat) : Option Nat := match Nat.beq x o with
  | true => some 0
  | false => none
/-- What a function gives whose result holds a list of its own, and that list, decoded. -/
noncomputable def evW (k : Nat) (fn : Func) (args : List AV) (D : AV → Ob → Option R) : Option R :=
  match fn.body with
  | some c => ev Γ k c 0 (initS fn args) fun e s => match e with
    | .exit _ => none
    | _ => match resultsOf Γ.P s fn.results.toList with
      | some l => match idsL l with
        | [o] => match hp s.H o with
          | .live ob => D (ren (pick0 o) (packA l)) { ob with get := fun i => cloL (ob.get i), lit := none }
          | _ => none
        | _ => none
      | none => none
  | none => none
/-- What a function that is handed a list of the caller's own gives, and the list that its result holds, decoded. A result that is cut: the list is cut. -/
noncomputable def evT (k : Nat) (fn : Func) (ob : Ob) (rest : List AV) (D : AV → Ob → Option R) : Option R :=
  match fn.body with
  | some c => ev Γ k c 0 ⟨.slc 0 0 none none :: rest ++ List.replicate (fn.ntmps - (rest.length + 1)) undefA, [.live ob]⟩ fun e s => match e with
    | .exit _ => none
    | _ => match resultsOf Γ.P s fn.results.toList with
      | some [.slc q 0 n' _] => match hp s.H q with
        | .live ob' => D (.slc 0 0 none none) { ob' with n := slcLen n' ob'.n 0, get := fun i => cloL (ob'.get i), lit := none }
        | _ => none
      | _ => none
  | none => none
/-- A function that is gone into. -/
noncomputable def inlRun (Γ : Ctx) (fn : Func) : Inl := ⟨fun l H K => match fn.body with
  | some c => ev Γ 0 c 0 ⟨l ++ List.replicate (fn.ntmps - l.length) undefA, H⟩ fun e s => match e with
    | .exit _ => none
    | _ => match resultsOf Γ.P s fn.results.toList with
      | some l => K (packA l) s.H
      | none => none
  | none => none⟩
/-- What a function that is handed an object's address gives, and what its cells are behind it, decoded. -/
noncomputable def evG (fn : Func) (ty : TypeId) (cells rest : List AV) (D : AV → List AV → Option R) : Option R :=
  match newOb Γ.P ty cells with
  | some ob => match fn.body with
    | some c => ev Γ 0 c 0 ⟨.ptr 0 0 0 :: rest ++ List.replicate (fn.ntmps - (rest.length + 1)) undefA, [.live ob]⟩ fun e s => match e with
      | .exit _ => none
      | _ => match hp s.H 0 with
        | .live ob0 =>
          let s1 := s.frzL (idsL (flatO ob0))
          match resultsOf Γ.P s1 fn.results.toList with
          | some l => match hp s1.H 0 with
            | .live ob' => match Nat.beq ob'.ty ty && Nat.beq (flatO ob').length (ob'.n * ob'.sz) with
              | true => D (clo (packA l)) (cloL (flatO ob'))
              | false => none
            | _ => none
          | none => none
        | _ => none
    | none => none
  | none => none
end
end Go.Proofs.Ytbcnifnmccaleaa.Fw
