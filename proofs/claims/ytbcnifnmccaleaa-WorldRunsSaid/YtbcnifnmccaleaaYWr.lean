/- Worlds: bodies and joints come and go as told; numbers are never given twice. -/
import Derived.Test.YtbcnifnmccaleaaYWm
import Derived.Test.YtbcnifnmccaleaaYWn
namespace Go.Proofs.Ytbcnifnmccaleaa.Y
open Go Go.RowKit Go.Proofs.Ytbcnifnmccaleaa.E Go.Proofs.Ytbcnifnmccaleaa.Ma Go.Proofs.Ytbcnifnmccaleaa.Fw
set_option linter.unusedVariables false
set_option linter.unusedSimpArgs false
set_option maxRecDepth 10000

/-- What the maps say: which bodies there are, which joints, and what these join. -/
structure Ms where
  kb : List Int
  gb : Int → Int
  kj : List Int
  gj : Int → Int × Int
theorem mrow {α : Type} (T : TyL α) (k : Int) (a : α) (g : Int → α) : (fun i : Int => bif i == k then T.enc a else T.enc (g i)) = fun i => T.enc (bif i == k then a else g i) := by
  funext i
  cases i == k <;> rfl
section
variable {n : Nat} {ds : Nat → DT}
noncomputable def QJ2 (n : Nat) (ds : Nat → DT) (K : Nat) (w : Wd) (m : Ms) (nx fr i : Int) : Option Bool := law09.WorldRuns.j2 true 1000000 K w.t w.nb w.nj w.gx w.gy w.bs.1 (fun i => RiiiiiiiiiiL2.enc (w.bs.2 i)) w.js.1 (fun i => Riiiiiiii.enc (w.js.2 i)) w.cs.1 (fun i => Riiiii.enc (w.cs.2 i)) m.kb (fun i => Ri.enc (m.gb i)) m.kj (fun i => Rii.enc (m.gj i)) nx fr n (fun i => RiiiiiiiiiiiiiiiiiiiiiiiiiiiiiL2.enc (ds i)) (n : Int) i
noncomputable def QL0 (n : Nat) (ds : Nat → DT) (K : Nat) (w : Wd) (m : Ms) (nx fr i : Int) : Option Bool := law09.WorldRuns.l0 true 1000000 K w.t w.nb w.nj w.gx w.gy w.bs.1 (fun i => RiiiiiiiiiiL2.enc (w.bs.2 i)) w.js.1 (fun i => Riiiiiiii.enc (w.js.2 i)) w.cs.1 (fun i => Riiiii.enc (w.cs.2 i)) m.kb (fun i => Ri.enc (m.gb i)) m.kj (fun i => Rii.enc (m.gj i)) nx fr n (fun i => RiiiiiiiiiiiiiiiiiiiiiiiiiiiiiL2.enc (ds i)) (n : Int) i
noncomputable def QL1 (n : Nat) (ds : Nat → DT) (K k : Nat) (w : Wd) (m : Ms) (nx fr i : Int) (d : DT) (left : List Int) (id : Int) : Option Bool := law09.WorldRuns.l1 true 1000000 K k w.t w.nb w.nj w.gx w.gy w.bs.1 (fun i => RiiiiiiiiiiL2.enc (w.bs.2 i)) w.js.1 (fun i => Riiiiiiii.enc (w.js.2 i)) w.cs.1 (fun i => Riiiii.enc (w.cs.2 i)) m.kb (fun i => Ri.enc (m.gb i)) m.kj (fun i => Rii.enc (m.gj i)) d.1 d.2.1 d.2.2.1 d.2.2.2.1 d.2.2.2.2.1 d.2.2.2.2.2.1 d.2.2.2.2.2.2.1 d.2.2.2.2.2.2.2.1 d.2.2.2.2.2.2.2.2.1 d.2.2.2.2.2.2.2.2.2.1 d.2.2.2.2.2.2.2.2.2.2.1 d.2.2.2.2.2.2.2.2.2.2.2.1 d.2.2.2.2.2.2.2.2.2.2.2.2.1 d.2.2.2.2.2.2.2.2.2.2.2.2.2.1 d.2.2.2.2.2.2.2.2.2.2.2.2.2.2.1 d.2.2.2.2.2.2.2.2.2.2.2.2.2.2.2.1 d.2.2.2.2.2.2.2.2.2.2.2.2.2.2.2.2.1 d.2.2.2.2.2.2.2.2.2.2.2.2.2.2.2.2.2.1 d.2.2.2.2.2.2.2.2.2.2.2.2.2.2.2.2.2.2.1 d.2.2.2.2.2.2.2.2.2.2.2.2.2.2.2.2.2.2.2.1 d.2.2.2.2.2.2.2.2.2.2.2.2.2.2.2.2.2.2.2.2.1 d.2.2.2.2.2.2.2.2.2.2.2.2.2.2.2.2.2.2.2.2.2.1 d.2.2.2.2.2.2.2.2.2.2.2.2.2.2.2.2.2.2.2.2.2.2.1 d.2.2.2.2.2.2.2.2.2.2.2.2.2.2.2.2.2.2.2.2.2.2.2.1 d.2.2.2.2.2.2.2.2.2.2.2.2.2.2.2.2.2.2.2.2.2.2.2.2.1 d.2.2.2.2.2.2.2.2.2.2.2.2.2.2.2.2.2.2.2.2.2.2.2.2.2.1 d.2.2.2.2.2.2.2.2.2.2.2.2.2.2.2.2.2.2.2.2.2.2.2.2.2.2.1 d.2.2.2.2.2.2.2.2.2.2.2.2.2.2.2.2.2.2.2.2.2.2.2.2.2.2.2.1 d.2.2.2.2.2.2.2.2.2.2.2.2.2.2.2.2.2.2.2.2.2.2.2.2.2.2.2.2.1 d.2.2.2.2.2.2.2.2.2.2.2.2.2.2.2.2.2.2.2.2.2.2.2.2.2.2.2.2.2.1 d.2.2.2.2.2.2.2.2.2.2.2.2.2.2.2.2.2.2.2.2.2.2.2.2.2.2.2.2.2.2 left nx fr id n (fun i => RiiiiiiiiiiiiiiiiiiiiiiiiiiiiiL2.enc (ds i)) (n : Int) i
noncomputable def QL2 (K : Nat) (w : Wd) (m : Ms) (nx i : Int) : Option Bool := law09.WorldRuns.l2 true 1000000 K w.t w.nb w.nj w.gx w.gy w.bs.1 (fun i => RiiiiiiiiiiL2.enc (w.bs.2 i)) w.js.1 (fun i => Riiiiiiii.enc (w.js.2 i)) w.cs.1 (fun i => Riiiii.enc (w.cs.2 i)) m.kb (fun i => Ri.enc (m.gb i)) m.kj (fun i => Rii.enc (m.gj i)) nx i
noncomputable def QJ0 (n : Nat) (ds : Nat → DT) (K : Nat) (w : Wd) (m : Ms) (nx fr i : Int) (d : DT) : Option Bool := law09.WorldRuns.j0 true 1000000 K w.t w.nb w.nj w.gx w.gy w.bs.1 (fun i => RiiiiiiiiiiL2.enc (w.bs.2 i)) w.js.1 (fun i => Riiiiiiii.enc (w.js.2 i)) w.cs.1 (fun i => Riiiii.enc (w.cs.2 i)) m.kb (fun i => Ri.enc (m.gb i)) m.kj (fun i => Rii.enc (m.gj i)) d.1 d.2.1 d.2.2.1 d.2.2.2.1 d.2.2.2.2.1 d.2.2.2.2.2.1 d.2.2.2.2.2.2.1 d.2.2.2.2.2.2.2.1 d.2.2.2.2.2.2.2.2.1 d.2.2.2.2.2.2.2.2.2.1 d.2.2.2.2.2.2.2.2.2.2.1 d.2.2.2.2.2.2.2.2.2.2.2.1 d.2.2.2.2.2.2.2.2.2.2.2.2.1 d.2.2.2.2.2.2.2.2.2.2.2.2.2.1 d.2.2.2.2.2.2.2.2.2.2.2.2.2.2.1 d.2.2.2.2.2.2.2.2.2.2.2.2.2.2.2.1 d.2.2.2.2.2.2.2.2.2.2.2.2.2.2.2.2.1 d.2.2.2.2.2.2.2.2.2.2.2.2.2.2.2.2.2.1 d.2.2.2.2.2.2.2.2.2.2.2.2.2.2.2.2.2.2.1 d.2.2.2.2.2.2.2.2.2.2.2.2.2.2.2.2.2.2.2.1 d.2.2.2.2.2.2.2.2.2.2.2.2.2.2.2.2.2.2.2.2.1 d.2.2.2.2.2.2.2.2.2.2.2.2.2.2.2.2.2.2.2.2.2.1 d.2.2.2.2.2.2.2.2.2.2.2.2.2.2.2.2.2.2.2.2.2.2.1 d.2.2.2.2.2.2.2.2.2.2.2.2.2.2.2.2.2.2.2.2.2.2.2.1 d.2.2.2.2.2.2.2.2.2.2.2.2.2.2.2.2.2.2.2.2.2.2.2.2.1 d.2.2.2.2.2.2.2.2.2.2.2.2.2.2.2.2.2.2.2.2.2.2.2.2.2.1 d.2.2.2.2.2.2.2.2.2.2.2.2.2.2.2.2.2.2.2.2.2.2.2.2.2.2.1 d.2.2.2.2.2.2.2.2.2.2.2.2.2.2.2.2.2.2.2.2.2.2.2.2.2.2.2.1 d.2.2.2.2.2.2.2.2.2.2.2.2.2.2.2.2.2.2.2.2.2.2.2.2.2.2.2.2.1 d.2.2.2.2.2.2.2.2.2.2.2.2.2.2.2.2.2.2.2.2.2.2.2.2.2.2.2.2.2.1 d.2.2.2.2.2.2.2.2.2.2.2.2.2.2.2.2.2.2.2.2.2.2.2.2.2.2.2.2.2.2 nx fr n (fun i => RiiiiiiiiiiiiiiiiiiiiiiiiiiiiiL2.enc (ds i)) (n : Int) i
noncomputable def QJ1 (n : Nat) (ds : Nat → DT) (K : Nat) (w : Wd) (m : Ms) (nx fr i : Int) (d : DT) (nn e : Int) (gone : Bool) : Option Bool := law09.WorldRuns.j1 true 1000000 K w.t w.nb w.nj w.gx w.gy w.bs.1 (fun i => RiiiiiiiiiiL2.enc (w.bs.2 i)) w.js.1 (fun i => Riiiiiiii.enc (w.js.2 i)) w.cs.1 (fun i => Riiiii.enc (w.cs.2 i)) m.kb (fun i => Ri.enc (m.gb i)) m.kj (fun i => Rii.enc (m.gj i)) d.1 d.2.1 d.2.2.1 d.2.2.2.1 d.2.2.2.2.1 d.2.2.2.2.2.1 d.2.2.2.2.2.2.1 d.2.2.2.2.2.2.2.1 d.2.2.2.2.2.2.2.2.1 d.2.2.2.2.2.2.2.2.2.1 d.2.2.2.2.2.2.2.2.2.2.1 d.2.2.2.2.2.2.2.2.2.2.2.1 d.2.2.2.2.2.2.2.2.2.2.2.2.1 d.2.2.2.2.2.2.2.2.2.2.2.2.2.1 d.2.2.2.2.2.2.2.2.2.2.2.2.2.2.1 d.2.2.2.2.2.2.2.2.2.2.2.2.2.2.2.1 d.2.2.2.2.2.2.2.2.2.2.2.2.2.2.2.2.1 d.2.2.2.2.2.2.2.2.2.2.2.2.2.2.2.2.2.1 d.2.2.2.2.2.2.2.2.2.2.2.2.2.2.2.2.2.2.1 d.2.2.2.2.2.2.2.2.2.2.2.2.2.2.2.2.2.2.2.1 d.2.2.2.2.2.2.2.2.2.2.2.2.2.2.2.2.2.2.2.2.1 d.2.2.2.2.2.2.2.2.2.2.2.2.2.2.2.2.2.2.2.2.2.1 d.2.2.2.2.2.2.2.2.2.2.2.2.2.2.2.2.2.2.2.2.2.2.1 d.2.2.2.2.2.2.2.2.2.2.2.2.2.2.2.2.2.2.2.2.2.2.2.1 d.2.2.2.2.2.2.2.2.2.2.2.2.2.2.2.2.2.2.2.2.2.2.2.2.1 d.2.2.2.2.2.2.2.2.2.2.2.2.2.2.2.2.2.2.2.2.2.2.2.2.2.1 d.2.2.2.2.2.2.2.2.2.2.2.2.2.2.2.2.2.2.2.2.2.2.2.2.2.2.1 d.2.2.2.2.2.2.2.2.2.2.2.2.2.2.2.2.2.2.2.2.2.2.2.2.2.2.2.1 d.2.2.2.2.2.2.2.2.2.2.2.2.2.2.2.2.2.2.2.2.2.2.2.2.2.2.2.2.1 d.2.2.2.2.2.2.2.2.2.2.2.2.2.2.2.2.2.2.2.2.2.2.2.2.2.2.2.2.2.1 d.2.2.2.2.2.2.2.2.2.2.2.2.2.2.2.2.2.2.2.2.2.2.2.2.2.2.2.2.2.2 nx fr nn e gone n (fun i => RiiiiiiiiiiiiiiiiiiiiiiiiiiiiiL2.enc (ds i)) (n : Int) i
noncomputable def QJ3 (n : Nat) (ds : Nat → DT) (K : Nat) (w : Wd) (m : Ms) (nx fr i : Int) (nn e : Int) (ok : Bool) : Option Bool := law09.WorldRuns.j3 true 1000000 K w.t w.nb w.nj w.gx w.gy w.bs.1 (fun i => RiiiiiiiiiiL2.enc (w.bs.2 i)) w.js.1 (fun i => Riiiiiiii.enc (w.js.2 i)) w.cs.1 (fun i => Riiiii.enc (w.cs.2 i)) m.kb (fun i => Ri.enc (m.gb i)) m.kj (fun i => Rii.enc (m.gj i)) nx fr nn e ok n (fun i => RiiiiiiiiiiiiiiiiiiiiiiiiiiiiiL2.enc (ds i)) (n : Int) i
theorem QL0_eq (K : Nat) (w : Wd) (m : Ms) (nx fr i : Int) : QL0 n ds (K + 1) w m nx fr i = bif decide (i < (n : Int)) then (bif (decide (0 ≤ i) && decide (i < ((n : Nat) : Int))) then QJ0 n ds K w m nx fr i (ds i.toNat) else none) else QL2 1000000 w m nx (-1) :=
  law09.WorldRuns.l0_eq true 1000000 K w.t w.nb w.nj w.gx w.gy w.bs.1 w.bs.2 w.js.1 w.js.2 w.cs.1 w.cs.2 m.kb m.gb m.kj m.gj nx fr n ds (n : Int) i
theorem QJ2_eq (K : Nat) (w : Wd) (m : Ms) (nx fr i : Int) : QJ2 n ds K w m nx fr i = (world.Right.f w.raw).bind fun r => bif !r then some false else bif (((w.bs.1 : Nat) : Int) != ((List.length m.kb : Nat) : Int)) then some false else bif (((w.js.1 : Nat) : Int) != ((List.length m.kj : Nat) : Int)) then some false else
    bif w.nb != nx then some false else bif w.nj != fr then some false else QL0 n ds K w m nx fr (IntKind.i64.wrap (i + 1)) :=
  law09.WorldRuns.j2_eq true 1000000 K w.t w.nb w.nj w.gx w.gy w.bs.1 w.bs.2 w.js.1 w.js.2 w.cs.1 w.cs.2 m.kb m.gb m.kj m.gj nx fr n ds (n : Int) i
theorem QL1_eq (K k : Nat) (w : Wd) (m : Ms) (nx fr i : Int) (d : DT) (left : List Int) (id : Int) : QL1 n ds K (k + 1) w m nx fr i d left id = nextK left (fun r =>
    bif (m.gj r).1 == id then QL1 n ds K k w { m with kj := delI m.kj r, gj := fun i => bif i == r then (0, 0) else m.gj i } nx fr i d (delI (delI left r) r) id else
    bif (m.gj r).2 == id then QL1 n ds K k w { m with kj := delI m.kj r, gj := fun i => bif i == r then (0, 0) else m.gj i } nx fr i d (delI (delI left r) r) id else
    QL1 n ds K k w m nx fr i d (delI left r) id) (QJ2 n ds K w m nx fr i) := by
  refine (law09.WorldRuns.l1_eq true 1000000 K k w.t w.nb w.nj w.gx w.gy w.bs.1 w.bs.2 w.js.1 w.js.2 w.cs.1 w.cs.2 m.kb m.gb m.kj m.gj d.1 d.2.1 d.2.2.1 d.2.2.2.1 d.2.2.2.2.1 d.2.2.2.2.2.1 d.2.2.2.2.2.2.1 d.2.2.2.2.2.2.2.1 d.2.2.2.2.2.2.2.2.1 d.2.2.2.2.2.2.2.2.2.1 d.2.2.2.2.2.2.2.2.2.2.1 d.2.2.2.2.2.2.2.2.2.2.2.1 d.2.2.2.2.2.2.2.2.2.2.2.2.1 d.2.2.2.2.2.2.2.2.2.2.2.2.2.1 d.2.2.2.2.2.2.2.2.2.2.2.2.2.2.1 d.2.2.2.2.2.2.2.2.2.2.2.2.2.2.2.1 d.2.2.2.2.2.2.2.2.2.2.2.2.2.2.2.2.1 d.2.2.2.2.2.2.2.2.2.2.2.2.2.2.2.2.2.1 d.2.2.2.2.2.2.2.2.2.2.2.2.2.2.2.2.2.2.1 d.2.2.2.2.2.2.2.2.2.2.2.2.2.2.2.2.2.2.2.1 d.2.2.2.2.2.2.2.2.2.2.2.2.2.2.2.2.2.2.2.2.1 d.2.2.2.2.2.2.2.2.2.2.2.2.2.2.2.2.2.2.2.2.2.1 d.2.2.2.2.2.2.2.2.2.2.2.2.2.2.2.2.2.2.2.2.2.2.1 d.2.2.2.2.2.2.2.2.2.2.2.2.2.2.2.2.2.2.2.2.2.2.2.1 d.2.2.2.2.2.2.2.2.2.2.2.2.2.2.2.2.2.2.2.2.2.2.2.2.1 d.2.2.2.2.2.2.2.2.2.2.2.2.2.2.2.2.2.2.2.2.2.2.2.2.2.1 d.2.2.2.2.2.2.2.2.2.2.2.2.2.2.2.2.2.2.2.2.2.2.2.2.2.2.1 d.2.2.2.2.2.2.2.2.2.2.2.2.2.2.2.2.2.2.2.2.2.2.2.2.2.2.2.1 d.2.2.2.2.2.2.2.2.2.2.2.2.2.2.2.2.2.2.2.2.2.2.2.2.2.2.2.2.1 d.2.2.2.2.2.2.2.2.2.2.2.2.2.2.2.2.2.2.2.2.2.2.2.2.2.2.2.2.2.1 d.2.2.2.2.2.2.2.2.2.2.2.2.2.2.2.2.2.2.2.2.2.2.2.2.2.2.2.2.2.2 left nx fr id n ds (n : Int) i).trans ?_
  simp only [mrow Rii]
  rfl
noncomputable def opJ0 (n : Nat) (ds : Nat → DT) (K : Nat) (w : Wd) (m : Ms) (nx fr i : Int) (d : DT) : Option Bool := (law09.Deed.Joint.f d).bind fun j => (world.AddJoint.f (w.raw, j)).bind fun r => QJ1 n ds K (ofT r.2) m nx fr i d r.1.1 r.1.2 false
noncomputable def opB0 (n : Nat) (ds : Nat → DT) (K : Nat) (w : Wd) (m : Ms) (nx fr i : Int) (d : DT) : Option Bool := (law09.Deed.Body.f d).bind fun j => (world.AddBody.f (w.raw, rawB j)).bind fun r => QJ1 n ds K (ofT r.2) m nx fr i d r.1.1 r.1.2 false
noncomputable def opRB0 (n : Nat) (ds : Nat → DT) (K : Nat) (w : Wd) (m : Ms) (nx fr i : Int) (d : DT) : Option Bool := (world.RemoveBody.f (w.raw, (Go.bits .and .i64 d.2.2.2.2.2.2.2.2.2.2.2.2.1 15))).bind fun r => QJ1 n ds K (ofT r.2) m nx fr i d 0 0 r.1
noncomputable def opRJ0 (n : Nat) (ds : Nat → DT) (K : Nat) (w : Wd) (m : Ms) (nx fr i : Int) (d : DT) : Option Bool := (world.RemoveJoint.f (w.raw, (Go.bits .and .i64 d.2.2.2.2.2.2.2.2.2.2.2.2.1 15))).bind fun r => QJ1 n ds K (ofT r.2) m nx fr i d 0 0 r.1
theorem QJ0_eq (K : Nat) (w : Wd) (m : Ms) (nx fr i : Int) (d : DT) : QJ0 n ds K w m nx fr i d = bif decide (((d.2.2.2.2.2.2.2.2.2.2.2.2.2.2.2.2.2.2.2.2.2.2.2.2.2.2.2.2.2.1 : Nat) : Int) > 12) then some true else
    bif (Go.bits .and .i64 d.1 7 == 4) then (bif (Go.bits .and .i64 d.1 7 == 4) then opJ0 n ds K w m nx fr i d else bif (Go.bits .and .i64 d.1 7 == 6) then opRB0 n ds K w m nx fr i d else bif (Go.bits .and .i64 d.1 7 == 3) then opRJ0 n ds K w m nx fr i d else opB0 n ds K w m nx fr i d)
    else bif (Go.bits .and .i64 d.1 7 == 5) then opJ0 n ds K w m nx fr i d else bif (Go.bits .and .i64 d.1 7 == 6) then opRB0 n ds K w m nx fr i d else bif (Go.bits .and .i64 d.1 7 == 3) then opRJ0 n ds K w m nx fr i d else opB0 n ds K w m nx fr i d :=
  law09.WorldRuns.j0_eq true 1000000 K w.t w.nb w.nj w.gx w.gy w.bs.1 w.bs.2 w.js.1 w.js.2 w.cs.1 w.cs.2 m.kb m.gb m.kj m.gj d.1 d.2.1 d.2.2.1 d.2.2.2.1 d.2.2.2.2.1 d.2.2.2.2.2.1 d.2.2.2.2.2.2.1 d.2.2.2.2.2.2.2.1 d.2.2.2.2.2.2.2.2.1 d.2.2.2.2.2.2.2.2.2.1 d.2.2.2.2.2.2.2.2.2.2.1 d.2.2.2.2.2.2.2.2.2.2.2.1 d.2.2.2.2.2.2.2.2.2.2.2.2.1 d.2.2.2.2.2.2.2.2.2.2.2.2.2.1 d.2.2.2.2.2.2.2.2.2.2.2.2.2.2.1 d.2.2.2.2.2.2.2.2.2.2.2.2.2.2.2.1 d.2.2.2.2.2.2.2.2.2.2.2.2.2.2.2.2.1 d.2.2.2.2.2.2.2.2.2.2.2.2.2.2.2.2.2.1 d.2.2.2.2.2.2.2.2.2.2.2.2.2.2.2.2.2.2.1 d.2.2.2.2.2.2.2.2.2.2.2.2.2.2.2.2.2.2.2.1 d.2.2.2.2.2.2.2.2.2.2.2.2.2.2.2.2.2.2.2.2.1 d.2.2.2.2.2.2.2.2.2.2.2.2.2.2.2.2.2.2.2.2.2.1 d.2.2.2.2.2.2.2.2.2.2.2.2.2.2.2.2.2.2.2.2.2.2.1 d.2.2.2.2.2.2.2.2.2.2.2.2.2.2.2.2.2.2.2.2.2.2.2.1 d.2.2.2.2.2.2.2.2.2.2.2.2.2.2.2.2.2.2.2.2.2.2.2.2.1 d.2.2.2.2.2.2.2.2.2.2.2.2.2.2.2.2.2.2.2.2.2.2.2.2.2.1 d.2.2.2.2.2.2.2.2.2.2.2.2.2.2.2.2.2.2.2.2.2.2.2.2.2.2.1 d.2.2.2.2.2.2.2.2.2.2.2.2.2.2.2.2.2.2.2.2.2.2.2.2.2.2.2.1 d.2.2.2.2.2.2.2.2.2.2.2.2.2.2.2.2.2.2.2.2.2.2.2.2.2.2.2.2.1 d.2.2.2.2.2.2.2.2.2.2.2.2.2.2.2.2.2.2.2.2.2.2.2.2.2.2.2.2.2.1 d.2.2.2.2.2.2.2.2.2.2.2.2.2.2.2.2.2.2.2.2.2.2.2.2.2.2.2.2.2.2 nx fr n ds (n : Int) i
attribute [local irreducible] law09.WorldRuns.j0 law09.WorldRuns.j1 law09.WorldRuns.j2 law09.WorldRuns.j3 law09.WorldRuns.l0 law09.WorldRuns.l1 law09.WorldRuns.l2 law09.Deed.Joint.f law09.Deed.Body.f law09.joins.f law09.may.f world.AddJoint.f world.AddBody.f world.RemoveBody.f world.RemoveJoint.f world.Right.f world.Body.f world.Joint.f Go.bits
/-! ### The maps and the world -/
structure Inv (k : Nat) (w : Wd) (m : Ms) : Prop where
  good : Good w
  b : w.bs.1 ≤ k
  nb : w.nb ≤ k + 1
  j : w.js.1 ≤ k
  nj : w.nj ≤ k + 1
  pb : m.kb.Perm ((lst w.bs).map (·.1))
  vb : ∀ x, m.gb x = if x ∈ m.kb then 1 else 0
  pj : m.kj.Perm ((lst w.js).map (·.1))
  vj : ∀ j ∈ lst w.js, m.gj j.1 = (j.2.1, j.2.2.1)
theorem Inv.there {k : Nat} {w : Wd} {m : Ms} (h : Inv k w m) (x : Int) : ThereL w x ↔ x ∈ m.kb := by
  rw [h.pb.mem_iff, List.mem_map]
  rfl
theorem Inv.joint {k : Nat} {w : Wd} {m : Ms} (h : Inv k w m) (x : Int) : (∃ j ∈ lst w.js, j.1 = x) ↔ x ∈ m.kj := by
  rw [h.pj.mem_iff, List.mem_map]
theorem QJ2_go {k : Nat} {w : Wd} {m : Ms} (h : Inv k w m) (K : Nat) (i : Int) : QJ2 n ds K w m w.nb w.nj i = QL0 n ds K w m w.nb w.nj (IntKind.i64.wrap (i + 1)) := by
  have e1 : m.kb.length = w.bs.1 := by rw [h.pb.length_eq, List.length_map, lst_len]
  have e2 : m.kj.length = w.js.1 := by rw [h.pj.length_eq, List.length_map, lst_len]
  rw [QJ2_eq, h.good.tells, Option.bind_some, e1, e2]
  simp only [bne_self_eq_false, Bool.not_true, cond_false]
/-! ### What the law makes of a deed -/
theorem memI_true {ks : List Int} {k : Int} (h : k ∈ ks) : memI ks k = true := memI_iff.2 h
theorem memI_false {ks : List Int} {k : Int} (h : k ∉ ks) : memI ks k = false := by
  cases e : memI ks k with
  | false => rfl
  | true => exact absurd (memI_iff.1 e) h
theorem QJ1_J_no (K : Nat) (w : Wd) (m : Ms) (nx fr i : Int) (d : DT) {j : JT} (hk : (Go.bits .and .i64 d.1 7 == 4) = true ∨ (Go.bits .and .i64 d.1 7 == 4) = false ∧ (Go.bits .and .i64 d.1 7 == 5) = true) (hj : law09.Deed.Joint.f d = some j) (hv : law09.joins.f j = some false) :
    QJ1 n ds K w m nx fr i d 0 2 false = QJ2 n ds K w m nx fr i := by
  have nn : Int := 0
  refine Eq.trans (law09.WorldRuns.j1_eq true 1000000 K w.t w.nb w.nj w.gx w.gy w.bs.1 w.bs.2 w.js.1 w.js.2 w.cs.1 w.cs.2 m.kb m.gb m.kj m.gj d.1 d.2.1 d.2.2.1 d.2.2.2.1 d.2.2.2.2.1 d.2.2.2.2.2.1 d.2.2.2.2.2.2.1 d.2.2.2.2.2.2.2.1 d.2.2.2.2.2.2.2.2.1 d.2.2.2.2.2.2.2.2.2.1 d.2.2.2.2.2.2.2.2.2.2.1 d.2.2.2.2.2.2.2.2.2.2.2.1 d.2.2.2.2.2.2.2.2.2.2.2.2.1 d.2.2.2.2.2.2.2.2.2.2.2.2.2.1 d.2.2.2.2.2.2.2.2.2.2.2.2.2.2.1 d.2.2.2.2.2.2.2.2.2.2.2.2.2.2.2.1 d.2.2.2.2.2.2.2.2.2.2.2.2.2.2.2.2.1 d.2.2.2.2.2.2.2.2.2.2.2.2.2.2.2.2.2.1 d.2.2.2.2.2.2.2.2.2.2.2.2.2.2.2.2.2.2.1 d.2.2.2.2.2.2.2.2.2.2.2.2.2.2.2.2.2.2.2.1 d.2.2.2.2.2.2.2.2.2.2.2.2.2.2.2.2.2.2.2.2.1 d.2.2.2.2.2.2.2.2.2.2.2.2.2.2.2.2.2.2.2.2.2.1 d.2.2.2.2.2.2.2.2.2.2.2.2.2.2.2.2.2.2.2.2.2.2.1 d.2.2.2.2.2.2.2.2.2.2.2.2.2.2.2.2.2.2.2.2.2.2.2.1 d.2.2.2.2.2.2.2.2.2.2.2.2.2.2.2.2.2.2.2.2.2.2.2.2.1 d.2.2.2.2.2.2.2.2.2.2.2.2.2.2.2.2.2.2.2.2.2.2.2.2.2.1 d.2.2.2.2.2.2.2.2.2.2.2.2.2.2.2.2.2.2.2.2.2.2.2.2.2.2.1 d.2.2.2.2.2.2.2.2.2.2.2.2.2.2.2.2.2.2.2.2.2.2.2.2.2.2.2.1 d.2.2.2.2.2.2.2.2.2.2.2.2.2.2.2.2.2.2.2.2.2.2.2.2.2.2.2.2.1 d.2.2.2.2.2.2.2.2.2.2.2.2.2.2.2.2.2.2.2.2.2.2.2.2.2.2.2.2.2.1 d.2.2.2.2.2.2.2.2.2.2.2.2.2.2.2.2.2.2.2.2.2.2.2.2.2.2.2.2.2.2 nx fr 0 2 false n ds (n : Int) i) ?_
  rcases hk with h4 | ⟨h4, h5⟩
  · repeat first | refine cond_t (by assumption) ?_ | refine cond_f (by assumption) ?_ | refine bind_to (by assumption) ?_ | refine cond_t rfl ?_ | refine cond_f rfl ?_
    rfl
  · repeat first | refine cond_t (by assumption) ?_ | refine cond_f (by assumption) ?_ | refine bind_to (by assumption) ?_ | refine cond_t rfl ?_ | refine cond_f rfl ?_
    rfl
theorem QJ1_J_none (K : Nat) (w : Wd) (m : Ms) (nx fr i : Int) (d : DT) {j : JT} (hk : (Go.bits .and .i64 d.1 7 == 4) = true ∨ (Go.bits .and .i64 d.1 7 == 4) = false ∧ (Go.bits .and .i64 d.1 7 == 5) = true) (hj : law09.Deed.Joint.f d = some j) (hv : law09.joins.f j = some true) (h0 : (m.gb j.2.1 == 0) = true ∨ (m.gb j.2.1 == 0) = false ∧ (m.gb j.2.2.1 == 0) = true) :
    QJ1 n ds K w m nx fr i d 0 4 false = QJ2 n ds K w m nx fr i := by
  refine Eq.trans (law09.WorldRuns.j1_eq true 1000000 K w.t w.nb w.nj w.gx w.gy w.bs.1 w.bs.2 w.js.1 w.js.2 w.cs.1 w.cs.2 m.kb m.gb m.kj m.gj d.1 d.2.1 d.2.2.1 d.2.2.2.1 d.2.2.2.2.1 d.2.2.2.2.2.1 d.2.2.2.2.2.2.1 d.2.2.2.2.2.2.2.1 d.2.2.2.2.2.2.2.2.1 d.2.2.2.2.2.2.2.2.2.1 d.2.2.2.2.2.2.2.2.2.2.1 d.2.2.2.2.2.2.2.2.2.2.2.1 d.2.2.2.2.2.2.2.2.2.2.2.2.1 d.2.2.2.2.2.2.2.2.2.2.2.2.2.1 d.2.2.2.2.2.2.2.2.2.2.2.2.2.2.1 d.2.2.2.2.2.2.2.2.2.2.2.2.2.2.2.1 d.2.2.2.2.2.2.2.2.2.2.2.2.2.2.2.2.1 d.2.2.2.2.2.2.2.2.2.2.2.2.2.2.2.2.2.1 d.2.2.2.2.2.2.2.2.2.2.2.2.2.2.2.2.2.2.1 d.2.2.2.2.2.2.2.2.2.2.2.2.2.2.2.2.2.2.2.1 d.2.2.2.2.2.2.2.2.2.2.2.2.2.2.2.2.2.2.2.2.1 d.2.2.2.2.2.2.2.2.2.2.2.2.2.2.2.2.2.2.2.2.2.1 d.2.2.2.2.2.2.2.2.2.2.2.2.2.2.2.2.2.2.2.2.2.2.1 d.2.2.2.2.2.2.2.2.2.2.2.2.2.2.2.2.2.2.2.2.2.2.2.1 d.2.2.2.2.2.2.2.2.2.2.2.2.2.2.2.2.2.2.2.2.2.2.2.2.1 d.2.2.2.2.2.2.2.2.2.2.2.2.2.2.2.2.2.2.2.2.2.2.2.2.2.1 d.2.2.2.2.2.2.2.2.2.2.2.2.2.2.2.2.2.2.2.2.2.2.2.2.2.2.1 d.2.2.2.2.2.2.2.2.2.2.2.2.2.2.2.2.2.2.2.2.2.2.2.2.2.2.2.1 d.2.2.2.2.2.2.2.2.2.2.2.2.2.2.2.2.2.2.2.2.2.2.2.2.2.2.2.2.1 d.2.2.2.2.2.2.2.2.2.2.2.2.2.2.2.2.2.2.2.2.2.2.2.2.2.2.2.2.2.1 d.2.2.2.2.2.2.2.2.2.2.2.2.2.2.2.2.2.2.2.2.2.2.2.2.2.2.2.2.2.2 nx fr 0 4 false n ds (n : Int) i) ?_
  rcases hk with h4 | ⟨h4, h5⟩ <;> rcases h0 with g | ⟨g, g2⟩
  all_goals
    repeat first | refine cond_t (by assumption) ?_ | refine cond_f (by assumption) ?_ | refine bind_to (by assumption) ?_ | refine cond_t rfl ?_ | refine cond_f rfl ?_
    rfl
theorem QJ1_J_ok (K : Nat) (w : Wd) (m : Ms) (nx fr i : Int) (d : DT) {j : JT} (hk : (Go.bits .and .i64 d.1 7 == 4) = true ∨ (Go.bits .and .i64 d.1 7 == 4) = false ∧ (Go.bits .and .i64 d.1 7 == 5) = true) (hj : law09.Deed.Joint.f d = some j) (hv : law09.joins.f j = some true) (g : (m.gb j.2.1 == 0) = false) (g2 : (m.gb j.2.2.1 == 0) = false) :
    QJ1 n ds K w m nx fr i d fr 0 false = QJ2 n ds K w { m with kj := putI m.kj fr, gj := fun i => bif i == fr then (j.2.1, j.2.2.1) else m.gj i } nx (IntKind.i64.wrap (fr + 1)) i := by
  have e : (fr != fr) = false := bne_self_eq_false _
  refine Eq.trans (law09.WorldRuns.j1_eq true 1000000 K w.t w.nb w.nj w.gx w.gy w.bs.1 w.bs.2 w.js.1 w.js.2 w.cs.1 w.cs.2 m.kb m.gb m.kj m.gj d.1 d.2.1 d.2.2.1 d.2.2.2.1 d.2.2.2.2.1 d.2.2.2.2.2.1 d.2.2.2.2.2.2.1 d.2.2.2.2.2.2.2.1 d.2.2.2.2.2.2.2.2.1 d.2.2.2.2.2.2.2.2.2.1 d.2.2.2.2.2.2.2.2.2.2.1 d.2.2.2.2.2.2.2.2.2.2.2.1 d.2.2.2.2.2.2.2.2.2.2.2.2.1 d.2.2.2.2.2.2.2.2.2.2.2.2.2.1 d.2.2.2.2.2.2.2.2.2.2.2.2.2.2.1 d.2.2.2.2.2.2.2.2.2.2.2.2.2.2.2.1 d.2.2.2.2.2.2.2.2.2.2.2.2.2.2.2.2.1 d.2.2.2.2.2.2.2.2.2.2.2.2.2.2.2.2.2.1 d.2.2.2.2.2.2.2.2.2.2.2.2.2.2.2.2.2.2.1 d.2.2.2.2.2.2.2.2.2.2.2.2.2.2.2.2.2.2.2.1 d.2.2.2.2.2.2.2.2.2.2.2.2.2.2.2.2.2.2.2.2.1 d.2.2.2.2.2.2.2.2.2.2.2.2.2.2.2.2.2.2.2.2.2.1 d.2.2.2.2.2.2.2.2.2.2.2.2.2.2.2.2.2.2.2.2.2.2.1 d.2.2.2.2.2.2.2.2.2.2.2.2.2.2.2.2.2.2.2.2.2.2.2.1 d.2.2.2.2.2.2.2.2.2.2.2.2.2.2.2.2.2.2.2.2.2.2.2.2.1 d.2.2.2.2.2.2.2.2.2.2.2.2.2.2.2.2.2.2.2.2.2.2.2.2.2.1 d.2.2.2.2.2.2.2.2.2.2.2.2.2.2.2.2.2.2.2.2.2.2.2.2.2.2.1 d.2.2.2.2.2.2.2.2.2.2.2.2.2.2.2.2.2.2.2.2.2.2.2.2.2.2.2.1 d.2.2.2.2.2.2.2.2.2.2.2.2.2.2.2.2.2.2.2.2.2.2.2.2.2.2.2.2.1 d.2.2.2.2.2.2.2.2.2.2.2.2.2.2.2.2.2.2.2.2.2.2.2.2.2.2.2.2.2.1 d.2.2.2.2.2.2.2.2.2.2.2.2.2.2.2.2.2.2.2.2.2.2.2.2.2.2.2.2.2.2 nx fr fr 0 false n ds (n : Int) i) ?_
  rcases hk with h4 | ⟨h4, h5⟩
  all_goals
    repeat first | refine cond_t (by assumption) ?_ | refine cond_f (by assumption) ?_ | refine bind_to (by assumption) ?_ | refine cond_t rfl ?_ | refine cond_f rfl ?_
    rw [mrow Rii]
    rfl
theorem QJ1_RB (K : Nat) (w : Wd) (m : Ms) (nx fr i : Int) (d : DT) (gone : Bool) (h4 : (Go.bits .and .i64 d.1 7 == 4) = false) (h5 : (Go.bits .and .i64 d.1 7 == 5) = false) (h6 : (Go.bits .and .i64 d.1 7 == 6) = true) (hg : (!(gone == decide (m.gb (Go.bits .and .i64 d.2.2.2.2.2.2.2.2.2.2.2.2.1 15) > 0))) = false) :
    QJ1 n ds K w m nx fr i d 0 0 gone = QL1 n ds K 1000000 w { m with kb := delI m.kb (Go.bits .and .i64 d.2.2.2.2.2.2.2.2.2.2.2.2.1 15), gb := fun i => bif i == (Go.bits .and .i64 d.2.2.2.2.2.2.2.2.2.2.2.2.1 15) then 0 else m.gb i } nx fr i d m.kj (Go.bits .and .i64 d.2.2.2.2.2.2.2.2.2.2.2.2.1 15) := by
  refine Eq.trans (law09.WorldRuns.j1_eq true 1000000 K w.t w.nb w.nj w.gx w.gy w.bs.1 w.bs.2 w.js.1 w.js.2 w.cs.1 w.cs.2 m.kb m.gb m.kj m.gj d.1 d.2.1 d.2.2.1 d.2.2.2.1 d.2.2.2.2.1 d.2.2.2.2.2.1 d.2.2.2.2.2.2.1 d.2.2.2.2.2.2.2.1 d.2.2.2.2.2.2.2.2.1 d.2.2.2.2.2.2.2.2.2.1 d.2.2.2.2.2.2.2.2.2.2.1 d.2.2.2.2.2.2.2.2.2.2.2.1 d.2.2.2.2.2.2.2.2.2.2.2.2.1 d.2.2.2.2.2.2.2.2.2.2.2.2.2.1 d.2.2.2.2.2.2.2.2.2.2.2.2.2.2.1 d.2.2.2.2.2.2.2.2.2.2.2.2.2.2.2.1 d.2.2.2.2.2.2.2.2.2.2.2.2.2.2.2.2.1 d.2.2.2.2.2.2.2.2.2.2.2.2.2.2.2.2.2.1 d.2.2.2.2.2.2.2.2.2.2.2.2.2.2.2.2.2.2.1 d.2.2.2.2.2.2.2.2.2.2.2.2.2.2.2.2.2.2.2.1 d.2.2.2.2.2.2.2.2.2.2.2.2.2.2.2.2.2.2.2.2.1 d.2.2.2.2.2.2.2.2.2.2.2.2.2.2.2.2.2.2.2.2.2.1 d.2.2.2.2.2.2.2.2.2.2.2.2.2.2.2.2.2.2.2.2.2.2.1 d.2.2.2.2.2.2.2.2.2.2.2.2.2.2.2.2.2.2.2.2.2.2.2.1 d.2.2.2.2.2.2.2.2.2.2.2.2.2.2.2.2.2.2.2.2.2.2.2.2.1 d.2.2.2.2.2.2.2.2.2.2.2.2.2.2.2.2.2.2.2.2.2.2.2.2.2.1 d.2.2.2.2.2.2.2.2.2.2.2.2.2.2.2.2.2.2.2.2.2.2.2.2.2.2.1 d.2.2.2.2.2.2.2.2.2.2.2.2.2.2.2.2.2.2.2.2.2.2.2.2.2.2.2.1 d.2.2.2.2.2.2.2.2.2.2.2.2.2.2.2.2.2.2.2.2.2.2.2.2.2.2.2.2.1 d.2.2.2.2.2.2.2.2.2.2.2.2.2.2.2.2.2.2.2.2.2.2.2.2.2.2.2.2.2.1 d.2.2.2.2.2.2.2.2.2.2.2.2.2.2.2.2.2.2.2.2.2.2.2.2.2.2.2.2.2.2 nx fr 0 0 gone n ds (n : Int) i) ?_
  repeat first | refine cond_t (by assumption) ?_ | refine cond_f (by assumption) ?_ | refine bind_to (by assumption) ?_
  rw [mrow Ri]
  rfl
theorem QJ1_RJ (K : Nat) (w : Wd) (m : Ms) (nx fr i : Int) (d : DT) (gone : Bool) (h4 : (Go.bits .and .i64 d.1 7 == 4) = false) (h5 : (Go.bits .and .i64 d.1 7 == 5) = false) (h6 : (Go.bits .and .i64 d.1 7 == 6) = false) (h3 : (Go.bits .and .i64 d.1 7 == 3) = true) (hg : (!(memI m.kj (Go.bits .and .i64 d.2.2.2.2.2.2.2.2.2.2.2.2.1 15) == gone)) = false) :
    QJ1 n ds K w m nx fr i d 0 0 gone = QJ2 n ds K w { m with kj := delI m.kj (Go.bits .and .i64 d.2.2.2.2.2.2.2.2.2.2.2.2.1 15), gj := fun i => bif i == (Go.bits .and .i64 d.2.2.2.2.2.2.2.2.2.2.2.2.1 15) then (0, 0) else m.gj i } nx fr i := by
  refine Eq.trans (law09.WorldRuns.j1_eq true 1000000 K w.t w.nb w.nj w.gx w.gy w.bs.1 w.bs.2 w.js.1 w.js.2 w.cs.1 w.cs.2 m.kb m.gb m.kj m.gj d.1 d.2.1 d.2.2.1 d.2.2.2.1 d.2.2.2.2.1 d.2.2.2.2.2.1 d.2.2.2.2.2.2.1 d.2.2.2.2.2.2.2.1 d.2.2.2.2.2.2.2.2.1 d.2.2.2.2.2.2.2.2.2.1 d.2.2.2.2.2.2.2.2.2.2.1 d.2.2.2.2.2.2.2.2.2.2.2.1 d.2.2.2.2.2.2.2.2.2.2.2.2.1 d.2.2.2.2.2.2.2.2.2.2.2.2.2.1 d.2.2.2.2.2.2.2.2.2.2.2.2.2.2.1 d.2.2.2.2.2.2.2.2.2.2.2.2.2.2.2.1 d.2.2.2.2.2.2.2.2.2.2.2.2.2.2.2.2.1 d.2.2.2.2.2.2.2.2.2.2.2.2.2.2.2.2.2.1 d.2.2.2.2.2.2.2.2.2.2.2.2.2.2.2.2.2.2.1 d.2.2.2.2.2.2.2.2.2.2.2.2.2.2.2.2.2.2.2.1 d.2.2.2.2.2.2.2.2.2.2.2.2.2.2.2.2.2.2.2.2.1 d.2.2.2.2.2.2.2.2.2.2.2.2.2.2.2.2.2.2.2.2.2.1 d.2.2.2.2.2.2.2.2.2.2.2.2.2.2.2.2.2.2.2.2.2.2.1 d.2.2.2.2.2.2.2.2.2.2.2.2.2.2.2.2.2.2.2.2.2.2.2.1 d.2.2.2.2.2.2.2.2.2.2.2.2.2.2.2.2.2.2.2.2.2.2.2.2.1 d.2.2.2.2.2.2.2.2.2.2.2.2.2.2.2.2.2.2.2.2.2.2.2.2.2.1 d.2.2.2.2.2.2.2.2.2.2.2.2.2.2.2.2.2.2.2.2.2.2.2.2.2.2.1 d.2.2.2.2.2.2.2.2.2.2.2.2.2.2.2.2.2.2.2.2.2.2.2.2.2.2.2.1 d.2.2.2.2.2.2.2.2.2.2.2.2.2.2.2.2.2.2.2.2.2.2.2.2.2.2.2.2.1 d.2.2.2.2.2.2.2.2.2.2.2.2.2.2.2.2.2.2.2.2.2.2.2.2.2.2.2.2.2.1 d.2.2.2.2.2.2.2.2.2.2.2.2.2.2.2.2.2.2.2.2.2.2.2.2.2.2.2.2.2.2 nx fr 0 0 gone n ds (n : Int) i) ?_
  repeat first | refine cond_t (by assumption) ?_ | refine cond_f (by assumption) ?_ | refine bind_to (by assumption) ?_
  rw [mrow Rii]
  rfl
theorem QJ3_ok (K : Nat) (w : Wd) (m : Ms) (nx fr i : Int) : QJ3 n ds K w m nx fr i nx 0 true = QJ2 n ds K w { m with kb := putI m.kb nx, gb := fun i => bif i == nx then 1 else m.gb i } (IntKind.i64.wrap (nx + 1)) fr i := by
  have e : (nx != nx) = false := bne_self_eq_false _
  refine Eq.trans (law09.WorldRuns.j3_eq true 1000000 K w.t w.nb w.nj w.gx w.gy w.bs.1 w.bs.2 w.js.1 w.js.2 w.cs.1 w.cs.2 m.kb m.gb m.kj m.gj nx fr nx 0 true n ds (n : Int) i) ?_
  repeat first | refine cond_t (by assumption) ?_ | refine cond_f (by assumption) ?_ | refine cond_t rfl ?_ | refine cond_f rfl ?_
  rw [mrow Ri]
  rfl
theorem QJ3_no (K : Nat) (w : Wd) (m : Ms) (nx fr i : Int) : QJ3 n ds K w m nx fr i 0 2 false = QJ2 n ds K w m nx fr i := by
  refine Eq.trans (law09.WorldRuns.j3_eq true 1000000 K w.t w.nb w.nj w.gx w.gy w.bs.1 w.bs.2 w.js.1 w.js.2 w.cs.1 w.cs.2 m.kb m.gb m.kj m.gj nx fr 0 2 false n ds (n : Int) i) ?_
  repeat first | refine cond_t rfl ?_ | refine cond_f rfl ?_
  rfl
theorem QJ1_B (K : Nat) (w : Wd) (m : Ms) (nx fr i : Int) (d : DT) (nn e : Int) {r : PT} {v : Bool} (h4 : (Go.bits .and .i64 d.1 7 == 4) = false) (h5 : (Go.bits .and .i64 d.1 7 == 5) = false) (h6 : (Go.bits .and .i64 d.1 7 == 6) = false) (h3 : (Go.bits .and .i64 d.1 7 == 3) = false) (hb : law09.Deed.Body.f d = some r) (hv : law09.may.f (rawB r) = some v) :
    QJ1 n ds K w m nx fr i d nn e false = QJ3 n ds K w m nx fr i nn e v := by
  refine Eq.trans (law09.WorldRuns.j1_eq true 1000000 K w.t w.nb w.nj w.gx w.gy w.bs.1 w.bs.2 w.js.1 w.js.2 w.cs.1 w.cs.2 m.kb m.gb m.kj m.gj d.1 d.2.1 d.2.2.1 d.2.2.2.1 d.2.2.2.2.1 d.2.2.2.2.2.1 d.2.2.2.2.2.2.1 d.2.2.2.2.2.2.2.1 d.2.2.2.2.2.2.2.2.1 d.2.2.2.2.2.2.2.2.2.1 d.2.2.2.2.2.2.2.2.2.2.1 d.2.2.2.2.2.2.2.2.2.2.2.1 d.2.2.2.2.2.2.2.2.2.2.2.2.1 d.2.2.2.2.2.2.2.2.2.2.2.2.2.1 d.2.2.2.2.2.2.2.2.2.2.2.2.2.2.1 d.2.2.2.2.2.2.2.2.2.2.2.2.2.2.2.1 d.2.2.2.2.2.2.2.2.2.2.2.2.2.2.2.2.1 d.2.2.2.2.2.2.2.2.2.2.2.2.2.2.2.2.2.1 d.2.2.2.2.2.2.2.2.2.2.2.2.2.2.2.2.2.2.1 d.2.2.2.2.2.2.2.2.2.2.2.2.2.2.2.2.2.2.2.1 d.2.2.2.2.2.2.2.2.2.2.2.2.2.2.2.2.2.2.2.2.1 d.2.2.2.2.2.2.2.2.2.2.2.2.2.2.2.2.2.2.2.2.2.1 d.2.2.2.2.2.2.2.2.2.2.2.2.2.2.2.2.2.2.2.2.2.2.1 d.2.2.2.2.2.2.2.2.2.2.2.2.2.2.2.2.2.2.2.2.2.2.2.1 d.2.2.2.2.2.2.2.2.2.2.2.2.2.2.2.2.2.2.2.2.2.2.2.2.1 d.2.2.2.2.2.2.2.2.2.2.2.2.2.2.2.2.2.2.2.2.2.2.2.2.2.1 d.2.2.2.2.2.2.2.2.2.2.2.2.2.2.2.2.2.2.2.2.2.2.2.2.2.2.1 d.2.2.2.2.2.2.2.2.2.2.2.2.2.2.2.2.2.2.2.2.2.2.2.2.2.2.2.1 d.2.2.2.2.2.2.2.2.2.2.2.2.2.2.2.2.2.2.2.2.2.2.2.2.2.2.2.2.1 d.2.2.2.2.2.2.2.2.2.2.2.2.2.2.2.2.2.2.2.2.2.2.2.2.2.2.2.2.2.1 d.2.2.2.2.2.2.2.2.2.2.2.2.2.2.2.2.2.2.2.2.2.2.2.2.2.2.2.2.2.2 nx fr nn e false n ds (n : Int) i) ?_
  repeat first | refine cond_t (by assumption) ?_ | refine cond_f (by assumption) ?_ | refine bind_to (by assumption) ?_
  rfl
/-! ### The walk over the joints -/
def badJ (m : Ms) (id x : Int) : Bool := (m.gj x).1 == id || (m.gj x).2 == id
def finM (m : Ms) (left : List Int) (id : Int) : Ms := { m with kj := m.kj.filter (fun x => !(memI left x && badJ m id x)), gj := fun x => bif memI left x && badJ m id x then (0, 0) else m.gj x }
theorem memI_delI (l : List Int) (x y : Int) : memI (delI l x) y = (memI l y && !(y == x)) := by
  rw [Bool.eq_iff_iff, memI_iff, mem_delI, Bool.and_eq_true, memI_iff]
  simp
theorem finM_ok {m : Ms} {left : List Int} {id x : Int} (hb : badJ m id x = false) : finM m (delI left x) id = finM m left id := by
  have e : ∀ y, (memI (delI left x) y && badJ m id y) = (memI left y && badJ m id y) := fun y => by
    rw [memI_delI]
    by_cases hy : y = x
    · subst hy; rw [hb, Bool.and_false, Bool.and_false]
    · rw [beq_eq_false_iff_ne.2 hy, Bool.not_false, Bool.and_true]
  unfold finM
  simp only [e]
theorem finM_bad {m : Ms} {left : List Int} {id x : Int} (hx : x ∈ left) (hb : badJ m id x = true) : finM { m with kj := delI m.kj x, gj := fun i => bif i == x then (0, 0) else m.gj i } (delI (delI left x) x) id = finM m left id := by
  have e1 : ∀ y, (!(memI (delI (delI left x) x) y && badJ { m with kj := delI m.kj x, gj := fun i => bif i == x then (0, 0) else m.gj i } id y) && !(y == x)) = !(memI left y && badJ m id y) := fun y => by
    rw [memI_delI, memI_delI]
    by_cases hy : y = x
    · subst hy; rw [memI_true hx, hb, beq_self_eq_true, Bool.not_true, Bool.and_false, Bool.and_true]; rfl
    · have : badJ { m with kj := delI m.kj x, gj := fun i => bif i == x then (0, 0) else m.gj i } id y = badJ m id y := by
        unfold badJ
        show ((bif y == x then (0, 0) else m.gj y).1 == id || (bif y == x then (0, 0) else m.gj y).2 == id) = _
        rw [beq_eq_false_iff_ne.2 hy, cond_false]
      rw [beq_eq_false_iff_ne.2 hy, this, Bool.not_false, Bool.and_true, Bool.and_true, Bool.and_true]
  have e2 : ∀ y, (bif memI (delI (delI left x) x) y && badJ { m with kj := delI m.kj x, gj := fun i => bif i == x then (0, 0) else m.gj i } id y then ((0, 0) : Int × Int) else (bif y == x then (0, 0) else m.gj y)) = bif memI left y && badJ m id y then (0, 0) else m.gj y := fun y => by
    have := e1 y
    by_cases hy : y = x
    · subst hy
      rw [memI_true hx, hb, beq_self_eq_true, cond_true]
      cases (memI (delI (delI left y) y) y && badJ { m with kj := delI m.kj y, gj := fun i => bif i == y then (0, 0) else m.gj i } id y) <;> rfl
    · rw [beq_eq_false_iff_ne.2 hy, Bool.not_false, Bool.and_true] at this
      have h2 : (memI (delI (delI left x) x) y && badJ { m with kj := delI m.kj x, gj := fun i => bif i == x then (0, 0) else m.gj i } id y) = (memI left y && badJ m id y) := by
        rw [← Bool.not_not (memI (delI (delI left x) x) y && _), this, Bool.not_not]
      rw [h2, beq_eq_false_iff_ne.2 hy, cond_false]
  unfold finM
  simp only [Ms.mk.injEq, true_and]
  refine ⟨?_, funext e2⟩
  show (List.filter _ m.kj).filter _ = _
  rw [List.filter_filter]
  simp only [e1]
theorem delI_lt {l : List Int} {x : Int} (h : x ∈ l) : (delI l x).length < l.length := by
  unfold delI
  rw [List.length_filter_lt_length_iff_exists]
  exact ⟨x, h, by simp⟩
theorem delI_le (l : List Int) (x : Int) : (delI l x).length ≤ l.length := List.length_filter_le _ _
theorem QL1_run (K : Nat) (w : Wd) (nx fr i : Int) (d : DT) (id : Int) (r : Bool) : ∀ (c k : Nat) (left : List Int) (m : Ms), left.length ≤ c → c < k → QJ2 n ds K w (finM m left id) nx fr i = some r → QL1 n ds K k w m nx fr i d left id = some r
  | c, 0, _, _, _, h, _ => absurd h (by omega)
  | c, k + 1, [], m, _, _, h => by
    have e : finM m [] id = m := by
      unfold finM
      simp only [memI, Bool.false_and, cond_false, Bool.not_false]
      rw [List.filter_eq_self.2 (fun _ _ => rfl)]
    rw [e] at h
    rw [QL1_eq]
    exact h
  | 0, k + 1, a :: l, _, h, _, _ => absurd h (by simp)
  | c + 1, k + 1, a :: l, m, hl, hk, h => by
    rw [QL1_eq]
    refine nextK_of (by simp) fun x hx => ?_
    have l1 := delI_lt hx
    have l2 := delI_le (delI (a :: l) x) x
    by_cases b1 : (m.gj x).1 = id
    · refine cond_t (by rw [b1]; exact beq_self_eq_true _) ?_
      exact QL1_run K w nx fr i d id r c k _ _ (by omega) (by omega) (by rw [finM_bad hx (by unfold badJ; rw [b1, beq_self_eq_true]; rfl)]; exact h)
    · refine cond_f (beq_eq_false_iff_ne.2 b1) ?_
      by_cases b2 : (m.gj x).2 = id
      · refine cond_t (by rw [b2]; exact beq_self_eq_true _) ?_
        exact QL1_run K w nx fr i d id r c k _ _ (by omega) (by omega) (by rw [finM_bad hx (by unfold badJ; rw [b2, beq_self_eq_true, Bool.or_true])]; exact h)
      · refine cond_f (beq_eq_false_iff_ne.2 b2) ?_
        exact QL1_run K w nx fr i d id r c k _ _ (by omega) (by omega) (by rw [finM_ok (by unfold badJ; rw [beq_eq_false_iff_ne.2 b1, beq_eq_false_iff_ne.2 b2]; rfl)]; exact h)
/-! ### What the maps say behind each deed -/
theorem Inv.mono {k : Nat} {w : Wd} {m : Ms} (h : Inv k w m) : Inv (k + 1) w m := ⟨h.good, Nat.le_succ_of_le h.b, by have := h.nb; omega, Nat.le_succ_of_le h.j, by have := h.nj; omega, h.pb, h.vb, h.pj, h.vj⟩
theorem Inv.remB {k : Nat} {w w' : Wd} {m : Ms} (h : Inv k w m) (x : Int) (hg : Good w') (hnb : w'.nb = w.nb) (hnj : w'.nj = w.nj) (e1 : lst w'.bs = (lst w.bs).filter (fun b => !goneB x b)) (e2 : lst w'.js = (lst w.js).filter (fun b => !goneJ x b)) :
    Inv (k + 1) w' (finM { m with kb := delI m.kb x, gb := fun i => bif i == x then 0 else m.gb i } m.kj x) := by
  have l1 := filter_le e1
  have l2 := filter_le e2
  have hb := h.b
  have hj := h.j
  have hbad : ∀ j ∈ lst w.js, badJ { m with kb := delI m.kb x, gb := fun i => bif i == x then 0 else m.gb i } x j.1 = goneJ x j := fun j hj => by
    unfold badJ goneJ
    show ((m.gj j.1).1 == x || (m.gj j.1).2 == x) = _
    rw [h.vj j hj]
  have hmem : ∀ j ∈ lst w.js, memI m.kj j.1 = true := fun j hj => memI_true (h.pj.mem_iff.2 (List.mem_map.2 ⟨j, hj, rfl⟩))
  refine ⟨hg, by omega, by rw [hnb]; have := h.nb; omega, by omega, by rw [hnj]; have := h.nj; omega, ?_, fun y => ?_, ?_, fun j hj => ?_⟩
  · rw [e1]
    have := h.pb.filter (fun a => !(a == x))
    rw [List.filter_map] at this
    exact this
  · show (bif y == x then 0 else m.gb y) = if y ∈ delI m.kb x then 1 else 0
    by_cases hy : y = x
    · subst hy; rw [beq_self_eq_true, cond_true, if_neg fun h => (mem_delI.1 h).2 rfl]
    · rw [beq_eq_false_iff_ne.2 hy, cond_false, h.vb]
      by_cases hm : y ∈ m.kb
      · rw [if_pos hm, if_pos (mem_delI.2 ⟨hm, hy⟩)]
      · rw [if_neg hm, if_neg fun h => hm (mem_delI.1 h).1]
  · rw [e2]
    have := h.pj.filter (fun y => !(memI m.kj y && badJ { m with kb := delI m.kb x, gb := fun i => bif i == x then 0 else m.gb i } x y))
    rw [List.filter_map] at this
    refine this.trans ?_
    rw [List.filter_congr (q := fun b => !goneJ x b) fun j hj => by
      show (!(memI m.kj j.1 && badJ _ x j.1)) = _
      rw [hmem j hj, hbad j hj, Bool.true_and]]
  · rw [e2, List.mem_filter] at hj
    show (bif memI m.kj j.1 && badJ _ x j.1 then (0, 0) else m.gj j.1) = _
    have g := hj.2
    rw [hmem j hj.1, hbad j hj.1, Bool.true_and]
    rw [Bool.not_eq_true'] at g
    rw [g, cond_false]
    exact h.vj j hj.1
theorem Inv.remJ {k : Nat} {w w' : Wd} {m : Ms} (h : Inv k w m) (x : Int) (hg : Good w') (hbs : w'.bs = w.bs) (hnb : w'.nb = w.nb) (hnj : w'.nj = w.nj) (e2 : lst w'.js = (lst w.js).filter (fun b => !goneJ_v1 x b)) :
    Inv (k + 1) w' { m with kj := delI m.kj x, gj := fun i => bif i == x then (0, 0) else m.gj i } := by
  have l2 := filter_le e2
  have hb := h.b
  have hj := h.j
  refine ⟨hg, by rw [hbs]; omega, by rw [hnb]; have := h.nb; omega, by omega, by rw [hnj]; have := h.nj; omega, by rw [hbs]; exact h.pb, h.vb, ?_, fun j hj => ?_⟩
  · rw [e2]
    have := h.pj.filter (fun a => !(a == x))
    rw [List.filter_map] at this
    exact this
  · rw [e2, List.mem_filter] at hj
    have g := hj.2
    rw [Bool.not_eq_true'] at g
    have hne : (j.1 == x) = false := g
    show (bif j.1 == x then (0, 0) else m.gj j.1) = _
    rw [hne, cond_false]
    exact h.vj j hj.1
theorem putI_new {ks : List Int} {k : Int} (h : k ∉ ks) : putI ks k = ks ++ [k] := by
  unfold putI
  rw [memI_false h, cond_false]
theorem Inv.addB {k : Nat} {w : Wd} {m : Ms} (h : Inv k w m) {b : BT} (hg : Good (w.addB b)) : Inv (k + 1) (w.addB b) { m with kb := putI m.kb w.nb, gb := fun i => bif i == w.nb then 1 else m.gb i } := by
  have hn : w.nb ∉ m.kb := fun hm => by
    obtain ⟨b, hb, e⟩ := (h.there w.nb).2 hm
    have := (h.good.right.pb b hb).2
    omega
  have e : lst (w.addB b).bs = lst w.bs ++ [(w.nb, b.2)] := lst_push w.bs _
  refine ⟨hg, Nat.succ_le_succ h.b, ?_, Nat.le_succ_of_le h.j, ?_, ?_, fun y => ?_, h.pj, h.vj⟩
  · show w.nb + 1 ≤ _; have := h.nb; omega
  · show w.nj ≤ _; have := h.nj; omega
  · rw [e, List.map_append]
    show (putI m.kb w.nb).Perm _
    rw [putI_new hn]
    exact h.pb.append_right _
  · show (bif y == w.nb then 1 else m.gb y) = if y ∈ putI m.kb w.nb then 1 else 0
    rw [putI_new hn]
    by_cases hy : y = w.nb
    · subst hy; rw [beq_self_eq_true, cond_true, if_pos (by simp)]
    · rw [beq_eq_false_iff_ne.2 hy, cond_false, h.vb]
      by_cases hm : y ∈ m.kb
      · rw [if_pos hm, if_pos (by simp [hm])]
      · rw [if_neg hm, if_neg (by simp [hm, hy])]
theorem Inv.addJ {k : Nat} {w : Wd} {m : Ms} (h : Inv k w m) {j : JT} (hg : Good (w.addJ j)) : Inv (k + 1) (w.addJ j) { m with kj := putI m.kj w.nj, gj := fun i => bif i == w.nj then (j.2.1, j.2.2.1) else m.gj i } := by
  have hn : w.nj ∉ m.kj := fun hm => by
    obtain ⟨b, hb, e⟩ := (h.joint w.nj).2 hm
    have := (h.good.right.pj b hb).2
    omega
  have e : lst (w.addJ j).js = lst w.js ++ [(w.nj, j.2)] := lst_push w.js _
  refine ⟨hg, Nat.le_succ_of_le h.b, ?_, Nat.succ_le_succ h.j, ?_, h.pb, h.vb, ?_, fun y hy => ?_⟩
  · show w.nb ≤ _; have := h.nb; omega
  · show w.nj + 1 ≤ _; have := h.nj; omega
  · rw [e, List.map_append]
    show (putI m.kj w.nj).Perm _
    rw [putI_new hn]
    exact h.pj.append_right _
  · rw [e, List.mem_append, List.mem_singleton] at hy
    show (bif y.1 == w.nj then (j.2.1, j.2.2.1) else m.gj y.1) = _
    rcases hy with hy | rfl
    · have := (h.good.right.pj y hy).2
      rw [beq_eq_false_iff_ne.2 (by omega), cond_false]
      exact h.vj y hy
    · show (bif w.nj == w.nj then (j.2.1, j.2.2.1) else m.gj w.nj) = _
      rw [beq_self_eq_true, cond_true]
/-! ### One deed -/
theorem kd_eq (x y : Int) (h : x = y) : (x == y) = true := by rw [h]; exact beq_self_eq_true _
attribute [local irreducible] QJ0 QJ1 QJ2 QJ3 QL0 QL1 QL2
theorem Q_step (hn : n ≤ 30) (K : Nat) {w : Wd} {m : Ms} (i : Nat) (hi : i < n) (hd : FineD (ds i)) (h : Inv i w m)
    (IH : ∀ w' m', Inv (i + 1) w' m' → QL0 n ds K w' m' w'.nb w'.nj ((i + 1 : Nat) : Int) = some true) : QL0 n ds (K + 1) w m w.nb w.nj (i : Int) = some true := by
  have hw : IntKind.i64.wrap ((i : Int) + 1) = ((i + 1 : Nat) : Int) := wrap_nat i (by omega)
  have IH2 : ∀ w' m', Inv (i + 1) w' m' → QJ2 n ds K w' m' w'.nb w'.nj (i : Int) = some true := fun w' m' h' => by
    rw [QJ2_go h', hw]
    exact IH w' m' h'
  have hb1 := h.b
  have hb2 := h.nb
  have hb3 := h.j
  have hb4 := h.nj
  have hwb : IntKind.i64.wrap (w.nb + 1) = w.nb + 1 := by have := h.good.right.nb0; rw [IntKind.wrap_i64]; omega
  have hwj : IntKind.i64.wrap (w.nj + 1) = w.nj + 1 := by have := h.good.right.nj0; rw [IntKind.wrap_i64]; omega
  rw [QL0_eq, lt_nat i n hi, cond_true, ge_nat, cond_true]
  show QJ0 n ds K w m w.nb w.nj (i : Int) (ds i) = some true
  generalize ds i = d at hd
  obtain ⟨j, j1, j2⟩ := djoint_ok hd
  obtain ⟨r, r1, r2⟩ := dbody_ok hd
  rw [QJ0_eq]
  by_cases hp : (((d.2.2.2.2.2.2.2.2.2.2.2.2.2.2.2.2.2.2.2.2.2.2.2.2.2.2.2.2.2.1 : Nat) : Int) > 12)
  · exact cond_t (decide_eq_true hp) rfl
  refine cond_f (decide_eq_false hp) ?_
  have opJ : ((Go.bits .and .i64 d.1 7 == 4) = true ∨ (Go.bits .and .i64 d.1 7 == 4) = false ∧ (Go.bits .and .i64 d.1 7 == 5) = true) → opJ0 n ds K w m w.nb w.nj (i : Int) d = some true := fun hk => by
    unfold opJ0
    rw [j1, Option.bind_some]
    obtain ⟨v, hv⟩ := rightJ_some j2
    have hv' := (joins_eq j2).trans hv
    cases v with
    | false =>
      rw [AddJoint_no j hv, Option.bind_some]
      exact (QJ1_J_no K w m w.nb w.nj (i : Int) d hk j1 hv').trans (IH2 w m h.mono)
    | true =>
      rcases AddJoint_eq j hv (by omega) h.good.right.ab h.good.right.nj0 with ⟨a1, e⟩ | ⟨_, a1, e⟩ | ⟨ht, a1, a2, e⟩
      · rw [e, Option.bind_some]
        refine (QJ1_J_none K w m w.nb w.nj (i : Int) d hk j1 hv' ?_).trans (IH2 w m h.mono)
        rw [h.there, h.there] at a1
        by_cases g1 : j.2.1 ∈ m.kb
        · have g2 : j.2.2.1 ∉ m.kb := fun g2 => a1 ⟨g1, g2⟩
          refine .inr ⟨?_, ?_⟩
          · rw [h.vb, if_pos g1]; rfl
          · rw [h.vb, if_neg g2]; rfl
        · refine .inl ?_
          rw [h.vb, if_neg g1]; rfl
      · omega
      · rw [e, Option.bind_some]
        have g := good_addJ h.good hv j2 ht a1 a2
        have hI := h.addJ (j := j) g
        rw [h.there, h.there] at ht
        refine (QJ1_J_ok K (w.addJ j) m w.nb w.nj (i : Int) d hk j1 hv' ?_ ?_).trans ?_
        · rw [h.vb, if_pos ht.1]; rfl
        · rw [h.vb, if_pos ht.2]; rfl
        · rw [hwj]
          exact IH2 _ _ hI
  have opRB : (Go.bits .and .i64 d.1 7 == 4) = false → (Go.bits .and .i64 d.1 7 == 5) = false → (Go.bits .and .i64 d.1 7 == 6) = true → opRB0 n ds K w m w.nb w.nj (i : Int) d = some true := fun h4 h5 h6 => by
    unfold opRB0
    have hlen : m.kj.length ≤ 30 := by
      have : m.kj.length = w.js.1 := by rw [h.pj.length_eq, List.length_map, lst_len]
      omega
    rcases RemoveBody_eq (by omega) (by omega) h.good.fine.nc h.good.right.ab (Go.bits .and .i64 d.2.2.2.2.2.2.2.2.2.2.2.2.1 15) with ⟨a1, y1, y2, y3, e1, e2, e3, e⟩ | ⟨a1, e⟩
    · rw [e, Option.bind_some]
      have hm := (h.there _).1 a1
      refine (QJ1_RB K _ m w.nb w.nj (i : Int) d true h4 h5 h6 (by rw [h.vb, if_pos hm]; rfl)).trans ?_
      refine QL1_run K _ w.nb w.nj (i : Int) d _ true 30 1000000 m.kj _ hlen (by omega) ?_
      exact IH2 _ _ (h.remB (w' := { w with bs := y1, js := y2, cs := y3 }) (Go.bits .and .i64 d.2.2.2.2.2.2.2.2.2.2.2.2.1 15) (good_removeB h.good _ e1 e2 e3) rfl rfl e1 e2)
    · rw [e, Option.bind_some]
      have hm : ¬ (Go.bits .and .i64 d.2.2.2.2.2.2.2.2.2.2.2.2.1 15) ∈ m.kb := fun hm => a1 ((h.there _).2 hm)
      refine (QJ1_RB K _ m w.nb w.nj (i : Int) d false h4 h5 h6 (by rw [h.vb, if_neg hm]; rfl)).trans ?_
      refine QL1_run K _ w.nb w.nj (i : Int) d _ true 30 1000000 m.kj _ hlen (by omega) ?_
      refine IH2 w _ (h.remB (Go.bits .and .i64 d.2.2.2.2.2.2.2.2.2.2.2.2.1 15) h.good rfl rfl ?_ ?_)
      · refine (List.filter_eq_self.2 fun b hb => ?_).symm
        unfold goneB
        rw [beq_eq_false_iff_ne.2 fun e => a1 ⟨b, hb, e⟩]; rfl
      · refine (List.filter_eq_self.2 fun b hb => ?_).symm
        obtain ⟨_, ⟨p, p1, p2⟩, q, q1, q2⟩ := h.good.right.rj b hb
        unfold goneJ
        rw [beq_eq_false_iff_ne.2 fun e => a1 ⟨p, p1, p2.trans e⟩, beq_eq_false_iff_ne.2 fun e => a1 ⟨q, q1, q2.trans e⟩]; rfl
  have opRJ : (Go.bits .and .i64 d.1 7 == 4) = false → (Go.bits .and .i64 d.1 7 == 5) = false → (Go.bits .and .i64 d.1 7 == 6) = false → (Go.bits .and .i64 d.1 7 == 3) = true → opRJ0 n ds K w m w.nb w.nj (i : Int) d = some true := fun h4 h5 h6 h3 => by
    unfold opRJ0
    rcases RemoveJoint_eq (by omega) h.good.right.aj (Go.bits .and .i64 d.2.2.2.2.2.2.2.2.2.2.2.2.1 15) with ⟨a1, y2, e2, e⟩ | ⟨a1, e⟩
    · rw [e, Option.bind_some]
      refine (QJ1_RJ K _ m w.nb w.nj (i : Int) d true h4 h5 h6 h3 (by rw [memI_true ((h.joint _).1 a1)]; rfl)).trans ?_
      exact IH2 _ _ (h.remJ (w' := { w with js := y2 }) (Go.bits .and .i64 d.2.2.2.2.2.2.2.2.2.2.2.2.1 15) (good_removeJ h.good _ e2) rfl rfl rfl e2)
    · rw [e, Option.bind_some]
      refine (QJ1_RJ K _ m w.nb w.nj (i : Int) d false h4 h5 h6 h3 (by rw [memI_false fun hm => a1 ((h.joint _).2 hm)]; rfl)).trans ?_
      refine IH2 w _ (h.remJ (Go.bits .and .i64 d.2.2.2.2.2.2.2.2.2.2.2.2.1 15) h.good rfl rfl rfl ?_)
      refine (List.filter_eq_self.2 fun b hb => ?_).symm
      unfold goneJ_v1
      rw [beq_eq_false_iff_ne.2 fun e => a1 ⟨b, hb, e⟩]; rfl
  have opB : (Go.bits .and .i64 d.1 7 == 4) = false → (Go.bits .and .i64 d.1 7 == 5) = false → (Go.bits .and .i64 d.1 7 == 6) = false → (Go.bits .and .i64 d.1 7 == 3) = false → opB0 n ds K w m w.nb w.nj (i : Int) d = some true := fun h4 h5 h6 h3 => by
    unfold opB0
    rw [r1, Option.bind_some]
    obtain ⟨v, hv⟩ := rightB_some r2.fine
    have hv' := (may_eq r2.fine).trans hv
    cases v with
    | false =>
      rw [AddBody_no _ hv r2.fine, Option.bind_some]
      refine (QJ1_B K w m w.nb w.nj (i : Int) d 0 2 h4 h5 h6 h3 r1 hv').trans ?_
      rw [QJ3_no]
      exact IH2 w m h.mono
    | true =>
      rw [AddBody_ok _ hv r2.fine (by omega) (by omega) h.good.right.nb0, Option.bind_some]
      refine (QJ1_B K (w.addB (rawB r)) m w.nb w.nj (i : Int) d w.nb 0 h4 h5 h6 h3 r1 hv').trans ?_
      rw [QJ3_ok, hwb]
      exact IH2 _ _ (h.addB (good_addB h.good hv r2.fine (by omega) (by omega)))
  cases h4 : (Go.bits .and .i64 d.1 7 == 4) with
  | true => exact cond_t rfl (cond_t rfl (opJ (.inl h4)))
  | false =>
    refine cond_f rfl ?_
    cases h5 : (Go.bits .and .i64 d.1 7 == 5) with
    | true => exact cond_t rfl (opJ (.inr ⟨h4, h5⟩))
    | false =>
      refine cond_f rfl ?_
      cases h6 : (Go.bits .and .i64 d.1 7 == 6) with
      | true => exact cond_t rfl (opRB h4 h5 h6)
      | false =>
        refine cond_f rfl ?_
        cases h3 : (Go.bits .and .i64 d.1 7 == 3) with
        | true => exact cond_t rfl (opRJ h4 h5 h6 h3)
        | false => exact cond_f rfl (opB h4 h5 h6 h3)
/-! ### The end -/
theorem QL2_step {k : Nat} {w : Wd} {m : Ms} (h : Inv k w m) (hk : k ≤ 30) (K : Nat) (x : Int) (h1 : -1 ≤ x) (h2 : x < w.nb + 2) : QL2 (K + 1) w m w.nb x = QL2 K w m w.nb (x + 1) := by
  have hb1 := h.b
  have hb2 := h.nb
  have hb3 := h.j
  have hwx : IntKind.i64.wrap (x + 1) = x + 1 := by rw [IntKind.wrap_i64]; omega
  have hc : decide (x < IntKind.i64.wrap (w.nb + 2)) = true := by
    have := h.good.right.nb0
    rw [IntKind.wrap_i64]; simp; omega
  have e : QL2 K w m w.nb (x + 1) = QL2 K w m w.nb (IntKind.i64.wrap (x + 1)) := by rw [hwx]
  rw [e]
  unfold QL2
  refine Eq.trans (law09.WorldRuns.l2_eq true 1000000 K w.t w.nb w.nj w.gx w.gy w.bs.1 w.bs.2 w.js.1 w.js.2 w.cs.1 w.cs.2 m.kb m.gb m.kj m.gj w.nb x) ?_
  refine cond_t hc ?_
  rcases Body_w w (by omega) h.good.right.ab x with ⟨p, p1, p2, p3⟩ | ⟨p1, p3⟩ <;> rcases Joint_w w (by omega) h.good.right.aj x with ⟨q, q1, q2, q3⟩ | ⟨q1, q3⟩
  all_goals
    refine bind_to p3 ?_
    refine bind_to q3 ?_
  · have hm := (h.there x).1 ⟨_, mem_lst.2 ⟨p, p1, rfl⟩, p2⟩
    have hj := (h.joint x).1 ⟨_, mem_lst.2 ⟨q, q1, rfl⟩, q2⟩
    refine cond_f (by rw [h.vb, if_pos hm]; rfl) (cond_t rfl (cond_t (in_nat p _ p1) (cond_f ?_ (cond_f rfl (cond_f (by rw [memI_true hj]; rfl) (cond_t rfl (cond_t (in_nat q _ q1) (cond_f ?_ rfl))))))))
    · show ((w.bs.2 p).1 != x) = false
      rw [p2]; exact bne_self_eq_false _
    · show ((w.js.2 q).1 != x) = false
      rw [q2]; exact bne_self_eq_false _
  · have hm := (h.there x).1 ⟨_, mem_lst.2 ⟨p, p1, rfl⟩, p2⟩
    have hj : x ∉ m.kj := fun hj => by obtain ⟨j, j1, j2⟩ := (h.joint x).2 hj; exact q1 j j1 j2
    refine cond_f (by rw [h.vb, if_pos hm]; rfl) (cond_t rfl (cond_t (in_nat p _ p1) (cond_f ?_ (cond_f rfl (cond_f (by rw [memI_false hj]; rfl) (cond_f rfl rfl))))))
    show ((w.bs.2 p).1 != x) = false
    rw [p2]; exact bne_self_eq_false _
  · have hm : x ∉ m.kb := fun hm => by obtain ⟨j, j1, j2⟩ := (h.there x).2 hm; exact p1 j j1 j2
    have hj := (h.joint x).1 ⟨_, mem_lst.2 ⟨q, q1, rfl⟩, q2⟩
    refine cond_f (by rw [h.vb, if_neg hm]; rfl) (cond_f rfl (cond_t rfl (cond_f rfl (cond_f (by rw [memI_true hj]; rfl) (cond_t rfl (cond_t (in_nat q _ q1) (cond_f ?_ rfl)))))))
    show ((w.js.2 q).1 != x) = false
    rw [q2]; exact bne_self_eq_false _
  · have hm : x ∉ m.kb := fun hm => by obtain ⟨j, j1, j2⟩ := (h.there x).2 hm; exact p1 j j1 j2
    have hj : x ∉ m.kj := fun hj => by obtain ⟨j, j1, j2⟩ := (h.joint x).2 hj; exact q1 j j1 j2
    exact cond_f (by rw [h.vb, if_neg hm]; rfl) (cond_f rfl (cond_t rfl (cond_f rfl (cond_f (by rw [memI_false hj]; rfl) (cond_f rfl rfl)))))
theorem QL2_run {k : Nat} {w : Wd} {m : Ms} (h : Inv k w m) (hk : k ≤ 30) : ∀ (c K : Nat) (x : Int), x + c = w.nb + 2 → c < K → -1 ≤ x → QL2 K w m w.nb x = some true
  | _, 0, _, _, h, _ => absurd h (by omega)
  | 0, K + 1, x, hx, _, _ => by
    have hb2 := h.nb
    have hc : decide (x < IntKind.i64.wrap (w.nb + 2)) = false := by
      have := h.good.right.nb0
      rw [IntKind.wrap_i64]; simp; omega
    unfold QL2
    refine Eq.trans (law09.WorldRuns.l2_eq true 1000000 K w.t w.nb w.nj w.gx w.gy w.bs.1 w.bs.2 w.js.1 w.js.2 w.cs.1 w.cs.2 m.kb m.gb m.kj m.gj w.nb x) ?_
    exact cond_f hc rfl
  | c + 1, K + 1, x, hx, hc, h1 => by
    rw [QL2_step h hk K x h1 (by omega)]
    exact QL2_run h hk c K (x + 1) (by omega) (by omega) (by omega)
theorem Q_run (hn : n ≤ 30) (hd : ∀ i, i < n → FineD (ds i)) : ∀ (c i K : Nat) (w : Wd) (m : Ms), i + c = n → c < K → Inv i w m → QL0 n ds K w m w.nb w.nj (i : Int) = some true
  | _, _, 0, _, _, _, h, _ => absurd h (by omega)
  | 0, i, K + 1, w, m, hi, _, h => by
    have hb2 := h.nb
    have := h.good.right.nb0
    rw [QL0_eq, nlt_nat i n (by omega), cond_false]
    exact QL2_run h (by omega) (w.nb + 3).toNat 1000000 (-1) (by omega) (by omega) (by omega)
  | c + 1, i, K + 1, w, m, hi, hc, h => Q_step hn K i (by omega) (hd i (by omega)) h fun w' m' h' => Q_run hn hd c (i + 1) K w' m' (by omega) (by omega) h'
theorem inv_new : Inv 0 newW ⟨[], fun _ => 0, [], fun _ => (0, 0)⟩ := by
  refine ⟨good_new, Nat.le_refl _, Int.le_refl _, Nat.le_refl _, Int.le_refl _, ?_, fun x => ?_, ?_, fun j hj => ?_⟩
  · exact .refl _
  · exact (if_neg (by simp)).symm
  · exact .refl _
  · have e2 : lst newW.js = [] := rfl
    rw [e2] at hj; cases hj
attribute [local irreducible] law09.fit.f world.New.f
theorem Runs_eq (hd : ∀ i, i < n → FineD (ds i)) : law09.WorldRuns.f (n, fun i => RiiiiiiiiiiiiiiiiiiiiiiiiiiiiiL2.enc (ds i)) = some true := by
  show law09.WorldRuns.g true 1000000 (n, fun i => RiiiiiiiiiiiiiiiiiiiiiiiiiiiiiL2.enc (ds i)) = some true
  rw [law09.WorldRuns.eq]
  refine bind_to fit_true (cond_f rfl ?_)
  by_cases hn : (((n : Nat) : Int) > 30)
  · exact cond_t (decide_eq_true hn) rfl
  refine cond_f (decide_eq_false hn) (bind_to New_eq ?_)
  have := Q_run (n := n) (ds := ds) (by omega) hd n 0 1000000 newW ⟨[], fun _ => 0, [], fun _ => (0, 0)⟩ (by omega) (by omega) inv_new
  unfold QL0 at this
  exact this
end
def DeedWf (x : DT) : Prop := (Lit.int .i64 x.1).wf = true ∧ (Lit.int .i64 x.2.1).wf = true ∧ (Lit.int .i64 x.2.2.1).wf = true ∧ (Lit.int .i64 x.2.2.2.1).wf = true ∧ (Lit.int .i64 x.2.2.2.2.1).wf = true ∧ (Lit.int .i64 x.2.2.2.2.2.1).wf = true ∧ (Lit.int .i64 x.2.2.2.2.2.2.1).wf = true ∧ (Lit.int .i64 x.2.2.2.2.2.2.2.1).wf = true ∧ (Lit.int .i64 x.2.2.2.2.2.2.2.2.1).wf = true ∧ (Lit.int .i64 x.2.2.2.2.2.2.2.2.2.1).wf = true ∧ (Lit.int .i64 x.2.2.2.2.2.2.2.2.2.2.1).wf = true ∧ (Lit.int .i64 x.2.2.2.2.2.2.2.2.2.2.2.1).wf = true ∧ (Lit.int .i64 x.2.2.2.2.2.2.2.2.2.2.2.2.1).wf = true ∧ (Lit.int .i64 x.2.2.2.2.2.2.2.2.2.2.2.2.2.1).wf = true ∧ (Lit.int .i64 x.2.2.2.2.2.2.2.2.2.2.2.2.2.2.1).wf = true ∧ (Lit.int .i64 x.2.2.2.2.2.2.2.2.2.2.2.2.2.2.2.1).wf = true ∧ (Lit.int .i64 x.2.2.2.2.2.2.2.2.2.2.2.2.2.2.2.2.1).wf = true ∧ (Lit.int .i64 x.2.2.2.2.2.2.2.2.2.2.2.2.2.2.2.2.2.1).wf = true ∧ (Lit.int .i64 x.2.2.2.2.2.2.2.2.2.2.2.2.2.2.2.2.2.2.1).wf = true ∧ (Lit.int .i64 x.2.2.2.2.2.2.2.2.2.2.2.2.2.2.2.2.2.2.2.1).wf = true ∧ (Lit.int .i64 x.2.2.2.2.2.2.2.2.2.2.2.2.2.2.2.2.2.2.2.2.1).wf = true ∧ (Lit.int .i64 x.2.2.2.2.2.2.2.2.2.2.2.2.2.2.2.2.2.2.2.2.2.1).wf = true ∧ (Lit.int .i64 x.2.2.2.2.2.2.2.2.2.2.2.2.2.2.2.2.2.2.2.2.2.2.1).wf = true ∧ (Lit.int .i64 x.2.2.2.2.2.2.2.2.2.2.2.2.2.2.2.2.2.2.2.2.2.2.2.1).wf = true ∧ (Lit.int .i64 x.2.2.2.2.2.2.2.2.2.2.2.2.2.2.2.2.2.2.2.2.2.2.2.2.1).wf = true ∧ (Lit.int .i64 x.2.2.2.2.2.2.2.2.2.2.2.2.2.2.2.2.2.2.2.2.2.2.2.2.2.1).wf = true ∧ (Lit.int .i64 x.2.2.2.2.2.2.2.2.2.2.2.2.2.2.2.2.2.2.2.2.2.2.2.2.2.2.1).wf = true ∧ (Lit.int .i64 x.2.2.2.2.2.2.2.2.2.2.2.2.2.2.2.2.2.2.2.2.2.2.2.2.2.2.2.1).wf = true ∧ (Lit.int .i64 x.2.2.2.2.2.2.2.2.2.2.2.2.2.2.2.2.2.2.2.2.2.2.2.2.2.2.2.2.1).wf = true ∧ (∃ h : Nat → (Int × Int), (x.2.2.2.2.2.2.2.2.2.2.2.2.2.2.2.2.2.2.2.2.2.2.2.2.2.2.2.2.2).2 = (fun i => Rii.enc (h i)) ∧ ∀ i, i < (x.2.2.2.2.2.2.2.2.2.2.2.2.2.2.2.2.2.2.2.2.2.2.2.2.2.2.2.2.2).1 → (fun x => (Lit.int .i64 x.1).wf = true ∧ (Lit.int .i64 x.2).wf = true) (h i))
theorem DeedWf.fine {x : DT} (h : DeedWf x) : FineD x := by
  obtain ⟨w0, w1, w2, w3, w4, w5, w6, w7, w8, w9, w10, w11, w12, w13, w14, w15, w16, w17, w18, w19, w20, w21, w22, w23, w24, w25, w26, w27, w28, h, e, hh⟩ := h
  exact ⟨wf_i w5, wf_i w6, wf_i w8, wf_i w9, wf_i w10, wf_i w14, wf_i w15, wf_i w16, wf_i w17, wf_i w20, wf_i w21, wf_i w22, wf_i w23, wf_i w25, h, e, fun i hi => ⟨wf_i (hh i hi).1, wf_i (hh i hi).2⟩⟩
theorem WorldRuns_true (n : Nat) (ds : Nat → DT) (wn : n ≤ maxLen) (w0 : ∀ i, i < n → DeedWf (ds i)) : law09.WorldRuns.f (n, fun i => RiiiiiiiiiiiiiiiiiiiiiiiiiiiiiL2.enc (ds i)) = some true := Runs_eq fun i hi => (w0 i hi).fine
end Go.Proofs.Ytbcnifnmccaleaa.Y
