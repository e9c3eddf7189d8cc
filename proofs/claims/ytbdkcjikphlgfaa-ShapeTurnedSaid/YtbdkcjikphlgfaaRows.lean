/-
  No cell of these rows narrows 'for every input' (looked for: loops, veiled, ifaces, maps, wideKeys, modest, calm, conditions, laid).
  DERIVED. THE GIVEN ROWS OF THIS SEAT. 5 by the template 'for every input the law returns true; each argument reads behind the call as it read before'; 0 by the template 'total and deterministic' (their statements: YtbdkcjikphlgfaaTotals.lean).
  GIVEN WITH THE SEED: the statements are not yours to turn. If you find one false, say at which input.
  Laid BY PROGRAM, IN A SANDBOX (cutbox-rows.mjs): the forced cells as the released guide's own fill.sh prints them over the translation ca1e1cfedf02e9d6… (all of the seat's roots in one cut). By AI agents, Wed Nov 11 2026. No macro, syntax, notation, axiom, sorry.
-/
import Derived.Test.YtbdkcjikphlgfaaChecked
import GoSem.Claim
import GoSem.ClaimJoined
import GoSem.ClaimMapViews
import Derived.JoinedTies
import Derived.KernelRfl
namespace Go.Proofs.Ytbdkcjikphlgfaa
/- THE CELL 'sum', in the pinned program and in every row, IS THE sha256 OF THE DUMP (.gsa) THAT YtbdkcjikphlgfaaProg.lean LOADS. Nothing in Lean hashes anything: it is a label: what it is worth is what the hold of that sum in a sandbox is worth. -/
noncomputable def Try.pinned : Pinned := { name := "ytbdkcjikphlgfaa", sum := "ca1e1cfedf02e9d63a09144c6f52310229534bae78595056902d20b547f1f1ef", checked := Try.checked }
namespace Rows
def none {H : Type} : Left H := { results := [], args := [] }

/-- 'bagatellelaw04.ShapeRights': WHATEVER THE INPUT: true; the input reads as it did. -/
def shapeRightsSpec : ChangeSpec := { name := "shapeRights", fn := fun _ => fun
  | [d1, d2] => { results := [.lit (.bool true)], args := [d1, d2] }
  | _ => none }
def shapeRightsRow : OpenClaim := { program := "ytbdkcjikphlgfaa", sum := "ca1e1cfedf02e9d63a09144c6f52310229534bae78595056902d20b547f1f1ef", func := "bagatelle/bagatellelaw04.ShapeRights", spec := "shapeRights", named := ["math/bits.divideError", "math/bits.overflowError"], apart := false }
def ShapeRightsSaid : Prop := shapeRightsRow.holds Try.pinned (OpenSpec.ofChange shapeRightsSpec)

/-- ITS FALSE NEIGHBOUR: 'it returns false'. Refute it at one input. -/
def shapeRightsWrong : ChangeSpec := { name := "shapeRights", fn := fun _ => fun
  | [d1, d2] => { results := [.lit (.bool false)], args := [d1, d2] }
  | _ => none }
def ShapeRightsWrongFalsely : Prop := shapeRightsRow.holds Try.pinned (OpenSpec.ofChange shapeRightsWrong)

/-- 'bagatellelaw04.ShapeNormals': WHATEVER THE INPUT: true; the input reads as it did. -/
def shapeNormalsSpec : ChangeSpec := { name := "shapeNormals", fn := fun _ => fun
  | [d] => { results := [.lit (.bool true)], args := [d] }
  | _ => none }
def shapeNormalsRow : OpenClaim := { program := "ytbdkcjikphlgfaa", sum := "ca1e1cfedf02e9d63a09144c6f52310229534bae78595056902d20b547f1f1ef", func := "bagatelle/bagatellelaw04.ShapeNormals", spec := "shapeNormals", named := ["math/bits.divideError", "math/bits.overflowError"], apart := false }
def ShapeNormalsSaid : Prop := shapeNormalsRow.holds Try.pinned (OpenSpec.ofChange shapeNormalsSpec)

/-- ITS FALSE NEIGHBOUR: 'it returns false'. Refute it at one input. -/
def shapeNormalsWrong : ChangeSpec := { name := "shapeNormals", fn := fun _ => fun
  | [d] => { results := [.lit (.bool false)], args := [d] }
  | _ => none }
def ShapeNormalsWrongFalsely : Prop := shapeNormalsRow.holds Try.pinned (OpenSpec.ofChange shapeNormalsWrong)

/-- 'bagatellelaw04.ShapeBoxes': WHATEVER THE INPUT: true; the input reads as it did. -/
def shapeBoxesSpec : ChangeSpec := { name := "shapeBoxes", fn := fun _ => fun
  | [d1, d2] => { results := [.lit (.bool true)], args := [d1, d2] }
  | _ => none }
def shapeBoxesRow : OpenClaim := { program := "ytbdkcjikphlgfaa", sum := "ca1e1cfedf02e9d63a09144c6f52310229534bae78595056902d20b547f1f1ef", func := "bagatelle/bagatellelaw04.ShapeBoxes", spec := "shapeBoxes", named := ["math/bits.divideError", "math/bits.overflowError"], apart := false }
def ShapeBoxesSaid : Prop := shapeBoxesRow.holds Try.pinned (OpenSpec.ofChange shapeBoxesSpec)

/-- ITS FALSE NEIGHBOUR: 'it returns false'. Refute it at one input. -/
def shapeBoxesWrong : ChangeSpec := { name := "shapeBoxes", fn := fun _ => fun
  | [d1, d2] => { results := [.lit (.bool false)], args := [d1, d2] }
  | _ => none }
def ShapeBoxesWrongFalsely : Prop := shapeBoxesRow.holds Try.pinned (OpenSpec.ofChange shapeBoxesWrong)

/-- 'bagatellelaw04.ShapeTurned': WHATEVER THE INPUT: true; the input reads as it did. -/
def shapeTurnedSpec : ChangeSpec := { name := "shapeTurned", fn := fun _ => fun
  | [d1, d2] => { results := [.lit (.bool true)], args := [d1, d2] }
  | _ => none }
def shapeTurnedRow : OpenClaim := { program := "ytbdkcjikphlgfaa", sum := "ca1e1cfedf02e9d63a09144c6f52310229534bae78595056902d20b547f1f1ef", func := "bagatelle/bagatellelaw04.ShapeTurned", spec := "shapeTurned", named := ["math/bits.divideError", "math/bits.overflowError"], apart := false }
def ShapeTurnedSaid : Prop := shapeTurnedRow.holds Try.pinned (OpenSpec.ofChange shapeTurnedSpec)

/-- ITS FALSE NEIGHBOUR: 'it returns false'. Refute it at one input. -/
def shapeTurnedWrong : ChangeSpec := { name := "shapeTurned", fn := fun _ => fun
  | [d1, d2] => { results := [.lit (.bool false)], args := [d1, d2] }
  | _ => none }
def ShapeTurnedWrongFalsely : Prop := shapeTurnedRow.holds Try.pinned (OpenSpec.ofChange shapeTurnedWrong)

/-- 'bagatellelaw04.ShapeCorners': WHATEVER THE INPUT: true; the input reads as it did. -/
def shapeCornersSpec : ChangeSpec := { name := "shapeCorners", fn := fun _ => fun
  | [d1, d2, d3] => { results := [.lit (.bool true)], args := [d1, d2, d3] }
  | _ => none }
def shapeCornersRow : OpenClaim := { program := "ytbdkcjikphlgfaa", sum := "ca1e1cfedf02e9d63a09144c6f52310229534bae78595056902d20b547f1f1ef", func := "bagatelle/bagatellelaw04.ShapeCorners", spec := "shapeCorners", recurses := true, named := ["math/bits.divideError", "math/bits.overflowError"], apart := false }
def ShapeCornersSaid : Prop := shapeCornersRow.holds Try.pinned (OpenSpec.ofChange shapeCornersSpec)

/-- ITS FALSE NEIGHBOUR: 'it returns false'. Refute it at one input. -/
def shapeCornersWrong : ChangeSpec := { name := "shapeCorners", fn := fun _ => fun
  | [d1, d2, d3] => { results := [.lit (.bool false)], args := [d1, d2, d3] }
  | _ => none }
def ShapeCornersWrongFalsely : Prop := shapeCornersRow.holds Try.pinned (OpenSpec.ofChange shapeCornersWrong)

/- THE SECOND FORM. 'bulk': how many values and letters a reading holds, each counted each time it is reached (what is shared counts as often as it is met; a slice's spare places count too). A statement '..UptoSaid' is the law's where the arguments, and the package variables that the reading takes, are together of bulk at most 1048576: NARROWER than '..Said'. Prove '..Said' where nothing that the law and all that it calls make is longer than what came in: it says more and counts as full. Else prove '..UptoSaid'. A law counts once. -/
mutual
def uptoBulk {H : Type} : DataW H → Nat
  | .lit (.string bytes) => bytes.length + 1
  | .lit _ => 1
  | .nil => 1
  | .ptr d => uptoBulk d + 1
  | .slice elems spare => uptoBulkAll elems + uptoBulkAll spare + 1
  | .agg parts => uptoBulkAll parts + 1
  | .iface _ d => uptoBulk d + 1
  | .map entries => uptoBulkEntries entries + 1
  | .held _ => 1
def uptoBulkAll {H : Type} : List (DataW H) → Nat
  | [] => 0
  | d :: r => uptoBulk d + uptoBulkAll r
def uptoBulkEntries {H : Type} : List (Lit × DataW H) → Nat
  | [] => 0
  | x :: r => uptoBulkEntry x + uptoBulkEntries r
def uptoBulkEntry {H : Type} : Lit × DataW H → Nat
  | (.string bytes, d) => bytes.length + uptoBulk d + 1
  | (_, d) => uptoBulk d + 1
 end
def uptoSmall : (H : Type) → List (DataW H) → Bool := fun _ ds => decide (uptoBulkAll ds ≤ 1048576)
def OpenSpec.upto (s : _root_.Go.ChangeSpec) : _root_.Go.OpenSpec := { _root_.Go.OpenSpec.ofChange s with cond := some uptoSmall }

/-- 'bagatellelaw04.ShapeRights', WHERE WHAT IT READS IS OF BULK AT MOST 1048576: true; the input reads as it did. -/
def shapeRightsUptoRow : OpenClaim := { program := "ytbdkcjikphlgfaa", sum := "ca1e1cfedf02e9d63a09144c6f52310229534bae78595056902d20b547f1f1ef", func := "bagatelle/bagatellelaw04.ShapeRights", spec := "shapeRights", named := ["math/bits.divideError", "math/bits.overflowError"], apart := false, narrowed := true }
def ShapeRightsUptoSaid : Prop := shapeRightsUptoRow.holds Try.pinned (OpenSpec.upto shapeRightsSpec)

/-- 'bagatellelaw04.ShapeNormals', WHERE WHAT IT READS IS OF BULK AT MOST 1048576: true; the input reads as it did. -/
def shapeNormalsUptoRow : OpenClaim := { program := "ytbdkcjikphlgfaa", sum := "ca1e1cfedf02e9d63a09144c6f52310229534bae78595056902d20b547f1f1ef", func := "bagatelle/bagatellelaw04.ShapeNormals", spec := "shapeNormals", named := ["math/bits.divideError", "math/bits.overflowError"], apart := false, narrowed := true }
def ShapeNormalsUptoSaid : Prop := shapeNormalsUptoRow.holds Try.pinned (OpenSpec.upto shapeNormalsSpec)

/-- 'bagatellelaw04.ShapeBoxes', WHERE WHAT IT READS IS OF BULK AT MOST 1048576: true; the input reads as it did. -/
def shapeBoxesUptoRow : OpenClaim := { program := "ytbdkcjikphlgfaa", sum := "ca1e1cfedf02e9d63a09144c6f52310229534bae78595056902d20b547f1f1ef", func := "bagatelle/bagatellelaw04.ShapeBoxes", spec := "shapeBoxes", named := ["math/bits.divideError", "math/bits.overflowError"], apart := false, narrowed := true }
def ShapeBoxesUptoSaid : Prop := shapeBoxesUptoRow.holds Try.pinned (OpenSpec.upto shapeBoxesSpec)

/-- 'bagatellelaw04.ShapeTurned', WHERE WHAT IT READS IS OF BULK AT MOST 1048576: true; the input reads as it did. -/
def shapeTurnedUptoRow : OpenClaim := { program := "ytbdkcjikphlgfaa", sum := "ca1e1cfedf02e9d63a09144c6f52310229534bae78595056902d20b547f1f1ef", func := "bagatelle/bagatellelaw04.ShapeTurned", spec := "shapeTurned", named := ["math/bits.divideError", "math/bits.overflowError"], apart := false, narrowed := true }
def ShapeTurnedUptoSaid : Prop := shapeTurnedUptoRow.holds Try.pinned (OpenSpec.upto shapeTurnedSpec)

/-- 'bagatellelaw04.ShapeCorners', WHERE WHAT IT READS IS OF BULK AT MOST 1048576: true; the input reads as it did. -/
def shapeCornersUptoRow : OpenClaim := { program := "ytbdkcjikphlgfaa", sum := "ca1e1cfedf02e9d63a09144c6f52310229534bae78595056902d20b547f1f1ef", func := "bagatelle/bagatellelaw04.ShapeCorners", spec := "shapeCorners", recurses := true, named := ["math/bits.divideError", "math/bits.overflowError"], apart := false, narrowed := true }
def ShapeCornersUptoSaid : Prop := shapeCornersUptoRow.holds Try.pinned (OpenSpec.upto shapeCornersSpec)

end Rows
end Go.Proofs.Ytbdkcjikphlgfaa
