/-
  No cell of these rows narrows 'for every input' (looked for: loops, veiled, ifaces, maps, wideKeys, modest, calm, conditions, laid).
  DERIVED. THE GIVEN ROWS OF THIS SEAT. 6 by the template 'for every input the law returns true; each argument reads behind the call as it read before'; 0 by the template 'total and deterministic' (their statements: YtfdjpjainjjljaaTotals.lean).
  GIVEN WITH THE SEED: the statements are not yours to turn. If you find one false, say at which input.
  Laid BY PROGRAM, IN A SANDBOX (cutbox-rows.mjs): the forced cells as the released guide's own fill.sh prints them over the translation 3de4eb5d700765f8… (all of the seat's roots in one cut). By AI agents, Wed Nov 11 2026. No macro, syntax, notation, axiom, sorry.
-/
import Derived.Test.YtfdjpjainjjljaaChecked
import GoSem.Claim
import GoSem.ClaimJoined
import GoSem.ClaimMapViews
import Derived.JoinedTies
import Derived.KernelRfl
namespace Go.Proofs.Ytfdjpjainjjljaa
/- THE CELL 'sum', in the pinned program and in every row, IS THE sha256 OF THE DUMP (.gsa) THAT YtfdjpjainjjljaaProg.lean LOADS. Nothing in Lean hashes anything: it is a label: what it is worth is what the hold of that sum in a sandbox is worth. -/
noncomputable def Try.pinned : Pinned := { name := "ytfdjpjainjjljaa", sum := "3de4eb5d700765f8c3574169b65b1ed554d45dda46963a6e26093c5fd51822f0", checked := Try.checked }
namespace Rows
def none {H : Type} : Left H := { results := [], args := [] }

/-- 'bagatellelaw03.VecUnits': WHATEVER THE INPUT: true; the input reads as it did. -/
def vecUnitsSpec : ChangeSpec := { name := "vecUnits", fn := fun _ => fun
  | [d] => { results := [.lit (.bool true)], args := [d] }
  | _ => none }
def vecUnitsRow : OpenClaim := { program := "ytfdjpjainjjljaa", sum := "3de4eb5d700765f8c3574169b65b1ed554d45dda46963a6e26093c5fd51822f0", func := "bagatelle/bagatellelaw03.VecUnits", spec := "vecUnits", recurses := true, named := ["math/bits.divideError", "math/bits.overflowError"], apart := false }
def VecUnitsSaid : Prop := vecUnitsRow.holds Try.pinned (OpenSpec.ofChange vecUnitsSpec)

/-- ITS FALSE NEIGHBOUR: 'it returns false'. Refute it at one input. -/
def vecUnitsWrong : ChangeSpec := { name := "vecUnits", fn := fun _ => fun
  | [d] => { results := [.lit (.bool false)], args := [d] }
  | _ => none }
def VecUnitsWrongFalsely : Prop := vecUnitsRow.holds Try.pinned (OpenSpec.ofChange vecUnitsWrong)

/-- 'bagatellelaw03.VecBrings': WHATEVER THE INPUT: true; the input reads as it did. -/
def vecBringsSpec : ChangeSpec := { name := "vecBrings", fn := fun _ => fun
  | [d1, d2] => { results := [.lit (.bool true)], args := [d1, d2] }
  | _ => none }
def vecBringsRow : OpenClaim := { program := "ytfdjpjainjjljaa", sum := "3de4eb5d700765f8c3574169b65b1ed554d45dda46963a6e26093c5fd51822f0", func := "bagatelle/bagatellelaw03.VecBrings", spec := "vecBrings", recurses := true, named := ["math/bits.divideError", "math/bits.overflowError"], apart := false }
def VecBringsSaid : Prop := vecBringsRow.holds Try.pinned (OpenSpec.ofChange vecBringsSpec)

/-- ITS FALSE NEIGHBOUR: 'it returns false'. Refute it at one input. -/
def vecBringsWrong : ChangeSpec := { name := "vecBrings", fn := fun _ => fun
  | [d1, d2] => { results := [.lit (.bool false)], args := [d1, d2] }
  | _ => none }
def VecBringsWrongFalsely : Prop := vecBringsRow.holds Try.pinned (OpenSpec.ofChange vecBringsWrong)

/-- 'bagatellelaw03.VecLens': WHATEVER THE INPUT: true; the input reads as it did. -/
def vecLensSpec : ChangeSpec := { name := "vecLens", fn := fun _ => fun
  | [d1, d2] => { results := [.lit (.bool true)], args := [d1, d2] }
  | _ => none }
def vecLensRow : OpenClaim := { program := "ytfdjpjainjjljaa", sum := "3de4eb5d700765f8c3574169b65b1ed554d45dda46963a6e26093c5fd51822f0", func := "bagatelle/bagatellelaw03.VecLens", spec := "vecLens", recurses := true, named := ["math/bits.divideError", "math/bits.overflowError"], apart := false }
def VecLensSaid : Prop := vecLensRow.holds Try.pinned (OpenSpec.ofChange vecLensSpec)

/-- ITS FALSE NEIGHBOUR: 'it returns false'. Refute it at one input. -/
def vecLensWrong : ChangeSpec := { name := "vecLens", fn := fun _ => fun
  | [d1, d2] => { results := [.lit (.bool false)], args := [d1, d2] }
  | _ => none }
def VecLensWrongFalsely : Prop := vecLensRow.holds Try.pinned (OpenSpec.ofChange vecLensWrong)

/-- 'bagatellelaw03.VecAdds': WHATEVER THE INPUT: true; the input reads as it did. -/
def vecAddsSpec : ChangeSpec := { name := "vecAdds", fn := fun _ => fun
  | [d1, d2, d3] => { results := [.lit (.bool true)], args := [d1, d2, d3] }
  | _ => none }
def vecAddsRow : OpenClaim := { program := "ytfdjpjainjjljaa", sum := "3de4eb5d700765f8c3574169b65b1ed554d45dda46963a6e26093c5fd51822f0", func := "bagatelle/bagatellelaw03.VecAdds", spec := "vecAdds", recurses := true, named := ["math/bits.divideError", "math/bits.overflowError"], apart := false }
def VecAddsSaid : Prop := vecAddsRow.holds Try.pinned (OpenSpec.ofChange vecAddsSpec)

/-- ITS FALSE NEIGHBOUR: 'it returns false'. Refute it at one input. -/
def vecAddsWrong : ChangeSpec := { name := "vecAdds", fn := fun _ => fun
  | [d1, d2, d3] => { results := [.lit (.bool false)], args := [d1, d2, d3] }
  | _ => none }
def VecAddsWrongFalsely : Prop := vecAddsRow.holds Try.pinned (OpenSpec.ofChange vecAddsWrong)

/-- 'bagatellelaw03.VecTurns': WHATEVER THE INPUT: true; the input reads as it did. -/
def vecTurnsSpec : ChangeSpec := { name := "vecTurns", fn := fun _ => fun
  | [d1, d2] => { results := [.lit (.bool true)], args := [d1, d2] }
  | _ => none }
def vecTurnsRow : OpenClaim := { program := "ytfdjpjainjjljaa", sum := "3de4eb5d700765f8c3574169b65b1ed554d45dda46963a6e26093c5fd51822f0", func := "bagatelle/bagatellelaw03.VecTurns", spec := "vecTurns", recurses := true, named := ["math/bits.divideError", "math/bits.overflowError"], apart := false }
def VecTurnsSaid : Prop := vecTurnsRow.holds Try.pinned (OpenSpec.ofChange vecTurnsSpec)

/-- ITS FALSE NEIGHBOUR: 'it returns false'. Refute it at one input. -/
def vecTurnsWrong : ChangeSpec := { name := "vecTurns", fn := fun _ => fun
  | [d1, d2] => { results := [.lit (.bool false)], args := [d1, d2] }
  | _ => none }
def VecTurnsWrongFalsely : Prop := vecTurnsRow.holds Try.pinned (OpenSpec.ofChange vecTurnsWrong)

/-- 'bagatellelaw03.VecLaws': WHATEVER THE INPUT: true; the input reads as it did. -/
def vecLawsSpec : ChangeSpec := { name := "vecLaws", fn := fun _ => fun
  | [d1, d2] => { results := [.lit (.bool true)], args := [d1, d2] }
  | _ => none }
def vecLawsRow : OpenClaim := { program := "ytfdjpjainjjljaa", sum := "3de4eb5d700765f8c3574169b65b1ed554d45dda46963a6e26093c5fd51822f0", func := "bagatelle/bagatellelaw03.VecLaws", spec := "vecLaws", recurses := true, named := ["math/bits.divideError", "math/bits.overflowError"], apart := false }
def VecLawsSaid : Prop := vecLawsRow.holds Try.pinned (OpenSpec.ofChange vecLawsSpec)

/-- ITS FALSE NEIGHBOUR: 'it returns false'. Refute it at one input. -/
def vecLawsWrong : ChangeSpec := { name := "vecLaws", fn := fun _ => fun
  | [d1, d2] => { results := [.lit (.bool false)], args := [d1, d2] }
  | _ => none }
def VecLawsWrongFalsely : Prop := vecLawsRow.holds Try.pinned (OpenSpec.ofChange vecLawsWrong)

/- THE SECOND FORM. 'bulk': how many values and letters a reading holds, each counted each time it is reached (what is shared counts as often as it is met; a slice's spare places count too). A statement '..UptoSaid' is the law's where the arguments, and the package variables that the reading takes, are together of bulk at most 1048576: NARROWER than '..Said'. Prove '..Said' where nothing that the law and all that it calls make is longer than what came in: it says more and counts as full. Else prove '..UptoSaid'. A law counts once. -/
mutual
def uptoBulk {H : Type} : DataW H → Nat
  | .lit (.string bytes) => bytes.length + 1
  | .lit _ => 1
  | .nil => 1
  | .ptr d => uptoBulk d + 1
  | .slice elems spare => uptoBulkAll elems + uptoBulkAll spare + 1
  | .agg parts => uptoBulkAll parts + 1
  | .iface _ d => uptoBulk d + 1
  | .map entries => uptoBulkEntries entries + 1
  | .held _ => 1
def uptoBulkAll {H : Type} : List (DataW H) → Nat
  | [] => 0
  | d :: r => uptoBulk d + uptoBulkAll r
def uptoBulkEntries {H : Type} : List (Lit × DataW H) → Nat
  | [] => 0
  | x :: r => uptoBulkEntry x + uptoBulkEntries r
def uptoBulkEntry {H : Type} : Lit × DataW H → Nat
  | (.string bytes, d) => bytes.length + uptoBulk d + 1
  | (_, d) => uptoBulk d + 1
 end
def uptoSmall : (H : Type) → List (DataW H) → Bool := fun _ ds => decide (uptoBulkAll ds ≤ 1048576)
def OpenSpec.upto (s : _root_.Go.ChangeSpec) : _root_.Go.OpenSpec := { _root_.Go.OpenSpec.ofChange s with cond := some uptoSmall }

/-- 'bagatellelaw03.VecUnits', WHERE WHAT IT READS IS OF BULK AT MOST 1048576: true; the input reads as it did. -/
def vecUnitsUptoRow : OpenClaim := { program := "ytfdjpjainjjljaa", sum := "3de4eb5d700765f8c3574169b65b1ed554d45dda46963a6e26093c5fd51822f0", func := "bagatelle/bagatellelaw03.VecUnits", spec := "vecUnits", recurses := true, named := ["math/bits.divideError", "math/bits.overflowError"], apart := false, narrowed := true }
def VecUnitsUptoSaid : Prop := vecUnitsUptoRow.holds Try.pinned (OpenSpec.upto vecUnitsSpec)

/-- 'bagatellelaw03.VecBrings', WHERE WHAT IT READS IS OF BULK AT MOST 1048576: true; the input reads as it did. -/
def vecBringsUptoRow : OpenClaim := { program := "ytfdjpjainjjljaa", sum := "3de4eb5d700765f8c3574169b65b1ed554d45dda46963a6e26093c5fd51822f0", func := "bagatelle/bagatellelaw03.VecBrings", spec := "vecBrings", recurses := true, named := ["math/bits.divideError", "math/bits.overflowError"], apart := false, narrowed := true }
def VecBringsUptoSaid : Prop := vecBringsUptoRow.holds Try.pinned (OpenSpec.upto vecBringsSpec)

/-- 'bagatellelaw03.VecLens', WHERE WHAT IT READS IS OF BULK AT MOST 1048576: true; the input reads as it did. -/
def vecLensUptoRow : OpenClaim := { program := "ytfdjpjainjjljaa", sum := "3de4eb5d700765f8c3574169b65b1ed554d45dda46963a6e26093c5fd51822f0", func := "bagatelle/bagatellelaw03.VecLens", spec := "vecLens", recurses := true, named := ["math/bits.divideError", "math/bits.overflowError"], apart := false, narrowed := true }
def VecLensUptoSaid : Prop := vecLensUptoRow.holds Try.pinned (OpenSpec.upto vecLensSpec)

/-- 'bagatellelaw03.VecAdds', WHERE WHAT IT READS IS OF BULK AT MOST 1048576: true; the input reads as it did. -/
def vecAddsUptoRow : OpenClaim := { program := "ytfdjpjainjjljaa", sum := "3de4eb5d700765f8c3574169b65b1ed554d45dda46963a6e26093c5fd51822f0", func := "bagatelle/bagatellelaw03.VecAdds", spec := "vecAdds", recurses := true, named := ["math/bits.divideError", "math/bits.overflowError"], apart := false, narrowed := true }
def VecAddsUptoSaid : Prop := vecAddsUptoRow.holds Try.pinned (OpenSpec.upto vecAddsSpec)

/-- 'bagatellelaw03.VecTurns', WHERE WHAT IT READS IS OF BULK AT MOST 1048576: true; the input reads as it did. -/
def vecTurnsUptoRow : OpenClaim := { program := "ytfdjpjainjjljaa", sum := "3de4eb5d700765f8c3574169b65b1ed554d45dda46963a6e26093c5fd51822f0", func := "bagatelle/bagatellelaw03.VecTurns", spec := "vecTurns", recurses := true, named := ["math/bits.divideError", "math/bits.overflowError"], apart := false, narrowed := true }
def VecTurnsUptoSaid : Prop := vecTurnsUptoRow.holds Try.pinned (OpenSpec.upto vecTurnsSpec)

/-- 'bagatellelaw03.VecLaws', WHERE WHAT IT READS IS OF BULK AT MOST 1048576: true; the input reads as it did. -/
def vecLawsUptoRow : OpenClaim := { program := "ytfdjpjainjjljaa", sum := "3de4eb5d700765f8c3574169b65b1ed554d45dda46963a6e26093c5fd51822f0", func := "bagatelle/bagatellelaw03.VecLaws", spec := "vecLaws", recurses := true, named := ["math/bits.divideError", "math/bits.overflowError"], apart := false, narrowed := true }
def VecLawsUptoSaid : Prop := vecLawsUptoRow.holds Try.pinned (OpenSpec.upto vecLawsSpec)

end Rows
end Go.Proofs.Ytfdjpjainjjljaa
