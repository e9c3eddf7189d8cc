/-
  No cell of these rows narrows 'for every input' (looked for: loops, veiled, ifaces, maps, wideKeys, modest, calm, conditions, laid).
  DERIVED. THE GIVEN ROWS OF THIS SEAT. 6 by the template 'for every input the law returns true; each argument reads behind the call as it read before'; 0 by the template 'total and deterministic' (their statements: YtejlappndcakeaaTotals.lean).
  GIVEN WITH THE SEED: the statements are not yours to turn. If you find one false, say at which input.
  Laid BY PROGRAM, IN A SANDBOX (cutbox-rows.mjs): the forced cells as the released guide's own fill.sh prints them over the translation 4f15505fbb086884… (all of the seat's roots in one cut). By AI agents, Wed Nov 11 2026. No macro, syntax, notation, axiom, sorry.
-/
import Derived.Test.YtejlappndcakeaaChecked
import GoSem.Claim
import GoSem.ClaimJoined
import GoSem.ClaimMapViews
import Derived.JoinedTies
import Derived.KernelRfl
namespace Go.Proofs.Ytejlappndcakeaa
/- THE CELL 'sum', in the pinned program and in every row, IS THE sha256 OF THE DUMP (.gsa) THAT YtejlappndcakeaaProg.lean LOADS. Nothing in Lean hashes anything: it is a label: what it is worth is what the hold of that sum in a sandbox is worth. -/
noncomputable def Try.pinned : Pinned := { name := "ytejlappndcakeaa", sum := "4f15505fbb0868846a084791cea24cf5f4bb331e30024c5144236cbee6877eea", checked := Try.checked }
namespace Rows
def none {H : Type} : Left H := { results := [], args := [] }

/-- 'bagatellelaw07.TouchRounds': WHATEVER THE INPUT: true; the input reads as it did. -/
def touchRoundsSpec : ChangeSpec := { name := "touchRounds", fn := fun _ => fun
  | [d1, d2, d3] => { results := [.lit (.bool true)], args := [d1, d2, d3] }
  | _ => none }
def touchRoundsRow : OpenClaim := { program := "ytejlappndcakeaa", sum := "4f15505fbb0868846a084791cea24cf5f4bb331e30024c5144236cbee6877eea", func := "bagatelle/bagatellelaw07.TouchRounds", spec := "touchRounds", recurses := true, named := ["math/bits.divideError", "math/bits.overflowError"], apart := false }
def TouchRoundsSaid : Prop := touchRoundsRow.holds Try.pinned (OpenSpec.ofChange touchRoundsSpec)

/-- ITS FALSE NEIGHBOUR: 'it returns false'. Refute it at one input. -/
def touchRoundsWrong : ChangeSpec := { name := "touchRounds", fn := fun _ => fun
  | [d1, d2, d3] => { results := [.lit (.bool false)], args := [d1, d2, d3] }
  | _ => none }
def TouchRoundsWrongFalsely : Prop := touchRoundsRow.holds Try.pinned (OpenSpec.ofChange touchRoundsWrong)

/-- 'bagatellelaw07.TouchTells': WHATEVER THE INPUT: true; the input reads as it did. -/
def touchTellsSpec : ChangeSpec := { name := "touchTells", fn := fun _ => fun
  | [d1, d2] => { results := [.lit (.bool true)], args := [d1, d2] }
  | _ => none }
def touchTellsRow : OpenClaim := { program := "ytejlappndcakeaa", sum := "4f15505fbb0868846a084791cea24cf5f4bb331e30024c5144236cbee6877eea", func := "bagatelle/bagatellelaw07.TouchTells", spec := "touchTells", recurses := true, named := ["math/bits.divideError", "math/bits.overflowError"], apart := false }
def TouchTellsSaid : Prop := touchTellsRow.holds Try.pinned (OpenSpec.ofChange touchTellsSpec)

/-- ITS FALSE NEIGHBOUR: 'it returns false'. Refute it at one input. -/
def touchTellsWrong : ChangeSpec := { name := "touchTells", fn := fun _ => fun
  | [d1, d2] => { results := [.lit (.bool false)], args := [d1, d2] }
  | _ => none }
def TouchTellsWrongFalsely : Prop := touchTellsRow.holds Try.pinned (OpenSpec.ofChange touchTellsWrong)

/-- 'bagatellelaw07.TouchGaps': WHATEVER THE INPUT: true; the input reads as it did. -/
def touchGapsSpec : ChangeSpec := { name := "touchGaps", fn := fun _ => fun
  | [d1, d2] => { results := [.lit (.bool true)], args := [d1, d2] }
  | _ => none }
def touchGapsRow : OpenClaim := { program := "ytejlappndcakeaa", sum := "4f15505fbb0868846a084791cea24cf5f4bb331e30024c5144236cbee6877eea", func := "bagatelle/bagatellelaw07.TouchGaps", spec := "touchGaps", recurses := true, named := ["math/bits.divideError", "math/bits.overflowError"], apart := false }
def TouchGapsSaid : Prop := touchGapsRow.holds Try.pinned (OpenSpec.ofChange touchGapsSpec)

/-- ITS FALSE NEIGHBOUR: 'it returns false'. Refute it at one input. -/
def touchGapsWrong : ChangeSpec := { name := "touchGaps", fn := fun _ => fun
  | [d1, d2] => { results := [.lit (.bool false)], args := [d1, d2] }
  | _ => none }
def TouchGapsWrongFalsely : Prop := touchGapsRow.holds Try.pinned (OpenSpec.ofChange touchGapsWrong)

/-- 'bagatellelaw07.TouchMoved': WHATEVER THE INPUT: true; the input reads as it did. -/
def touchMovedSpec : ChangeSpec := { name := "touchMoved", fn := fun _ => fun
  | [d1, d2, d3] => { results := [.lit (.bool true)], args := [d1, d2, d3] }
  | _ => none }
def touchMovedRow : OpenClaim := { program := "ytejlappndcakeaa", sum := "4f15505fbb0868846a084791cea24cf5f4bb331e30024c5144236cbee6877eea", func := "bagatelle/bagatellelaw07.TouchMoved", spec := "touchMoved", recurses := true, named := ["math/bits.divideError", "math/bits.overflowError"], apart := false }
def TouchMovedSaid : Prop := touchMovedRow.holds Try.pinned (OpenSpec.ofChange touchMovedSpec)

/-- ITS FALSE NEIGHBOUR: 'it returns false'. Refute it at one input. -/
def touchMovedWrong : ChangeSpec := { name := "touchMoved", fn := fun _ => fun
  | [d1, d2, d3] => { results := [.lit (.bool false)], args := [d1, d2, d3] }
  | _ => none }
def TouchMovedWrongFalsely : Prop := touchMovedRow.holds Try.pinned (OpenSpec.ofChange touchMovedWrong)

/-- 'bagatellelaw07.TouchTurned': WHATEVER THE INPUT: true; the input reads as it did. -/
def touchTurnedSpec : ChangeSpec := { name := "touchTurned", fn := fun _ => fun
  | [d1, d2] => { results := [.lit (.bool true)], args := [d1, d2] }
  | _ => none }
def touchTurnedRow : OpenClaim := { program := "ytejlappndcakeaa", sum := "4f15505fbb0868846a084791cea24cf5f4bb331e30024c5144236cbee6877eea", func := "bagatelle/bagatellelaw07.TouchTurned", spec := "touchTurned", recurses := true, named := ["math/bits.divideError", "math/bits.overflowError"], apart := false }
def TouchTurnedSaid : Prop := touchTurnedRow.holds Try.pinned (OpenSpec.ofChange touchTurnedSpec)

/-- ITS FALSE NEIGHBOUR: 'it returns false'. Refute it at one input. -/
def touchTurnedWrong : ChangeSpec := { name := "touchTurned", fn := fun _ => fun
  | [d1, d2] => { results := [.lit (.bool false)], args := [d1, d2] }
  | _ => none }
def TouchTurnedWrongFalsely : Prop := touchTurnedRow.holds Try.pinned (OpenSpec.ofChange touchTurnedWrong)

/-- 'bagatellelaw07.TouchDeep': WHATEVER THE INPUT: true; the input reads as it did. -/
def touchDeepSpec : ChangeSpec := { name := "touchDeep", fn := fun _ => fun
  | [d1, d2] => { results := [.lit (.bool true)], args := [d1, d2] }
  | _ => none }
def touchDeepRow : OpenClaim := { program := "ytejlappndcakeaa", sum := "4f15505fbb0868846a084791cea24cf5f4bb331e30024c5144236cbee6877eea", func := "bagatelle/bagatellelaw07.TouchDeep", spec := "touchDeep", recurses := true, named := ["math/bits.divideError", "math/bits.overflowError"], apart := false }
def TouchDeepSaid : Prop := touchDeepRow.holds Try.pinned (OpenSpec.ofChange touchDeepSpec)

/-- ITS FALSE NEIGHBOUR: 'it returns false'. Refute it at one input. -/
def touchDeepWrong : ChangeSpec := { name := "touchDeep", fn := fun _ => fun
  | [d1, d2] => { results := [.lit (.bool false)], args := [d1, d2] }
  | _ => none }
def TouchDeepWrongFalsely : Prop := touchDeepRow.holds Try.pinned (OpenSpec.ofChange touchDeepWrong)

/- THE SECOND FORM. 'bulk': how many values and letters a reading holds, each counted each time it is reached (what is shared counts as often as it is met; a slice's spare places count too). A statement '..UptoSaid' is the law's where the arguments, and the package variables that the reading takes, are together of bulk at most 1048576: NARROWER than '..Said'. Prove '..Said' where nothing that the law and all that it calls make is longer than what came in: it says more and counts as full. Else prove '..UptoSaid'. A law counts once. -/
mutual
def uptoBulk {H : Type} : DataW H → Nat
  | .lit (.string bytes) => bytes.length + 1
  | .lit _ => 1
  | .nil => 1
  | .ptr d => uptoBulk d + 1
  | .slice elems spare => uptoBulkAll elems + uptoBulkAll spare + 1
  | .agg parts => uptoBulkAll parts + 1
  | .iface _ d => uptoBulk d + 1
  | .map entries => uptoBulkEntries entries + 1
  | .held _ => 1
def uptoBulkAll {H : Type} : List (DataW H) → Nat
  | [] => 0
  | d :: r => uptoBulk d + uptoBulkAll r
def uptoBulkEntries {H : Type} : List (Lit × DataW H) → Nat
  | [] => 0
  | x :: r => uptoBulkEntry x + uptoBulkEntries r
def uptoBulkEntry {H : Type} : Lit × DataW H → Nat
  | (.string bytes, d) => bytes.length + uptoBulk d + 1
  | (_, d) => uptoBulk d + 1
 end
def uptoSmall : (H : Type) → List (DataW H) → Bool := fun _ ds => decide (uptoBulkAll ds ≤ 1048576)
def OpenSpec.upto (s : _root_.Go.ChangeSpec) : _root_.Go.OpenSpec := { _root_.Go.OpenSpec.ofChange s with cond := some uptoSmall }

/-- 'bagatellelaw07.TouchRounds', WHERE WHAT IT READS IS OF BULK AT MOST 1048576: true; the input reads as it did. -/
def touchRoundsUptoRow : OpenClaim := { program := "ytejlappndcakeaa", sum := "4f15505fbb0868846a084791cea24cf5f4bb331e30024c5144236cbee6877eea", func := "bagatelle/bagatellelaw07.TouchRounds", spec := "touchRounds", recurses := true, named := ["math/bits.divideError", "math/bits.overflowError"], apart := false, narrowed := true }
def TouchRoundsUptoSaid : Prop := touchRoundsUptoRow.holds Try.pinned (OpenSpec.upto touchRoundsSpec)

/-- 'bagatellelaw07.TouchTells', WHERE WHAT IT READS IS OF BULK AT MOST 1048576: true; the input reads as it did. -/
def touchTellsUptoRow : OpenClaim := { program := "ytejlappndcakeaa", sum := "4f15505fbb0868846a084791cea24cf5f4bb331e30024c5144236cbee6877eea", func := "bagatelle/bagatellelaw07.TouchTells", spec := "touchTells", recurses := true, named := ["math/bits.divideError", "math/bits.overflowError"], apart := false, narrowed := true }
def TouchTellsUptoSaid : Prop := touchTellsUptoRow.holds Try.pinned (OpenSpec.upto touchTellsSpec)

/-- 'bagatellelaw07.TouchGaps', WHERE WHAT IT READS IS OF BULK AT MOST 1048576: true; the input reads as it did. -/
def touchGapsUptoRow : OpenClaim := { program := "ytejlappndcakeaa", sum := "4f15505fbb0868846a084791cea24cf5f4bb331e30024c5144236cbee6877eea", func := "bagatelle/bagatellelaw07.TouchGaps", spec := "touchGaps", recurses := true, named := ["math/bits.divideError", "math/bits.overflowError"], apart := false, narrowed := true }
def TouchGapsUptoSaid : Prop := touchGapsUptoRow.holds Try.pinned (OpenSpec.upto touchGapsSpec)

/-- 'bagatellelaw07.TouchMoved', WHERE WHAT IT READS IS OF BULK AT MOST 1048576: true; the input reads as it did. -/
def touchMovedUptoRow : OpenClaim := { program := "ytejlappndcakeaa", sum := "4f15505fbb0868846a084791cea24cf5f4bb331e30024c5144236cbee6877eea", func := "bagatelle/bagatellelaw07.TouchMoved", spec := "touchMoved", recurses := true, named := ["math/bits.divideError", "math/bits.overflowError"], apart := false, narrowed := true }
def TouchMovedUptoSaid : Prop := touchMovedUptoRow.holds Try.pinned (OpenSpec.upto touchMovedSpec)

/-- 'bagatellelaw07.TouchTurned', WHERE WHAT IT READS IS OF BULK AT MOST 1048576: true; the input reads as it did. -/
def touchTurnedUptoRow : OpenClaim := { program := "ytejlappndcakeaa", sum := "4f15505fbb0868846a084791cea24cf5f4bb331e30024c5144236cbee6877eea", func := "bagatelle/bagatellelaw07.TouchTurned", spec := "touchTurned", recurses := true, named := ["math/bits.divideError", "math/bits.overflowError"], apart := false, narrowed := true }
def TouchTurnedUptoSaid : Prop := touchTurnedUptoRow.holds Try.pinned (OpenSpec.upto touchTurnedSpec)

/-- 'bagatellelaw07.TouchDeep', WHERE WHAT IT READS IS OF BULK AT MOST 1048576: true; the input reads as it did. -/
def touchDeepUptoRow : OpenClaim := { program := "ytejlappndcakeaa", sum := "4f15505fbb0868846a084791cea24cf5f4bb331e30024c5144236cbee6877eea", func := "bagatelle/bagatellelaw07.TouchDeep", spec := "touchDeep", recurses := true, named := ["math/bits.divideError", "math/bits.overflowError"], apart := false, narrowed := true }
def TouchDeepUptoSaid : Prop := touchDeepUptoRow.holds Try.pinned (OpenSpec.upto touchDeepSpec)

end Rows
end Go.Proofs.Ytejlappndcakeaa
