/-
  No cell of these rows narrows 'for every input' (looked for: loops, veiled, ifaces, maps, wideKeys, modest, calm, conditions, laid).
  DERIVED. THE GIVEN ROWS OF THIS SEAT. 4 by the template 'for every input the law returns true; each argument reads behind the call as it read before'; 0 by the template 'total and deterministic' (their statements: YtdkpmmdelmllmaaTotals.lean).
  GIVEN WITH THE SEED: the statements are not yours to turn. If you find one false, say at which input.
  Laid BY PROGRAM, IN A SANDBOX (cutbox-rows.mjs): the forced cells as the released guide's own fill.sh prints them over the translation 01773674b8a1f8e9… (all of the seat's roots in one cut). By AI agents, Wed Nov 11 2026. No macro, syntax, notation, axiom, sorry.
-/
import Derived.Test.YtdkpmmdelmllmaaChecked
import GoSem.Claim
import GoSem.ClaimJoined
import GoSem.ClaimMapViews
import Derived.JoinedTies
import Derived.KernelRfl
namespace Go.Proofs.Ytdkpmmdelmllmaa
/- THE CELL 'sum', in the pinned program and in every row, IS THE sha256 OF THE DUMP (.gsa) THAT YtdkpmmdelmllmaaProg.lean LOADS. Nothing in Lean hashes anything: it is a label: what it is worth is what the hold of that sum in a sandbox is worth. -/
noncomputable def Try.pinned : Pinned := { name := "ytdkpmmdelmllmaa", sum := "01773674b8a1f8e92813843fa603f0dd58239ba4da1d334985a1f24d35935bd1", checked := Try.checked }
namespace Rows
def none {H : Type} : Left H := { results := [], args := [] }

/-- 'bagatellelaw02.TurnSteps': WHATEVER THE INPUT: true; the input reads as it did. -/
def turnStepsSpec : ChangeSpec := { name := "turnSteps", fn := fun _ => fun
  | [d1, d2] => { results := [.lit (.bool true)], args := [d1, d2] }
  | _ => none }
def turnStepsRow : OpenClaim := { program := "ytdkpmmdelmllmaa", sum := "01773674b8a1f8e92813843fa603f0dd58239ba4da1d334985a1f24d35935bd1", func := "bagatelle/bagatellelaw02.TurnSteps", spec := "turnSteps", recurses := true, apart := false }
def TurnStepsSaid : Prop := turnStepsRow.holds Try.pinned (OpenSpec.ofChange turnStepsSpec)

/-- ITS FALSE NEIGHBOUR: 'it returns false'. Refute it at one input. -/
def turnStepsWrong : ChangeSpec := { name := "turnSteps", fn := fun _ => fun
  | [d1, d2] => { results := [.lit (.bool false)], args := [d1, d2] }
  | _ => none }
def TurnStepsWrongFalsely : Prop := turnStepsRow.holds Try.pinned (OpenSpec.ofChange turnStepsWrong)

/-- 'bagatellelaw02.TurnWraps': WHATEVER THE INPUT: true; the input reads as it did. -/
def turnWrapsSpec : ChangeSpec := { name := "turnWraps", fn := fun _ => fun
  | [d1, d2] => { results := [.lit (.bool true)], args := [d1, d2] }
  | _ => none }
def turnWrapsRow : OpenClaim := { program := "ytdkpmmdelmllmaa", sum := "01773674b8a1f8e92813843fa603f0dd58239ba4da1d334985a1f24d35935bd1", func := "bagatelle/bagatellelaw02.TurnWraps", spec := "turnWraps", recurses := true, apart := false }
def TurnWrapsSaid : Prop := turnWrapsRow.holds Try.pinned (OpenSpec.ofChange turnWrapsSpec)

/-- ITS FALSE NEIGHBOUR: 'it returns false'. Refute it at one input. -/
def turnWrapsWrong : ChangeSpec := { name := "turnWraps", fn := fun _ => fun
  | [d1, d2] => { results := [.lit (.bool false)], args := [d1, d2] }
  | _ => none }
def TurnWrapsWrongFalsely : Prop := turnWrapsRow.holds Try.pinned (OpenSpec.ofChange turnWrapsWrong)

/-- 'bagatellelaw02.TurnTables': WHATEVER THE INPUT: true; the input reads as it did. -/
def turnTablesSpec : ChangeSpec := { name := "turnTables", fn := fun _ => fun
  | [d1, d2, d3] => { results := [.lit (.bool true)], args := [d1, d2, d3] }
  | _ => none }
def turnTablesRow : OpenClaim := { program := "ytdkpmmdelmllmaa", sum := "01773674b8a1f8e92813843fa603f0dd58239ba4da1d334985a1f24d35935bd1", func := "bagatelle/bagatellelaw02.TurnTables", spec := "turnTables", recurses := true, apart := false }
def TurnTablesSaid : Prop := turnTablesRow.holds Try.pinned (OpenSpec.ofChange turnTablesSpec)

/-- ITS FALSE NEIGHBOUR: 'it returns false'. Refute it at one input. -/
def turnTablesWrong : ChangeSpec := { name := "turnTables", fn := fun _ => fun
  | [d1, d2, d3] => { results := [.lit (.bool false)], args := [d1, d2, d3] }
  | _ => none }
def TurnTablesWrongFalsely : Prop := turnTablesRow.holds Try.pinned (OpenSpec.ofChange turnTablesWrong)

/-- 'bagatellelaw02.TurnRounds': WHATEVER THE INPUT: true; the input reads as it did. -/
def turnRoundsSpec : ChangeSpec := { name := "turnRounds", fn := fun _ => fun
  | [d] => { results := [.lit (.bool true)], args := [d] }
  | _ => none }
def turnRoundsRow : OpenClaim := { program := "ytdkpmmdelmllmaa", sum := "01773674b8a1f8e92813843fa603f0dd58239ba4da1d334985a1f24d35935bd1", func := "bagatelle/bagatellelaw02.TurnRounds", spec := "turnRounds", recurses := true, apart := false }
def TurnRoundsSaid : Prop := turnRoundsRow.holds Try.pinned (OpenSpec.ofChange turnRoundsSpec)

/-- ITS FALSE NEIGHBOUR: 'it returns false'. Refute it at one input. -/
def turnRoundsWrong : ChangeSpec := { name := "turnRounds", fn := fun _ => fun
  | [d] => { results := [.lit (.bool false)], args := [d] }
  | _ => none }
def TurnRoundsWrongFalsely : Prop := turnRoundsRow.holds Try.pinned (OpenSpec.ofChange turnRoundsWrong)

/- THE SECOND FORM. 'bulk': how many values and letters a reading holds, each counted each time it is reached (what is shared counts as often as it is met; a slice's spare places count too). A statement '..UptoSaid' is the law's where the arguments, and the package variables that the reading takes, are together of bulk at most 1048576: NARROWER than '..Said'. Prove '..Said' where nothing that the law and all that it calls make is longer than what came in: it says more and counts as full. Else prove '..UptoSaid'. A law counts once. -/
mutual
def uptoBulk {H : Type} : DataW H → Nat
  | .lit (.string bytes) => bytes.length + 1
  | .lit _ => 1
  | .nil => 1
  | .ptr d => uptoBulk d + 1
  | .slice elems spare => uptoBulkAll elems + uptoBulkAll spare + 1
  | .agg parts => uptoBulkAll parts + 1
  | .iface _ d => uptoBulk d + 1
  | .map entries => uptoBulkEntries entries + 1
  | .held _ => 1
def uptoBulkAll {H : Type} : List (DataW H) → Nat
  | [] => 0
  | d :: r => uptoBulk d + uptoBulkAll r
def uptoBulkEntries {H : Type} : List (Lit × DataW H) → Nat
  | [] => 0
  | x :: r => uptoBulkEntry x + uptoBulkEntries r
def uptoBulkEntry {H : Type} : Lit × DataW H → Nat
  | (.string bytes, d) => bytes.length + uptoBulk d + 1
  | (_, d) => uptoBulk d + 1
 end
def uptoSmall : (H : Type) → List (DataW H) → Bool := fun _ ds => decide (uptoBulkAll ds ≤ 1048576)
def OpenSpec.upto (s : _root_.Go.ChangeSpec) : _root_.Go.OpenSpec := { _root_.Go.OpenSpec.ofChange s with cond := some uptoSmall }

/-- 'bagatellelaw02.TurnSteps', WHERE WHAT IT READS IS OF BULK AT MOST 1048576: true; the input reads as it did. -/
def turnStepsUptoRow : OpenClaim := { program := "ytdkpmmdelmllmaa", sum := "01773674b8a1f8e92813843fa603f0dd58239ba4da1d334985a1f24d35935bd1", func := "bagatelle/bagatellelaw02.TurnSteps", spec := "turnSteps", recurses := true, apart := false, narrowed := true }
def TurnStepsUptoSaid : Prop := turnStepsUptoRow.holds Try.pinned (OpenSpec.upto turnStepsSpec)

/-- 'bagatellelaw02.TurnWraps', WHERE WHAT IT READS IS OF BULK AT MOST 1048576: true; the input reads as it did. -/
def turnWrapsUptoRow : OpenClaim := { program := "ytdkpmmdelmllmaa", sum := "01773674b8a1f8e92813843fa603f0dd58239ba4da1d334985a1f24d35935bd1", func := "bagatelle/bagatellelaw02.TurnWraps", spec := "turnWraps", recurses := true, apart := false, narrowed := true }
def TurnWrapsUptoSaid : Prop := turnWrapsUptoRow.holds Try.pinned (OpenSpec.upto turnWrapsSpec)

/-- 'bagatellelaw02.TurnTables', WHERE WHAT IT READS IS OF BULK AT MOST 1048576: true; the input reads as it did. -/
def turnTablesUptoRow : OpenClaim := { program := "ytdkpmmdelmllmaa", sum := "01773674b8a1f8e92813843fa603f0dd58239ba4da1d334985a1f24d35935bd1", func := "bagatelle/bagatellelaw02.TurnTables", spec := "turnTables", recurses := true, apart := false, narrowed := true }
def TurnTablesUptoSaid : Prop := turnTablesUptoRow.holds Try.pinned (OpenSpec.upto turnTablesSpec)

/-- 'bagatellelaw02.TurnRounds', WHERE WHAT IT READS IS OF BULK AT MOST 1048576: true; the input reads as it did. -/
def turnRoundsUptoRow : OpenClaim := { program := "ytdkpmmdelmllmaa", sum := "01773674b8a1f8e92813843fa603f0dd58239ba4da1d334985a1f24d35935bd1", func := "bagatelle/bagatellelaw02.TurnRounds", spec := "turnRounds", recurses := true, apart := false, narrowed := true }
def TurnRoundsUptoSaid : Prop := turnRoundsUptoRow.holds Try.pinned (OpenSpec.upto turnRoundsSpec)

end Rows
end Go.Proofs.Ytdkpmmdelmllmaa
