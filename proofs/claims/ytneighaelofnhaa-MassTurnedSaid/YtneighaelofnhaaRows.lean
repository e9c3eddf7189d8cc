/-
  No cell of these rows narrows 'for every input' (looked for: loops, veiled, ifaces, maps, wideKeys, modest, calm, conditions, laid).
  DERIVED. THE GIVEN ROWS OF THIS SEAT. 4 by the template 'for every input the law returns true; each argument reads behind the call as it read before'; 0 by the template 'total and deterministic' (their statements: YtneighaelofnhaaTotals.lean).
  GIVEN WITH THE SEED: the statements are not yours to turn. If you find one false, say at which input.
  Laid BY PROGRAM, IN A SANDBOX (cutbox-rows.mjs): the forced cells as the released guide's own fill.sh prints them over the translation 2d164176a8bed7ef… (all of the seat's roots in one cut). By AI agents, Wed Nov 11 2026. No macro, syntax, notation, axiom, sorry.
-/
import Derived.Test.YtneighaelofnhaaChecked
import GoSem.Claim
import GoSem.ClaimJoined
import GoSem.ClaimMapViews
import Derived.JoinedTies
import Derived.KernelRfl
namespace Go.Proofs.Ytneighaelofnhaa
/- THE CELL 'sum', in the pinned program and in every row, IS THE sha256 OF THE DUMP (.gsa) THAT YtneighaelofnhaaProg.lean LOADS. Nothing in Lean hashes anything: it is a label: what it is worth is what the hold of that sum in a sandbox is worth. -/
noncomputable def Try.pinned : Pinned := { name := "ytneighaelofnhaa", sum := "2d164176a8bed7efa3154d178ea557d7dcc80c7a575ffe1d8209358110a54eea", checked := Try.checked }
namespace Rows
def none {H : Type} : Left H := { results := [], args := [] }

/-- 'bagatellelaw05.MassBodies': WHATEVER THE INPUT: true; the input reads as it did. -/
def massBodiesSpec : ChangeSpec := { name := "massBodies", fn := fun _ => fun
  | [d1, d2] => { results := [.lit (.bool true)], args := [d1, d2] }
  | _ => none }
def massBodiesRow : OpenClaim := { program := "ytneighaelofnhaa", sum := "2d164176a8bed7efa3154d178ea557d7dcc80c7a575ffe1d8209358110a54eea", func := "bagatelle/bagatellelaw05.MassBodies", spec := "massBodies", unfollowed := true, recurses := true, named := ["math/bits.divideError", "math/bits.overflowError"], apart := false }
def MassBodiesSaid : Prop := massBodiesRow.holds Try.pinned (OpenSpec.ofChange massBodiesSpec)

/-- ITS FALSE NEIGHBOUR: 'it returns false'. Refute it at one input. -/
def massBodiesWrong : ChangeSpec := { name := "massBodies", fn := fun _ => fun
  | [d1, d2] => { results := [.lit (.bool false)], args := [d1, d2] }
  | _ => none }
def MassBodiesWrongFalsely : Prop := massBodiesRow.holds Try.pinned (OpenSpec.ofChange massBodiesWrong)

/-- 'bagatellelaw05.MassBoxes': WHATEVER THE INPUT: true; the input reads as it did. -/
def massBoxesSpec : ChangeSpec := { name := "massBoxes", fn := fun _ => fun
  | [d1, d2] => { results := [.lit (.bool true)], args := [d1, d2] }
  | _ => none }
def massBoxesRow : OpenClaim := { program := "ytneighaelofnhaa", sum := "2d164176a8bed7efa3154d178ea557d7dcc80c7a575ffe1d8209358110a54eea", func := "bagatelle/bagatellelaw05.MassBoxes", spec := "massBoxes", unfollowed := true, recurses := true, named := ["math/bits.divideError", "math/bits.overflowError"], apart := false }
def MassBoxesSaid : Prop := massBoxesRow.holds Try.pinned (OpenSpec.ofChange massBoxesSpec)

/-- ITS FALSE NEIGHBOUR: 'it returns false'. Refute it at one input. -/
def massBoxesWrong : ChangeSpec := { name := "massBoxes", fn := fun _ => fun
  | [d1, d2] => { results := [.lit (.bool false)], args := [d1, d2] }
  | _ => none }
def MassBoxesWrongFalsely : Prop := massBoxesRow.holds Try.pinned (OpenSpec.ofChange massBoxesWrong)

/-- 'bagatellelaw05.MassDense': WHATEVER THE INPUT: true; the input reads as it did. -/
def massDenseSpec : ChangeSpec := { name := "massDense", fn := fun _ => fun
  | [d1, d2] => { results := [.lit (.bool true)], args := [d1, d2] }
  | _ => none }
def massDenseRow : OpenClaim := { program := "ytneighaelofnhaa", sum := "2d164176a8bed7efa3154d178ea557d7dcc80c7a575ffe1d8209358110a54eea", func := "bagatelle/bagatellelaw05.MassDense", spec := "massDense", unfollowed := true, recurses := true, named := ["math/bits.divideError", "math/bits.overflowError"], apart := false }
def MassDenseSaid : Prop := massDenseRow.holds Try.pinned (OpenSpec.ofChange massDenseSpec)

/-- ITS FALSE NEIGHBOUR: 'it returns false'. Refute it at one input. -/
def massDenseWrong : ChangeSpec := { name := "massDense", fn := fun _ => fun
  | [d1, d2] => { results := [.lit (.bool false)], args := [d1, d2] }
  | _ => none }
def MassDenseWrongFalsely : Prop := massDenseRow.holds Try.pinned (OpenSpec.ofChange massDenseWrong)

/-- 'bagatellelaw05.MassTurned': WHATEVER THE INPUT: true; the input reads as it did. -/
def massTurnedSpec : ChangeSpec := { name := "massTurned", fn := fun _ => fun
  | [d1, d2] => { results := [.lit (.bool true)], args := [d1, d2] }
  | _ => none }
def massTurnedRow : OpenClaim := { program := "ytneighaelofnhaa", sum := "2d164176a8bed7efa3154d178ea557d7dcc80c7a575ffe1d8209358110a54eea", func := "bagatelle/bagatellelaw05.MassTurned", spec := "massTurned", unfollowed := true, recurses := true, named := ["math/bits.divideError", "math/bits.overflowError"], apart := false }
def MassTurnedSaid : Prop := massTurnedRow.holds Try.pinned (OpenSpec.ofChange massTurnedSpec)

/-- ITS FALSE NEIGHBOUR: 'it returns false'. Refute it at one input. -/
def massTurnedWrong : ChangeSpec := { name := "massTurned", fn := fun _ => fun
  | [d1, d2] => { results := [.lit (.bool false)], args := [d1, d2] }
  | _ => none }
def MassTurnedWrongFalsely : Prop := massTurnedRow.holds Try.pinned (OpenSpec.ofChange massTurnedWrong)

/- THE SECOND FORM. 'bulk': how many values and letters a reading holds, each counted each time it is reached (what is shared counts as often as it is met; a slice's spare places count too). A statement '..UptoSaid' is the law's where the arguments, and the package variables that the reading takes, are together of bulk at most 1048576: NARROWER than '..Said'. Prove '..Said' where nothing that the law and all that it calls make is longer than what came in: it says more and counts as full. Else prove '..UptoSaid'. A law counts once. -/
mutual
def uptoBulk {H : Type} : DataW H → Nat
  | .lit (.string bytes) => bytes.length + 1
  | .lit _ => 1
  | .nil => 1
  | .ptr d => uptoBulk d + 1
  | .slice elems spare => uptoBulkAll elems + uptoBulkAll spare + 1
  | .agg parts => uptoBulkAll parts + 1
  | .iface _ d => uptoBulk d + 1
  | .map entries => uptoBulkEntries entries + 1
  | .held _ => 1
def uptoBulkAll {H : Type} : List (DataW H) → Nat
  | [] => 0
  | d :: r => uptoBulk d + uptoBulkAll r
def uptoBulkEntries {H : Type} : List (Lit × DataW H) → Nat
  | [] => 0
  | x :: r => uptoBulkEntry x + uptoBulkEntries r
def uptoBulkEntry {H : Type} : Lit × DataW H → Nat
  | (.string bytes, d) => bytes.length + uptoBulk d + 1
  | (_, d) => uptoBulk d + 1
 end
def uptoSmall : (H : Type) → List (DataW H) → Bool := fun _ ds => decide (uptoBulkAll ds ≤ 1048576)
def OpenSpec.upto (s : _root_.Go.ChangeSpec) : _root_.Go.OpenSpec := { _root_.Go.OpenSpec.ofChange s with cond := some uptoSmall }

/-- 'bagatellelaw05.MassBodies', WHERE WHAT IT READS IS OF BULK AT MOST 1048576: true; the input reads as it did. -/
def massBodiesUptoRow : OpenClaim := { program := "ytneighaelofnhaa", sum := "2d164176a8bed7efa3154d178ea557d7dcc80c7a575ffe1d8209358110a54eea", func := "bagatelle/bagatellelaw05.MassBodies", spec := "massBodies", unfollowed := true, recurses := true, named := ["math/bits.divideError", "math/bits.overflowError"], apart := false, narrowed := true }
def MassBodiesUptoSaid : Prop := massBodiesUptoRow.holds Try.pinned (OpenSpec.upto massBodiesSpec)

/-- 'bagatellelaw05.MassBoxes', WHERE WHAT IT READS IS OF BULK AT MOST 1048576: true; the input reads as it did. -/
def massBoxesUptoRow : OpenClaim := { program := "ytneighaelofnhaa", sum := "2d164176a8bed7efa3154d178ea557d7dcc80c7a575ffe1d8209358110a54eea", func := "bagatelle/bagatellelaw05.MassBoxes", spec := "massBoxes", unfollowed := true, recurses := true, named := ["math/bits.divideError", "math/bits.overflowError"], apart := false, narrowed := true }
def MassBoxesUptoSaid : Prop := massBoxesUptoRow.holds Try.pinned (OpenSpec.upto massBoxesSpec)

/-- 'bagatellelaw05.MassDense', WHERE WHAT IT READS IS OF BULK AT MOST 1048576: true; the input reads as it did. -/
def massDenseUptoRow : OpenClaim := { program := "ytneighaelofnhaa", sum := "2d164176a8bed7efa3154d178ea557d7dcc80c7a575ffe1d8209358110a54eea", func := "bagatelle/bagatellelaw05.MassDense", spec := "massDense", unfollowed := true, recurses := true, named := ["math/bits.divideError", "math/bits.overflowError"], apart := false, narrowed := true }
def MassDenseUptoSaid : Prop := massDenseUptoRow.holds Try.pinned (OpenSpec.upto massDenseSpec)

/-- 'bagatellelaw05.MassTurned', WHERE WHAT IT READS IS OF BULK AT MOST 1048576: true; the input reads as it did. -/
def massTurnedUptoRow : OpenClaim := { program := "ytneighaelofnhaa", sum := "2d164176a8bed7efa3154d178ea557d7dcc80c7a575ffe1d8209358110a54eea", func := "bagatelle/bagatellelaw05.MassTurned", spec := "massTurned", unfollowed := true, recurses := true, named := ["math/bits.divideError", "math/bits.overflowError"], apart := false, narrowed := true }
def MassTurnedUptoSaid : Prop := massTurnedUptoRow.holds Try.pinned (OpenSpec.upto massTurnedSpec)

end Rows
end Go.Proofs.Ytneighaelofnhaa
