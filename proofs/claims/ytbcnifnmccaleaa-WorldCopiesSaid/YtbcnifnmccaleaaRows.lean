/-
  No cell of these rows narrows 'for every input' (looked for: loops, veiled, ifaces, maps, wideKeys, modest, calm, conditions, laid).
  DERIVED. THE GIVEN ROWS OF THIS SEAT. 5 by the template 'for every input the law returns true; each argument reads behind the call as it read before'; 0 by the template 'total and deterministic' (their statements: YtbcnifnmccaleaaTotals.lean).
  GIVEN WITH THE SEED: the statements are not yours to turn. If you find one false, say at which input.
  Laid BY PROGRAM, IN A SANDBOX (cutbox-rows.mjs): the forced cells as the released guide's own fill.sh prints them over the translation 9a20d674f71e15c1… (all of the seat's roots in one cut). By AI agents, Wed Nov 11 2026. No macro, syntax, notation, axiom, sorry.
-/
import Derived.Test.YtbcnifnmccaleaaChecked
import GoSem.Claim
import GoSem.ClaimJoined
import GoSem.ClaimMapViews
import Derived.JoinedTies
import Derived.KernelRfl
namespace Go.Proofs.Ytbcnifnmccaleaa
/- THE CELL 'sum', in the pinned program and in every row, IS THE sha256 OF THE DUMP (.gsa) THAT YtbcnifnmccaleaaProg.lean LOADS. Nothing in Lean hashes anything: it is a label: what it is worth is what the hold of that sum in a sandbox is worth. -/
noncomputable def Try.pinned : Pinned := { name := "ytbcnifnmccaleaa", sum := "9a20d674f71e15c1df54aecbdc1f009f84d5324d52134aeb8a1601905b03f0e2", checked := Try.checked }
namespace Rows
def none {H : Type} : Left H := { results := [], args := [] }

/-- 'bagatellelaw09.WorldRuns': WHATEVER THE INPUT: true; the input reads as it did. -/
def worldRunsSpec : ChangeSpec := { name := "worldRuns", fn := fun _ => fun
  | [d] => { results := [.lit (.bool true)], args := [d] }
  | _ => none }
def worldRunsRow : OpenClaim := { program := "ytbcnifnmccaleaa", sum := "9a20d674f71e15c1df54aecbdc1f009f84d5324d52134aeb8a1601905b03f0e2", func := "bagatelle/bagatellelaw09.WorldRuns", spec := "worldRuns", unfollowed := true, recurses := true, apart := false }
def WorldRunsSaid : Prop := worldRunsRow.holds Try.pinned (OpenSpec.ofChange worldRunsSpec)

/-- ITS FALSE NEIGHBOUR: 'it returns false'. Refute it at one input. -/
def worldRunsWrong : ChangeSpec := { name := "worldRuns", fn := fun _ => fun
  | [d] => { results := [.lit (.bool false)], args := [d] }
  | _ => none }
def WorldRunsWrongFalsely : Prop := worldRunsRow.holds Try.pinned (OpenSpec.ofChange worldRunsWrong)

/-- 'bagatellelaw09.WorldNumbers': WHATEVER THE INPUT: true; the input reads as it did. -/
def worldNumbersSpec : ChangeSpec := { name := "worldNumbers", fn := fun _ => fun
  | [d1, d2] => { results := [.lit (.bool true)], args := [d1, d2] }
  | _ => none }
def worldNumbersRow : OpenClaim := { program := "ytbcnifnmccaleaa", sum := "9a20d674f71e15c1df54aecbdc1f009f84d5324d52134aeb8a1601905b03f0e2", func := "bagatelle/bagatellelaw09.WorldNumbers", spec := "worldNumbers", unfollowed := true, recurses := true, apart := false }
def WorldNumbersSaid : Prop := worldNumbersRow.holds Try.pinned (OpenSpec.ofChange worldNumbersSpec)

/-- ITS FALSE NEIGHBOUR: 'it returns false'. Refute it at one input. -/
def worldNumbersWrong : ChangeSpec := { name := "worldNumbers", fn := fun _ => fun
  | [d1, d2] => { results := [.lit (.bool false)], args := [d1, d2] }
  | _ => none }
def WorldNumbersWrongFalsely : Prop := worldNumbersRow.holds Try.pinned (OpenSpec.ofChange worldNumbersWrong)

/-- 'bagatellelaw09.WorldContacts': WHATEVER THE INPUT: true; the input reads as it did. -/
def worldContactsSpec : ChangeSpec := { name := "worldContacts", fn := fun _ => fun
  | [d1, d2, d3] => { results := [.lit (.bool true)], args := [d1, d2, d3] }
  | _ => none }
def worldContactsRow : OpenClaim := { program := "ytbcnifnmccaleaa", sum := "9a20d674f71e15c1df54aecbdc1f009f84d5324d52134aeb8a1601905b03f0e2", func := "bagatelle/bagatellelaw09.WorldContacts", spec := "worldContacts", unfollowed := true, recurses := true, apart := false }
def WorldContactsSaid : Prop := worldContactsRow.holds Try.pinned (OpenSpec.ofChange worldContactsSpec)

/-- ITS FALSE NEIGHBOUR: 'it returns false'. Refute it at one input. -/
def worldContactsWrong : ChangeSpec := { name := "worldContacts", fn := fun _ => fun
  | [d1, d2, d3] => { results := [.lit (.bool false)], args := [d1, d2, d3] }
  | _ => none }
def WorldContactsWrongFalsely : Prop := worldContactsRow.holds Try.pinned (OpenSpec.ofChange worldContactsWrong)

/-- 'bagatellelaw09.WorldRights': WHATEVER THE INPUT: true; the input reads as it did. -/
def worldRightsSpec : ChangeSpec := { name := "worldRights", fn := fun _ => fun
  | [d1, d2, d3] => { results := [.lit (.bool true)], args := [d1, d2, d3] }
  | _ => none }
def worldRightsRow : OpenClaim := { program := "ytbcnifnmccaleaa", sum := "9a20d674f71e15c1df54aecbdc1f009f84d5324d52134aeb8a1601905b03f0e2", func := "bagatelle/bagatellelaw09.WorldRights", spec := "worldRights", unfollowed := true, recurses := true, apart := false }
def WorldRightsSaid : Prop := worldRightsRow.holds Try.pinned (OpenSpec.ofChange worldRightsSpec)

/-- ITS FALSE NEIGHBOUR: 'it returns false'. Refute it at one input. -/
def worldRightsWrong : ChangeSpec := { name := "worldRights", fn := fun _ => fun
  | [d1, d2, d3] => { results := [.lit (.bool false)], args := [d1, d2, d3] }
  | _ => none }
def WorldRightsWrongFalsely : Prop := worldRightsRow.holds Try.pinned (OpenSpec.ofChange worldRightsWrong)

/-- 'bagatellelaw09.WorldCopies': WHATEVER THE INPUT: true; the input reads as it did. -/
def worldCopiesSpec : ChangeSpec := { name := "worldCopies", fn := fun _ => fun
  | [d1, d2, d3] => { results := [.lit (.bool true)], args := [d1, d2, d3] }
  | _ => none }
def worldCopiesRow : OpenClaim := { program := "ytbcnifnmccaleaa", sum := "9a20d674f71e15c1df54aecbdc1f009f84d5324d52134aeb8a1601905b03f0e2", func := "bagatelle/bagatellelaw09.WorldCopies", spec := "worldCopies", unfollowed := true, recurses := true, apart := false }
def WorldCopiesSaid : Prop := worldCopiesRow.holds Try.pinned (OpenSpec.ofChange worldCopiesSpec)

/-- ITS FALSE NEIGHBOUR: 'it returns false'. Refute it at one input. -/
def worldCopiesWrong : ChangeSpec := { name := "worldCopies", fn := fun _ => fun
  | [d1, d2, d3] => { results := [.lit (.bool false)], args := [d1, d2, d3] }
  | _ => none }
def WorldCopiesWrongFalsely : Prop := worldCopiesRow.holds Try.pinned (OpenSpec.ofChange worldCopiesWrong)

/- THE SECOND FORM. 'bulk': how many values and letters a reading holds, each counted each time it is reached (what is shared counts as often as it is met; a slice's spare places count too). A statement '..UptoSaid' is the law's where the arguments, and the package variables that the reading takes, are together of bulk at most 1048576: NARROWER than '..Said'. Prove '..Said' where nothing that the law and all that it calls make is longer than what came in: it says more and counts as full. Else prove '..UptoSaid'. A law counts once. -/
mutual
def uptoBulk {H : Type} : DataW H → Nat
  | .lit (.string bytes) => bytes.length + 1
  | .lit _ => 1
  | .nil => 1
  | .ptr d => uptoBulk d + 1
  | .slice elems spare => uptoBulkAll elems + uptoBulkAll spare + 1
  | .agg parts => uptoBulkAll parts + 1
  | .iface _ d => uptoBulk d + 1
  | .map entries => uptoBulkEntries entries + 1
  | .held _ => 1
def uptoBulkAll {H : Type} : List (DataW H) → Nat
  | [] => 0
  | d :: r => uptoBulk d + uptoBulkAll r
def uptoBulkEntries {H : Type} : List (Lit × DataW H) → Nat
  | [] => 0
  | x :: r => uptoBulkEntry x + uptoBulkEntries r
def uptoBulkEntry {H : Type} : Lit × DataW H → Nat
  | (.string bytes, d) => bytes.length + uptoBulk d + 1
  | (_, d) => uptoBulk d + 1
 end
def uptoSmall : (H : Type) → List (DataW H) → Bool := fun _ ds => decide (uptoBulkAll ds ≤ 1048576)
def OpenSpec.upto (s : _root_.Go.ChangeSpec) : _root_.Go.OpenSpec := { _root_.Go.OpenSpec.ofChange s with cond := some uptoSmall }

/-- 'bagatellelaw09.WorldRuns', WHERE WHAT IT READS IS OF BULK AT MOST 1048576: true; the input reads as it did. -/
def worldRunsUptoRow : OpenClaim := { program := "ytbcnifnmccaleaa", sum := "9a20d674f71e15c1df54aecbdc1f009f84d5324d52134aeb8a1601905b03f0e2", func := "bagatelle/bagatellelaw09.WorldRuns", spec := "worldRuns", unfollowed := true, recurses := true, apart := false, narrowed := true }
def WorldRunsUptoSaid : Prop := worldRunsUptoRow.holds Try.pinned (OpenSpec.upto worldRunsSpec)

/-- 'bagatellelaw09.WorldNumbers', WHERE WHAT IT READS IS OF BULK AT MOST 1048576: true; the input reads as it did. -/
def worldNumbersUptoRow : OpenClaim := { program := "ytbcnifnmccaleaa", sum := "9a20d674f71e15c1df54aecbdc1f009f84d5324d52134aeb8a1601905b03f0e2", func := "bagatelle/bagatellelaw09.WorldNumbers", spec := "worldNumbers", unfollowed := true, recurses := true, apart := false, narrowed := true }
def WorldNumbersUptoSaid : Prop := worldNumbersUptoRow.holds Try.pinned (OpenSpec.upto worldNumbersSpec)

/-- 'bagatellelaw09.WorldContacts', WHERE WHAT IT READS IS OF BULK AT MOST 1048576: true; the input reads as it did. -/
def worldContactsUptoRow : OpenClaim := { program := "ytbcnifnmccaleaa", sum := "9a20d674f71e15c1df54aecbdc1f009f84d5324d52134aeb8a1601905b03f0e2", func := "bagatelle/bagatellelaw09.WorldContacts", spec := "worldContacts", unfollowed := true, recurses := true, apart := false, narrowed := true }
def WorldContactsUptoSaid : Prop := worldContactsUptoRow.holds Try.pinned (OpenSpec.upto worldContactsSpec)

/-- 'bagatellelaw09.WorldRights', WHERE WHAT IT READS IS OF BULK AT MOST 1048576: true; the input reads as it did. -/
def worldRightsUptoRow : OpenClaim := { program := "ytbcnifnmccaleaa", sum := "9a20d674f71e15c1df54aecbdc1f009f84d5324d52134aeb8a1601905b03f0e2", func := "bagatelle/bagatellelaw09.WorldRights", spec := "worldRights", unfollowed := true, recurses := true, apart := false, narrowed := true }
def WorldRightsUptoSaid : Prop := worldRightsUptoRow.holds Try.pinned (OpenSpec.upto worldRightsSpec)

/-- 'bagatellelaw09.WorldCopies', WHERE WHAT IT READS IS OF BULK AT MOST 1048576: true; the input reads as it did. -/
def worldCopiesUptoRow : OpenClaim := { program := "ytbcnifnmccaleaa", sum := "9a20d674f71e15c1df54aecbdc1f009f84d5324d52134aeb8a1601905b03f0e2", func := "bagatelle/bagatellelaw09.WorldCopies", spec := "worldCopies", unfollowed := true, recurses := true, apart := false, narrowed := true }
def WorldCopiesUptoSaid : Prop := worldCopiesUptoRow.holds Try.pinned (OpenSpec.upto worldCopiesSpec)

end Rows
end Go.Proofs.Ytbcnifnmccaleaa
