/-
  No cell of these rows narrows 'for every input' (looked for: loops, veiled, ifaces, maps, wideKeys, modest, calm, conditions, laid).
  DERIVED. THE GIVEN ROWS OF THIS SEAT. 4 by the template 'for every input the law returns true; each argument reads behind the call as it read before'; 0 by the template 'total and deterministic' (their statements: YtlbkpfcidpnhgaaTotals.lean).
  GIVEN WITH THE SEED: the statements are not yours to turn. If you find one false, say at which input.
  Laid BY PROGRAM, IN A SANDBOX (cutbox-rows.mjs): the forced cells as the released guide's own fill.sh prints them over the translation 35f2cd73ee0fc766… (all of the seat's roots in one cut). By AI agents, Wed Nov 11 2026. No macro, syntax, notation, axiom, sorry.
-/
import Derived.Test.YtlbkpfcidpnhgaaChecked
import GoSem.Claim
import GoSem.ClaimJoined
import GoSem.ClaimMapViews
import Derived.JoinedTies
import Derived.KernelRfl
namespace Go.Proofs.Ytlbkpfcidpnhgaa
/- THE CELL 'sum', in the pinned program and in every row, IS THE sha256 OF THE DUMP (.gsa) THAT YtlbkpfcidpnhgaaProg.lean LOADS. Nothing in Lean hashes anything: it is a label: what it is worth is what the hold of that sum in a sandbox is worth. -/
noncomputable def Try.pinned : Pinned := { name := "ytlbkpfcidpnhgaa", sum := "35f2cd73ee0fc766a816da1eee1062434759027ded8e431703610e5f838e85f9", checked := Try.checked }
namespace Rows
def none {H : Type} : Left H := { results := [], args := [] }

/-- 'bagatellelaw06.BoxGrows': WHATEVER THE INPUT: true; the input reads as it did. -/
def boxGrowsSpec : ChangeSpec := { name := "boxGrows", fn := fun _ => fun
  | [d1, d2] => { results := [.lit (.bool true)], args := [d1, d2] }
  | _ => none }
def boxGrowsRow : OpenClaim := { program := "ytlbkpfcidpnhgaa", sum := "35f2cd73ee0fc766a816da1eee1062434759027ded8e431703610e5f838e85f9", func := "bagatelle/bagatellelaw06.BoxGrows", spec := "boxGrows", recurses := true, apart := false }
def BoxGrowsSaid : Prop := boxGrowsRow.holds Try.pinned (OpenSpec.ofChange boxGrowsSpec)

/-- ITS FALSE NEIGHBOUR: 'it returns false'. Refute it at one input. -/
def boxGrowsWrong : ChangeSpec := { name := "boxGrows", fn := fun _ => fun
  | [d1, d2] => { results := [.lit (.bool false)], args := [d1, d2] }
  | _ => none }
def BoxGrowsWrongFalsely : Prop := boxGrowsRow.holds Try.pinned (OpenSpec.ofChange boxGrowsWrong)

/-- 'bagatellelaw06.BoxBodies': WHATEVER THE INPUT: true; the input reads as it did. -/
def boxBodiesSpec : ChangeSpec := { name := "boxBodies", fn := fun _ => fun
  | [d] => { results := [.lit (.bool true)], args := [d] }
  | _ => none }
def boxBodiesRow : OpenClaim := { program := "ytlbkpfcidpnhgaa", sum := "35f2cd73ee0fc766a816da1eee1062434759027ded8e431703610e5f838e85f9", func := "bagatelle/bagatellelaw06.BoxBodies", spec := "boxBodies", recurses := true, apart := false }
def BoxBodiesSaid : Prop := boxBodiesRow.holds Try.pinned (OpenSpec.ofChange boxBodiesSpec)

/-- ITS FALSE NEIGHBOUR: 'it returns false'. Refute it at one input. -/
def boxBodiesWrong : ChangeSpec := { name := "boxBodies", fn := fun _ => fun
  | [d] => { results := [.lit (.bool false)], args := [d] }
  | _ => none }
def BoxBodiesWrongFalsely : Prop := boxBodiesRow.holds Try.pinned (OpenSpec.ofChange boxBodiesWrong)

/-- 'bagatellelaw06.BoxTurns': WHATEVER THE INPUT: true; the input reads as it did. -/
def boxTurnsSpec : ChangeSpec := { name := "boxTurns", fn := fun _ => fun
  | [d1, d2] => { results := [.lit (.bool true)], args := [d1, d2] }
  | _ => none }
def boxTurnsRow : OpenClaim := { program := "ytlbkpfcidpnhgaa", sum := "35f2cd73ee0fc766a816da1eee1062434759027ded8e431703610e5f838e85f9", func := "bagatelle/bagatellelaw06.BoxTurns", spec := "boxTurns", recurses := true, apart := false }
def BoxTurnsSaid : Prop := boxTurnsRow.holds Try.pinned (OpenSpec.ofChange boxTurnsSpec)

/-- ITS FALSE NEIGHBOUR: 'it returns false'. Refute it at one input. -/
def boxTurnsWrong : ChangeSpec := { name := "boxTurns", fn := fun _ => fun
  | [d1, d2] => { results := [.lit (.bool false)], args := [d1, d2] }
  | _ => none }
def BoxTurnsWrongFalsely : Prop := boxTurnsRow.holds Try.pinned (OpenSpec.ofChange boxTurnsWrong)

/-- 'bagatellelaw06.BoxReaches': WHATEVER THE INPUT: true; the input reads as it did. -/
def boxReachesSpec : ChangeSpec := { name := "boxReaches", fn := fun _ => fun
  | [d1, d2] => { results := [.lit (.bool true)], args := [d1, d2] }
  | _ => none }
def boxReachesRow : OpenClaim := { program := "ytlbkpfcidpnhgaa", sum := "35f2cd73ee0fc766a816da1eee1062434759027ded8e431703610e5f838e85f9", func := "bagatelle/bagatellelaw06.BoxReaches", spec := "boxReaches", recurses := true, apart := false }
def BoxReachesSaid : Prop := boxReachesRow.holds Try.pinned (OpenSpec.ofChange boxReachesSpec)

/-- ITS FALSE NEIGHBOUR: 'it returns false'. Refute it at one input. -/
def boxReachesWrong : ChangeSpec := { name := "boxReaches", fn := fun _ => fun
  | [d1, d2] => { results := [.lit (.bool false)], args := [d1, d2] }
  | _ => none }
def BoxReachesWrongFalsely : Prop := boxReachesRow.holds Try.pinned (OpenSpec.ofChange boxReachesWrong)

/- THE SECOND FORM. 'bulk': how many values and letters a reading holds, each counted each time it is reached (what is shared counts as often as it is met; a slice's spare places count too). A statement '..UptoSaid' is the law's where the arguments, and the package variables that the reading takes, are together of bulk at most 1048576: NARROWER than '..Said'. Prove '..Said' where nothing that the law and all that it calls make is longer than what came in: it says more and counts as full. Else prove '..UptoSaid'. A law counts once. -/
mutual
def uptoBulk {H : Type} : DataW H → Nat
  | .lit (.string bytes) => bytes.length + 1
  | .lit _ => 1
  | .nil => 1
  | .ptr d => uptoBulk d + 1
  | .slice elems spare => uptoBulkAll elems + uptoBulkAll spare + 1
  | .agg parts => uptoBulkAll parts + 1
  | .iface _ d => uptoBulk d + 1
  | .map entries => uptoBulkEntries entries + 1
  | .held _ => 1
def uptoBulkAll {H : Type} : List (DataW H) → Nat
  | [] => 0
  | d :: r => uptoBulk d + uptoBulkAll r
def uptoBulkEntries {H : Type} : List (Lit × DataW H) → Nat
  | [] => 0
  | x :: r => uptoBulkEntry x + uptoBulkEntries r
def uptoBulkEntry {H : Type} : Lit × DataW H → Nat
  | (.string bytes, d) => bytes.length + uptoBulk d + 1
  | (_, d) => uptoBulk d + 1
 end
def uptoSmall : (H : Type) → List (DataW H) → Bool := fun _ ds => decide (uptoBulkAll ds ≤ 1048576)
def OpenSpec.upto (s : _root_.Go.ChangeSpec) : _root_.Go.OpenSpec := { _root_.Go.OpenSpec.ofChange s with cond := some uptoSmall }

/-- 'bagatellelaw06.BoxGrows', WHERE WHAT IT READS IS OF BULK AT MOST 1048576: true; the input reads as it did. -/
def boxGrowsUptoRow : OpenClaim := { program := "ytlbkpfcidpnhgaa", sum := "35f2cd73ee0fc766a816da1eee1062434759027ded8e431703610e5f838e85f9", func := "bagatelle/bagatellelaw06.BoxGrows", spec := "boxGrows", recurses := true, apart := false, narrowed := true }
def BoxGrowsUptoSaid : Prop := boxGrowsUptoRow.holds Try.pinned (OpenSpec.upto boxGrowsSpec)

/-- 'bagatellelaw06.BoxBodies', WHERE WHAT IT READS IS OF BULK AT MOST 1048576: true; the input reads as it did. -/
def boxBodiesUptoRow : OpenClaim := { program := "ytlbkpfcidpnhgaa", sum := "35f2cd73ee0fc766a816da1eee1062434759027ded8e431703610e5f838e85f9", func := "bagatelle/bagatellelaw06.BoxBodies", spec := "boxBodies", recurses := true, apart := false, narrowed := true }
def BoxBodiesUptoSaid : Prop := boxBodiesUptoRow.holds Try.pinned (OpenSpec.upto boxBodiesSpec)

/-- 'bagatellelaw06.BoxTurns', WHERE WHAT IT READS IS OF BULK AT MOST 1048576: true; the input reads as it did. -/
def boxTurnsUptoRow : OpenClaim := { program := "ytlbkpfcidpnhgaa", sum := "35f2cd73ee0fc766a816da1eee1062434759027ded8e431703610e5f838e85f9", func := "bagatelle/bagatellelaw06.BoxTurns", spec := "boxTurns", recurses := true, apart := false, narrowed := true }
def BoxTurnsUptoSaid : Prop := boxTurnsUptoRow.holds Try.pinned (OpenSpec.upto boxTurnsSpec)

/-- 'bagatellelaw06.BoxReaches', WHERE WHAT IT READS IS OF BULK AT MOST 1048576: true; the input reads as it did. -/
def boxReachesUptoRow : OpenClaim := { program := "ytlbkpfcidpnhgaa", sum := "35f2cd73ee0fc766a816da1eee1062434759027ded8e431703610e5f838e85f9", func := "bagatelle/bagatellelaw06.BoxReaches", spec := "boxReaches", recurses := true, apart := false, narrowed := true }
def BoxReachesUptoSaid : Prop := boxReachesUptoRow.holds Try.pinned (OpenSpec.upto boxReachesSpec)

end Rows
end Go.Proofs.Ytlbkpfcidpnhgaa
