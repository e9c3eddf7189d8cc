/-
  No cell of these rows narrows 'for every input' (looked for: loops, veiled, ifaces, maps, wideKeys, modest, calm, conditions, laid).
  DERIVED. THE GIVEN ROWS OF THIS SEAT. 3 by the template 'for every input the law returns true; each argument reads behind the call as it read before'; 0 by the template 'total and deterministic' (their statements: YtghhecijpghfhaaTotals.lean).
  GIVEN WITH THE SEED: the statements are not yours to turn. If you find one false, say at which input.
  Laid BY PROGRAM, IN A SANDBOX (cutbox-rows.mjs): the forced cells as the released guide's own fill.sh prints them over the translation a215ecebeba2c2f0… (all of the seat's roots in one cut). By AI agents, Wed Nov 11 2026. No macro, syntax, notation, axiom, sorry.
-/
import Derived.Test.YtghhecijpghfhaaChecked
import GoSem.Claim
import GoSem.ClaimJoined
import GoSem.ClaimMapViews
import Derived.JoinedTies
import Derived.KernelRfl
namespace Go.Proofs.Ytghhecijpghfhaa
/- THE CELL 'sum', in the pinned program and in every row, IS THE sha256 OF THE DUMP (.gsa) THAT YtghhecijpghfhaaProg.lean LOADS. Nothing in Lean hashes anything: it is a label: what it is worth is what the hold of that sum in a sandbox is worth. -/
noncomputable def Try.pinned : Pinned := { name := "ytghhecijpghfhaa", sum := "a215ecebeba2c2f0a9eefcd40f286d1d82652e94d69fab4f86107509ef35d2b1", checked := Try.checked }
namespace Rows
def none {H : Type} : Left H := { results := [], args := [] }

/-- 'bagatellelaw10.OrderRights': WHATEVER THE INPUT: true; the input reads as it did. -/
def orderRightsSpec : ChangeSpec := { name := "orderRights", fn := fun _ => fun
  | [d1, d2, d3] => { results := [.lit (.bool true)], args := [d1, d2, d3] }
  | _ => none }
def orderRightsRow : OpenClaim := { program := "ytghhecijpghfhaa", sum := "a215ecebeba2c2f0a9eefcd40f286d1d82652e94d69fab4f86107509ef35d2b1", func := "bagatelle/bagatellelaw10.OrderRights", spec := "orderRights", unfollowed := true, recurses := true, named := ["math/bits.divideError", "math/bits.overflowError"], apart := false }
def OrderRightsSaid : Prop := orderRightsRow.holds Try.pinned (OpenSpec.ofChange orderRightsSpec)

/-- ITS FALSE NEIGHBOUR: 'it returns false'. Refute it at one input. -/
def orderRightsWrong : ChangeSpec := { name := "orderRights", fn := fun _ => fun
  | [d1, d2, d3] => { results := [.lit (.bool false)], args := [d1, d2, d3] }
  | _ => none }
def OrderRightsWrongFalsely : Prop := orderRightsRow.holds Try.pinned (OpenSpec.ofChange orderRightsWrong)

/-- 'bagatellelaw10.OrderSames': WHATEVER THE INPUT: true; the input reads as it did. -/
def orderSamesSpec : ChangeSpec := { name := "orderSames", fn := fun _ => fun
  | [d1, d2, d3] => { results := [.lit (.bool true)], args := [d1, d2, d3] }
  | _ => none }
def orderSamesRow : OpenClaim := { program := "ytghhecijpghfhaa", sum := "a215ecebeba2c2f0a9eefcd40f286d1d82652e94d69fab4f86107509ef35d2b1", func := "bagatelle/bagatellelaw10.OrderSames", spec := "orderSames", unfollowed := true, recurses := true, named := ["math/bits.divideError", "math/bits.overflowError"], apart := false }
def OrderSamesSaid : Prop := orderSamesRow.holds Try.pinned (OpenSpec.ofChange orderSamesSpec)

/-- ITS FALSE NEIGHBOUR: 'it returns false'. Refute it at one input. -/
def orderSamesWrong : ChangeSpec := { name := "orderSames", fn := fun _ => fun
  | [d1, d2, d3] => { results := [.lit (.bool false)], args := [d1, d2, d3] }
  | _ => none }
def OrderSamesWrongFalsely : Prop := orderSamesRow.holds Try.pinned (OpenSpec.ofChange orderSamesWrong)

/-- 'bagatellelaw10.OrderFulls': WHATEVER THE INPUT: true; the input reads as it did. -/
def orderFullsSpec : ChangeSpec := { name := "orderFulls", fn := fun _ => fun
  | [d1, d2] => { results := [.lit (.bool true)], args := [d1, d2] }
  | _ => none }
def orderFullsRow : OpenClaim := { program := "ytghhecijpghfhaa", sum := "a215ecebeba2c2f0a9eefcd40f286d1d82652e94d69fab4f86107509ef35d2b1", func := "bagatelle/bagatellelaw10.OrderFulls", spec := "orderFulls", unfollowed := true, recurses := true, named := ["math/bits.divideError", "math/bits.overflowError"], apart := false }
def OrderFullsSaid : Prop := orderFullsRow.holds Try.pinned (OpenSpec.ofChange orderFullsSpec)

/-- ITS FALSE NEIGHBOUR: 'it returns false'. Refute it at one input. -/
def orderFullsWrong : ChangeSpec := { name := "orderFulls", fn := fun _ => fun
  | [d1, d2] => { results := [.lit (.bool false)], args := [d1, d2] }
  | _ => none }
def OrderFullsWrongFalsely : Prop := orderFullsRow.holds Try.pinned (OpenSpec.ofChange orderFullsWrong)

/- THE SECOND FORM. 'bulk': how many values and letters a reading holds, each counted each time it is reached (what is shared counts as often as it is met; a slice's spare places count too). A statement '..UptoSaid' is the law's where the arguments, and the package variables that the reading takes, are together of bulk at most 1048576: NARROWER than '..Said'. Prove '..Said' where nothing that the law and all that it calls make is longer than what came in: it says more and counts as full. Else prove '..UptoSaid'. A law counts once. -/
mutual
def uptoBulk {H : Type} : DataW H → Nat
  | .lit (.string bytes) => bytes.length + 1
  | .lit _ => 1
  | .nil => 1
  | .ptr d => uptoBulk d + 1
  | .slice elems spare => uptoBulkAll elems + uptoBulkAll spare + 1
  | .agg parts => uptoBulkAll parts + 1
  | .iface _ d => uptoBulk d + 1
  | .map entries => uptoBulkEntries entries + 1
  | .held _ => 1
def uptoBulkAll {H : Type} : List (DataW H) → Nat
  | [] => 0
  | d :: r => uptoBulk d + uptoBulkAll r
def uptoBulkEntries {H : Type} : List (Lit × DataW H) → Nat
  | [] => 0
  | x :: r => uptoBulkEntry x + uptoBulkEntries r
def uptoBulkEntry {H : Type} : Lit × DataW H → Nat
  | (.string bytes, d) => bytes.length + uptoBulk d + 1
  | (_, d) => uptoBulk d + 1
 end
def uptoSmall : (H : Type) → List (DataW H) → Bool := fun _ ds => decide (uptoBulkAll ds ≤ 1048576)
def OpenSpec.upto (s : _root_.Go.ChangeSpec) : _root_.Go.OpenSpec := { _root_.Go.OpenSpec.ofChange s with cond := some uptoSmall }

/-- 'bagatellelaw10.OrderRights', WHERE WHAT IT READS IS OF BULK AT MOST 1048576: true; the input reads as it did. -/
def orderRightsUptoRow : OpenClaim := { program := "ytghhecijpghfhaa", sum := "a215ecebeba2c2f0a9eefcd40f286d1d82652e94d69fab4f86107509ef35d2b1", func := "bagatelle/bagatellelaw10.OrderRights", spec := "orderRights", unfollowed := true, recurses := true, named := ["math/bits.divideError", "math/bits.overflowError"], apart := false, narrowed := true }
def OrderRightsUptoSaid : Prop := orderRightsUptoRow.holds Try.pinned (OpenSpec.upto orderRightsSpec)

/-- 'bagatellelaw10.OrderSames', WHERE WHAT IT READS IS OF BULK AT MOST 1048576: true; the input reads as it did. -/
def orderSamesUptoRow : OpenClaim := { program := "ytghhecijpghfhaa", sum := "a215ecebeba2c2f0a9eefcd40f286d1d82652e94d69fab4f86107509ef35d2b1", func := "bagatelle/bagatellelaw10.OrderSames", spec := "orderSames", unfollowed := true, recurses := true, named := ["math/bits.divideError", "math/bits.overflowError"], apart := false, narrowed := true }
def OrderSamesUptoSaid : Prop := orderSamesUptoRow.holds Try.pinned (OpenSpec.upto orderSamesSpec)

/-- 'bagatellelaw10.OrderFulls', WHERE WHAT IT READS IS OF BULK AT MOST 1048576: true; the input reads as it did. -/
def orderFullsUptoRow : OpenClaim := { program := "ytghhecijpghfhaa", sum := "a215ecebeba2c2f0a9eefcd40f286d1d82652e94d69fab4f86107509ef35d2b1", func := "bagatelle/bagatellelaw10.OrderFulls", spec := "orderFulls", unfollowed := true, recurses := true, named := ["math/bits.divideError", "math/bits.overflowError"], apart := false, narrowed := true }
def OrderFullsUptoSaid : Prop := orderFullsUptoRow.holds Try.pinned (OpenSpec.upto orderFullsSpec)

end Rows
end Go.Proofs.Ytghhecijpghfhaa
