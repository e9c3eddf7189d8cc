/-
  No cell of these rows narrows 'for every input' (looked for: loops, veiled, ifaces, maps, wideKeys, modest, calm, conditions, laid).
  DERIVED. THE GIVEN ROWS OF THIS SEAT. 9 by the template 'for every input the law returns true; each argument reads behind the call as it read before'; 0 by the template 'total and deterministic' (their statements: YtkafbfkhgkcdnaaTotals.lean).
  GIVEN WITH THE SEED: the statements are not yours to turn. If you find one false, say at which input.
  Laid BY PROGRAM, IN A SANDBOX (cutbox-rows.mjs): the forced cells as the released guide's own fill.sh prints them over the translation 322a04b12fa4c900… (all of the seat's roots in one cut). By AI agents, Wed Nov 11 2026. No macro, syntax, notation, axiom, sorry.
-/
import Derived.Test.YtkafbfkhgkcdnaaChecked
import GoSem.Claim
import GoSem.ClaimJoined
import GoSem.ClaimMapViews
import Derived.JoinedTies
import Derived.KernelRfl
namespace Go.Proofs.Ytkafbfkhgkcdnaa
/- THE CELL 'sum', in the pinned program and in every row, IS THE sha256 OF THE DUMP (.gsa) THAT YtkafbfkhgkcdnaaProg.lean LOADS. Nothing in Lean hashes anything: it is a label: what it is worth is what the hold of that sum in a sandbox is worth. -/
noncomputable def Try.pinned : Pinned := { name := "ytkafbfkhgkcdnaa", sum := "322a04b12fa4c9007d334b4f3e6a6a48e0beccb91a31e5bf937dac1c6fa48f41", checked := Try.checked }
namespace Rows
def none {H : Type} : Left H := { results := [], args := [] }

/-- 'bagatellelaw01.FixMuls': WHATEVER THE INPUT: true; the input reads as it did. -/
def fixMulsSpec : ChangeSpec := { name := "fixMuls", fn := fun _ => fun
  | [d1, d2] => { results := [.lit (.bool true)], args := [d1, d2] }
  | _ => none }
def fixMulsRow : OpenClaim := { program := "ytkafbfkhgkcdnaa", sum := "322a04b12fa4c9007d334b4f3e6a6a48e0beccb91a31e5bf937dac1c6fa48f41", func := "bagatelle/bagatellelaw01.FixMuls", spec := "fixMuls", named := ["math/bits.divideError", "math/bits.overflowError"], apart := false }
def FixMulsSaid : Prop := fixMulsRow.holds Try.pinned (OpenSpec.ofChange fixMulsSpec)

/-- ITS FALSE NEIGHBOUR: 'it returns false'. Refute it at one input. -/
def fixMulsWrong : ChangeSpec := { name := "fixMuls", fn := fun _ => fun
  | [d1, d2] => { results := [.lit (.bool false)], args := [d1, d2] }
  | _ => none }
def FixMulsWrongFalsely : Prop := fixMulsRow.holds Try.pinned (OpenSpec.ofChange fixMulsWrong)

/-- 'bagatellelaw01.FixDivs': WHATEVER THE INPUT: true; the input reads as it did. -/
def fixDivsSpec : ChangeSpec := { name := "fixDivs", fn := fun _ => fun
  | [d1, d2] => { results := [.lit (.bool true)], args := [d1, d2] }
  | _ => none }
def fixDivsRow : OpenClaim := { program := "ytkafbfkhgkcdnaa", sum := "322a04b12fa4c9007d334b4f3e6a6a48e0beccb91a31e5bf937dac1c6fa48f41", func := "bagatelle/bagatellelaw01.FixDivs", spec := "fixDivs", named := ["math/bits.divideError", "math/bits.overflowError"], apart := false }
def FixDivsSaid : Prop := fixDivsRow.holds Try.pinned (OpenSpec.ofChange fixDivsSpec)

/-- ITS FALSE NEIGHBOUR: 'it returns false'. Refute it at one input. -/
def fixDivsWrong : ChangeSpec := { name := "fixDivs", fn := fun _ => fun
  | [d1, d2] => { results := [.lit (.bool false)], args := [d1, d2] }
  | _ => none }
def FixDivsWrongFalsely : Prop := fixDivsRow.holds Try.pinned (OpenSpec.ofChange fixDivsWrong)

/-- 'bagatellelaw01.FixRoots': WHATEVER THE INPUT: true; the input reads as it did. -/
def fixRootsSpec : ChangeSpec := { name := "fixRoots", fn := fun _ => fun
  | [d] => { results := [.lit (.bool true)], args := [d] }
  | _ => none }
def fixRootsRow : OpenClaim := { program := "ytkafbfkhgkcdnaa", sum := "322a04b12fa4c9007d334b4f3e6a6a48e0beccb91a31e5bf937dac1c6fa48f41", func := "bagatelle/bagatellelaw01.FixRoots", spec := "fixRoots", named := ["math/bits.divideError", "math/bits.overflowError"], apart := false }
def FixRootsSaid : Prop := fixRootsRow.holds Try.pinned (OpenSpec.ofChange fixRootsSpec)

/-- ITS FALSE NEIGHBOUR: 'it returns false'. Refute it at one input. -/
def fixRootsWrong : ChangeSpec := { name := "fixRoots", fn := fun _ => fun
  | [d] => { results := [.lit (.bool false)], args := [d] }
  | _ => none }
def FixRootsWrongFalsely : Prop := fixRootsRow.holds Try.pinned (OpenSpec.ofChange fixRootsWrong)

/-- 'bagatellelaw01.FixOrders': WHATEVER THE INPUT: true; the input reads as it did. -/
def fixOrdersSpec : ChangeSpec := { name := "fixOrders", fn := fun _ => fun
  | [d1, d2, d3] => { results := [.lit (.bool true)], args := [d1, d2, d3] }
  | _ => none }
def fixOrdersRow : OpenClaim := { program := "ytkafbfkhgkcdnaa", sum := "322a04b12fa4c9007d334b4f3e6a6a48e0beccb91a31e5bf937dac1c6fa48f41", func := "bagatelle/bagatellelaw01.FixOrders", spec := "fixOrders", named := ["math/bits.divideError", "math/bits.overflowError"], apart := false }
def FixOrdersSaid : Prop := fixOrdersRow.holds Try.pinned (OpenSpec.ofChange fixOrdersSpec)

/-- ITS FALSE NEIGHBOUR: 'it returns false'. Refute it at one input. -/
def fixOrdersWrong : ChangeSpec := { name := "fixOrders", fn := fun _ => fun
  | [d1, d2, d3] => { results := [.lit (.bool false)], args := [d1, d2, d3] }
  | _ => none }
def FixOrdersWrongFalsely : Prop := fixOrdersRow.holds Try.pinned (OpenSpec.ofChange fixOrdersWrong)

/-- 'bagatellelaw01.FixAdds': WHATEVER THE INPUT: true; the input reads as it did. -/
def fixAddsSpec : ChangeSpec := { name := "fixAdds", fn := fun _ => fun
  | [d1, d2] => { results := [.lit (.bool true)], args := [d1, d2] }
  | _ => none }
def fixAddsRow : OpenClaim := { program := "ytkafbfkhgkcdnaa", sum := "322a04b12fa4c9007d334b4f3e6a6a48e0beccb91a31e5bf937dac1c6fa48f41", func := "bagatelle/bagatellelaw01.FixAdds", spec := "fixAdds", named := ["math/bits.divideError", "math/bits.overflowError"], apart := false }
def FixAddsSaid : Prop := fixAddsRow.holds Try.pinned (OpenSpec.ofChange fixAddsSpec)

/-- ITS FALSE NEIGHBOUR: 'it returns false'. Refute it at one input. -/
def fixAddsWrong : ChangeSpec := { name := "fixAdds", fn := fun _ => fun
  | [d1, d2] => { results := [.lit (.bool false)], args := [d1, d2] }
  | _ => none }
def FixAddsWrongFalsely : Prop := fixAddsRow.holds Try.pinned (OpenSpec.ofChange fixAddsWrong)

/-- 'bagatellelaw01.FixWholes': WHATEVER THE INPUT: true; the input reads as it did. -/
def fixWholesSpec : ChangeSpec := { name := "fixWholes", fn := fun _ => fun
  | [d1, d2, d3] => { results := [.lit (.bool true)], args := [d1, d2, d3] }
  | _ => none }
def fixWholesRow : OpenClaim := { program := "ytkafbfkhgkcdnaa", sum := "322a04b12fa4c9007d334b4f3e6a6a48e0beccb91a31e5bf937dac1c6fa48f41", func := "bagatelle/bagatellelaw01.FixWholes", spec := "fixWholes", named := ["math/bits.divideError", "math/bits.overflowError"], apart := false }
def FixWholesSaid : Prop := fixWholesRow.holds Try.pinned (OpenSpec.ofChange fixWholesSpec)

/-- ITS FALSE NEIGHBOUR: 'it returns false'. Refute it at one input. -/
def fixWholesWrong : ChangeSpec := { name := "fixWholes", fn := fun _ => fun
  | [d1, d2, d3] => { results := [.lit (.bool false)], args := [d1, d2, d3] }
  | _ => none }
def FixWholesWrongFalsely : Prop := fixWholesRow.holds Try.pinned (OpenSpec.ofChange fixWholesWrong)

/-- 'bagatellelaw01.FixLaws': WHATEVER THE INPUT: true; the input reads as it did. -/
def fixLawsSpec : ChangeSpec := { name := "fixLaws", fn := fun _ => fun
  | [d1, d2] => { results := [.lit (.bool true)], args := [d1, d2] }
  | _ => none }
def fixLawsRow : OpenClaim := { program := "ytkafbfkhgkcdnaa", sum := "322a04b12fa4c9007d334b4f3e6a6a48e0beccb91a31e5bf937dac1c6fa48f41", func := "bagatelle/bagatellelaw01.FixLaws", spec := "fixLaws", named := ["math/bits.divideError", "math/bits.overflowError"], apart := false }
def FixLawsSaid : Prop := fixLawsRow.holds Try.pinned (OpenSpec.ofChange fixLawsSpec)

/-- ITS FALSE NEIGHBOUR: 'it returns false'. Refute it at one input. -/
def fixLawsWrong : ChangeSpec := { name := "fixLaws", fn := fun _ => fun
  | [d1, d2] => { results := [.lit (.bool false)], args := [d1, d2] }
  | _ => none }
def FixLawsWrongFalsely : Prop := fixLawsRow.holds Try.pinned (OpenSpec.ofChange fixLawsWrong)

/-- 'bagatellelaw01.FixBacks': WHATEVER THE INPUT: true; the input reads as it did. -/
def fixBacksSpec : ChangeSpec := { name := "fixBacks", fn := fun _ => fun
  | [d1, d2] => { results := [.lit (.bool true)], args := [d1, d2] }
  | _ => none }
def fixBacksRow : OpenClaim := { program := "ytkafbfkhgkcdnaa", sum := "322a04b12fa4c9007d334b4f3e6a6a48e0beccb91a31e5bf937dac1c6fa48f41", func := "bagatelle/bagatellelaw01.FixBacks", spec := "fixBacks", named := ["math/bits.divideError", "math/bits.overflowError"], apart := false }
def FixBacksSaid : Prop := fixBacksRow.holds Try.pinned (OpenSpec.ofChange fixBacksSpec)

/-- ITS FALSE NEIGHBOUR: 'it returns false'. Refute it at one input. -/
def fixBacksWrong : ChangeSpec := { name := "fixBacks", fn := fun _ => fun
  | [d1, d2] => { results := [.lit (.bool false)], args := [d1, d2] }
  | _ => none }
def FixBacksWrongFalsely : Prop := fixBacksRow.holds Try.pinned (OpenSpec.ofChange fixBacksWrong)

/-- 'bagatellelaw01.FixSums': WHATEVER THE INPUT: true; the input reads as it did. -/
def fixSumsSpec : ChangeSpec := { name := "fixSums", fn := fun _ => fun
  | [d] => { results := [.lit (.bool true)], args := [d] }
  | _ => none }
def fixSumsRow : OpenClaim := { program := "ytkafbfkhgkcdnaa", sum := "322a04b12fa4c9007d334b4f3e6a6a48e0beccb91a31e5bf937dac1c6fa48f41", func := "bagatelle/bagatellelaw01.FixSums", spec := "fixSums", named := ["math/bits.divideError", "math/bits.overflowError"], apart := false }
def FixSumsSaid : Prop := fixSumsRow.holds Try.pinned (OpenSpec.ofChange fixSumsSpec)

/-- ITS FALSE NEIGHBOUR: 'it returns false'. Refute it at one input. -/
def fixSumsWrong : ChangeSpec := { name := "fixSums", fn := fun _ => fun
  | [d] => { results := [.lit (.bool false)], args := [d] }
  | _ => none }
def FixSumsWrongFalsely : Prop := fixSumsRow.holds Try.pinned (OpenSpec.ofChange fixSumsWrong)

/- THE SECOND FORM. 'bulk': how many values and letters a reading holds, each counted each time it is reached (what is shared counts as often as it is met; a slice's spare places count too). A statement '..UptoSaid' is the law's where the arguments, and the package variables that the reading takes, are together of bulk at most 1048576: NARROWER than '..Said'. Prove '..Said' where nothing that the law and all that it calls make is longer than what came in: it says more and counts as full. Else prove '..UptoSaid'. A law counts once. -/
mutual
def uptoBulk {H : Type} : DataW H → Nat
  | .lit (.string bytes) => bytes.length + 1
  | .lit _ => 1
  | .nil => 1
  | .ptr d => uptoBulk d + 1
  | .slice elems spare => uptoBulkAll elems + uptoBulkAll spare + 1
  | .agg parts => uptoBulkAll parts + 1
  | .iface _ d => uptoBulk d + 1
  | .map entries => uptoBulkEntries entries + 1
  | .held _ => 1
def uptoBulkAll {H : Type} : List (DataW H) → Nat
  | [] => 0
  | d :: r => uptoBulk d + uptoBulkAll r
def uptoBulkEntries {H : Type} : List (Lit × DataW H) → Nat
  | [] => 0
  | x :: r => uptoBulkEntry x + uptoBulkEntries r
def uptoBulkEntry {H : Type} : Lit × DataW H → Nat
  | (.string bytes, d) => bytes.length + uptoBulk d + 1
  | (_, d) => uptoBulk d + 1
 end
def uptoSmall : (H : Type) → List (DataW H) → Bool := fun _ ds => decide (uptoBulkAll ds ≤ 1048576)
def OpenSpec.upto (s : _root_.Go.ChangeSpec) : _root_.Go.OpenSpec := { _root_.Go.OpenSpec.ofChange s with cond := some uptoSmall }

/-- 'bagatellelaw01.FixMuls', WHERE WHAT IT READS IS OF BULK AT MOST 1048576: true; the input reads as it did. -/
def fixMulsUptoRow : OpenClaim := { program := "ytkafbfkhgkcdnaa", sum := "322a04b12fa4c9007d334b4f3e6a6a48e0beccb91a31e5bf937dac1c6fa48f41", func := "bagatelle/bagatellelaw01.FixMuls", spec := "fixMuls", named := ["math/bits.divideError", "math/bits.overflowError"], apart := false, narrowed := true }
def FixMulsUptoSaid : Prop := fixMulsUptoRow.holds Try.pinned (OpenSpec.upto fixMulsSpec)

/-- 'bagatellelaw01.FixDivs', WHERE WHAT IT READS IS OF BULK AT MOST 1048576: true; the input reads as it did. -/
def fixDivsUptoRow : OpenClaim := { program := "ytkafbfkhgkcdnaa", sum := "322a04b12fa4c9007d334b4f3e6a6a48e0beccb91a31e5bf937dac1c6fa48f41", func := "bagatelle/bagatellelaw01.FixDivs", spec := "fixDivs", named := ["math/bits.divideError", "math/bits.overflowError"], apart := false, narrowed := true }
def FixDivsUptoSaid : Prop := fixDivsUptoRow.holds Try.pinned (OpenSpec.upto fixDivsSpec)

/-- 'bagatellelaw01.FixRoots', WHERE WHAT IT READS IS OF BULK AT MOST 1048576: true; the input reads as it did. -/
def fixRootsUptoRow : OpenClaim := { program := "ytkafbfkhgkcdnaa", sum := "322a04b12fa4c9007d334b4f3e6a6a48e0beccb91a31e5bf937dac1c6fa48f41", func := "bagatelle/bagatellelaw01.FixRoots", spec := "fixRoots", named := ["math/bits.divideError", "math/bits.overflowError"], apart := false, narrowed := true }
def FixRootsUptoSaid : Prop := fixRootsUptoRow.holds Try.pinned (OpenSpec.upto fixRootsSpec)

/-- 'bagatellelaw01.FixOrders', WHERE WHAT IT READS IS OF BULK AT MOST 1048576: true; the input reads as it did. -/
def fixOrdersUptoRow : OpenClaim := { program := "ytkafbfkhgkcdnaa", sum := "322a04b12fa4c9007d334b4f3e6a6a48e0beccb91a31e5bf937dac1c6fa48f41", func := "bagatelle/bagatellelaw01.FixOrders", spec := "fixOrders", named := ["math/bits.divideError", "math/bits.overflowError"], apart := false, narrowed := true }
def FixOrdersUptoSaid : Prop := fixOrdersUptoRow.holds Try.pinned (OpenSpec.upto fixOrdersSpec)

/-- 'bagatellelaw01.FixAdds', WHERE WHAT IT READS IS OF BULK AT MOST 1048576: true; the input reads as it did. -/
def fixAddsUptoRow : OpenClaim := { program := "ytkafbfkhgkcdnaa", sum := "322a04b12fa4c9007d334b4f3e6a6a48e0beccb91a31e5bf937dac1c6fa48f41", func := "bagatelle/bagatellelaw01.FixAdds", spec := "fixAdds", named := ["math/bits.divideError", "math/bits.overflowError"], apart := false, narrowed := true }
def FixAddsUptoSaid : Prop := fixAddsUptoRow.holds Try.pinned (OpenSpec.upto fixAddsSpec)

/-- 'bagatellelaw01.FixWholes', WHERE WHAT IT READS IS OF BULK AT MOST 1048576: true; the input reads as it did. -/
def fixWholesUptoRow : OpenClaim := { program := "ytkafbfkhgkcdnaa", sum := "322a04b12fa4c9007d334b4f3e6a6a48e0beccb91a31e5bf937dac1c6fa48f41", func := "bagatelle/bagatellelaw01.FixWholes", spec := "fixWholes", named := ["math/bits.divideError", "math/bits.overflowError"], apart := false, narrowed := true }
def FixWholesUptoSaid : Prop := fixWholesUptoRow.holds Try.pinned (OpenSpec.upto fixWholesSpec)

/-- 'bagatellelaw01.FixLaws', WHERE WHAT IT READS IS OF BULK AT MOST 1048576: true; the input reads as it did. -/
def fixLawsUptoRow : OpenClaim := { program := "ytkafbfkhgkcdnaa", sum := "322a04b12fa4c9007d334b4f3e6a6a48e0beccb91a31e5bf937dac1c6fa48f41", func := "bagatelle/bagatellelaw01.FixLaws", spec := "fixLaws", named := ["math/bits.divideError", "math/bits.overflowError"], apart := false, narrowed := true }
def FixLawsUptoSaid : Prop := fixLawsUptoRow.holds Try.pinned (OpenSpec.upto fixLawsSpec)

/-- 'bagatellelaw01.FixBacks', WHERE WHAT IT READS IS OF BULK AT MOST 1048576: true; the input reads as it did. -/
def fixBacksUptoRow : OpenClaim := { program := "ytkafbfkhgkcdnaa", sum := "322a04b12fa4c9007d334b4f3e6a6a48e0beccb91a31e5bf937dac1c6fa48f41", func := "bagatelle/bagatellelaw01.FixBacks", spec := "fixBacks", named := ["math/bits.divideError", "math/bits.overflowError"], apart := false, narrowed := true }
def FixBacksUptoSaid : Prop := fixBacksUptoRow.holds Try.pinned (OpenSpec.upto fixBacksSpec)

/-- 'bagatellelaw01.FixSums', WHERE WHAT IT READS IS OF BULK AT MOST 1048576: true; the input reads as it did. -/
def fixSumsUptoRow : OpenClaim := { program := "ytkafbfkhgkcdnaa", sum := "322a04b12fa4c9007d334b4f3e6a6a48e0beccb91a31e5bf937dac1c6fa48f41", func := "bagatelle/bagatellelaw01.FixSums", spec := "fixSums", named := ["math/bits.divideError", "math/bits.overflowError"], apart := false, narrowed := true }
def FixSumsUptoSaid : Prop := fixSumsUptoRow.holds Try.pinned (OpenSpec.upto fixSumsSpec)

end Rows
end Go.Proofs.Ytkafbfkhgkcdnaa
