/-
  No cell of these rows narrows 'for every input' (looked for: loops, veiled, ifaces, maps, wideKeys, modest, calm, conditions, laid).
  DERIVED. THE GIVEN ROWS OF THIS SEAT. 4 by the template 'for every input the law returns true; each argument reads behind the call as it read before'; 0 by the template 'total and deterministic' (their statements: YtooknkplmpnnnaaTotals.lean).
  GIVEN WITH THE SEED: the statements are not yours to turn. If you find one false, say at which input.
  Laid BY PROGRAM, IN A SANDBOX (cutbox-rows.mjs): the forced cells as the released guide's own fill.sh prints them over the translation 5ee0a6d98b613c1c… (all of the seat's roots in one cut). By AI agents, Wed Nov 11 2026. No macro, syntax, notation, axiom, sorry.
-/
import Derived.Test.YtooknkplmpnnnaaChecked
import GoSem.Claim
import GoSem.ClaimJoined
import GoSem.ClaimMapViews
import Derived.JoinedTies
import Derived.KernelRfl
namespace Go.Proofs.Ytooknkplmpnnnaa
/- THE CELL 'sum', in the pinned program and in every row, IS THE sha256 OF THE DUMP (.gsa) THAT YtooknkplmpnnnaaProg.lean LOADS. Nothing in Lean hashes anything: it is a label: what it is worth is what the hold of that sum in a sandbox is worth. -/
noncomputable def Try.pinned : Pinned := { name := "ytooknkplmpnnnaa", sum := "5ee0a6d98b613c1c97a6b64f6864ac79b1daefff29db066be35d62f9712a19d7", checked := Try.checked }
namespace Rows
def none {H : Type} : Left H := { results := [], args := [] }

/-- 'bagatellelaw18.NamesBack': WHATEVER THE INPUT: true; the input reads as it did. -/
def namesBackSpec : ChangeSpec := { name := "namesBack", fn := fun _ => fun
  | [d1, d2] => { results := [.lit (.bool true)], args := [d1, d2] }
  | _ => none }
def namesBackRow : OpenClaim := { program := "ytooknkplmpnnnaa", sum := "5ee0a6d98b613c1c97a6b64f6864ac79b1daefff29db066be35d62f9712a19d7", func := "bagatelle/bagatellelaw18.NamesBack", spec := "namesBack", apart := false }
def NamesBackSaid : Prop := namesBackRow.holds Try.pinned (OpenSpec.ofChange namesBackSpec)

/-- ITS FALSE NEIGHBOUR: 'it returns false'. Refute it at one input. -/
def namesBackWrong : ChangeSpec := { name := "namesBack", fn := fun _ => fun
  | [d1, d2] => { results := [.lit (.bool false)], args := [d1, d2] }
  | _ => none }
def NamesBackWrongFalsely : Prop := namesBackRow.holds Try.pinned (OpenSpec.ofChange namesBackWrong)

/-- 'bagatellelaw18.NamesAny': WHATEVER THE INPUT: true; the input reads as it did. -/
def namesAnySpec : ChangeSpec := { name := "namesAny", fn := fun _ => fun
  | [d] => { results := [.lit (.bool true)], args := [d] }
  | _ => none }
def namesAnyRow : OpenClaim := { program := "ytooknkplmpnnnaa", sum := "5ee0a6d98b613c1c97a6b64f6864ac79b1daefff29db066be35d62f9712a19d7", func := "bagatelle/bagatellelaw18.NamesAny", spec := "namesAny", apart := false }
def NamesAnySaid : Prop := namesAnyRow.holds Try.pinned (OpenSpec.ofChange namesAnySpec)

/-- ITS FALSE NEIGHBOUR: 'it returns false'. Refute it at one input. -/
def namesAnyWrong : ChangeSpec := { name := "namesAny", fn := fun _ => fun
  | [d] => { results := [.lit (.bool false)], args := [d] }
  | _ => none }
def NamesAnyWrongFalsely : Prop := namesAnyRow.holds Try.pinned (OpenSpec.ofChange namesAnyWrong)

/-- 'bagatellelaw18.NamesFew': WHATEVER THE INPUT: true; the input reads as it did. -/
def namesFewSpec : ChangeSpec := { name := "namesFew", fn := fun _ => fun
  | [d1, d2, d3] => { results := [.lit (.bool true)], args := [d1, d2, d3] }
  | _ => none }
def namesFewRow : OpenClaim := { program := "ytooknkplmpnnnaa", sum := "5ee0a6d98b613c1c97a6b64f6864ac79b1daefff29db066be35d62f9712a19d7", func := "bagatelle/bagatellelaw18.NamesFew", spec := "namesFew", apart := false }
def NamesFewSaid : Prop := namesFewRow.holds Try.pinned (OpenSpec.ofChange namesFewSpec)

/-- ITS FALSE NEIGHBOUR: 'it returns false'. Refute it at one input. -/
def namesFewWrong : ChangeSpec := { name := "namesFew", fn := fun _ => fun
  | [d1, d2, d3] => { results := [.lit (.bool false)], args := [d1, d2, d3] }
  | _ => none }
def NamesFewWrongFalsely : Prop := namesFewRow.holds Try.pinned (OpenSpec.ofChange namesFewWrong)

/-- 'bagatellelaw18.NamesSort': WHATEVER THE INPUT: true; the input reads as it did. -/
def namesSortSpec : ChangeSpec := { name := "namesSort", fn := fun _ => fun
  | [d1, d2] => { results := [.lit (.bool true)], args := [d1, d2] }
  | _ => none }
def namesSortRow : OpenClaim := { program := "ytooknkplmpnnnaa", sum := "5ee0a6d98b613c1c97a6b64f6864ac79b1daefff29db066be35d62f9712a19d7", func := "bagatelle/bagatellelaw18.NamesSort", spec := "namesSort", recurses := true, apart := false }
def NamesSortSaid : Prop := namesSortRow.holds Try.pinned (OpenSpec.ofChange namesSortSpec)

/-- ITS FALSE NEIGHBOUR: 'it returns false'. Refute it at one input. -/
def namesSortWrong : ChangeSpec := { name := "namesSort", fn := fun _ => fun
  | [d1, d2] => { results := [.lit (.bool false)], args := [d1, d2] }
  | _ => none }
def NamesSortWrongFalsely : Prop := namesSortRow.holds Try.pinned (OpenSpec.ofChange namesSortWrong)

/- THE SECOND FORM. 'bulk': how many values and letters a reading holds, each counted each time it is reached (what is shared counts as often as it is met; a slice's spare places count too). A statement '..UptoSaid' is the law's where the arguments, and the package variables that the reading takes, are together of bulk at most 1048576: NARROWER than '..Said'. Prove '..Said' where nothing that the law and all that it calls make is longer than what came in: it says more and counts as full. Else prove '..UptoSaid'. A law counts once. -/
mutual
def uptoBulk {H : Type} : DataW H → Nat
  | .lit (.string bytes) => bytes.length + 1
  | .lit _ => 1
  | .nil => 1
  | .ptr d => uptoBulk d + 1
  | .slice elems spare => uptoBulkAll elems + uptoBulkAll spare + 1
  | .agg parts => uptoBulkAll parts + 1
  | .iface _ d => uptoBulk d + 1
  | .map entries => uptoBulkEntries entries + 1
  | .held _ => 1
def uptoBulkAll {H : Type} : List (DataW H) → Nat
  | [] => 0
  | d :: r => uptoBulk d + uptoBulkAll r
def uptoBulkEntries {H : Type} : List (Lit × DataW H) → Nat
  | [] => 0
  | x :: r => uptoBulkEntry x + uptoBulkEntries r
def uptoBulkEntry {H : Type} : Lit × DataW H → Nat
  | (.string bytes, d) => bytes.length + uptoBulk d + 1
  | (_, d) => uptoBulk d + 1
 end
def uptoSmall : (H : Type) → List (DataW H) → Bool := fun _ ds => decide (uptoBulkAll ds ≤ 1048576)
def OpenSpec.upto (s : _root_.Go.ChangeSpec) : _root_.Go.OpenSpec := { _root_.Go.OpenSpec.ofChange s with cond := some uptoSmall }

/-- 'bagatellelaw18.NamesBack', WHERE WHAT IT READS IS OF BULK AT MOST 1048576: true; the input reads as it did. -/
def namesBackUptoRow : OpenClaim := { program := "ytooknkplmpnnnaa", sum := "5ee0a6d98b613c1c97a6b64f6864ac79b1daefff29db066be35d62f9712a19d7", func := "bagatelle/bagatellelaw18.NamesBack", spec := "namesBack", apart := false, narrowed := true }
def NamesBackUptoSaid : Prop := namesBackUptoRow.holds Try.pinned (OpenSpec.upto namesBackSpec)

/-- 'bagatellelaw18.NamesAny', WHERE WHAT IT READS IS OF BULK AT MOST 1048576: true; the input reads as it did. -/
def namesAnyUptoRow : OpenClaim := { program := "ytooknkplmpnnnaa", sum := "5ee0a6d98b613c1c97a6b64f6864ac79b1daefff29db066be35d62f9712a19d7", func := "bagatelle/bagatellelaw18.NamesAny", spec := "namesAny", apart := false, narrowed := true }
def NamesAnyUptoSaid : Prop := namesAnyUptoRow.holds Try.pinned (OpenSpec.upto namesAnySpec)

/-- 'bagatellelaw18.NamesFew', WHERE WHAT IT READS IS OF BULK AT MOST 1048576: true; the input reads as it did. -/
def namesFewUptoRow : OpenClaim := { program := "ytooknkplmpnnnaa", sum := "5ee0a6d98b613c1c97a6b64f6864ac79b1daefff29db066be35d62f9712a19d7", func := "bagatelle/bagatellelaw18.NamesFew", spec := "namesFew", apart := false, narrowed := true }
def NamesFewUptoSaid : Prop := namesFewUptoRow.holds Try.pinned (OpenSpec.upto namesFewSpec)

/-- 'bagatellelaw18.NamesSort', WHERE WHAT IT READS IS OF BULK AT MOST 1048576: true; the input reads as it did. -/
def namesSortUptoRow : OpenClaim := { program := "ytooknkplmpnnnaa", sum := "5ee0a6d98b613c1c97a6b64f6864ac79b1daefff29db066be35d62f9712a19d7", func := "bagatelle/bagatellelaw18.NamesSort", spec := "namesSort", recurses := true, apart := false, narrowed := true }
def NamesSortUptoSaid : Prop := namesSortUptoRow.holds Try.pinned (OpenSpec.upto namesSortSpec)

end Rows
end Go.Proofs.Ytooknkplmpnnnaa
