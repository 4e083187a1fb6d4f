/-
  No cell of these rows narrows 'for every input' (looked for: loops, veiled, ifaces, maps, wideKeys, modest, calm, conditions, laid).
  DERIVED. THE GIVEN ROWS OF THIS SEAT. 5 by the template 'for every input the law returns true; each argument reads behind the call as it read before'; 0 by the template 'total and deterministic' (their statements: YtgolpihbkjadkaaTotals.lean).
  GIVEN WITH THE SEED: the statements are not yours to turn. If you find one false, say at which input.
  Laid BY PROGRAM, IN A SANDBOX (cutbox-rows.mjs): the forced cells as the released guide's own fill.sh prints them over the translation e661f2238df191f0… (all of the seat's roots in one cut). By AI agents, Wed Nov 11 2026. No macro, syntax, notation, axiom, sorry.
-/
import Derived.Test.YtgolpihbkjadkaaChecked
import GoSem.Claim
import GoSem.ClaimJoined
import GoSem.ClaimMapViews
import Derived.JoinedTies
import Derived.KernelRfl
namespace Go.Proofs.Ytgolpihbkjadkaa
/- THE CELL 'sum', in the pinned program and in every row, IS THE sha256 OF THE DUMP (.gsa) THAT YtgolpihbkjadkaaProg.lean LOADS. Nothing in Lean hashes anything: it is a label: what it is worth is what the hold of that sum in a sandbox is worth. -/
noncomputable def Try.pinned : Pinned := { name := "ytgolpihbkjadkaa", sum := "e661f2238df191f01f474a5c55f4aefdcd2c8f4bbd3a8753c37d7617fed7ff4e", checked := Try.checked }
namespace Rows
def none {H : Type} : Left H := { results := [], args := [] }

/-- 'cartularylaw03.SumTells': WHATEVER THE INPUT: true; the input reads as it did. -/
def sumTellsSpec : ChangeSpec := { name := "sumTells", fn := fun _ => fun
  | [d] => { results := [.lit (.bool true)], args := [d] }
  | _ => none }
def sumTellsRow : OpenClaim := { program := "ytgolpihbkjadkaa", sum := "e661f2238df191f01f474a5c55f4aefdcd2c8f4bbd3a8753c37d7617fed7ff4e", func := "cartulary/cartularylaw03.SumTells", spec := "sumTells", apart := false }
def SumTellsSaid : Prop := sumTellsRow.holds Try.pinned (OpenSpec.ofChange sumTellsSpec)

/-- ITS FALSE NEIGHBOUR: 'it returns false'. Refute it at one input. -/
def sumTellsWrong : ChangeSpec := { name := "sumTells", fn := fun _ => fun
  | [d] => { results := [.lit (.bool false)], args := [d] }
  | _ => none }
def SumTellsWrongFalsely : Prop := sumTellsRow.holds Try.pinned (OpenSpec.ofChange sumTellsWrong)

/-- 'cartularylaw03.SumBlocks': WHATEVER THE INPUT: true; the input reads as it did. -/
def sumBlocksSpec : ChangeSpec := { name := "sumBlocks", fn := fun _ => fun
  | [d1, d2] => { results := [.lit (.bool true)], args := [d1, d2] }
  | _ => none }
def sumBlocksRow : OpenClaim := { program := "ytgolpihbkjadkaa", sum := "e661f2238df191f01f474a5c55f4aefdcd2c8f4bbd3a8753c37d7617fed7ff4e", func := "cartulary/cartularylaw03.SumBlocks", spec := "sumBlocks", apart := false }
def SumBlocksSaid : Prop := sumBlocksRow.holds Try.pinned (OpenSpec.ofChange sumBlocksSpec)

/-- ITS FALSE NEIGHBOUR: 'it returns false'. Refute it at one input. -/
def sumBlocksWrong : ChangeSpec := { name := "sumBlocks", fn := fun _ => fun
  | [d1, d2] => { results := [.lit (.bool false)], args := [d1, d2] }
  | _ => none }
def SumBlocksWrongFalsely : Prop := sumBlocksRow.holds Try.pinned (OpenSpec.ofChange sumBlocksWrong)

/-- 'cartularylaw03.SumBack': WHATEVER THE INPUT: true; the input reads as it did. -/
def sumBackSpec : ChangeSpec := { name := "sumBack", fn := fun _ => fun
  | [d] => { results := [.lit (.bool true)], args := [d] }
  | _ => none }
def sumBackRow : OpenClaim := { program := "ytgolpihbkjadkaa", sum := "e661f2238df191f01f474a5c55f4aefdcd2c8f4bbd3a8753c37d7617fed7ff4e", func := "cartulary/cartularylaw03.SumBack", spec := "sumBack", apart := false }
def SumBackSaid : Prop := sumBackRow.holds Try.pinned (OpenSpec.ofChange sumBackSpec)

/-- ITS FALSE NEIGHBOUR: 'it returns false'. Refute it at one input. -/
def sumBackWrong : ChangeSpec := { name := "sumBack", fn := fun _ => fun
  | [d] => { results := [.lit (.bool false)], args := [d] }
  | _ => none }
def SumBackWrongFalsely : Prop := sumBackRow.holds Try.pinned (OpenSpec.ofChange sumBackWrong)

/-- 'cartularylaw03.SumTurned': WHATEVER THE INPUT: true; the input reads as it did. -/
def sumTurnedSpec : ChangeSpec := { name := "sumTurned", fn := fun _ => fun
  | [d1, d2, d3] => { results := [.lit (.bool true)], args := [d1, d2, d3] }
  | _ => none }
def sumTurnedRow : OpenClaim := { program := "ytgolpihbkjadkaa", sum := "e661f2238df191f01f474a5c55f4aefdcd2c8f4bbd3a8753c37d7617fed7ff4e", func := "cartulary/cartularylaw03.SumTurned", spec := "sumTurned", apart := false }
def SumTurnedSaid : Prop := sumTurnedRow.holds Try.pinned (OpenSpec.ofChange sumTurnedSpec)

/-- ITS FALSE NEIGHBOUR: 'it returns false'. Refute it at one input. -/
def sumTurnedWrong : ChangeSpec := { name := "sumTurned", fn := fun _ => fun
  | [d1, d2, d3] => { results := [.lit (.bool false)], args := [d1, d2, d3] }
  | _ => none }
def SumTurnedWrongFalsely : Prop := sumTurnedRow.holds Try.pinned (OpenSpec.ofChange sumTurnedWrong)

/-- 'cartularylaw03.SumMixed': WHATEVER THE INPUT: true; the input reads as it did. -/
def sumMixedSpec : ChangeSpec := { name := "sumMixed", fn := fun _ => fun
  | [d1, d2, d3] => { results := [.lit (.bool true)], args := [d1, d2, d3] }
  | _ => none }
def sumMixedRow : OpenClaim := { program := "ytgolpihbkjadkaa", sum := "e661f2238df191f01f474a5c55f4aefdcd2c8f4bbd3a8753c37d7617fed7ff4e", func := "cartulary/cartularylaw03.SumMixed", spec := "sumMixed", apart := false }
def SumMixedSaid : Prop := sumMixedRow.holds Try.pinned (OpenSpec.ofChange sumMixedSpec)

/-- ITS FALSE NEIGHBOUR: 'it returns false'. Refute it at one input. -/
def sumMixedWrong : ChangeSpec := { name := "sumMixed", fn := fun _ => fun
  | [d1, d2, d3] => { results := [.lit (.bool false)], args := [d1, d2, d3] }
  | _ => none }
def SumMixedWrongFalsely : Prop := sumMixedRow.holds Try.pinned (OpenSpec.ofChange sumMixedWrong)

/- THE SECOND FORM. 'bulk': how many values and letters a reading holds, each counted each time it is reached (what is shared counts as often as it is met; a slice's spare places count too). A statement '..UptoSaid' is the law's where the arguments, and the package variables that the reading takes, are together of bulk at most 1048576: NARROWER than '..Said'. Prove '..Said' where nothing that the law and all that it calls make is longer than what came in: it says more and counts as full. Else prove '..UptoSaid'. A law counts once. -/
mutual
def uptoBulk {H : Type} : DataW H → Nat
  | .lit (.string bytes) => bytes.length + 1
  | .lit _ => 1
  | .nil => 1
  | .ptr d => uptoBulk d + 1
  | .slice elems spare => uptoBulkAll elems + uptoBulkAll spare + 1
  | .agg parts => uptoBulkAll parts + 1
  | .iface _ d => uptoBulk d + 1
  | .map entries => uptoBulkEntries entries + 1
  | .held _ => 1
def uptoBulkAll {H : Type} : List (DataW H) → Nat
  | [] => 0
  | d :: r => uptoBulk d + uptoBulkAll r
def uptoBulkEntries {H : Type} : List (Lit × DataW H) → Nat
  | [] => 0
  | x :: r => uptoBulkEntry x + uptoBulkEntries r
def uptoBulkEntry {H : Type} : Lit × DataW H → Nat
  | (.string bytes, d) => bytes.length + uptoBulk d + 1
  | (_, d) => uptoBulk d + 1
 end
def uptoSmall : (H : Type) → List (DataW H) → Bool := fun _ ds => decide (uptoBulkAll ds ≤ 1048576)
def OpenSpec.upto (s : _root_.Go.ChangeSpec) : _root_.Go.OpenSpec := { _root_.Go.OpenSpec.ofChange s with cond := some uptoSmall }

/-- 'cartularylaw03.SumTells', WHERE WHAT IT READS IS OF BULK AT MOST 1048576: true; the input reads as it did. -/
def sumTellsUptoRow : OpenClaim := { program := "ytgolpihbkjadkaa", sum := "e661f2238df191f01f474a5c55f4aefdcd2c8f4bbd3a8753c37d7617fed7ff4e", func := "cartulary/cartularylaw03.SumTells", spec := "sumTells", apart := false, narrowed := true }
def SumTellsUptoSaid : Prop := sumTellsUptoRow.holds Try.pinned (OpenSpec.upto sumTellsSpec)

/-- 'cartularylaw03.SumBlocks', WHERE WHAT IT READS IS OF BULK AT MOST 1048576: true; the input reads as it did. -/
def sumBlocksUptoRow : OpenClaim := { program := "ytgolpihbkjadkaa", sum := "e661f2238df191f01f474a5c55f4aefdcd2c8f4bbd3a8753c37d7617fed7ff4e", func := "cartulary/cartularylaw03.SumBlocks", spec := "sumBlocks", apart := false, narrowed := true }
def SumBlocksUptoSaid : Prop := sumBlocksUptoRow.holds Try.pinned (OpenSpec.upto sumBlocksSpec)

/-- 'cartularylaw03.SumBack', WHERE WHAT IT READS IS OF BULK AT MOST 1048576: true; the input reads as it did. -/
def sumBackUptoRow : OpenClaim := { program := "ytgolpihbkjadkaa", sum := "e661f2238df191f01f474a5c55f4aefdcd2c8f4bbd3a8753c37d7617fed7ff4e", func := "cartulary/cartularylaw03.SumBack", spec := "sumBack", apart := false, narrowed := true }
def SumBackUptoSaid : Prop := sumBackUptoRow.holds Try.pinned (OpenSpec.upto sumBackSpec)

/-- 'cartularylaw03.SumTurned', WHERE WHAT IT READS IS OF BULK AT MOST 1048576: true; the input reads as it did. -/
def sumTurnedUptoRow : OpenClaim := { program := "ytgolpihbkjadkaa", sum := "e661f2238df191f01f474a5c55f4aefdcd2c8f4bbd3a8753c37d7617fed7ff4e", func := "cartulary/cartularylaw03.SumTurned", spec := "sumTurned", apart := false, narrowed := true }
def SumTurnedUptoSaid : Prop := sumTurnedUptoRow.holds Try.pinned (OpenSpec.upto sumTurnedSpec)

/-- 'cartularylaw03.SumMixed', WHERE WHAT IT READS IS OF BULK AT MOST 1048576: true; the input reads as it did. -/
def sumMixedUptoRow : OpenClaim := { program := "ytgolpihbkjadkaa", sum := "e661f2238df191f01f474a5c55f4aefdcd2c8f4bbd3a8753c37d7617fed7ff4e", func := "cartulary/cartularylaw03.SumMixed", spec := "sumMixed", apart := false, narrowed := true }
def SumMixedUptoSaid : Prop := sumMixedUptoRow.holds Try.pinned (OpenSpec.upto sumMixedSpec)

end Rows
end Go.Proofs.Ytgolpihbkjadkaa
