/-
  No cell of these rows narrows 'for every input' (looked for: loops, veiled, ifaces, maps, wideKeys, modest, calm, conditions, laid).
  DERIVED. THE GIVEN ROWS OF THIS SEAT. 5 by the template 'for every input the law returns true; each argument reads behind the call as it read before'; 0 by the template 'total and deterministic' (their statements: YtofiblkeihchmaaTotals.lean).
  GIVEN WITH THE SEED: the statements are not yours to turn. If you find one false, say at which input.
  Laid BY PROGRAM, IN A SANDBOX (cutbox-rows.mjs): the forced cells as the released guide's own fill.sh prints them over the translation e3a6cb4e218d4ebb… (all of the seat's roots in one cut). By AI agents, Wed Nov 11 2026. No macro, syntax, notation, axiom, sorry.
-/
import Derived.Test.YtofiblkeihchmaaChecked
import GoSem.Claim
import GoSem.ClaimJoined
import GoSem.ClaimMapViews
import Derived.JoinedTies
import Derived.KernelRfl
namespace Go.Proofs.Ytofiblkeihchmaa
/- THE CELL 'sum', in the pinned program and in every row, IS THE sha256 OF THE DUMP (.gsa) THAT YtofiblkeihchmaaProg.lean LOADS. Nothing in Lean hashes anything: it is a label: what it is worth is what the hold of that sum in a sandbox is worth. -/
noncomputable def Try.pinned : Pinned := { name := "ytofiblkeihchmaa", sum := "e3a6cb4e218d4ebb3d8c7b794e2a14dda775cbe45e65d3ee13a829b6cdd41af7", checked := Try.checked }
namespace Rows
def none {H : Type} : Left H := { results := [], args := [] }

/-- 'cartularylaw07.TxnMerges': WHATEVER THE INPUT: true; the input reads as it did. -/
def txnMergesSpec : ChangeSpec := { name := "txnMerges", fn := fun _ => fun
  | [d1, d2] => { results := [.lit (.bool true)], args := [d1, d2] }
  | _ => none }
def txnMergesRow : OpenClaim := { program := "ytofiblkeihchmaa", sum := "e3a6cb4e218d4ebb3d8c7b794e2a14dda775cbe45e65d3ee13a829b6cdd41af7", func := "cartulary/cartularylaw07.TxnMerges", spec := "txnMerges", inPlace := ["internal/abi.NoEscape"], unfollowed := true, recurses := true, apart := false }
def TxnMergesSaid : Prop := txnMergesRow.holds Try.pinned (OpenSpec.ofChange txnMergesSpec)

/-- ITS FALSE NEIGHBOUR: 'it returns false'. Refute it at one input. -/
def txnMergesWrong : ChangeSpec := { name := "txnMerges", fn := fun _ => fun
  | [d1, d2] => { results := [.lit (.bool false)], args := [d1, d2] }
  | _ => none }
def TxnMergesWrongFalsely : Prop := txnMergesRow.holds Try.pinned (OpenSpec.ofChange txnMergesWrong)

/-- 'cartularylaw07.TxnBack': WHATEVER THE INPUT: true; the input reads as it did. -/
def txnBackSpec : ChangeSpec := { name := "txnBack", fn := fun _ => fun
  | [d1, d2, d3] => { results := [.lit (.bool true)], args := [d1, d2, d3] }
  | _ => none }
def txnBackRow : OpenClaim := { program := "ytofiblkeihchmaa", sum := "e3a6cb4e218d4ebb3d8c7b794e2a14dda775cbe45e65d3ee13a829b6cdd41af7", func := "cartulary/cartularylaw07.TxnBack", spec := "txnBack", inPlace := ["internal/abi.NoEscape"], unfollowed := true, recurses := true, apart := false }
def TxnBackSaid : Prop := txnBackRow.holds Try.pinned (OpenSpec.ofChange txnBackSpec)

/-- ITS FALSE NEIGHBOUR: 'it returns false'. Refute it at one input. -/
def txnBackWrong : ChangeSpec := { name := "txnBack", fn := fun _ => fun
  | [d1, d2, d3] => { results := [.lit (.bool false)], args := [d1, d2, d3] }
  | _ => none }
def TxnBackWrongFalsely : Prop := txnBackRow.holds Try.pinned (OpenSpec.ofChange txnBackWrong)

/-- 'cartularylaw07.TxnTwo': WHATEVER THE INPUT: true; the input reads as it did. -/
def txnTwoSpec : ChangeSpec := { name := "txnTwo", fn := fun _ => fun
  | [d1, d2, d3] => { results := [.lit (.bool true)], args := [d1, d2, d3] }
  | _ => none }
def txnTwoRow : OpenClaim := { program := "ytofiblkeihchmaa", sum := "e3a6cb4e218d4ebb3d8c7b794e2a14dda775cbe45e65d3ee13a829b6cdd41af7", func := "cartulary/cartularylaw07.TxnTwo", spec := "txnTwo", inPlace := ["internal/abi.NoEscape"], unfollowed := true, recurses := true, apart := false }
def TxnTwoSaid : Prop := txnTwoRow.holds Try.pinned (OpenSpec.ofChange txnTwoSpec)

/-- ITS FALSE NEIGHBOUR: 'it returns false'. Refute it at one input. -/
def txnTwoWrong : ChangeSpec := { name := "txnTwo", fn := fun _ => fun
  | [d1, d2, d3] => { results := [.lit (.bool false)], args := [d1, d2, d3] }
  | _ => none }
def TxnTwoWrongFalsely : Prop := txnTwoRow.holds Try.pinned (OpenSpec.ofChange txnTwoWrong)

/-- 'cartularylaw07.TxnWhole': WHATEVER THE INPUT: true; the input reads as it did. -/
def txnWholeSpec : ChangeSpec := { name := "txnWhole", fn := fun _ => fun
  | [d1, d2, d3] => { results := [.lit (.bool true)], args := [d1, d2, d3] }
  | _ => none }
def txnWholeRow : OpenClaim := { program := "ytofiblkeihchmaa", sum := "e3a6cb4e218d4ebb3d8c7b794e2a14dda775cbe45e65d3ee13a829b6cdd41af7", func := "cartulary/cartularylaw07.TxnWhole", spec := "txnWhole", inPlace := ["internal/abi.NoEscape"], unfollowed := true, recurses := true, apart := false }
def TxnWholeSaid : Prop := txnWholeRow.holds Try.pinned (OpenSpec.ofChange txnWholeSpec)

/-- ITS FALSE NEIGHBOUR: 'it returns false'. Refute it at one input. -/
def txnWholeWrong : ChangeSpec := { name := "txnWhole", fn := fun _ => fun
  | [d1, d2, d3] => { results := [.lit (.bool false)], args := [d1, d2, d3] }
  | _ => none }
def TxnWholeWrongFalsely : Prop := txnWholeRow.holds Try.pinned (OpenSpec.ofChange txnWholeWrong)

/-- 'cartularylaw07.TxnThree': WHATEVER THE INPUT: true; the input reads as it did. -/
def txnThreeSpec : ChangeSpec := { name := "txnThree", fn := fun _ => fun
  | [d1, d2, d3] => { results := [.lit (.bool true)], args := [d1, d2, d3] }
  | _ => none }
def txnThreeRow : OpenClaim := { program := "ytofiblkeihchmaa", sum := "e3a6cb4e218d4ebb3d8c7b794e2a14dda775cbe45e65d3ee13a829b6cdd41af7", func := "cartulary/cartularylaw07.TxnThree", spec := "txnThree", inPlace := ["internal/abi.NoEscape"], unfollowed := true, recurses := true, apart := false }
def TxnThreeSaid : Prop := txnThreeRow.holds Try.pinned (OpenSpec.ofChange txnThreeSpec)

/-- ITS FALSE NEIGHBOUR: 'it returns false'. Refute it at one input. -/
def txnThreeWrong : ChangeSpec := { name := "txnThree", fn := fun _ => fun
  | [d1, d2, d3] => { results := [.lit (.bool false)], args := [d1, d2, d3] }
  | _ => none }
def TxnThreeWrongFalsely : Prop := txnThreeRow.holds Try.pinned (OpenSpec.ofChange txnThreeWrong)

/- THE SECOND FORM. 'bulk': how many values and letters a reading holds, each counted each time it is reached (what is shared counts as often as it is met; a slice's spare places count too). A statement '..UptoSaid' is the law's where the arguments, and the package variables that the reading takes, are together of bulk at most 1048576: NARROWER than '..Said'. Prove '..Said' where nothing that the law and all that it calls make is longer than what came in: it says more and counts as full. Else prove '..UptoSaid'. A law counts once. -/
mutual
def uptoBulk {H : Type} : DataW H → Nat
  | .lit (.string bytes) => bytes.length + 1
  | .lit _ => 1
  | .nil => 1
  | .ptr d => uptoBulk d + 1
  | .slice elems spare => uptoBulkAll elems + uptoBulkAll spare + 1
  | .agg parts => uptoBulkAll parts + 1
  | .iface _ d => uptoBulk d + 1
  | .map entries => uptoBulkEntries entries + 1
  | .held _ => 1
def uptoBulkAll {H : Type} : List (DataW H) → Nat
  | [] => 0
  | d :: r => uptoBulk d + uptoBulkAll r
def uptoBulkEntries {H : Type} : List (Lit × DataW H) → Nat
  | [] => 0
  | x :: r => uptoBulkEntry x + uptoBulkEntries r
def uptoBulkEntry {H : Type} : Lit × DataW H → Nat
  | (.string bytes, d) => bytes.length + uptoBulk d + 1
  | (_, d) => uptoBulk d + 1
 end
def uptoSmall : (H : Type) → List (DataW H) → Bool := fun _ ds => decide (uptoBulkAll ds ≤ 1048576)
def OpenSpec.upto (s : _root_.Go.ChangeSpec) : _root_.Go.OpenSpec := { _root_.Go.OpenSpec.ofChange s with cond := some uptoSmall }

/-- 'cartularylaw07.TxnMerges', WHERE WHAT IT READS IS OF BULK AT MOST 1048576: true; the input reads as it did. -/
def txnMergesUptoRow : OpenClaim := { program := "ytofiblkeihchmaa", sum := "e3a6cb4e218d4ebb3d8c7b794e2a14dda775cbe45e65d3ee13a829b6cdd41af7", func := "cartulary/cartularylaw07.TxnMerges", spec := "txnMerges", inPlace := ["internal/abi.NoEscape"], unfollowed := true, recurses := true, apart := false, narrowed := true }
def TxnMergesUptoSaid : Prop := txnMergesUptoRow.holds Try.pinned (OpenSpec.upto txnMergesSpec)

/-- 'cartularylaw07.TxnBack', WHERE WHAT IT READS IS OF BULK AT MOST 1048576: true; the input reads as it did. -/
def txnBackUptoRow : OpenClaim := { program := "ytofiblkeihchmaa", sum := "e3a6cb4e218d4ebb3d8c7b794e2a14dda775cbe45e65d3ee13a829b6cdd41af7", func := "cartulary/cartularylaw07.TxnBack", spec := "txnBack", inPlace := ["internal/abi.NoEscape"], unfollowed := true, recurses := true, apart := false, narrowed := true }
def TxnBackUptoSaid : Prop := txnBackUptoRow.holds Try.pinned (OpenSpec.upto txnBackSpec)

/-- 'cartularylaw07.TxnTwo', WHERE WHAT IT READS IS OF BULK AT MOST 1048576: true; the input reads as it did. -/
def txnTwoUptoRow : OpenClaim := { program := "ytofiblkeihchmaa", sum := "e3a6cb4e218d4ebb3d8c7b794e2a14dda775cbe45e65d3ee13a829b6cdd41af7", func := "cartulary/cartularylaw07.TxnTwo", spec := "txnTwo", inPlace := ["internal/abi.NoEscape"], unfollowed := true, recurses := true, apart := false, narrowed := true }
def TxnTwoUptoSaid : Prop := txnTwoUptoRow.holds Try.pinned (OpenSpec.upto txnTwoSpec)

/-- 'cartularylaw07.TxnWhole', WHERE WHAT IT READS IS OF BULK AT MOST 1048576: true; the input reads as it did. -/
def txnWholeUptoRow : OpenClaim := { program := "ytofiblkeihchmaa", sum := "e3a6cb4e218d4ebb3d8c7b794e2a14dda775cbe45e65d3ee13a829b6cdd41af7", func := "cartulary/cartularylaw07.TxnWhole", spec := "txnWhole", inPlace := ["internal/abi.NoEscape"], unfollowed := true, recurses := true, apart := false, narrowed := true }
def TxnWholeUptoSaid : Prop := txnWholeUptoRow.holds Try.pinned (OpenSpec.upto txnWholeSpec)

/-- 'cartularylaw07.TxnThree', WHERE WHAT IT READS IS OF BULK AT MOST 1048576: true; the input reads as it did. -/
def txnThreeUptoRow : OpenClaim := { program := "ytofiblkeihchmaa", sum := "e3a6cb4e218d4ebb3d8c7b794e2a14dda775cbe45e65d3ee13a829b6cdd41af7", func := "cartulary/cartularylaw07.TxnThree", spec := "txnThree", inPlace := ["internal/abi.NoEscape"], unfollowed := true, recurses := true, apart := false, narrowed := true }
def TxnThreeUptoSaid : Prop := txnThreeUptoRow.holds Try.pinned (OpenSpec.upto txnThreeSpec)

end Rows
end Go.Proofs.Ytofiblkeihchmaa
