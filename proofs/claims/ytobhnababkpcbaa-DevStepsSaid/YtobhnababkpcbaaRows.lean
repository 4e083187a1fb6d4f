/-
  No cell of these rows narrows 'for every input' (looked for: loops, veiled, ifaces, maps, wideKeys, modest, calm, conditions, laid).
  DERIVED. THE GIVEN ROWS OF THIS SEAT. 5 by the template 'for every input the law returns true; each argument reads behind the call as it read before'; 0 by the template 'total and deterministic' (their statements: YtobhnababkpcbaaTotals.lean).
  GIVEN WITH THE SEED: the statements are not yours to turn. If you find one false, say at which input.
  Laid BY PROGRAM, IN A SANDBOX (cutbox-rows.mjs): the forced cells as the released guide's own fill.sh prints them over the translation 2c8e0a7e7c93f3f2… (all of the seat's roots in one cut). By AI agents, Wed Nov 11 2026. No macro, syntax, notation, axiom, sorry.
-/
import Derived.Test.YtobhnababkpcbaaChecked
import GoSem.Claim
import GoSem.ClaimJoined
import GoSem.ClaimMapViews
import Derived.JoinedTies
import Derived.KernelRfl
namespace Go.Proofs.Ytobhnababkpcbaa
/- THE CELL 'sum', in the pinned program and in every row, IS THE sha256 OF THE DUMP (.gsa) THAT YtobhnababkpcbaaProg.lean LOADS. Nothing in Lean hashes anything: it is a label: what it is worth is what the hold of that sum in a sandbox is worth. -/
noncomputable def Try.pinned : Pinned := { name := "ytobhnababkpcbaa", sum := "2c8e0a7e7c93f3f26ac58b99b44b188b6463c5e0f54ebda382b553206c46f0a5", checked := Try.checked }
namespace Rows
def none {H : Type} : Left H := { results := [], args := [] }

/-- 'cartularylaw04.DevSome': WHATEVER THE INPUT: true; the input reads as it did. -/
def devSomeSpec : ChangeSpec := { name := "devSome", fn := fun _ => fun
  | [d1, d2, d3] => { results := [.lit (.bool true)], args := [d1, d2, d3] }
  | _ => none }
def devSomeRow : OpenClaim := { program := "ytobhnababkpcbaa", sum := "2c8e0a7e7c93f3f26ac58b99b44b188b6463c5e0f54ebda382b553206c46f0a5", func := "cartulary/cartularylaw04.DevSome", spec := "devSome", plainKeys := false, apart := false }
def DevSomeSaid : Prop := devSomeRow.holds Try.pinned (OpenSpec.ofChange devSomeSpec)

/-- ITS FALSE NEIGHBOUR: 'it returns false'. Refute it at one input. -/
def devSomeWrong : ChangeSpec := { name := "devSome", fn := fun _ => fun
  | [d1, d2, d3] => { results := [.lit (.bool false)], args := [d1, d2, d3] }
  | _ => none }
def DevSomeWrongFalsely : Prop := devSomeRow.holds Try.pinned (OpenSpec.ofChange devSomeWrong)

/-- 'cartularylaw04.DevSteps': WHATEVER THE INPUT: true; the input reads as it did. -/
def devStepsSpec : ChangeSpec := { name := "devSteps", fn := fun _ => fun
  | [d1, d2] => { results := [.lit (.bool true)], args := [d1, d2] }
  | _ => none }
def devStepsRow : OpenClaim := { program := "ytobhnababkpcbaa", sum := "2c8e0a7e7c93f3f26ac58b99b44b188b6463c5e0f54ebda382b553206c46f0a5", func := "cartulary/cartularylaw04.DevSteps", spec := "devSteps", plainKeys := false, apart := false }
def DevStepsSaid : Prop := devStepsRow.holds Try.pinned (OpenSpec.ofChange devStepsSpec)

/-- ITS FALSE NEIGHBOUR: 'it returns false'. Refute it at one input. -/
def devStepsWrong : ChangeSpec := { name := "devSteps", fn := fun _ => fun
  | [d1, d2] => { results := [.lit (.bool false)], args := [d1, d2] }
  | _ => none }
def DevStepsWrongFalsely : Prop := devStepsRow.holds Try.pinned (OpenSpec.ofChange devStepsWrong)

/-- 'cartularylaw04.DevLasts': WHATEVER THE INPUT: true; the input reads as it did. -/
def devLastsSpec : ChangeSpec := { name := "devLasts", fn := fun _ => fun
  | [d1, d2] => { results := [.lit (.bool true)], args := [d1, d2] }
  | _ => none }
def devLastsRow : OpenClaim := { program := "ytobhnababkpcbaa", sum := "2c8e0a7e7c93f3f26ac58b99b44b188b6463c5e0f54ebda382b553206c46f0a5", func := "cartulary/cartularylaw04.DevLasts", spec := "devLasts", plainKeys := false, apart := false }
def DevLastsSaid : Prop := devLastsRow.holds Try.pinned (OpenSpec.ofChange devLastsSpec)

/-- ITS FALSE NEIGHBOUR: 'it returns false'. Refute it at one input. -/
def devLastsWrong : ChangeSpec := { name := "devLasts", fn := fun _ => fun
  | [d1, d2] => { results := [.lit (.bool false)], args := [d1, d2] }
  | _ => none }
def DevLastsWrongFalsely : Prop := devLastsRow.holds Try.pinned (OpenSpec.ofChange devLastsWrong)

/-- 'cartularylaw04.DevNil': WHATEVER THE INPUT: true; the input reads as it did. -/
def devNilSpec : ChangeSpec := { name := "devNil", fn := fun _ => fun
  | [d1, d2] => { results := [.lit (.bool true)], args := [d1, d2] }
  | _ => none }
def devNilRow : OpenClaim := { program := "ytobhnababkpcbaa", sum := "2c8e0a7e7c93f3f26ac58b99b44b188b6463c5e0f54ebda382b553206c46f0a5", func := "cartulary/cartularylaw04.DevNil", spec := "devNil", plainKeys := false, apart := false }
def DevNilSaid : Prop := devNilRow.holds Try.pinned (OpenSpec.ofChange devNilSpec)

/-- ITS FALSE NEIGHBOUR: 'it returns false'. Refute it at one input. -/
def devNilWrong : ChangeSpec := { name := "devNil", fn := fun _ => fun
  | [d1, d2] => { results := [.lit (.bool false)], args := [d1, d2] }
  | _ => none }
def DevNilWrongFalsely : Prop := devNilRow.holds Try.pinned (OpenSpec.ofChange devNilWrong)

/-- 'cartularylaw04.DevAll': WHATEVER THE INPUT: true; the input reads as it did. -/
def devAllSpec : ChangeSpec := { name := "devAll", fn := fun _ => fun
  | [d1, d2] => { results := [.lit (.bool true)], args := [d1, d2] }
  | _ => none }
def devAllRow : OpenClaim := { program := "ytobhnababkpcbaa", sum := "2c8e0a7e7c93f3f26ac58b99b44b188b6463c5e0f54ebda382b553206c46f0a5", func := "cartulary/cartularylaw04.DevAll", spec := "devAll", plainKeys := false, apart := false }
def DevAllSaid : Prop := devAllRow.holds Try.pinned (OpenSpec.ofChange devAllSpec)

/-- ITS FALSE NEIGHBOUR: 'it returns false'. Refute it at one input. -/
def devAllWrong : ChangeSpec := { name := "devAll", fn := fun _ => fun
  | [d1, d2] => { results := [.lit (.bool false)], args := [d1, d2] }
  | _ => none }
def DevAllWrongFalsely : Prop := devAllRow.holds Try.pinned (OpenSpec.ofChange devAllWrong)

/- THE SECOND FORM. 'bulk': how many values and letters a reading holds, each counted each time it is reached (what is shared counts as often as it is met; a slice's spare places count too). A statement '..UptoSaid' is the law's where the arguments, and the package variables that the reading takes, are together of bulk at most 1048576: NARROWER than '..Said'. Prove '..Said' where nothing that the law and all that it calls make is longer than what came in: it says more and counts as full. Else prove '..UptoSaid'. A law counts once. -/
mutual
def uptoBulk {H : Type} : DataW H → Nat
  | .lit (.string bytes) => bytes.length + 1
  | .lit _ => 1
  | .nil => 1
  | .ptr d => uptoBulk d + 1
  | .slice elems spare => uptoBulkAll elems + uptoBulkAll spare + 1
  | .agg parts => uptoBulkAll parts + 1
  | .iface _ d => uptoBulk d + 1
  | .map entries => uptoBulkEntries entries + 1
  | .held _ => 1
def uptoBulkAll {H : Type} : List (DataW H) → Nat
  | [] => 0
  | d :: r => uptoBulk d + uptoBulkAll r
def uptoBulkEntries {H : Type} : List (Lit × DataW H) → Nat
  | [] => 0
  | x :: r => uptoBulkEntry x + uptoBulkEntries r
def uptoBulkEntry {H : Type} : Lit × DataW H → Nat
  | (.string bytes, d) => bytes.length + uptoBulk d + 1
  | (_, d) => uptoBulk d + 1
 end
def uptoSmall : (H : Type) → List (DataW H) → Bool := fun _ ds => decide (uptoBulkAll ds ≤ 1048576)
def OpenSpec.upto (s : _root_.Go.ChangeSpec) : _root_.Go.OpenSpec := { _root_.Go.OpenSpec.ofChange s with cond := some uptoSmall }

/-- 'cartularylaw04.DevSome', WHERE WHAT IT READS IS OF BULK AT MOST 1048576: true; the input reads as it did. -/
def devSomeUptoRow : OpenClaim := { program := "ytobhnababkpcbaa", sum := "2c8e0a7e7c93f3f26ac58b99b44b188b6463c5e0f54ebda382b553206c46f0a5", func := "cartulary/cartularylaw04.DevSome", spec := "devSome", plainKeys := false, apart := false, narrowed := true }
def DevSomeUptoSaid : Prop := devSomeUptoRow.holds Try.pinned (OpenSpec.upto devSomeSpec)

/-- 'cartularylaw04.DevSteps', WHERE WHAT IT READS IS OF BULK AT MOST 1048576: true; the input reads as it did. -/
def devStepsUptoRow : OpenClaim := { program := "ytobhnababkpcbaa", sum := "2c8e0a7e7c93f3f26ac58b99b44b188b6463c5e0f54ebda382b553206c46f0a5", func := "cartulary/cartularylaw04.DevSteps", spec := "devSteps", plainKeys := false, apart := false, narrowed := true }
def DevStepsUptoSaid : Prop := devStepsUptoRow.holds Try.pinned (OpenSpec.upto devStepsSpec)

/-- 'cartularylaw04.DevLasts', WHERE WHAT IT READS IS OF BULK AT MOST 1048576: true; the input reads as it did. -/
def devLastsUptoRow : OpenClaim := { program := "ytobhnababkpcbaa", sum := "2c8e0a7e7c93f3f26ac58b99b44b188b6463c5e0f54ebda382b553206c46f0a5", func := "cartulary/cartularylaw04.DevLasts", spec := "devLasts", plainKeys := false, apart := false, narrowed := true }
def DevLastsUptoSaid : Prop := devLastsUptoRow.holds Try.pinned (OpenSpec.upto devLastsSpec)

/-- 'cartularylaw04.DevNil', WHERE WHAT IT READS IS OF BULK AT MOST 1048576: true; the input reads as it did. -/
def devNilUptoRow : OpenClaim := { program := "ytobhnababkpcbaa", sum := "2c8e0a7e7c93f3f26ac58b99b44b188b6463c5e0f54ebda382b553206c46f0a5", func := "cartulary/cartularylaw04.DevNil", spec := "devNil", plainKeys := false, apart := false, narrowed := true }
def DevNilUptoSaid : Prop := devNilUptoRow.holds Try.pinned (OpenSpec.upto devNilSpec)

/-- 'cartularylaw04.DevAll', WHERE WHAT IT READS IS OF BULK AT MOST 1048576: true; the input reads as it did. -/
def devAllUptoRow : OpenClaim := { program := "ytobhnababkpcbaa", sum := "2c8e0a7e7c93f3f26ac58b99b44b188b6463c5e0f54ebda382b553206c46f0a5", func := "cartulary/cartularylaw04.DevAll", spec := "devAll", plainKeys := false, apart := false, narrowed := true }
def DevAllUptoSaid : Prop := devAllUptoRow.holds Try.pinned (OpenSpec.upto devAllSpec)

end Rows
end Go.Proofs.Ytobhnababkpcbaa
