-- Written by a program of this session's.
import Derived.Test.YtgolpihbkjadkaaProg
import Derived.Below
import Derived.Deep.Draws
import Derived.Deep.AppendLies
import Derived.Maps.AppendAt
import Derived.OwnWalk
import Derived.Laws.BytesArg
import Derived.Laws.MakeOwn
import Derived.Laws.OwnMore
import Derived.Deep.OwnRows
import Derived.Tactics
import Derived.Lib.ConvBytes
import Derived.Laws.Slices
import Derived.WalkKit
import Derived.KernelRfl
import Derived.RowKit3
import Derived.Deep.LoopGhost
import Derived.Deep.QuietTactic
import Derived.BigQuiet
import Derived.WideLaws
import Derived.Deep.DeepCutAuto
import Derived.Deep.CutBlock
import Derived.Deep.RegionHeld3
import Derived.Laws.Rows
import Derived.Lib.AppendStr
import Derived.ArgAppend
import Derived.Laws.IdiomCopy
import Derived.OrdersHeld
import Derived.Laws.BitsLemmas
import Derived.RowKit
import Derived.Test.YtgolpihbkjadkaaTurned
import Derived.Test.YtgolpihbkjadkaaWWords
import Derived.Test.YtgolpihbkjadkaaWLast
import Derived.Test.YtgolpihbkjadkaaWTab
import Derived.Test.YtgolpihbkjadkaaWFour
import Derived.Test.YtgolpihbkjadkaaWQPut
import Derived.Test.YtgolpihbkjadkaaWApart
import Derived.Test.YtgolpihbkjadkaaWArr
import Derived.Test.YtgolpihbkjadkaaWZeros
import Derived.Test.YtgolpihbkjadkaaWFoot
import Derived.Test.YtgolpihbkjadkaaWKept
import Derived.Test.YtgolpihbkjadkaaWShare
import Derived.Test.YtgolpihbkjadkaaWN
import Derived.Test.YtgolpihbkjadkaaWFootNe
import Derived.Test.YtgolpihbkjadkaaWAt
import Derived.Test.YtgolpihbkjadkaaWEqStruct
import Derived.Test.YtgolpihbkjadkaaWRepsOne
import Derived.Test.YtgolpihbkjadkaaWInv
import Derived.Test.YtgolpihbkjadkaaWInvWords
import Derived.Test.YtgolpihbkjadkaaWGuard
import Derived.Test.YtgolpihbkjadkaaWNEv
import Derived.Test.YtgolpihbkjadkaaWMore
namespace Go.Proofs.Ytgolpihbkjadkaa.Pt
open Go.RowKit Go.Proofs.Ytgolpihbkjadkaa.C Go.Proofs.Ytgolpihbkjadkaa.Given Go.Proofs.Ytgolpihbkjadkaa.Codec Go.Proofs.YtgolpihbkjadkaaW.PrintWords Go.Proofs.YtgolpihbkjadkaaW.PrintLast Go.Proofs.YtgolpihbkjadkaaW.PrintMore
attribute [local go_sem] max2_int min2_int max_two min_two max_three min_three max_four min_four   -- for this text's walks alone
set_option linter.unusedVariables false
set_option linter.unusedSimpArgs false



def errW : Option Int → Value
  | none => .nilIface
  | some c => .iface 0 (.int .i64 c)
theorem errW_none : errW none = .nilIface := rfl
theorem errW_some (c : Int) : errW (some c) = .iface 0 (.int .i64 c) := rfl

-- the values' own types

end Go.Proofs.Ytgolpihbkjadkaa.Pt
