-- Written by a program of this session's.
import Derived.Test.YtjjbikpjkbdabaaProg
import Derived.Below
import Derived.Deep.Draws
import Derived.Deep.AppendLies
import Derived.Maps.AppendAt
import Derived.OwnWalk
import Derived.Laws.BytesArg
import Derived.Laws.MakeOwn
import Derived.Laws.OwnMore
import Derived.Deep.OwnRows
import Derived.Tactics
import Derived.Lib.ConvBytes
import Derived.Laws.Slices
import Derived.WalkKit
import Derived.KernelRfl
import Derived.RowKit3
import Derived.Deep.LoopGhost
import Derived.Deep.QuietTactic
import Derived.BigQuiet
import Derived.WideLaws
import Derived.Deep.DeepCutAuto
import Derived.Deep.CutBlock
import Derived.Deep.RegionHeld3
import Derived.Laws.Rows
import Derived.Lib.AppendStr
import Derived.ArgAppend
import Derived.Laws.IdiomCopy
import Derived.OrdersHeld
import Derived.Laws.BitsLemmas
import Derived.RowKit
import Derived.Test.YtjjbikpjkbdabaaWWords
import Derived.Test.YtjjbikpjkbdabaaWLast
import Derived.Test.YtjjbikpjkbdabaaWTab
import Derived.Test.YtjjbikpjkbdabaaWFour
import Derived.Test.YtjjbikpjkbdabaaWQPut
import Derived.Test.YtjjbikpjkbdabaaWApart
import Derived.Test.YtjjbikpjkbdabaaWArr
import Derived.Test.YtjjbikpjkbdabaaWZeros
import Derived.Test.YtjjbikpjkbdabaaWFoot
import Derived.Test.YtjjbikpjkbdabaaWKept
import Derived.Test.YtjjbikpjkbdabaaWShare
import Derived.Test.YtjjbikpjkbdabaaWN
import Derived.Test.YtjjbikpjkbdabaaWFootNe
import Derived.Test.YtjjbikpjkbdabaaWAt
import Derived.Test.YtjjbikpjkbdabaaWEqStruct
import Derived.Test.YtjjbikpjkbdabaaWRepsOne
import Derived.Test.YtjjbikpjkbdabaaWInv
import Derived.Test.YtjjbikpjkbdabaaWInvWords
import Derived.Test.YtjjbikpjkbdabaaWGuard
import Derived.Test.YtjjbikpjkbdabaaWNEv
import Derived.Test.YtjjbikpjkbdabaaWMore
namespace Go.Proofs.Ytjjbikpjkbdabaa.Pt
open Go.RowKit Go.Proofs.YtjjbikpjkbdabaaW.PrintWords Go.Proofs.YtjjbikpjkbdabaaW.PrintLast Go.Proofs.YtjjbikpjkbdabaaW.PrintMore
attribute [local go_sem] max2_int min2_int max_two min_two max_three min_three max_four min_four   -- for this text's walks alone
set_option linter.unusedVariables false
set_option linter.unusedSimpArgs false



def errW : Option Int → Value
  | none => .nilIface
  | some c => .iface 0 (.int .i64 c)
theorem errW_none : errW none = .nilIface := rfl
theorem errW_some (c : Int) : errW (some c) = .iface 0 (.int .i64 c) := rfl

-- the values' own types

end Go.Proofs.Ytjjbikpjkbdabaa.Pt
