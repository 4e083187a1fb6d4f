-- Written by a program of this session's.
import Derived.Test.YtifhgfjohpbliaaProg
import Derived.Below
import Derived.Deep.Draws
import Derived.Deep.AppendLies
import Derived.Maps.AppendAt
import Derived.OwnWalk
import Derived.Laws.BytesArg
import Derived.Laws.MakeOwn
import Derived.Laws.OwnMore
import Derived.Deep.OwnRows
import Derived.Tactics
import Derived.Lib.ConvBytes
import Derived.Laws.Slices
import Derived.WalkKit
import Derived.KernelRfl
import Derived.RowKit3
import Derived.Deep.LoopGhost
import Derived.Deep.QuietTactic
import Derived.BigQuiet
import Derived.WideLaws
import Derived.Deep.DeepCutAuto
import Derived.Deep.CutBlock
import Derived.Deep.RegionHeld3
import Derived.Laws.Rows
import Derived.Lib.AppendStr
import Derived.ArgAppend
import Derived.Laws.IdiomCopy
import Derived.OrdersHeld
import Derived.Laws.BitsLemmas
import Derived.RowKit
import Derived.Test.YtifhgfjohpbliaaKeepS
import Derived.Test.YtifhgfjohpbliaaWWords
import Derived.Test.YtifhgfjohpbliaaWLast
import Derived.Test.YtifhgfjohpbliaaWTab
import Derived.Test.YtifhgfjohpbliaaWFour
import Derived.Test.YtifhgfjohpbliaaWQPut
import Derived.Test.YtifhgfjohpbliaaWApart
import Derived.Test.YtifhgfjohpbliaaWArr
import Derived.Test.YtifhgfjohpbliaaWZeros
import Derived.Test.YtifhgfjohpbliaaWFoot
import Derived.Test.YtifhgfjohpbliaaWKept
import Derived.Test.YtifhgfjohpbliaaWShare
import Derived.Test.YtifhgfjohpbliaaWN
import Derived.Test.YtifhgfjohpbliaaWFootNe
import Derived.Test.YtifhgfjohpbliaaWAt
import Derived.Test.YtifhgfjohpbliaaWEqStruct
import Derived.Test.YtifhgfjohpbliaaWRepsOne
import Derived.Test.YtifhgfjohpbliaaWInv
import Derived.Test.YtifhgfjohpbliaaWInvWords
import Derived.Test.YtifhgfjohpbliaaWGuard
import Derived.Test.YtifhgfjohpbliaaWNEv
import Derived.Test.YtifhgfjohpbliaaWMore
namespace Go.Proofs.Ytifhgfjohpbliaa.Pk
open Go.RowKit Go.Proofs.Ytifhgfjohpbliaa.GivenV Go.Proofs.Ytifhgfjohpbliaa.C Go.Proofs.YtifhgfjohpbliaaW.PrintWords Go.Proofs.YtifhgfjohpbliaaW.PrintLast Go.Proofs.YtifhgfjohpbliaaW.PrintMore
attribute [local go_sem] max2_int min2_int max_two min_two max_three min_three max_four min_four   -- for this text's walks alone
set_option linter.unusedVariables false
set_option linter.unusedSimpArgs false



def errW : Option Int → Value
  | none => .nilIface
  | some c => .iface 0 (.int .i64 c)
theorem errW_none : errW none = .nilIface := rfl
theorem errW_some (c : Int) : errW (some c) = .iface 0 (.int .i64 c) := rfl

-- the values' own types

end Go.Proofs.Ytifhgfjohpbliaa.Pk
