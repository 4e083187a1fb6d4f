-- Written by a program of this session's.
import Derived.Test.YtgidiphffcahjaaProg
import Derived.Below
import Derived.Deep.Draws
import Derived.Deep.AppendLies
import Derived.Maps.AppendAt
import Derived.OwnWalk
import Derived.Laws.BytesArg
import Derived.Laws.MakeOwn
import Derived.Laws.OwnMore
import Derived.Deep.OwnRows
import Derived.Tactics
import Derived.Lib.ConvBytes
import Derived.Laws.Slices
import Derived.WalkKit
import Derived.KernelRfl
import Derived.RowKit3
import Derived.Deep.LoopGhost
import Derived.Deep.QuietTactic
import Derived.BigQuiet
import Derived.WideLaws
import Derived.Deep.DeepCutAuto
import Derived.Deep.CutBlock
import Derived.Deep.RegionHeld3
import Derived.Laws.Rows
import Derived.Lib.AppendStr
import Derived.ArgAppend
import Derived.Laws.IdiomCopy
import Derived.OrdersHeld
import Derived.Laws.BitsLemmas
import Derived.RowKit
import Derived.Test.YtgidiphffcahjaaGiven
import Derived.Test.YtgidiphffcahjaaWWords
import Derived.Test.YtgidiphffcahjaaWLast
import Derived.Test.YtgidiphffcahjaaWTab
import Derived.Test.YtgidiphffcahjaaWFour
import Derived.Test.YtgidiphffcahjaaWQPut
import Derived.Test.YtgidiphffcahjaaWApart
import Derived.Test.YtgidiphffcahjaaWArr
import Derived.Test.YtgidiphffcahjaaWZeros
import Derived.Test.YtgidiphffcahjaaWFoot
import Derived.Test.YtgidiphffcahjaaWKept
import Derived.Test.YtgidiphffcahjaaWShare
import Derived.Test.YtgidiphffcahjaaWN
import Derived.Test.YtgidiphffcahjaaWFootNe
import Derived.Test.YtgidiphffcahjaaWAt
import Derived.Test.YtgidiphffcahjaaWEqStruct
import Derived.Test.YtgidiphffcahjaaWRepsOne
import Derived.Test.YtgidiphffcahjaaWInv
import Derived.Test.YtgidiphffcahjaaWInvWords
import Derived.Test.YtgidiphffcahjaaWGuard
import Derived.Test.YtgidiphffcahjaaWNEv
import Derived.Test.YtgidiphffcahjaaWMore
namespace Go.Proofs.Ytgidiphffcahjaa.Ps
open Go.RowKit Go.Proofs.Ytgidiphffcahjaa.Given Go.Proofs.Ytgidiphffcahjaa.Codec Go.Proofs.YtgidiphffcahjaaW.PrintWords Go.Proofs.YtgidiphffcahjaaW.PrintLast Go.Proofs.YtgidiphffcahjaaW.PrintMore
attribute [local go_sem] max2_int min2_int max_two min_two max_three min_three max_four min_four   -- for this text's walks alone
set_option linter.unusedVariables false
set_option linter.unusedSimpArgs false



def errW : Option Int → Value
  | none => .nilIface
  | some c => .iface 0 (.int .i64 c)
theorem errW_none : errW none = .nilIface := rfl
theorem errW_some (c : Int) : errW (some c) = .iface 0 (.int .i64 c) := rfl

theorem info5 : (Try.prog.info? 5).map (fun i => (i.zero, i.size, i.bytes)) = some (some (.int .u8 0), 1, 1) := by kernel_rfl
-- the values' own types

end Go.Proofs.Ytgidiphffcahjaa.Ps
