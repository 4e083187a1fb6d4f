-- Written by a program of this session's.
import Derived.Test.YtofiblkeihchmaaProg
import Derived.Below
import Derived.Deep.Draws
import Derived.Deep.AppendLies
import Derived.Maps.AppendAt
import Derived.OwnWalk
import Derived.Laws.BytesArg
import Derived.Laws.MakeOwn
import Derived.Laws.OwnMore
import Derived.Deep.OwnRows
import Derived.Tactics
import Derived.Lib.ConvBytes
import Derived.Laws.Slices
import Derived.WalkKit
import Derived.KernelRfl
import Derived.RowKit3
import Derived.Deep.LoopGhost
import Derived.Deep.QuietTactic
import Derived.BigQuiet
import Derived.WideLaws
import Derived.Deep.DeepCutAuto
import Derived.Deep.CutBlock
import Derived.Deep.RegionHeld3
import Derived.Laws.Rows
import Derived.Lib.AppendStr
import Derived.ArgAppend
import Derived.Laws.IdiomCopy
import Derived.OrdersHeld
import Derived.Laws.BitsLemmas
import Derived.RowKit
import Derived.Test.YtofiblkeihchmaaGiven
import Derived.Test.YtofiblkeihchmaaWWords
import Derived.Test.YtofiblkeihchmaaWLast
import Derived.Test.YtofiblkeihchmaaWTab
import Derived.Test.YtofiblkeihchmaaWFour
import Derived.Test.YtofiblkeihchmaaWQPut
import Derived.Test.YtofiblkeihchmaaWApart
import Derived.Test.YtofiblkeihchmaaWArr
import Derived.Test.YtofiblkeihchmaaWZeros
import Derived.Test.YtofiblkeihchmaaWFoot
import Derived.Test.YtofiblkeihchmaaWKept
import Derived.Test.YtofiblkeihchmaaWShare
import Derived.Test.YtofiblkeihchmaaWN
import Derived.Test.YtofiblkeihchmaaWFootNe
import Derived.Test.YtofiblkeihchmaaWAt
import Derived.Test.YtofiblkeihchmaaWEqStruct
import Derived.Test.YtofiblkeihchmaaWRepsOne
import Derived.Test.YtofiblkeihchmaaWInv
import Derived.Test.YtofiblkeihchmaaWInvWords
import Derived.Test.YtofiblkeihchmaaWGuard
import Derived.Test.YtofiblkeihchmaaWNEv
import Derived.Test.YtofiblkeihchmaaWMore
namespace Go.Proofs.Ytofiblkeihchmaa.Ps
open Go.RowKit Go.Proofs.Ytofiblkeihchmaa.Given Go.Proofs.Ytofiblkeihchmaa.Codec Go.Proofs.YtofiblkeihchmaaW.PrintWords Go.Proofs.YtofiblkeihchmaaW.PrintLast Go.Proofs.YtofiblkeihchmaaW.PrintMore
attribute [local go_sem] max2_int min2_int max_two min_two max_three min_three max_four min_four   -- for this text's walks alone
set_option linter.unusedVariables false
set_option linter.unusedSimpArgs false



def errW : Option Int → Value
  | none => .nilIface
  | some c => .iface 0 (.int .i64 c)
theorem errW_none : errW none = .nilIface := rfl
theorem errW_some (c : Int) : errW (some c) = .iface 0 (.int .i64 c) := rfl

theorem info5 : (Try.prog.info? 5).map (fun i => (i.zero, i.size, i.bytes)) = some (some (.int .u8 0), 1, 1) := by kernel_rfl
-- the values' own types

end Go.Proofs.Ytofiblkeihchmaa.Ps
