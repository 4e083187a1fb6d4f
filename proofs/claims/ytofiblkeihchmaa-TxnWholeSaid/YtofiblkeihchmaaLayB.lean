/- The contracts of the library that the shelf holds, laid at this program. -/
import Derived.Test.YtofiblkeihchmaaProg
import Derived.Shelf.Abstract
import Derived.Shelf.Lays
namespace Go.Proofs.Ytofiblkeihchmaa.LayB
open Go.Shelf
def bString_ren : Go.Shelf.Ren := ⟨fun | 169 => 43 | n => n, fun | 70 => 82 | 9 => 9 | 0 => 0 | 72 => 84 | 37 => 41 | 127 => 106 | 3 => 3 | 5 => 5 | n => n, fun | n => n⟩
theorem bString : Go.Proofs.Lays.n169 Try.prog bString_ren := {
  mixed := by kernel_rfl,
  f169 := Try.func43.trans (congrArg some (by kernel_rfl)),
  t0 := Try.underlying0,
  a0 := Try.isAgg0,
  z0 := Try.sizeOf0,
  v0 := Try.zeroValue0,
  t3 := Try.underlying3,
  a3 := Try.isAgg3,
  z3 := Try.sizeOf3,
  v3 := Try.zeroValue3,
  t9 := Try.underlying9,
  a9 := Try.isAgg9,
  z9 := Try.sizeOf9,
  v9 := Try.zeroValue9,
  t37 := Try.underlying41,
  a37 := Try.isAgg41,
  z37 := Try.sizeOf41,
  v37 := Try.zeroValue41,
  t70 := Try.underlying82,
  a70 := Try.isAgg82,
  z70 := Try.sizeOf82,
  v70 := Try.zeroValue82,
  t72 := Try.underlying84,
  a72 := Try.isAgg84,
  z72 := Try.sizeOf84,
  v72 := Try.zeroValue84,
  t127 := Try.underlying106,
  a127 := Try.isAgg106,
  z127 := Try.sizeOf106,
  v127 := Try.zeroValue106 }
end Go.Proofs.Ytofiblkeihchmaa.LayB
