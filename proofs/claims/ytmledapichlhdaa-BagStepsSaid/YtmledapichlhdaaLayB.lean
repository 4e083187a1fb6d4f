/- The contracts of the library that the shelf holds, laid at this program. -/
import Derived.Test.YtmledapichlhdaaProg
import Derived.Shelf.Abstract
import Derived.Shelf.Lays
namespace Go.Proofs.Ytmledapichlhdaa.LayB
open Go.Shelf
def bCompare_ren : Go.Shelf.Ren := ⟨fun | 106 => 33 | 213 => 40 | 265 => 45 | n => n, fun | 9 => 9 | 3 => 3 | n => n, fun | n => n⟩
theorem bCompare : Go.Proofs.Lays.n106 Try.prog bCompare_ren := {
  mixed := by kernel_rfl,
  f106 := Try.func33.trans (congrArg some (by kernel_rfl)),
  f213 := Try.func40.trans (congrArg some (by kernel_rfl)),
  f265 := Try.func45.trans (congrArg some (by kernel_rfl)),
  t3 := Try.underlying3,
  a3 := Try.isAgg3,
  z3 := Try.sizeOf3,
  v3 := Try.zeroValue3,
  t9 := Try.underlying9,
  a9 := Try.isAgg9,
  z9 := Try.sizeOf9,
  v9 := Try.zeroValue9 }
end Go.Proofs.Ytmledapichlhdaa.LayB
