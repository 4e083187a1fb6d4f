/- The contracts of the library that the shelf holds, laid at this program. -/
import Derived.Test.YtlmnfnkjbgnklaaProg
import Derived.Shelf.Abstract
import Derived.Shelf.Lays
namespace Go.Proofs.Ytlmnfnkjbgnklaa.LayB
open Go.Shelf
def bString_ren : Go.Shelf.Ren := ⟨fun | 169 => 69 | n => n, fun | 70 => 123 | 9 => 9 | 0 => 0 | 72 => 125 | 37 => 100 | 127 => 131 | 3 => 3 | 5 => 5 | n => n, fun | n => n⟩
theorem bString : Go.Proofs.Lays.n169 Try.prog bString_ren := {
  mixed := by kernel_rfl,
  f169 := Try.func69.trans (congrArg some (by kernel_rfl)),
  t0 := Try.underlying0,
  a0 := Try.isAgg0,
  z0 := Try.sizeOf0,
  v0 := Try.zeroValue0,
  t3 := Try.underlying3,
  a3 := Try.isAgg3,
  z3 := Try.sizeOf3,
  v3 := Try.zeroValue3,
  t9 := Try.underlying9,
  a9 := Try.isAgg9,
  z9 := Try.sizeOf9,
  v9 := Try.zeroValue9,
  t37 := Try.underlying100,
  a37 := Try.isAgg100,
  z37 := Try.sizeOf100,
  v37 := Try.zeroValue100,
  t70 := Try.underlying123,
  a70 := Try.isAgg123,
  z70 := Try.sizeOf123,
  v70 := Try.zeroValue123,
  t72 := Try.underlying125,
  a72 := Try.isAgg125,
  z72 := Try.sizeOf125,
  v72 := Try.zeroValue125,
  t127 := Try.underlying131,
  a127 := Try.isAgg131,
  z127 := Try.sizeOf131,
  v127 := Try.zeroValue131 }
end Go.Proofs.Ytlmnfnkjbgnklaa.LayB
