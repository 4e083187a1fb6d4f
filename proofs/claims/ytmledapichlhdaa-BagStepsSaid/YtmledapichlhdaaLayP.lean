/- The contracts of the library that the shelf holds, laid at this program. -/
import Derived.Test.YtmledapichlhdaaProg
import Derived.Shelf.Abstract
import Derived.Shelf.Pu.Lays
namespace Go.Proofs.Ytmledapichlhdaa.LayP
open Go.Shelf
def bClone_ren : Go.Shelf.Ren := ⟨fun | 25 => 35 | n => n, fun | 9 => 9 | 3 => 3 | 4 => 4 | 37 => 77 | 0 => 0 | 47 => 78 | 5 => 5 | n => n, fun | n => n⟩
theorem bClone : Go.Proofs.LaysPu.n25 Try.prog bClone_ren := {
  mixed := by kernel_rfl,
  f25 := Try.func35.trans (congrArg some (by kernel_rfl)),
  t0 := Try.underlying0,
  a0 := Try.isAgg0,
  z0 := Try.sizeOf0,
  v0 := Try.zeroValue0,
  i0 := by kernel_rfl,
  t3 := Try.underlying3,
  a3 := Try.isAgg3,
  z3 := Try.sizeOf3,
  v3 := Try.zeroValue3,
  i3 := by kernel_rfl,
  t4 := Try.underlying4,
  a4 := Try.isAgg4,
  z4 := Try.sizeOf4,
  v4 := Try.zeroValue4,
  i4 := by kernel_rfl,
  t5 := Try.underlying5,
  a5 := Try.isAgg5,
  z5 := Try.sizeOf5,
  v5 := Try.zeroValue5,
  i5 := by kernel_rfl,
  t9 := Try.underlying9,
  a9 := Try.isAgg9,
  z9 := Try.sizeOf9,
  v9 := Try.zeroValue9,
  i9 := by kernel_rfl,
  t37 := Try.underlying77,
  a37 := Try.isAgg77,
  z37 := Try.sizeOf77,
  v37 := Try.zeroValue77,
  i37 := by kernel_rfl,
  t47 := Try.underlying78,
  a47 := Try.isAgg78,
  z47 := Try.sizeOf78,
  v47 := Try.zeroValue78,
  i47 := by kernel_rfl }
end Go.Proofs.Ytmledapichlhdaa.LayP
