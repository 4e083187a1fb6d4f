/- The contracts of the library that the shelf holds, laid at this program. -/
import Derived.Test.YtikefafpkclgeaaProg
import Derived.Shelf.SlGeneric
import Derived.Shelf.SlLaysE0
namespace Go.Proofs.Ytikefafpkclgeaa.LayC
open Go.Shelf
def clCh_ren : Go.Shelf.Ren := ⟨fun | 41 => 30 | n => n, fun | 22 => 34 | 23 => 37 | 4 => 4 | n => n, fun | n => n⟩
theorem clCh : Go.Proofs.SlLaysE0.n41 Try.prog clCh_ren := {
  mixed := by kernel_rfl,
  f41 := ⟨Try.f30.name, by decide, Try.func30.trans (congrArg some (by kernel_rfl))⟩,
  t4 := Try.underlying4,
  a4 := Try.isAgg4,
  z4 := Try.sizeOf4,
  v4 := Try.zeroValue4,
  t22 := Try.underlying34,
  a22 := Try.isAgg34,
  z22 := Try.sizeOf34,
  v22 := Try.zeroValue34 }
end Go.Proofs.Ytikefafpkclgeaa.LayC
