/- What ViewKeeps leans on, the law's own first question too. -/
import Derived.Test.YtifhgfjohpbliaaKeep
import Derived.Test.YtifhgfjohpbliaaViewSpec
set_option linter.unusedVariables false
namespace Go.Proofs.Ytifhgfjohpbliaa.GivenV
open Go.RowKit Go.Proofs.YtifhgfjohpbliaaW.PrintWords Go.Proofs.YtifhgfjohpbliaaW.PrintLast
def cartularylaw21_speaks.f : Option Bool := some true
theorem cartularylaw21_speaks.calls (r : Bool) (w : World) (h : cartularylaw21_speaks.f = some r) :
    Calls Try.prog 14 #[] w fun e w' => e = .returned (.bool r) ∧ Below w.heap.size w w' := by
  obtain rfl := Option.some.inj h
  obtain ⟨k, hk⟩ := Vs.speaks_ev.rounds
  exact Pt.cartularylaw21_speaks.calls k true w hk
end Go.Proofs.Ytifhgfjohpbliaa.GivenV
