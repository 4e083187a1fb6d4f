/- Of every text of at most 2^47 - 4096 bytes: its sum, what is sealed and what is opened are the reference's. -/
import Derived.Test.YtgolpihbkjadkaaSumLaws
set_option linter.unusedVariables false
set_option linter.unusedSimpArgs false
namespace Go.Proofs.Ytgolpihbkjadkaa.Pure
open Go.RowKit Go.Proofs.Ytgolpihbkjadkaa.Pt Go.Proofs.YtgolpihbkjadkaaW.PrintWords Go.Proofs.YtgolpihbkjadkaaW.PrintLast Go.Proofs.Ytgolpihbkjadkaa.Spec Go.Proofs.Ytgolpihbkjadkaa.Ev
theorem SumTells : cartularylaw03_SumTells.Pure := by
  intro s hs
  refine Ev.rounds ?_
  unfold cartularylaw03_SumTells.f
  refine Ev.bind (open_ev s (by omega)) (Ev.bind (ropen_ev s (by omega)) (Ev.bind (of_ev s (by omega)) (Ev.bind (rof_ev s (by omega)) (Ev.pos rfl ?_))))
  refine Ev.bind (seal_ev s (by omega)) (Ev.bind (rseal_ev s (by omega)) (Ev.pos rfl (Ev.pos rfl (Ev.pos rfl ?_))))
  exact Ev.bind speaks_ev (Ev.now _)
end Go.Proofs.Ytgolpihbkjadkaa.Pure
