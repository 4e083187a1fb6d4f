/- Of every two texts of at most 2^47 - 4096 bytes each: the first as a block, and what the second says as a block, are the reference's. -/
import Derived.Test.YtgolpihbkjadkaaSumLaws
set_option linter.unusedVariables false
set_option linter.unusedSimpArgs false
namespace Go.Proofs.Ytgolpihbkjadkaa.Pure
open Go.RowKit Go.Proofs.Ytgolpihbkjadkaa.Pt Go.Proofs.YtgolpihbkjadkaaW.PrintWords Go.Proofs.YtgolpihbkjadkaaW.PrintLast Go.Proofs.Ytgolpihbkjadkaa.Spec Go.Proofs.Ytgolpihbkjadkaa.Ev
theorem SumBlocks : cartularylaw03_SumBlocks.Pure := by
  intro s b hs hb
  refine Ev.rounds ?_
  unfold cartularylaw03_SumBlocks.f
  refine Ev.bind (block_ev s (by omega)) (Ev.bind (rblock_ev s (by omega)) (Ev.bind (unblock_ev b (by omega)) (Ev.bind (runblock_ev b (by omega)) ?_)))
  refine Ev.pos rfl (Ev.pos rfl (Ev.pos rfl (Ev.pos rfl ?_)))
  exact Ev.bind speaks_ev (Ev.now _)
end Go.Proofs.Ytgolpihbkjadkaa.Pure
