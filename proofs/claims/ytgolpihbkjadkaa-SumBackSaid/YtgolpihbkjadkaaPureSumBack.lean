/- Of every text of at most 2^47 - 4096 bytes: what was sealed is opened, and what was laid in a block is taken out. -/
import Derived.Test.YtgolpihbkjadkaaSumLaws
set_option linter.unusedVariables false
set_option linter.unusedSimpArgs false
namespace Go.Proofs.Ytgolpihbkjadkaa.Pure
open Go.RowKit Go.Proofs.Ytgolpihbkjadkaa.Pt Go.Proofs.YtgolpihbkjadkaaW.PrintWords Go.Proofs.YtgolpihbkjadkaaW.PrintLast Go.Proofs.Ytgolpihbkjadkaa.Spec Go.Proofs.Ytgolpihbkjadkaa.Ev
theorem back_j0 (s : ByteArray) (hs : s.size ≤ 140737488351232) : Ev (fun k => cartularylaw03_SumBack.j0 k s (blockS s).1 (blockS s).2 false) true := by
  refine Ev.step (fun k => by rw [cartularylaw03_SumBack.j0]) ?_
  refine Ev.neg (by decide) ?_
  by_cases h : 122 < s.size
  · have e : (blockS s).2 = 2 := by unfold blockS; rw [if_pos h]
    rw [e]
    exact Ev.neg (by decide) (Ev.pos rfl (Ev.pos (by omega) (Ev.bind speaks_ev (Ev.now _))))
  · have e : (blockS s).2 = 0 := by unfold blockS; rw [if_neg h]
    have hz := blockS_size s (by omega)
    rw [e]
    refine Ev.pos rfl (Ev.bind (unblock_ev _ (by omega)) ?_)
    rw [unblock_block s (by omega)]
    exact Ev.pos rfl (Ev.pos rfl (Ev.pos (by omega) (Ev.bind speaks_ev (Ev.now _))))
theorem SumBack : cartularylaw03_SumBack.Pure := by
  intro s hs
  refine Ev.rounds ?_
  unfold cartularylaw03_SumBack.f
  refine Ev.bind (seal_ev s (by omega)) (Ev.bind (r := true) (a := (s, 0)) ?_ (Ev.bind (block_ev s (by omega)) (Ev.pos rfl ?_)))
  · have := open_ev (sealS s) (by rw [sealS_size]; omega)
    rw [open_seal] at this
    exact this
  · have : (s.toList != s.toList) = false := by simp
    rw [this]
    exact back_j0 s hs
end Go.Proofs.Ytgolpihbkjadkaa.Pure
