/- Of every shape: ShapeTells answers true, and what was in memory stays. -/
import Derived.Test.YtgidiphffcahjaaPtx9
import Derived.Test.YtgidiphffcahjaaPureShapeS
import Derived.Test.YtgidiphffcahjaaPureShapeR
set_option linter.unusedVariables false
set_option linter.unusedSimpArgs false
namespace Go.Proofs.Ytgidiphffcahjaa.Core
open Go.RowKit Go.Proofs.YtgidiphffcahjaaW.PrintWords Go.Proofs.YtgidiphffcahjaaW.PrintLast Go.Proofs.Ytgidiphffcahjaa.Spec Go.Proofs.Ytgidiphffcahjaa.C Go.Proofs.Ytgidiphffcahjaa.Pure
open Go.Proofs.Ytgidiphffcahjaa.Ev (Ev.pos Ev.neg)

theorem tells_ev (b j i : Int) : Ev (fun k => Pt.cartularylaw06_ShapeTells.f k b j i) true := by
  unfold Pt.cartularylaw06_ShapeTells.f
  by_cases h : shapeR b j i
  · have ho : shape_Of.f b j i = some (1, 1 + j, 2 + j, 2 + j + (i + 3) / 4, b - (2 + j + (i + 3) / 4), 0) := by unfold shape_Of.f ofR; rw [if_pos h]
    have hk : shape_Check.f b j i = some 0 := by unfold shape_Check.f checkR; rw [if_pos h]
    have hs := h
    unfold shapeR at hs
    simp only [ho, hk, speaks, Option.bind_some]
    refine Ev.bind (right_ev b j i) (Ev.pos (by simp [h]) (Ev.bind (data_ev b j i h) (Ev.pos (by first | trivial | rfl) (Ev.pos (by first | trivial | rfl) (Ev.pos ?_ (Ev.now _))))))
    rw [wrap_id (n := 1 + j) (by omega) (by omega), wrap_id (n := 2 + j) (by omega) (by omega), wrap_id (n := b - (2 + j + (i + 3) / 4)) (by omega) (by omega)]
    simp
  · have ho : shape_Of.f b j i = some (0, 0, 0, 0, 0, 60) := by unfold shape_Of.f ofR; rw [if_neg h]
    have hk : shape_Check.f b j i = some 60 := by unfold shape_Check.f checkR; rw [if_neg h]
    simp only [ho, hk, speaks, Option.bind_some]
    exact Ev.bind (right_ev b j i) (Ev.neg (by simp [h]) (Ev.pos (by first | trivial | rfl) (Ev.pos (by decide) (Ev.pos (by first | trivial | rfl) (Ev.now _)))))
theorem ShapeTells (W : World) (b j i : Int) (_ : (Lit.int .i64 b).wf = true) (_ : (Lit.int .i64 j).wf = true) (_ : (Lit.int .i64 i).wf = true) :
    Calls Try.prog 3 #[.agg #[.int .i64 b, .int .i64 j, .int .i64 i]] W fun e W' => e = .returned (.bool true) ∧ Below W.heap.size W W' := by
  obtain ⟨k, hk⟩ := (tells_ev b j i).rounds
  exact Pt.cartularylaw06_ShapeTells.calls k b j i true W hk

end Go.Proofs.Ytgidiphffcahjaa.Core
