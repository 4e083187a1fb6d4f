/- Of every shape: ShapeBack answers true, and what was in memory stays. -/
import Derived.Test.YtgidiphffcahjaaPtx15
import Derived.Test.YtgidiphffcahjaaPureShapeS
set_option linter.unusedVariables false
set_option linter.unusedSimpArgs false
namespace Go.Proofs.Ytgidiphffcahjaa.Core
open Go.RowKit Go.Proofs.YtgidiphffcahjaaW.PrintWords Go.Proofs.YtgidiphffcahjaaW.PrintLast Go.Proofs.Ytgidiphffcahjaa.Spec Go.Proofs.Ytgidiphffcahjaa.C Go.Proofs.Ytgidiphffcahjaa.Pure
open Go.Proofs.Ytgidiphffcahjaa.Ev (Ev.pos Ev.neg)

theorem back_ev (b j i : Int) : Pt.cartularylaw06_ShapeBack.f b j i = some true := by
  unfold Pt.cartularylaw06_ShapeBack.f
  by_cases h : shapeR b j i
  · have hb : (blockS (cartS b j i)).2 = 0 := by unfold blockS; rw [if_neg (by rw [cartS_size]; omega)]
    have h1 : shape_Super.f b j i = some ((blockS (cartS b j i)).1, 0) := by
      unfold shape_Super.f superS
      rw [if_pos h]
      exact congrArg some (Prod.ext rfl hb)
    have h2 : shape_Read.f (blockS (cartS b j i)).1 = some (b, j, i, 0) := by
      have hz := blockS_size (cartS b j i) (by rw [cartS_size]; omega)
      unfold shape_Read.f
      rw [lim_ok _ (by omega), sread_of _ b j i h (Ev.unblock_block _ (by rw [cartS_size]; omega))]
    have h3 : shape_Of.f b j i = some (1, 1 + j, 2 + j, 2 + j + (i + 3) / 4, b - (2 + j + (i + 3) / 4), 0) := by unfold shape_Of.f ofR; rw [if_pos h]
    have hs := h
    unfold shapeR at hs
    simp only [h1, h2, h3, speaks, Option.bind_some]
    rw [wrap_id (n := 1 + j) (by omega) (by omega), wrap_id (n := 1 + j + 1) (by omega) (by omega), wrap_id (n := 2 + j + (i + 3) / 4 + (b - (2 + j + (i + 3) / 4))) (by omega) (by omega), wrap_id (n := 2 + j + (i + 3) / 4 - (2 + j)) (by omega) (by omega), wrap_id (n := 4 * (2 + j + (i + 3) / 4 - (2 + j))) (by omega) (by omega), wrap_id (n := 2 + j + (i + 3) / 4 - (2 + j) - 1) (by omega) (by omega), wrap_id (n := 4 * (2 + j + (i + 3) / 4 - (2 + j) - 1)) (by omega) (by omega)]
    repeat (first | rw [if_pos trivial] | rw [if_neg (show ¬ ((!b == b || (!j == j || !i == i)) = true) by simp)] | rw [if_pos (by omega)] | rw [if_neg (by omega)])
  · have h1 : shape_Super.f b j i = some (⟨#[]⟩, 60) := by unfold shape_Super.f superS; rw [if_neg h]
    simp only [h1, speaks, Option.bind_some]
    rw [if_neg (by decide), if_pos (by rw [Go.Lib.toList_data])]
theorem ShapeBack (W : World) (b j i : Int) (_ : (Lit.int .i64 b).wf = true) (_ : (Lit.int .i64 j).wf = true) (_ : (Lit.int .i64 i).wf = true) :
    Calls Try.prog 5 #[.agg #[.int .i64 b, .int .i64 j, .int .i64 i]] W fun e W' => e = .returned (.bool true) ∧ Below W.heap.size W W' :=
  Pt.cartularylaw06_ShapeBack.calls b j i true W (back_ev b j i)
end Go.Proofs.Ytgidiphffcahjaa.Core
