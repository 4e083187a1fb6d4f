/- The small case that each law asks first. -/
import Derived.Test.YtgidiphffcahjaaPtx7
import Derived.Test.YtgidiphffcahjaaShapeBack
set_option linter.unusedVariables false
set_option linter.unusedSimpArgs false
namespace Go.Proofs.Ytgidiphffcahjaa.Pure
open Go.RowKit Go.Proofs.YtgidiphffcahjaaW.PrintWords Go.Proofs.YtgidiphffcahjaaW.PrintLast Go.Proofs.Ytgidiphffcahjaa.Spec Go.Proofs.Ytgidiphffcahjaa.C
open Go.Proofs.Ytgidiphffcahjaa.Ev (Ev.pos Ev.neg)

theorem speaks : Pt.cartularylaw06_speaks.f = some true := by
  unfold Pt.cartularylaw06_speaks.f
  have h : shapeR 64 16 10 := by decide
  have h1 : shape_Of.f 64 16 10 = some (1, 17, 18, 21, 43, 0) := by unfold shape_Of.f ofR; rw [if_pos h]; rfl
  have h2 : shape_Super.f 64 16 10 = some ((blockS (cartS 64 16 10)).1, 0) := by
    unfold shape_Super.f superS
    rw [if_pos h]
    exact congrArg some (Prod.ext rfl (by show (blockS _).2 = 0; unfold blockS; rw [if_neg (by rw [cartS_size]; omega)]))
  have h3 : shape_Read.f (blockS (cartS 64 16 10)).1 = some (64, 16, 10, 0) := by
    have hz := blockS_size (cartS 64 16 10) (by rw [cartS_size]; omega)
    unfold shape_Read.f
    rw [lim_ok _ (by omega), sread_of _ 64 16 10 h (Ev.unblock_block _ (by rw [cartS_size]; omega))]
  have h4 : shape_Check.f 0 0 0 = some 60 := by unfold shape_Check.f checkR; rw [if_neg (by decide)]
  simp only [h1, h2, h3, h4, Option.bind_some]
  rfl
end Go.Proofs.Ytgidiphffcahjaa.Pure
