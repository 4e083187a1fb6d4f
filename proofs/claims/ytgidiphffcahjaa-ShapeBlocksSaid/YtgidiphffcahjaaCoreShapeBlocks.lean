/- Of every shape and every text: ShapeBlocks answers true, and what was in memory stays. -/
import Derived.Test.YtgidiphffcahjaaPtx14
import Derived.Test.YtgidiphffcahjaaPureShapeS
import Derived.Test.YtgidiphffcahjaaPureShapeW
set_option linter.unusedVariables false
set_option linter.unusedSimpArgs false
namespace Go.Proofs.Ytgidiphffcahjaa.Core
open Go.RowKit Go.Proofs.YtgidiphffcahjaaW.PrintWords Go.Proofs.YtgidiphffcahjaaW.PrintLast Go.Proofs.Ytgidiphffcahjaa.Spec Go.Proofs.Ytgidiphffcahjaa.C Go.Proofs.Ytgidiphffcahjaa.Pure
open Go.Proofs.Ytgidiphffcahjaa.Ev (Ev.pos Ev.neg)

theorem blocks_ev (b j i : Int) (x : ByteArray) (hx : x.size ≤ 1125899906842624) : Ev (fun k => Pt.cartularylaw06_ShapeBlocks.f k b j i x) true := by
  unfold Pt.cartularylaw06_ShapeBlocks.f
  have h1 : shape_Super.f b j i = some (superS b j i) := rfl
  have h2 : shape_Read.f x = some (sreadS x) := lim_ok _ hx
  simp only [h1, h2, speaks, Option.bind_some]
  refine Ev.bind (rsuper_ev b j i) (Ev.bind (rread_ev x hx) (Ev.pos rfl (Ev.pos rfl (Ev.pos (by simp) (Ev.pos rfl (Ev.now _))))))
theorem ShapeBlocks (W : World) (b j i : Int) (_ : (Lit.int .i64 b).wf = true) (_ : (Lit.int .i64 j).wf = true) (_ : (Lit.int .i64 i).wf = true) (x : ByteArray) (hx : x.size ≤ 140737488351232) :
    Calls Try.prog 4 #[.agg #[.int .i64 b, .int .i64 j, .int .i64 i], .string x] W fun e W' => e = .returned (.bool true) ∧ Below W.heap.size W W' := by
  obtain ⟨k, hk⟩ := (blocks_ev b j i x (by omega)).rounds
  exact Pt.cartularylaw06_ShapeBlocks.calls k b j i x true W hk

end Go.Proofs.Ytgidiphffcahjaa.Core
