/- The reference's shapes: which are one, and their regions. -/
import Derived.Test.YtgidiphffcahjaaPtx5
import Derived.Test.YtgidiphffcahjaaPtx8
import Derived.Test.YtgidiphffcahjaaShapeBack
set_option linter.unusedVariables false
set_option linter.unusedSimpArgs false
namespace Go.Proofs.Ytgidiphffcahjaa.Pure
open Go.RowKit Go.Proofs.YtgidiphffcahjaaW.PrintWords Go.Proofs.YtgidiphffcahjaaW.PrintLast Go.Proofs.Ytgidiphffcahjaa.Spec Go.Proofs.Ytgidiphffcahjaa.C
open Go.Proofs.Ytgidiphffcahjaa.Ev (Ev.pos Ev.neg)

theorem table_l0 (i b j : Int) (hi : 1 ≤ i) (hi2 : i ≤ 64) : ∀ (d : Nat) (n : Nat), n + d = ((i + 3) / 4).toNat →
    Ev (fun k => Pt.cartularyref06_Table.l0 k (n : Nat) b j i) ((i + 3) / 4)
  | 0, n, h => by
    refine Ev.step (f := fun _ => some ((i + 3) / 4)) (fun k => ?_) (Ev.now _)
    simp only [Pt.cartularyref06_Table.l0]
    rw [wrap_id (by omega) (by omega), if_neg (by omega)]
    congr 1
    omega
  | d + 1, n, h => by
    refine Ev.step (fun k => ?_) (table_l0 i b j hi hi2 d (n + 1) (by omega))
    simp only [Pt.cartularyref06_Table.l0]
    rw [wrap_id (n := 4 * (n : Int)) (by omega) (by omega), if_pos (by omega), wrap_id (by omega) (by omega)]
    rfl
theorem table_ev (b j i : Int) (hi : 1 ≤ i) (hi2 : i ≤ 64) : Ev (fun k => Pt.cartularyref06_Table.f k b j i) ((i + 3) / 4) := by
  have := table_l0 i b j hi hi2 ((i + 3) / 4).toNat 0 (by omega)
  exact this
theorem data_ev (b j i : Int) (h : shapeR b j i) : Ev (fun k => Pt.cartularyref06_Data.f k b j i) (2 + j + (i + 3) / 4) := by
  unfold Pt.cartularyref06_Data.f
  unfold shapeR at h
  refine Ev.bind (table_ev b j i (by omega) (by omega)) ?_
  rw [wrap_id (n := 2 + j) (by omega) (by omega), wrap_id (by omega) (by omega)]
  exact Ev.now _
theorem right_ev (b j i : Int) : Ev (fun k => Pt.cartularyref06_Right.f k b j i) (decide (shapeR b j i)) := by
  unfold Pt.cartularyref06_Right.f
  by_cases h1 : b ≥ 16
  · refine Ev.pos h1 ?_
    by_cases h2 : b ≤ 1024
    · refine Ev.pos h2 ?_
      by_cases h3 : j ≥ 8
      · refine Ev.pos h3 ?_
        by_cases h4 : j ≤ 256
        · refine Ev.pos h4 ?_
          by_cases h5 : i ≥ 1
          · refine Ev.pos h5 ?_
            by_cases h6 : i ≤ 64
            · refine Ev.pos h6 (Ev.bind (table_ev b j i h5 h6) ?_)
              rw [wrap_id (n := 2 + j) (by omega) (by omega), wrap_id (n := 2 + j + (i + 3) / 4) (by omega) (by omega), wrap_id (n := 2 + j + (i + 3) / 4 + 4) (by omega) (by omega)]
              have : decide (2 + j + (i + 3) / 4 + 4 ≤ b) = decide (shapeR b j i) := by
                apply decide_eq_decide.2
                unfold shapeR
                omega
              rw [this]
              exact Ev.now _
            · rw [decide_eq_false (by unfold shapeR; omega)]
              exact Ev.neg h6 (Ev.now _)
          · rw [decide_eq_false (by unfold shapeR; omega)]
            exact Ev.neg h5 (Ev.now _)
        · rw [decide_eq_false (by unfold shapeR; omega)]
          exact Ev.neg h4 (Ev.now _)
      · rw [decide_eq_false (by unfold shapeR; omega)]
        exact Ev.neg h3 (Ev.now _)
    · rw [decide_eq_false (by unfold shapeR; omega)]
      exact Ev.neg h2 (Ev.now _)
  · rw [decide_eq_false (by unfold shapeR; omega)]
    exact Ev.neg h1 (Ev.now _)


end Go.Proofs.Ytgidiphffcahjaa.Pure
