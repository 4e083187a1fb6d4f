/- How many nodes are enough, whose turn a view is, a node's next view: the plain law. -/
import Derived.Test.YtifhgfjohpbliaaPtx10
import Derived.Test.YtifhgfjohpbliaaViewSpec
set_option linter.unusedVariables false
set_option linter.unusedSimpArgs false
namespace Go.Proofs.Ytifhgfjohpbliaa.Pure
open Go.RowKit Go.Proofs.Ytifhgfjohpbliaa.Pt Go.Proofs.YtifhgfjohpbliaaW.PrintWords Go.Proofs.YtifhgfjohpbliaaW.PrintLast Go.Proofs.YtifhgfjohpbliaaW.PrintMore Go.Proofs.Ytifhgfjohpbliaa.GivenV Go.Proofs.Ytifhgfjohpbliaa.Vs

theorem refnodes_f (n : Int) : cartularyref21_Nodes.f n = some (nodesB n) := by
  unfold cartularyref21_Nodes.f nodesB
  by_cases h1 : n = 1
  · rw [if_pos h1]; simp [h1]
  rw [if_neg h1]
  by_cases h2 : n = 3
  · rw [if_pos h2]; simp [h2]
  rw [if_neg h2]
  by_cases h3 : n = 5
  · rw [if_pos h3]; simp [h3]
  rw [if_neg h3]
  by_cases h4 : n = 7 <;> simp [h1, h2, h3, h4]
/-- The search for a node's view, from v + j on. -/
theorem search_ev {n v node : Int} (hn : 1 ≤ n) (hn7 : n ≤ 7) (h0 : 0 ≤ node) (h1 : node < n) (hv : 0 ≤ v) (hv2 : v ≤ 1099511627776) : ∀ (d : Nat) (j : Int), 1 ≤ j → j + d = by_ n v node →
    Ev (fun k => cartularyref21_Next.l0 k n node (v + j)) (if v > 1099511627776 - by_ n v node then (0, 6) else (v + by_ n v node, 0))
  | 0, j, hj, hd => by
    have hd' : j = by_ n v node := by omega
    by_cases hm : v + j ≤ 1099511627776
    · refine Ev.step (f := fun k => some (if v > 1099511627776 - by_ n v node then (0, 6) else (v + by_ n v node, 0))) (fun k => ?_) (Ev.now _)
      simp only [cartularyref21_Next.l0]
      rw [if_pos hm, if_neg (by omega), tmod_eq (by omega), hd', by_mod hn h0 h1, if_pos rfl, if_neg (by omega)]
    · refine Ev.step (f := fun k => some (if v > 1099511627776 - by_ n v node then (0, 6) else (v + by_ n v node, 0))) (fun k => ?_) (Ev.now _)
      simp only [cartularyref21_Next.l0]
      rw [if_neg hm, if_pos (by omega)]
  | d + 1, j, hj, hd => by
    by_cases hm : v + j ≤ 1099511627776
    · refine Ev.step (f := fun k => cartularyref21_Next.l0 k n node (v + (j + 1))) (fun k => ?_) (search_ev hn hn7 h0 h1 hv hv2 d (j + 1) (by omega) (by omega))
      simp only [cartularyref21_Next.l0]
      rw [if_pos hm, if_neg (by omega), tmod_eq (by omega), if_neg (by_least hn h0 h1 hj (by omega) hn7), wrap_id (n := v + j + 1) (by omega) (by omega), Int.add_assoc]
    · refine Ev.step (f := fun k => some (if v > 1099511627776 - by_ n v node then (0, 6) else (v + by_ n v node, 0))) (fun k => ?_) (Ev.now _)
      simp only [cartularyref21_Next.l0]
      rw [if_neg hm, if_pos (by omega)]
theorem refnext_ev (n v node : Int) (wv : -9223372036854775808 ≤ v ∧ v ≤ 9223372036854775807) : Ev (fun k => cartularyref21_Next.f k n v node) (next n v node) := by
  unfold cartularyref21_Next.f next
  rw [refnodes_f]
  simp only [Option.bind_some]
  have no : ∀ b, b = true → Ev (fun k => cartularyref21_Next.j0 k n v node b) (0, 1) := fun b hb => by
    subst hb
    exact Ev.step (f := fun k => some (0, 1)) (fun k => by simp only [cartularyref21_Next.j0]; exact if_pos trivial) (Ev.now _)
  by_cases h : nodesB n = true
  · refine evP h ?_
    have hn := (nodes_iff n).1 h
    by_cases h2 : inB v = true
    · have hv := (in_iff v).1 h2
      refine evN (by omega) (evN (by omega) ?_)
      by_cases h3 : node < 0
      · rw [if_neg (fun q => by omega)]
        exact evP h3 (no _ rfl)
      · refine evN h3 ?_
        by_cases h4 : node ≥ n
        · rw [if_neg (fun q => by omega)]
          exact no _ (decide_eq_true h4)
        · have hc : nodesB n = true ∧ inB v = true ∧ 0 ≤ node ∧ node < n := ⟨h, h2, by omega, by omega⟩
          have hB := by_bounds (v := v) (node := node) (n := n) (by omega) (by omega)
          rw [if_pos hc, decide_eq_false h4]
          refine Ev.step (f := fun k => cartularyref21_Next.l0 k n node (v + 1)) (fun k => ?_) (search_ev (n := n) (by omega) (by omega) (by omega) (by omega) hv.1 hv.2 (by_ n v node - 1).toNat 1 (by omega) (by omega))
          simp only [cartularyref21_Next.j0]
          rw [if_neg (by simp), wrap_id (n := v + 1) (by omega) (by omega)]
    · have hv : ¬ (0 ≤ v ∧ v ≤ 1099511627776) := fun q => h2 ((in_iff v).2 q)
      rw [if_neg (fun q => h2 q.2.1)]
      by_cases h5 : v < 0
      · exact evP h5 (no _ rfl)
      · exact evN h5 (evP (by omega) (no _ rfl))
  · rw [if_neg (fun q => h q.1)]
    exact evN h (no _ rfl)
theorem j1_ev {n v : Int} (h : nodesB n = true) (hv : inB v = true) : Ev (fun k => cartularylaw21_ViewTurns.j1 k n v ((n + 1) / 2) 0 (v % n) 0 false) true := by
  have hn := (nodes_iff n).1 h
  have h2 := (in_iff v).1 hv
  refine Ev.step (f := fun k => (cartularylaw21_speaks.f k).bind fun t134 => (some t134)) (fun k => ?_) (Ev.bind speaks_ev (Ev.now _))
  simp only [cartularylaw21_ViewTurns.j1]
  rw [if_neg (by simp), if_pos trivial, if_pos trivial, wrap_id (n := n + 1) (by omega) (by omega), wrap_id (n := 2 * ((n + 1) / 2)) (by omega) (by omega), if_pos (by omega), if_neg (by omega), tmod_eq h2.1, if_pos rfl]
theorem j1_ev2 {n v : Int} (h : nodesB n = true) : Ev (fun k => cartularylaw21_ViewTurns.j1 k n v ((n + 1) / 2) 0 0 1 true) true := by
  have hn := (nodes_iff n).1 h
  refine Ev.step (f := fun k => (cartularylaw21_speaks.f k).bind fun t134 => (some t134)) (fun k => ?_) (Ev.bind speaks_ev (Ev.now _))
  simp only [cartularylaw21_ViewTurns.j1]
  rw [if_pos trivial, if_pos trivial, if_pos trivial, wrap_id (n := n + 1) (by omega) (by omega), wrap_id (n := 2 * ((n + 1) / 2)) (by omega) (by omega), if_pos (by omega)]
theorem j0_ev (n v : Int) : Ev (fun k => cartularylaw21_ViewTurns.j0 k n v (enough n).1 (enough n).2 (primary n v).1 (primary n v).2 false) true := by
  unfold enough primary
  by_cases h : nodesB n = true
  · rw [if_pos h]
    by_cases hv : inB v = true
    · have hc : nodesB n = true ∧ inB v = true := ⟨h, hv⟩
      have h2 := (in_iff v).1 hv
      rw [if_pos hc]
      refine Ev.step (f := fun k => cartularylaw21_ViewTurns.j1 k n v ((n + 1) / 2) 0 (v % n) 0 false) (fun k => ?_) (j1_ev h hv)
      simp only [cartularylaw21_ViewTurns.j0]
      rw [if_neg (by simp), refnodes_f, h]
      simp only [Option.bind_some]
      rw [if_pos trivial, if_neg (by omega), decide_eq_false (by omega)]
    · have h2 : ¬ (0 ≤ v ∧ v ≤ 1099511627776) := fun q => hv ((in_iff v).2 q)
      rw [if_neg (fun q => hv q.2)]
      refine Ev.step (f := fun k => cartularylaw21_ViewTurns.j1 k n v ((n + 1) / 2) 0 0 1 true) (fun k => ?_) (j1_ev2 h)
      simp only [cartularylaw21_ViewTurns.j0]
      rw [if_neg (by simp), refnodes_f, h]
      simp only [Option.bind_some]
      rw [if_pos trivial]
      by_cases h5 : v < 0
      · rw [if_pos h5]
      · rw [if_neg h5, decide_eq_true (by omega)]
  · rw [if_neg h, if_neg (fun q => h q.1)]
    refine Ev.step (f := fun k => (cartularylaw21_speaks.f k).bind fun t134 => (some t134)) (fun k => ?_) (Ev.bind speaks_ev (Ev.now _))
    simp only [cartularylaw21_ViewTurns.j0]
    rw [if_neg (by simp), refnodes_f]
    simp only [Option.bind_some]
    rw [if_neg h, if_pos trivial, if_pos trivial, if_pos trivial, if_pos trivial]
theorem ViewTurns : cartularylaw21_ViewTurns.Pure := by
  intro n v node _ wv _
  have wv' : -9223372036854775808 ≤ v ∧ v ≤ 9223372036854775807 := by
    have h := wv
    simp only [Lit.wf, Bool.and_eq_true, decide_eq_true_eq] at h
    exact h
  refine Ev.rounds (g := fun k => cartularylaw21_ViewTurns.f k n v node) ?_
  unfold cartularylaw21_ViewTurns.f
  rw [enough_f, primary_f]
  simp only [Option.bind_some]
  refine Ev.bind (next_ev n v node) (Ev.bind (refnext_ev n v node wv') (evP rfl ?_))
  rw [show ((next n v node).2 != (next n v node).2) = false from by simp]
  exact j0_ev n v
end Go.Proofs.Ytifhgfjohpbliaa.Pure
