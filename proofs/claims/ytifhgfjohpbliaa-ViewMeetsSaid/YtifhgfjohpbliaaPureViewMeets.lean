/- Of any two sets of nodes that are enough there is one node in both: the plain law. -/
import Derived.Test.YtifhgfjohpbliaaPtx15
import Derived.Test.YtifhgfjohpbliaaViewSpec
set_option linter.unusedVariables false
set_option linter.unusedSimpArgs false
namespace Go.Proofs.Ytifhgfjohpbliaa.Pure
open Go.RowKit Go.Proofs.Ytifhgfjohpbliaa.Pt Go.Proofs.YtifhgfjohpbliaaW.PrintWords Go.Proofs.YtifhgfjohpbliaaW.PrintLast Go.Proofs.YtifhgfjohpbliaaW.PrintMore Go.Proofs.Ytifhgfjohpbliaa.GivenV Go.Proofs.Ytifhgfjohpbliaa.Vs

theorem u64_nonneg (i : Int) : 0 ≤ IntKind.u64.wrap i := by
  simp only [IntKind.wrap]
  first
  | exact Int.emod_nonneg _ (by decide)
  | (simp [IntKind.signed, IntKind.bits]; omega)
theorem loop_ev {n a b m : Int} (hm : 2 * m = n + 1) (h1 : 1 ≤ n) (h7 : n ≤ 7) : ∀ (d : Nat) (i p q c : Int), 0 ≤ i → i + d = n → 0 ≤ p → 0 ≤ q → 0 ≤ c → p ≤ i → q ≤ i → c ≤ i → p + q ≤ i + c →
    Ev (fun k => cartularylaw21_ViewMeets.l0 k n a b m p q c i) true
  | 0, i, p, q, c, _, hi, _, _, _, hp, hq, hc, hpq => by
    refine Ev.step (f := fun k => (cartularylaw21_speaks.f k).bind fun t163 => (some t163)) (fun k => ?_) (Ev.bind speaks_ev (Ev.now _))
    simp only [cartularylaw21_ViewMeets.l0]
    rw [if_neg (by omega)]
    by_cases g1 : p < m
    · rw [if_pos g1]
    rw [if_neg g1]
    by_cases g2 : q < m
    · rw [if_pos g2]
    rw [if_neg g2, if_pos (by omega)]
  | d + 1, i, p, q, c, h0, hi, h2, h3, h4, hp, hq, hc, hpq => by
    have ih := loop_ev (a := a) (b := b) hm h1 h7 d
    have jp : ∀ (p' : Int) (x y : Bool), p' = (if x = true then p + 1 else p) → Ev (fun k => cartularylaw21_ViewMeets.j1 k n a b m p' q c i x y) true := fun p' x y hp' => by
      cases y with
      | true =>
        cases x with
        | true =>
          refine Ev.step (f := fun k => cartularylaw21_ViewMeets.l0 k n a b m p' (q + 1) (c + 1) (i + 1)) (fun k => ?_) (ih (i + 1) p' (q + 1) (c + 1) (by omega) (by omega) (by simp at hp'; omega) (by omega) (by omega) (by simp at hp'; omega) (by omega) (by omega) (by simp at hp'; omega))
          simp only [cartularylaw21_ViewMeets.j1]
          rw [if_pos trivial, if_pos trivial, wrap_id (n := q + 1) (by omega) (by omega), wrap_id (n := c + 1) (by omega) (by omega), wrap_id (n := i + 1) (by omega) (by omega)]
        | false =>
          refine Ev.step (f := fun k => cartularylaw21_ViewMeets.l0 k n a b m p' (q + 1) c (i + 1)) (fun k => ?_) (ih (i + 1) p' (q + 1) c (by omega) (by omega) (by simp at hp'; omega) (by omega) (by omega) (by simp at hp'; omega) (by omega) (by omega) (by simp at hp'; omega))
          simp only [cartularylaw21_ViewMeets.j1]
          rw [if_pos trivial, if_neg (by simp), wrap_id (n := q + 1) (by omega) (by omega), wrap_id (n := i + 1) (by omega) (by omega)]
      | false =>
        refine Ev.step (f := fun k => cartularylaw21_ViewMeets.l0 k n a b m p' q c (i + 1)) (fun k => ?_) (ih (i + 1) p' q c (by omega) (by omega) (by split at hp' <;> omega) (by omega) (by omega) (by split at hp' <;> omega) (by omega) (by omega) (by split at hp' <;> omega))
        simp only [cartularylaw21_ViewMeets.j1]
        rw [if_neg (by simp), wrap_id (n := i + 1) (by omega) (by omega)]
        cases x <;> simp
    by_cases hx : Go.bits .and .i64 (shr .i64 a (IntKind.u64.wrap i)) 1 = 1
    · refine Ev.step (f := fun k => cartularylaw21_ViewMeets.j1 k n a b m (p + 1) q c i ((Go.bits .and .i64 (shr .i64 a (IntKind.u64.wrap i)) 1) == 1) ((Go.bits .and .i64 (shr .i64 b (IntKind.u64.wrap i)) 1) == 1)) (fun k => ?_) (jp _ _ _ (by rw [if_pos (by simpa using hx)]))
      simp only [cartularylaw21_ViewMeets.l0]
      rw [if_pos (by omega), if_pos (u64_nonneg i), if_pos hx, wrap_id (n := p + 1) (by omega) (by omega)]
    · refine Ev.step (f := fun k => cartularylaw21_ViewMeets.j1 k n a b m p q c i ((Go.bits .and .i64 (shr .i64 a (IntKind.u64.wrap i)) 1) == 1) ((Go.bits .and .i64 (shr .i64 b (IntKind.u64.wrap i)) 1) == 1)) (fun k => ?_) (jp _ _ _ (by rw [if_neg (by simpa using hx)]))
      simp only [cartularylaw21_ViewMeets.l0]
      rw [if_pos (by omega), if_pos (u64_nonneg i), if_neg hx]
theorem ViewMeets : cartularylaw21_ViewMeets.Pure := by
  intro n a b _ _ _
  refine Ev.rounds (g := fun k => cartularylaw21_ViewMeets.f k n a b) ?_
  unfold cartularylaw21_ViewMeets.f
  rw [enough_f]
  simp only [Option.bind_some]
  unfold enough
  by_cases h : nodesB n = true
  · have hn := (nodes_iff n).1 h
    rw [if_pos h]
    exact evP rfl (loop_ev (by omega) (by omega) (by omega) n.toNat 0 0 0 0 (by omega) (by omega) (by omega) (by omega) (by omega) (by omega) (by omega) (by omega) (by omega))
  · rw [if_neg h]
    exact evN (by decide) (evP rfl (Ev.bind speaks_ev (Ev.now _)))
end Go.Proofs.Ytifhgfjohpbliaa.Pure
