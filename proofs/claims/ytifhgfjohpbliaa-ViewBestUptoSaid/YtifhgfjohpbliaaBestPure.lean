/- The best of a list of offers, in plain words. -/
import Derived.Test.YtifhgfjohpbliaaMedian
set_option linter.unusedVariables false
set_option linter.unusedSimpArgs false
namespace Go.Proofs.Ytifhgfjohpbliaa.Vs
open Go.RowKit Go.Proofs.Ytifhgfjohpbliaa.Pt Go.Proofs.YtifhgfjohpbliaaW.PrintWords Go.Proofs.YtifhgfjohpbliaaW.PrintLast Go.Proofs.YtifhgfjohpbliaaW.PrintMore Go.Proofs.Ytifhgfjohpbliaa.GivenV Go.Proofs.Ytifhgfjohpbliaa.Vals

theorem better_iff (a b : Off) : better a b = true ↔ b.f1 < a.f1 ∨ a.f1 = b.f1 ∧ b.f2 < a.f2 := by
  unfold better; simp only [Bool.or_eq_true, Bool.and_eq_true, decide_eq_true_eq]
theorem better_not (a b : Off) : better a b = false ↔ ¬ (b.f1 < a.f1 ∨ a.f1 = b.f1 ∧ b.f2 < a.f2) := by
  rw [← better_iff]; simp
theorem like_iff (m x : Off) : likeB m x = true ↔ x.f1 = m.f1 ∧ x.f2 = m.f2 := by
  unfold likeB; simp only [Bool.and_eq_true, beq_iff_eq]
theorem maxO_spec : ∀ (l : List Off) (m : Off), (maxO m l = m ∨ maxO m l ∈ l) ∧ better m (maxO m l) = false ∧ ∀ x ∈ l, better x (maxO m l) = false
  | [], m => ⟨.inl rfl, by rw [better_not]; show ¬ (m.f1 < m.f1 ∨ m.f1 = m.f1 ∧ m.f2 < m.f2); omega, fun x hx => by simp at hx⟩
  | x :: l, m => by
    have ih := maxO_spec l (if better x m = true then x else m)
    simp only [maxO]
    generalize hM : maxO (if better x m = true then x else m) l = M at ih
    obtain ⟨h1, h2, h3⟩ := ih
    by_cases h : better x m = true
    · rw [if_pos h] at h1 h2
      rw [better_iff] at h
      rw [better_not] at h2
      refine ⟨?_, ?_, fun y hy => ?_⟩
      · rcases h1 with h1 | h1
        · exact .inr (h1 ▸ .head _)
        · exact .inr (.tail _ h1)
      · rw [better_not]; omega
      · rcases List.mem_cons.1 hy with rfl | hy
        · rw [better_not]; omega
        · exact h3 y hy
    · rw [if_neg h] at h1 h2
      have hx : better x m = false := by simpa using h
      rw [better_not] at hx h2
      refine ⟨?_, ?_, fun y hy => ?_⟩
      · rcases h1 with h1 | h1
        · exact .inl h1
        · exact .inr (.tail _ h1)
      · rw [better_not]; exact h2
      · rcases List.mem_cons.1 hy with rfl | hy
        · rw [better_not]; omega
        · exact h3 y hy
/-- The best of a list. -/
def bestO (l : List Off) : Off := maxO (rd_T38 l 0) (l.drop 1)
theorem bestO_cons (x : Off) (l : List Off) : bestO (x :: l) = maxO x l := rfl
theorem bestO_spec {l : List Off} (h : l ≠ []) : bestO l ∈ l ∧ ∀ x ∈ l, better x (bestO l) = false := by
  cases l with
  | nil => exact absurd rfl h
  | cons x l =>
    rw [bestO_cons]
    obtain ⟨h1, h2, h3⟩ := maxO_spec l x
    refine ⟨?_, fun y hy => ?_⟩
    · rcases h1 with h1 | h1
      · rw [h1]; exact .head _
      · exact .tail _ h1
    · rcases List.mem_cons.1 hy with rfl | hy
      · exact h2
      · exact h3 y hy
theorem maxO_app (m : Off) : ∀ (l e : List Off), maxO m (l ++ e) = maxO (maxO m l) e
  | [], _ => rfl
  | x :: l, e => maxO_app _ l e
theorem maxO_keep (m : Off) : ∀ (e : List Off), (∀ x ∈ e, better x m = false) → maxO m e = m
  | [], _ => rfl
  | x :: e, h => by
    simp only [maxO]
    rw [if_neg (by rw [h x (.head _)]; simp)]
    exact maxO_keep m e (fun y hy => h y (.tail _ hy))
theorem bestO_app {l e : List Off} (h : l ≠ []) (he : ∀ x ∈ e, better x (bestO l) = false) : bestO (l ++ e) = bestO l := by
  cases l with
  | nil => exact absurd rfl h
  | cons x l =>
    rw [List.cons_append, bestO_cons, maxO_app]
    exact maxO_keep _ e he
/-- The first offer that is as good as m, if there is one. -/
theorem findO_spec (m : Off) : ∀ (l : List Off) (i : Int), (∃ x ∈ l, likeB m x = true) → ∃ k : Nat, k < l.length ∧ findO m l i = i + k ∧ likeB m (rd_T38 l k) = true
  | [], _, h => by obtain ⟨x, hx, _⟩ := h; simp at hx
  | x :: l, i, h => by
    rw [findO_cons]
    by_cases hx : likeB m x = true
    · rw [if_pos hx]
      exact ⟨0, by simp, by simp, hx⟩
    · rw [if_neg hx]
      obtain ⟨y, hy, hl⟩ := h
      have hy' : y ∈ l := by
        rcases List.mem_cons.1 hy with rfl | hy
        · exact absurd hl hx
        · exact hy
      obtain ⟨k, h1, h2, h3⟩ := findO_spec m l (i + 1) ⟨y, hy', hl⟩
      refine ⟨k + 1, by simp; omega, by rw [h2]; push_cast; omega, ?_⟩
      have : rd_T38 (x :: l) ((k + 1 : Nat) : Int) = rd_T38 l k := by unfold rd_T38; simp
      rw [this]; exact h3
theorem findO_app (m : Off) (e : List Off) : ∀ (l : List Off) (i : Int), (∃ x ∈ l, likeB m x = true) → findO m (l ++ e) i = findO m l i
  | [], _, h => by obtain ⟨x, hx, _⟩ := h; simp at hx
  | x :: l, i, h => by
    rw [List.cons_append, findO_cons, findO_cons]
    by_cases hx : likeB m x = true
    · rw [if_pos hx, if_pos hx]
    · rw [if_neg hx, if_neg hx]
      obtain ⟨y, hy, hl⟩ := h
      refine findO_app m e l (i + 1) ⟨y, ?_, hl⟩
      rcases List.mem_cons.1 hy with rfl | hy
      · exact absurd hl hx
      · exact hy
theorem like_self (m : Off) : likeB m m = true := by rw [like_iff]; exact ⟨rfl, rfl⟩
def best (l : List Off) : Int × Int := if l = [] then (0, 6) else (findO (bestO l) l 0, 0)
theorem best_f (l : List Off) (h : l.length < 9223372036854775807) : view_Best.f l = some (best l) := by
  unfold view_Best.f best
  rw [if_pos h]
  by_cases hn : l = []
  · rw [if_pos hn, if_pos hn]
  · rw [if_neg hn, if_neg hn]; rfl
theorem best_at {l : List Off} (h : l ≠ []) : ∃ k : Nat, k < l.length ∧ best l = ((k : Int), 0) ∧ ∀ x ∈ l, better x (rd_T38 l k) = false := by
  obtain ⟨h1, h2⟩ := bestO_spec h
  obtain ⟨k, g1, g2, g3⟩ := findO_spec (bestO l) l 0 ⟨_, h1, like_self _⟩
  refine ⟨k, g1, by unfold best; rw [if_neg h, g2, Int.zero_add], fun x hx => ?_⟩
  have := h2 x hx
  rw [like_iff] at g3
  rw [better_not] at this ⊢
  omega
theorem best_app {l e : List Off} (h : l ≠ []) {k : Nat} (hk : best l = ((k : Int), 0)) (he : ∀ x ∈ e, better x (rd_T38 l k) = false) : best (l ++ e) = ((k : Int), 0) := by
  obtain ⟨h1, h2⟩ := bestO_spec h
  obtain ⟨k', g1, g2, g3⟩ := findO_spec (bestO l) l 0 ⟨_, h1, like_self _⟩
  have e1 : best l = ((k' : Int), 0) := by unfold best; rw [if_neg h, g2, Int.zero_add]
  obtain rfl : k = k' := by rw [e1] at hk; simp at hk; omega
  have he' : ∀ x ∈ e, better x (bestO l) = false := fun x hx => by
    have := he x hx
    rw [like_iff] at g3
    rw [better_not] at this ⊢
    omega
  unfold best
  rw [if_neg (by simp [h]), bestO_app h he', findO_app _ _ _ _ ⟨_, h1, like_self _⟩, g2, Int.zero_add]
end Go.Proofs.Ytifhgfjohpbliaa.Vs
