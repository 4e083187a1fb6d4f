/- What the functions of view tell, in plain words. -/
import Derived.Test.YtifhgfjohpbliaaPtx9
set_option linter.unusedVariables false
set_option linter.unusedSimpArgs false
namespace Go.Proofs.Ytifhgfjohpbliaa.Vs
open Go.RowKit Go.Proofs.Ytifhgfjohpbliaa.Pt Go.Proofs.YtifhgfjohpbliaaW.PrintWords Go.Proofs.YtifhgfjohpbliaaW.PrintLast Go.Proofs.YtifhgfjohpbliaaW.PrintMore Go.Proofs.Ytifhgfjohpbliaa.GivenV Go.Proofs.Ytifhgfjohpbliaa.Vals

theorem wrap_id {n : Int} (h0 : -9223372036854775808 ≤ n) (h1 : n < 9223372036854775808) : wrap64 n = n := by
  unfold wrap64
  first
  | (rw [IntKind.wrap_i64]; omega)
  | (simp [IntKind.wrap_i64]; omega)
  | omega
theorem evP {α : Type} {c : Prop} [Decidable c] {g f : Nat → Option α} {r : α} (hc : c) (h : Ev g r) : Ev (fun k => if c then g k else f k) r := by simpa only [if_pos hc] using h
theorem evN {α : Type} {c : Prop} [Decidable c] {g f : Nat → Option α} {r : α} (hc : ¬ c) (h : Ev f r) : Ev (fun k => if c then g k else f k) r := by simpa only [if_neg hc] using h
theorem nodes_iff (n : Int) : nodesB n = true ↔ n = 1 ∨ n = 3 ∨ n = 5 ∨ n = 7 := by unfold nodesB; simp only [Bool.or_eq_true, decide_eq_true_eq]; omega
theorem in_iff (x : Int) : inB x = true ↔ 0 ≤ x ∧ x ≤ 1099511627776 := by unfold inB; simp only [Bool.and_eq_true, decide_eq_true_eq]
theorem nodes_f (n : Int) : view_nodes.f n = some (nodesB n) := by
  unfold view_nodes.f
  by_cases h1 : n ≥ 1
  · rw [if_pos h1]
    by_cases h2 : n ≤ 7
    · rw [if_pos h2]
      have h : n = 1 ∨ n = 2 ∨ n = 3 ∨ n = 4 ∨ n = 5 ∨ n = 6 ∨ n = 7 := by omega
      rcases h with rfl | rfl | rfl | rfl | rfl | rfl | rfl <;> rfl
    · rw [if_neg h2]
      have : nodesB n = false := by cases h : nodesB n with | false => rfl | true => rw [nodes_iff] at h; omega
      rw [this]
  · rw [if_neg h1]
    have : nodesB n = false := by cases h : nodesB n with | false => rfl | true => rw [nodes_iff] at h; omega
    rw [this]
theorem in_f (x : Int) : view_in.f x = some (inB x) := by
  unfold view_in.f inB
  by_cases h : x ≥ 0
  · rw [if_pos h]; simp [h]
  · rw [if_neg h]; simp; omega
def enough (n : Int) : Int × Int := if nodesB n = true then ((n + 1) / 2, 0) else (0, 1)
theorem enough_f (n : Int) : view_Enough.f n = some (enough n) := by
  unfold view_Enough.f enough
  rw [nodes_f]
  simp only [Option.bind_some]
  by_cases h : nodesB n = true
  · rw [if_pos h, if_pos h]
    rw [nodes_iff] at h
    rcases h with rfl | rfl | rfl | rfl
    · rw [show Int.tdiv 1 2 = 0 from rfl, wrap_id (n := 0) (by omega) (by omega), wrap_id (by omega) (by omega)]; rfl
    · rw [show Int.tdiv 3 2 = 1 from rfl, wrap_id (n := 1) (by omega) (by omega), wrap_id (by omega) (by omega)]; rfl
    · rw [show Int.tdiv 5 2 = 2 from rfl, wrap_id (n := 2) (by omega) (by omega), wrap_id (by omega) (by omega)]; rfl
    · rw [show Int.tdiv 7 2 = 3 from rfl, wrap_id (n := 3) (by omega) (by omega), wrap_id (by omega) (by omega)]; rfl
  · rw [if_neg h, if_neg h]
theorem tmod_eq {v n : Int} (hv : 0 ≤ v) : Int.tmod v n = v % n := Int.tmod_eq_emod_of_nonneg hv
def primary (n v : Int) : Int × Int := if nodesB n = true ∧ inB v = true then (v % n, 0) else (0, 1)
theorem primary_f (n v : Int) : view_Primary.f n v = some (primary n v) := by
  unfold view_Primary.f primary
  rw [nodes_f, in_f]
  simp only [Option.bind_some]
  by_cases h : nodesB n = true
  · rw [if_pos h]
    by_cases h2 : inB v = true
    · have hc : nodesB n = true ∧ inB v = true := ⟨h, h2⟩
      rw [if_pos h2, if_pos hc]
      rw [nodes_iff] at h
      rw [in_iff] at h2
      rw [if_neg (by omega), tmod_eq h2.1]
    · rw [if_neg h2, if_neg (fun q => h2 q.2)]
  · rw [if_neg h, if_neg (fun q => h q.1)]
/-- How many views on it is a node's turn. -/
def by_ (n v node : Int) : Int := if (node - v % n + n) % n = 0 then n else (node - v % n + n) % n
theorem by_bounds {n v node : Int} (hn : 1 ≤ n) (hn7 : n ≤ 7) : 1 ≤ by_ n v node ∧ by_ n v node ≤ n := by
  unfold by_
  have h0 := Int.emod_nonneg (node - v % n + n) (by omega : n ≠ 0)
  have h1 := Int.emod_lt_of_pos (node - v % n + n) (by omega : 0 < n)
  split <;> omega
theorem by_mod {n v node : Int} (hn : 1 ≤ n) (h0 : 0 ≤ node) (h1 : node < n) : (v + by_ n v node) % n = node := by
  unfold by_
  have e : node - v % n + n = node - v + n * (v / n + 1) := by
    have := Int.mul_ediv_add_emod v n
    rw [Int.mul_add, Int.mul_one]; omega
  rw [e, Int.add_mul_emod_self_left]
  by_cases h : (node - v) % n = 0
  · rw [if_pos h]
    have : v + n = node + n * (1 - (node - v) / n) := by
      have := Int.mul_ediv_add_emod (node - v) n
      rw [Int.mul_sub, Int.mul_one]; omega
    rw [this, Int.add_mul_emod_self_left, Int.emod_eq_of_lt h0 h1]
  · rw [if_neg h]
    have : v + (node - v) % n = node + n * (-((node - v) / n)) := by
      have := Int.mul_ediv_add_emod (node - v) n
      rw [Int.mul_neg]; omega
    rw [this, Int.add_mul_emod_self_left, Int.emod_eq_of_lt h0 h1]
theorem by_least {n v node j : Int} (hn : 1 ≤ n) (h0 : 0 ≤ node) (h1 : node < n) (j1 : 1 ≤ j) (j2 : j < by_ n v node) (hn7 : n ≤ 7) : (v + j) % n ≠ node := by
  intro hj
  have hb := by_mod (v := v) hn h0 h1
  have hB := by_bounds (v := v) (node := node) hn hn7
  have h2 : (v + by_ n v node - (v + j)) % n = 0 := by
    rw [Int.sub_emod, hb, hj, Int.sub_self, Int.zero_emod]
  have h3 : (by_ n v node - j) % n = by_ n v node - j := Int.emod_eq_of_lt (by omega) (by omega)
  rw [show v + by_ n v node - (v + j) = by_ n v node - j from by omega, h3] at h2
  omega
def next (n v node : Int) : Int × Int := if nodesB n = true ∧ inB v = true ∧ 0 ≤ node ∧ node < n then (if v > 1099511627776 - by_ n v node then (0, 6) else (v + by_ n v node, 0)) else (0, 1)
theorem next_ev (n v node : Int) : Ev (fun k => view_Next.f k n v node) (next n v node) := by
  unfold view_Next.f next
  rw [nodes_f, in_f]
  simp only [Option.bind_some]
  have no : ∀ b, b = true → Ev (fun k => view_Next.j0 k n v node b) (0, 1) := fun b hb => by
    subst hb
    exact Ev.step (f := fun k => some (0, 1)) (fun k => by simp only [view_Next.j0]; exact if_pos trivial) (Ev.now _)
  by_cases h : nodesB n = true
  · refine evP h ?_
    by_cases h2 : inB v = true
    · refine evP h2 ?_
      by_cases h3 : node < 0
      · rw [if_neg (fun q => by omega)]
        exact evP h3 (no _ rfl)
      · refine evN h3 ?_
        by_cases h4 : node ≥ n
        · rw [if_neg (fun q => by omega)]
          exact no _ (decide_eq_true h4)
        · have hv := (in_iff v).1 h2
          have hn := (nodes_iff n).1 h
          have hm0 := Int.emod_nonneg v (by omega : n ≠ 0)
          have hm1 := Int.emod_lt_of_pos v (by omega : 0 < n)
          have hB := by_bounds (v := v) (node := node) (n := n) (by omega) (by omega)
          have hc : nodesB n = true ∧ inB v = true ∧ 0 ≤ node ∧ node < n := ⟨h, h2, by omega, by omega⟩
          rw [if_pos hc, decide_eq_false h4]
          refine Ev.step (f := fun k => some (if v > 1099511627776 - by_ n v node then (0, 6) else (v + by_ n v node, 0))) (fun k => ?_) (Ev.now _)
          simp only [view_Next.j0]
          rw [if_neg (by simp), if_neg (by omega), tmod_eq hv.1, wrap_id (n := node - v % n) (by omega) (by omega), wrap_id (n := node - v % n + n) (by omega) (by omega), tmod_eq (by omega : 0 ≤ node - v % n + n)]
          unfold by_ at hB ⊢
          by_cases h5 : (node - v % n + n) % n = 0
          · rw [if_pos h5] at hB ⊢
            rw [if_pos h5, wrap_id (n := 1099511627776 - n) (by omega) (by omega)]
            by_cases h6 : v > 1099511627776 - n
            · rw [if_pos h6, if_pos h6]
            · rw [if_neg h6, if_neg h6, wrap_id (by omega) (by omega)]
          · rw [if_neg h5] at hB ⊢
            rw [if_neg h5, wrap_id (n := 1099511627776 - (node - v % n + n) % n) (by omega) (by omega)]
            by_cases h6 : v > 1099511627776 - (node - v % n + n) % n
            · rw [if_pos h6, if_pos h6]
            · rw [if_neg h6, if_neg h6, wrap_id (by omega) (by omega)]
    · rw [if_neg (fun q => h2 q.2.1)]
      exact evN h2 (no _ rfl)
  · rw [if_neg (fun q => h q.1)]
    exact evN h (no _ rfl)
theorem sorted3 : sorted [5, 3, 9] = [3, 5, 9] := by unfold sorted; simp [List.mergeSort, List.MergeSort.Internal.splitInTwo]
theorem speaks_ev : Ev (fun k => cartularylaw21_speaks.f k) true := by
  have h1 : next 3 4 1 = (7, 0) := by decide +kernel
  have h2 : view_Commit.f [5, 3, 9] = some (5, 0) := by
    unfold view_Commit.f
    rw [if_pos (by rfl), if_pos (by rfl), sorted3]
    rfl
  have h3 : view_Best.f [⟨0, 1, 3⟩, ⟨0, 2, 1⟩] = some (1, 0) := by
    unfold view_Best.f
    rw [if_pos (by simp), if_neg (by simp)]
    rfl
  have e := next_ev 3 4 1
  rw [h1] at e
  unfold cartularylaw21_speaks.f
  rw [enough_f, primary_f, h2, h3]
  simp only [Option.bind_some]
  exact Ev.bind e (Ev.now _)
end Go.Proofs.Ytifhgfjohpbliaa.Vs
