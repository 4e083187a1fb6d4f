/- The middle one of a sorted list: how many have as much, how many have more. -/
import Derived.Test.YtifhgfjohpbliaaViewSpec
set_option linter.unusedVariables false
set_option linter.unusedSimpArgs false
namespace Go.Proofs.Ytifhgfjohpbliaa.Vs
open Go.RowKit Go.Proofs.Ytifhgfjohpbliaa.Pt Go.Proofs.YtifhgfjohpbliaaW.PrintWords Go.Proofs.YtifhgfjohpbliaaW.PrintLast Go.Proofs.YtifhgfjohpbliaaW.PrintMore Go.Proofs.Ytifhgfjohpbliaa.GivenV Go.Proofs.Ytifhgfjohpbliaa.Vals

theorem sorted_perm (l : List Int) : (sorted l).Perm l := List.mergeSort_perm l _
theorem sorted_pw (l : List Int) : (sorted l).Pairwise (fun a b => a ≤ b) := by
  have h := List.pairwise_mergeSort (le := fun (x y : Int) => decide (x ≤ y)) (fun a b c h1 h2 => by simp at *; omega) (fun a b => by simp; omega) l
  exact h.imp (fun h => by simpa using h)
/-- How many are at least c; how many are more. -/
def have_ (l : List Int) (c : Int) : Nat := l.countP fun x => decide (c ≤ x)
def above (l : List Int) (c : Int) : Nat := l.countP fun x => decide (c < x)
theorem split_count (p : Int → Bool) (s : List Int) (h : Nat) : s.countP p = (s.take h).countP p + (s.drop h).countP p := by
  rw [← List.countP_append, List.take_append_drop]
theorem med_ge (s : List Int) (hp : s.Pairwise (fun a b => a ≤ b)) (h : Nat) (hh : h < s.length) : s.length - h ≤ s.countP fun x => decide (s[h] ≤ x) := by
  rw [split_count _ s h]
  have e : (s.drop h).countP (fun x => decide (s[h] ≤ x)) = (s.drop h).length := by
    rw [List.countP_eq_length]
    intro x hx
    rw [List.drop_eq_getElem_cons hh] at hx
    rcases List.mem_cons.1 hx with rfl | hx
    · simp
    · have hd := hp.drop (i := h)
      rw [List.drop_eq_getElem_cons hh] at hd
      simpa using (List.pairwise_cons.1 hd).1 x hx
  rw [e, List.length_drop]
  omega
theorem med_gt (s : List Int) (hp : s.Pairwise (fun a b => a ≤ b)) (h : Nat) (hh : h < s.length) : s.countP (fun x => decide (s[h] < x)) ≤ s.length - h - 1 := by
  rw [split_count _ s (h + 1)]
  have e : (s.take (h + 1)).countP (fun x => decide (s[h] < x)) = 0 := by
    rw [List.countP_eq_zero]
    intro x hx
    simp only [decide_eq_true_eq, Int.not_lt]
    obtain ⟨i, hi, rfl⟩ := List.getElem_of_mem hx
    rw [List.getElem_take]
    have hi' : i < h + 1 := by simp at hi; omega
    by_cases e : i = h
    · subst e; exact Int.le_refl _
    · exact List.pairwise_iff_getElem.1 hp i h _ _ (by omega)
  have f := List.countP_le_length (p := fun x => decide (s[h] < x)) (l := s.drop (h + 1))
  rw [List.length_drop] at f
  omega
/-- The middle one. -/
def med (l : List Int) : Int := rd (sorted l) ((l.length : Int) / 2)
theorem med_eq (l : List Int) (h0 : 0 < l.length) : ∃ hh : l.length / 2 < (sorted l).length, med l = (sorted l)[l.length / 2] := by
  have hh : l.length / 2 < (sorted l).length := by rw [sorted_length]; omega
  refine ⟨hh, ?_⟩
  unfold med rd
  rw [show ((l.length : Int) / 2).toNat = l.length / 2 from by omega]
  simp [List.getD_eq_getElem?_getD, hh]
theorem med_mem (l : List Int) (h0 : 0 < l.length) : med l ∈ l := by
  obtain ⟨hh, e⟩ := med_eq l h0
  rw [e]
  exact (sorted_perm l).mem_iff.1 (List.getElem_mem hh)
theorem have_med (l : List Int) (h0 : 0 < l.length) : l.length - l.length / 2 ≤ have_ l (med l) := by
  obtain ⟨hh, e⟩ := med_eq l h0
  have := med_ge (sorted l) (sorted_pw l) _ hh
  rw [sorted_length] at this
  unfold have_
  rw [← (sorted_perm l).countP_eq, e]
  exact this
theorem above_med (l : List Int) (h0 : 0 < l.length) : above l (med l) ≤ l.length - l.length / 2 - 1 := by
  obtain ⟨hh, e⟩ := med_eq l h0
  have := med_gt (sorted l) (sorted_pw l) _ hh
  rw [sorted_length] at this
  unfold above
  rw [← (sorted_perm l).countP_eq, e]
  exact this
theorem have_le_above {l : List Int} {c d : Int} (h : c < d) : have_ l d ≤ above l c := by
  unfold have_ above
  exact List.countP_mono_left (fun x _ hx => by simp at *; omega)
def commit (l : List Int) : Int × Int := if nodesB l.length = true ∧ l.all inB = true then (med l, 0) else (0, 1)
theorem commit_f (l : List Int) : view_Commit.f l = some (commit l) := by
  unfold view_Commit.f commit
  by_cases h : nodesB l.length = true
  · rw [if_pos h]
    by_cases h2 : l.all inB = true
    · have hc : nodesB l.length = true ∧ l.all inB = true := ⟨h, h2⟩
      rw [if_pos h2, if_pos hc]; rfl
    · rw [if_neg h2, if_neg (fun q => h2 q.2)]
  · rw [if_neg h, if_neg (fun q => h q.1)]
end Go.Proofs.Ytifhgfjohpbliaa.Vs
