/- What may be delivered: plain laws for BagOnce. -/
import Derived.Test.YtmledapichlhdaaBagT
set_option linter.unusedVariables false
set_option linter.unusedSimpArgs false
namespace Go.Proofs.Ytmledapichlhdaa.BagS
def Sub (L T : List Msg) : Prop := ∀ x, L.count x ≤ T.count x
theorem Sub.nil : Sub [] [] := fun _ => Nat.le_refl _
theorem sub_ins {L T : List Msg} (h : Sub L T) (m : Msg) : Sub (ins L m) (T ++ [m]) := fun x => by
  have h1 := h x
  rw [ins_count, List.count_append, List.count_cons, List.count_nil]
  by_cases e : m = x
  · subst e; simp; omega
  · simp [e]; omega
theorem sub_erase {L T : List Msg} (h : Sub L T) (m : Msg) : Sub (L.erase m) T := fun x => Nat.le_trans ((List.erase_sublist ..).count_le x) (h x)
theorem sub_both {L T : List Msg} (h : Sub L T) (m : Msg) : Sub (L.erase m) (T.erase m) := fun x => by
  have h1 := h x
  by_cases e : m = x
  · subst e
    rw [List.count_erase_self, List.count_erase_self]
    omega
  · have e2 : x ≠ m := fun q => e q.symm
    rw [List.count_erase_of_ne e2, List.count_erase_of_ne e2]
    exact h1
theorem sub_mem {L T : List Msg} (h : Sub L T) {m : Msg} (hm : m ∈ L) : m ∈ T := List.count_pos_iff.1 (Nat.lt_of_lt_of_le (List.count_pos_iff.2 hm) (h m))
theorem add_cases (L : List Msg) (m : Msg) : addS L m = (L, 5) ∨ addS L m = (ins L m, 0) := by
  unfold addS
  split
  · exact .inl rfl
  · exact .inr rfl
theorem put_cases (n : Int) (L : List Msg) (m : Msg) : ((putS n L m).2 ≠ 0 ∧ (putS n L m).1 = L) ∨ putS n L m = (ins L m, 0) := by
  unfold putS
  split
  · exact .inl ⟨by simp, rfl⟩
  · split
    · exact .inl ⟨by simp, rfl⟩
    · rcases add_cases L m with h | h
      · rw [h]; exact .inl ⟨by simp, rfl⟩
      · rw [h]; exact .inr rfl
theorem twice_cases (L : List Msg) (i : Int) : ((twiceS L i).2 ≠ 0 ∧ (twiceS L i).1 = L) ∨ (hasI L i ∧ twiceS L i = (ins L (atU L i), 0)) := by
  unfold twiceS
  split
  · rename_i hi
    rcases add_cases L (atU L i) with h | h
    · rw [h]; exact .inl ⟨by simp, rfl⟩
    · rw [h]; exact .inr ⟨hi, rfl⟩
  · exact .inl ⟨by simp, rfl⟩
theorem del_cases {L : List Msg} (hs : Sorted L) (i : Int) : delS L i = (L, z0, 6) ∨ (∃ m, m ∈ L ∧ delS L i = (L.erase m, m, 0)) := by
  unfold delS
  split
  · rename_i hi
    exact .inr ⟨_, atU_mem hs hi, rfl⟩
  · exact .inl rfl
/-- The row without its first m: what the first j give. -/
def er (T : List Msg) (m : Msg) (j : Nat) : List Msg × Bool := ((T.take j).erase m, decide (m ∈ T.take j))
theorem er_zero (T : List Msg) (m : Msg) : er T m 0 = ([], false) := by simp [er]
theorem er_hit {T : List Msg} {m : Msg} {j : Nat} (h : T[j]? = some m) (hf : (er T m j).2 = false) : er T m (j + 1) = ((er T m j).1, true) := by
  have h1 : m ∉ T.take j := of_decide_eq_false hf
  unfold er
  rw [List.take_add_one, h, Option.toList_some, List.erase_append_right _ h1, List.erase_of_not_mem h1]
  simp
theorem er_miss {T : List Msg} {m x : Msg} {j : Nat} (h : T[j]? = some x) (hf : (er T m j).2 = true ∨ x ≠ m) : er T m (j + 1) = ((er T m j).1 ++ [x], (er T m j).2) := by
  unfold er at hf ⊢
  rw [List.take_add_one, h, Option.toList_some]
  by_cases h1 : m ∈ T.take j
  · rw [List.erase_append_left _ h1]
    simp [h1]
  · have hx : x ≠ m := by
      rcases hf with hf | hf
      · exact absurd (of_decide_eq_true hf) h1
      · exact hf
    have hx2 : ¬ m = x := fun e => hx e.symm
    rw [List.erase_append_right _ h1, List.erase_of_not_mem h1]
    simp [h1, hx2, hx]
theorem er_all (T : List Msg) (m : Msg) : er T m T.length = (T.erase m, decide (m ∈ T)) := by unfold er; rw [List.take_length]
theorem er_len (T : List Msg) (m : Msg) (j : Nat) : (er T m j).1.length ≤ j := by
  have h1 : (er T m j).1.length ≤ (T.take j).length := List.length_erase_le ..
  have h2 := List.length_take_le j T
  omega
end Go.Proofs.Ytmledapichlhdaa.BagS
