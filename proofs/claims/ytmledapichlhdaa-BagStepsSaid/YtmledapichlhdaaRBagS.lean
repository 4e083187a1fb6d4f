/- The document's bag: plain laws of its loops. -/
import Derived.Test.YtmledapichlhdaaBagW
set_option linter.unusedVariables false
set_option linter.unusedSimpArgs false
namespace Go.Proofs.Ytmledapichlhdaa.BagS
theorem ins_hit : ∀ {T S : List Msg} {m : Msg}, T.any (lt m) = true → ins (T ++ S) m = ins T m ++ S
  | [], S, m, h => by simp at h
  | x :: T, S, m, h => by
    rw [List.cons_append, ins, ins]
    by_cases h1 : lt m x = true
    · rw [if_pos h1, if_pos h1]; simp
    · rw [if_neg h1, if_neg h1, List.cons_append, ins_hit (by rw [List.any_cons] at h; simpa [h1] using h)]
theorem ins_miss : ∀ {T S : List Msg} {m : Msg}, T.any (lt m) = false → ins (T ++ S) m = T ++ ins S m
  | [], S, m, _ => rfl
  | x :: T, S, m, h => by
    rw [List.any_cons, Bool.or_eq_false_iff] at h
    rw [List.cons_append, ins, if_neg (by rw [h.1]; simp), List.cons_append, ins_miss h.2]
/-- A message put among the first j. -/
def ip (L : List Msg) (m : Msg) (j : Nat) : List Msg × Bool := (if (L.take j).any (lt m) = true then ins (L.take j) m else L.take j, (L.take j).any (lt m))
theorem ip_zero (L : List Msg) (m : Msg) : ip L m 0 = ([], false) := by simp [ip]
theorem ip_now {L : List Msg} {m x : Msg} {j : Nat} (h : L[j]? = some x) (hf : (ip L m j).2 = false) (hl : lt m x = true) : ip L m (j + 1) = ((ip L m j).1 ++ [m] ++ [x], true) := by
  unfold ip at hf ⊢
  have hf : (L.take j).any (lt m) = false := hf
  rw [List.take_add_one, h, Option.toList_some, List.any_append, hf, ins_miss hf]
  simp [ins, hl]
theorem ip_go {L : List Msg} {m x : Msg} {j : Nat} (h : L[j]? = some x) (hf : (ip L m j).2 = true ∨ lt m x = false) : ip L m (j + 1) = ((ip L m j).1 ++ [x], (ip L m j).2) := by
  unfold ip at hf ⊢
  rw [List.take_add_one, h, Option.toList_some, List.any_append]
  cases h1 : (L.take j).any (lt m) with
  | true => rw [ins_hit h1]; simp
  | false =>
    have h2 : lt m x = false := by
      rcases hf with hf | hf
      · have hf : (L.take j).any (lt m) = true := hf
        rw [h1] at hf; cases hf
      · exact hf
    simp [h2]
theorem ip_end {L : List Msg} {m : Msg} : ((ip L m L.length).2 = true ∧ (ip L m L.length).1 = ins L m) ∨ ((ip L m L.length).2 = false ∧ (ip L m L.length).1 ++ [m] = ins L m) := by
  unfold ip
  rw [List.take_length]
  cases h1 : L.any (lt m) with
  | true => exact .inl ⟨rfl, by simp⟩
  | false =>
    refine .inr ⟨rfl, ?_⟩
    have := ins_miss (S := []) h1
    rw [List.append_nil] at this
    rw [this]
    simp [ins]
theorem ip_len (L : List Msg) (m : Msg) (j : Nat) : (ip L m j).1.length ≤ j + 1 := by
  have h2 := List.length_take_le j L
  unfold ip
  dsimp only
  split
  · rw [ins_len]; omega
  · omega
/-- Each once, of the first j. -/
def up (L : List Msg) (j : Nat) : List Msg := uniq (L.take j)
theorem up_zero (L : List Msg) : up L 0 = [] := rfl
theorem up_all (L : List Msg) : up L L.length = uniq L := by unfold up; rw [List.take_length]
theorem uniq_snoc (L : List Msg) (x : Msg) : uniq (L ++ [x]) = ustep (uniq L) x := by unfold uniq; rw [List.foldl_append]; rfl
theorem uniq_last (L : List Msg) : (uniq L).getLast? = L.getLast? := by
  rcases List.eq_nil_or_concat L with rfl | ⟨P, x, rfl⟩
  · rfl
  · rw [List.concat_eq_append, uniq_snoc, ustep_last]; simp
theorem up_next {L : List Msg} {x : Msg} {j : Nat} (h : L[j]? = some x) : up L (j + 1) = ustep (up L j) x := by
  unfold up
  rw [List.take_add_one, h, Option.toList_some, uniq_snoc]
theorem up_first {L : List Msg} {x : Msg} (h : L[0]? = some x) : up L (0 + 1) = up L 0 ++ [x] := by rw [up_next h, up_zero]; rfl
theorem up_lastj {L : List Msg} {y : Msg} {j : Nat} (h : L[j]? = some y) : (up L (j + 1)).getLast? = some y := by
  unfold up
  rw [uniq_last, List.take_add_one, h]; simp
theorem up_same {L : List Msg} {x : Msg} {j : Nat} (h : L[j + 1]? = some x) (hp : L[j]? = some x) : up L (j + 1 + 1) = up L (j + 1) := by
  rw [up_next h]
  unfold ustep
  rw [if_pos (up_lastj hp)]
theorem up_new {L : List Msg} {x y : Msg} {j : Nat} (h : L[j + 1]? = some x) (hp : L[j]? = some y) (hne : y ≠ x) : up L (j + 1 + 1) = up L (j + 1) ++ [x] := by
  rw [up_next h]
  unfold ustep
  rw [if_neg (by rw [up_lastj hp]; intro e; exact hne (Option.some.inj e))]
theorem up_len (L : List Msg) (j : Nat) : (up L j).length ≤ j := by
  have h1 := uniq_le (L.take j)
  have h2 := List.length_take_le j L
  unfold up
  omega
/-- How often among the first j. -/
def cn (L : List Msg) (m : Msg) (j : Nat) : Nat := (L.take j).count m
theorem cn_zero (L : List Msg) (m : Msg) : cn L m 0 = 0 := by simp [cn]
theorem cn_all (L : List Msg) (m : Msg) : cn L m L.length = L.count m := by unfold cn; rw [List.take_length]
theorem cn_hit {L : List Msg} {m x : Msg} {j : Nat} (h : L[j]? = some x) (e : x = m) : cn L m (j + 1) = cn L m j + 1 := by
  subst e
  unfold cn
  rw [List.take_add_one, h, Option.toList_some, List.count_append]
  simp
theorem cn_miss {L : List Msg} {m x : Msg} {j : Nat} (h : L[j]? = some x) (e : x ≠ m) : cn L m (j + 1) = cn L m j := by
  unfold cn
  rw [List.take_add_one, h, Option.toList_some, List.count_append, List.count_cons]
  simp [e]
theorem cn_le (L : List Msg) (m : Msg) (j : Nat) : cn L m j ≤ j := by
  have h1 : (L.take j).count m ≤ (L.take j).length := List.count_le_length
  have h2 := List.length_take_le j L
  unfold cn
  omega
/-- The order. -/
theorem bl_cmp : ∀ a b : List UInt8, Op.bytesLess a b = decide (Go.Lib.compareBytes a b < 0)
  | [], [] => rfl
  | [], _ :: _ => rfl
  | _ :: _, [] => rfl
  | a :: xs, b :: ys => by
    rw [Op.bytesLess, bl_cmp xs ys]
    unfold Go.Lib.compareBytes
    by_cases h1 : a < b
    · simp [h1]
    · by_cases h2 : b < a
      · have h3 : a ≠ b := fun e => by rw [e] at h2; exact UInt8.lt_irrefl b h2
        simp [h1, h2, h3]
      · have e : a = b := UInt8.le_antisymm (UInt8.not_lt.1 h2) (UInt8.not_lt.1 h1)
        subst e
        rw [if_neg h1, if_neg h1, decide_eq_false h1, Bool.false_or, beq_self_eq_true, Bool.true_and]
        cases xs <;> cases ys <;> rfl
theorem lt_to {a b : Msg} (h : a.2.1 ≠ b.2.1) : lt a b = decide (a.2.1 < b.2.1) := by
  rw [Bool.eq_iff_iff, lt_iff, decide_eq_true_eq]; omega
theorem lt_from {a b : Msg} (h : a.2.1 = b.2.1) (h2 : a.1 ≠ b.1) : lt a b = decide (a.1 < b.1) := by
  rw [Bool.eq_iff_iff, lt_iff, decide_eq_true_eq]; omega
theorem lt_text {a b : Msg} (h : a.2.1 = b.2.1) (h2 : a.1 = b.1) : lt a b = Op.bytesLess a.2.2.toList b.2.2.toList := by
  rw [Bool.eq_iff_iff, lt_iff, bl_cmp, decide_eq_true_eq, Go.Lib.toList_data, Go.Lib.toList_data]
  unfold cmpB
  omega
end Go.Proofs.Ytmledapichlhdaa.BagS
