/- Two bags side by side; puts in any order. -/
import Derived.Test.YtmledapichlhdaaBagK
set_option linter.unusedVariables false
set_option linter.unusedSimpArgs false
namespace Go.Proofs.Ytmledapichlhdaa.BagS
def putL (n : Int) (L : List Msg) (m : Msg) : List Msg := (putS n L m).1
def goodM (n : Int) (m : Msg) : Bool := decide (¬ (badN n m.1 ∨ badN n m.2.1)) && decide (m.2.2.size ≤ 65535)
theorem putL_eq {n : Int} {L : List Msg} (m : Msg) (h : L.length < 1024) : putL n L m = if goodM n m = true then ins L m else L := by
  unfold putL putS goodM addS
  by_cases h1 : badN n m.1 ∨ badN n m.2.1
  · simp [h1]
  · by_cases h2 : 65535 < m.2.2.size
    · rw [if_neg h1, if_pos h2]
      simp [h1]
      omega
    · rw [if_neg h1, if_neg h2, if_neg (by omega)]
      have : m.2.2.size ≤ 65535 := by omega
      simp [h1, this]
theorem putL_inv (n : Int) : ∀ (l L : List Msg), Sorted L → L.length + l.length ≤ 1024 → Sorted (l.foldl (putL n) L) ∧ (l.foldl (putL n) L).Perm (l.filter (goodM n) ++ L)
  | [], L, hs, _ => ⟨hs, List.Perm.refl _⟩
  | m :: l, L, hs, hl => by
    rw [List.length_cons] at hl
    rw [List.foldl_cons, putL_eq m (by omega)]
    by_cases h : goodM n m = true
    · rw [if_pos h, List.filter_cons_of_pos h]
      have ih := putL_inv n l (ins L m) (ins_sorted m hs) (by rw [ins_len]; omega)
      refine ⟨ih.1, ih.2.trans ?_⟩
      exact ((List.Perm.append_left _ (ins_perm L m)).trans List.perm_middle)
    · rw [if_neg h, List.filter_cons_of_neg h]
      exact putL_inv n l L hs (by omega)
theorem put_order (n : Int) (l : List Msg) (h : l.length ≤ 1024) : l.reverse.foldl (putL n) [] = l.foldl (putL n) [] := by
  have h1 := putL_inv n l [] List.Pairwise.nil (by simpa using h)
  have h2 := putL_inv n l.reverse [] List.Pairwise.nil (by simpa using h)
  refine sorted_eq (h2.2.trans (List.Perm.trans ?_ h1.2.symm)) h2.1 h1.1
  rw [List.append_nil, List.append_nil]
  exact (List.reverse_perm l).filter _
def upTo (l : List Msg) (i : Nat) : List Msg := (l.take i).foldl (putL 3) []
theorem upTo_zero (l : List Msg) : upTo l 0 = [] := by simp [upTo]
theorem upTo_next {l : List Msg} {i : Nat} {x : Msg} (h : l[i]? = some x) : upTo l (i + 1) = (putS 3 (upTo l i) x).1 := by
  unfold upTo
  rw [List.take_add_one, h, Option.toList_some, List.foldl_append]
  rfl
theorem upTo_all (l : List Msg) : upTo l l.length = l.foldl (putL 3) [] := by unfold upTo; rw [List.take_length]
theorem rev_at {l : List Msg} {i : Nat} (h : i < l.length) : l.reverse[i]? = some (l[l.length - 1 - i]'(by omega)) := by
  rw [List.getElem?_eq_getElem (by simpa using h), List.getElem_reverse]
end Go.Proofs.Ytmledapichlhdaa.BagS
namespace Go.Proofs.Ytmledapichlhdaa.Bag
open Go.RowKit Go.Proofs.YtmledapichlhdaaW.PrintWords Go.Proofs.YtmledapichlhdaaW.PrintLast Go.Proofs.YtmledapichlhdaaW.PrintMore Go.Proofs.Ytmledapichlhdaa.Maps Go.Proofs.Ytmledapichlhdaa.BagS
def Two (W w : World) (a b : Nat) (L M : List Msg) : Prop := ∃ ma mb, BIs W.heap.size w a ma 3 L ∧ BIs W.heap.size w b mb 3 M ∧ (∀ k, fp a ma k → ¬ fp b mb k) ∧ Below W.heap.size W w
section
variable {W w w' : World} {a b : Nat} {L M : List Msg}
theorem Two.bel (h : Two W w a b L M) : Below W.heap.size W w := by obtain ⟨_, _, _, _, _, h⟩ := h; exact h
theorem Two.below (h : Two W w a b L M) (hb : Below w.heap.size w w') : Two W w' a b L M := by
  obtain ⟨ma, mb, h1, h2, h3, h4⟩ := h
  exact ⟨ma, mb, h1.below hb, h2.below hb, h3, h4.trans (hb.mono h4.size)⟩
theorem Two.put1 (h : Two W w a b L M) (m : Msg) : Calls Try.prog 10 #[ptr a, mv m] w fun e w' => e = .returned (.int .i64 (putS 3 L m).2) ∧ Two W w' a b (putS 3 L m).1 M := by
  obtain ⟨ma, mb, h1, h2, h3, h4⟩ := h
  refine (put_calls h1 m).mono ?_
  rintro e w' ⟨rfl, hI, hF⟩
  exact ⟨rfl, ma, mb, hI, h2.fr hF (fun k hk hk' => h3 k hk' hk), h3, Fr.below h4 hF (fun k hk => h1.ge hk) h4.size⟩
theorem Two.put2 (h : Two W w a b L M) (m : Msg) : Calls Try.prog 10 #[ptr b, mv m] w fun e w' => e = .returned (.int .i64 (putS 3 M m).2) ∧ Two W w' a b L (putS 3 M m).1 := by
  obtain ⟨ma, mb, h1, h2, h3, h4⟩ := h
  refine (put_calls h2 m).mono ?_
  rintro e w' ⟨rfl, hI, hF⟩
  exact ⟨rfl, ma, mb, h1.fr hF (fun k hk hk' => h3 k hk hk'), hI, h3, Fr.below h4 hF (fun k hk => h2.ge hk) h4.size⟩
theorem Two.list1 (h : Two W w a b L M) : Calls Try.prog 11 #[ptr a] w fun e w' => ∃ v, e = .returned v ∧ w'.ownsRow w.heap.size 30 3 v (uniq L).length (flat (uniq L)) ∧ Below w.heap.size w w' := by
  obtain ⟨ma, mb, h1, h2, h3, h4⟩ := h
  exact list_calls h1
theorem Two.list2 (h : Two W w a b L M) : Calls Try.prog 11 #[ptr b] w fun e w' => ∃ v, e = .returned v ∧ w'.ownsRow w.heap.size 30 3 v (uniq M).length (flat (uniq M)) ∧ Below w.heap.size w w' := by
  obtain ⟨ma, mb, h1, h2, h3, h4⟩ := h
  exact list_calls h2
theorem Two.len1 (h : Two W w a b L M) : Calls Try.prog 12 #[ptr a] w fun e w' => e = .returned (.int .i64 (L.length : Int)) ∧ w' = w := by
  obtain ⟨ma, mb, h1, h2, h3, h4⟩ := h
  exact len_calls h1
theorem Two.len2 (h : Two W w a b L M) : Calls Try.prog 12 #[ptr b] w fun e w' => e = .returned (.int .i64 (M.length : Int)) ∧ w' = w := by
  obtain ⟨ma, mb, h1, h2, h3, h4⟩ := h
  exact len_calls h2
theorem Two.count1 (h : Two W w a b L M) (m : Msg) : Calls Try.prog 13 #[ptr a, mv m] w fun e w' => e = .returned (.int .i64 (L.count m : Int)) ∧ Below w.heap.size w w' := by
  obtain ⟨ma, mb, h1, h2, h3, h4⟩ := h
  exact count_calls h1 m
theorem Two.count2 (h : Two W w a b L M) (m : Msg) : Calls Try.prog 13 #[ptr b, mv m] w fun e w' => e = .returned (.int .i64 (M.count m : Int)) ∧ Below w.heap.size w w' := by
  obtain ⟨ma, mb, h1, h2, h3, h4⟩ := h
  exact count_calls h2 m
end
end Go.Proofs.Ytmledapichlhdaa.Bag
