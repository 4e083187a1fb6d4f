/- One bag and its steps; how many there are. -/
import Derived.Test.YtmledapichlhdaaBagO
set_option linter.unusedVariables false
set_option linter.unusedSimpArgs false
namespace Go.Proofs.Ytmledapichlhdaa.BagS
open Go.RowKit
theorem count_one : ∀ {U : List Msg} {x : Msg}, U.Nodup → x ∈ U → U.count x = 1
  | [], _, _, h => by simp at h
  | u :: U, x, hn, h => by
    rw [List.nodup_cons] at hn
    rw [List.count_cons]
    by_cases e : u = x
    · subst e
      rw [List.count_eq_zero_of_not_mem hn.1]
      simp
    · have h2 : x ∈ U := by
        rcases List.mem_cons.1 h with h | h
        · exact absurd h.symm e
        · exact h
      rw [count_one hn.2 h2]
      simp [e]
theorem sum_split (L : List Msg) (x : Msg) : ∀ U : List Msg, (U.map fun u => (x :: L).count u).sum = (U.map fun u => L.count u).sum + U.count x
  | [] => rfl
  | u :: U => by
    rw [List.map_cons, List.sum_cons, sum_split L x U, List.map_cons, List.sum_cons, List.count_cons, List.count_cons]
    have e : (x == u) = (u == x) := Bool.eq_iff_iff.2 (by rw [beq_iff_eq, beq_iff_eq]; exact eq_comm)
    rw [e]
    omega
theorem sum_nil : ∀ U : List Msg, (U.map fun u => ([] : List Msg).count u).sum = 0
  | [] => rfl
  | u :: U => by rw [List.map_cons, List.sum_cons, sum_nil U, List.count_nil]
theorem sum_all : ∀ (L U : List Msg), U.Nodup → (∀ x ∈ L, x ∈ U) → (U.map fun u => L.count u).sum = L.length
  | [], U, _, _ => sum_nil U
  | x :: L, U, hn, h => by
    rw [sum_split, sum_all L U hn (fun y hy => h y (List.mem_cons_of_mem _ hy)), count_one hn (h x (List.mem_cons_self ..)), List.length_cons]
def sumTo (L : List Msg) (k : Nat) : Nat := (((uniq L).take k).map fun u => L.count u).sum
theorem sumTo_next {L : List Msg} {k : Nat} {x : Msg} (h : (uniq L)[k]? = some x) : sumTo L (k + 1) = sumTo L k + L.count x := by
  unfold sumTo
  rw [List.take_add_one, h, Option.toList_some, List.map_append, List.sum_append]
  simp
theorem sum_le (L : List Msg) : ∀ V : List Msg, (V.map fun u => L.count u).sum ≤ L.length * V.length
  | [] => by simp
  | u :: V => by
    have h1 := sum_le L V
    have h2 : L.count u ≤ L.length := List.count_le_length
    rw [List.map_cons, List.sum_cons, List.length_cons, Nat.mul_succ]
    omega
theorem sumTo_le {L : List Msg} (k : Nat) (h : L.length ≤ 1024) : sumTo L k ≤ 1048576 := by
  have h1 := sum_le L ((uniq L).take k)
  have h2 : ((uniq L).take k).length ≤ 1024 := by rw [List.length_take]; have := uniq_le L; omega
  have h3 := Nat.mul_le_mul h h2
  unfold sumTo
  omega
theorem sum_wrap {L : List Msg} {k : Nat} {x : Msg} (hx : (uniq L)[k]? = some x) (h : L.length ≤ 1024) : wrap64 ((sumTo L k : Int) + (L.count x : Int)) = (sumTo L (k + 1) : Int) := by
  have h1 := sumTo_next hx
  have h2 := sumTo_le (k + 1) h
  unfold wrap64
  omega
theorem sumTo_all {L : List Msg} (h : Sorted L) : sumTo L (uniq L).length = L.length := by
  unfold sumTo
  rw [List.take_length]
  exact sum_all L (uniq L) (rs_nodup (uniq_inv h).rs) (fun x hx => ((uniq_inv h).mem x).2 hx)
def inTo (L : List Msg) (m : Msg) (k : Nat) : Bool := decide (m ∈ (uniq L).take k)
theorem inTo_next {L : List Msg} {m x : Msg} {k : Nat} (h : (uniq L)[k]? = some x) : inTo L m (k + 1) = (inTo L m k || decide (x = m)) := by
  unfold inTo
  rw [List.take_add_one, h, Option.toList_some]
  by_cases h1 : m ∈ (uniq L).take k
  · simp [h1]
  · by_cases h2 : x = m
    · subst h2; simp
    · have h3 : ¬ m = x := fun e => h2 e.symm
      simp [h1, h2, h3]
theorem inTo_all {L : List Msg} (m : Msg) (h : Sorted L) : inTo L m (uniq L).length = decide ((L.count m : Int) > 0) := by
  unfold inTo
  rw [List.take_length]
  have h1 := (uniq_inv h).mem m
  have h2 : m ∈ L ↔ 0 < L.count m := List.count_pos_iff.symm
  by_cases hm : m ∈ L
  · have h3 := h2.1 hm
    rw [decide_eq_true (h1.2 hm), decide_eq_true (by omega)]
  · have h3 : ¬ 0 < L.count m := fun q => hm (h2.2 q)
    rw [decide_eq_false (fun q => hm (h1.1 q)), decide_eq_false (by omega)]
end Go.Proofs.Ytmledapichlhdaa.BagS
namespace Go.Proofs.Ytmledapichlhdaa.Bag
open Go.RowKit Go.Proofs.YtmledapichlhdaaW.PrintWords Go.Proofs.YtmledapichlhdaaW.PrintLast Go.Proofs.YtmledapichlhdaaW.PrintMore Go.Proofs.Ytmledapichlhdaa.Maps Go.Proofs.Ytmledapichlhdaa.BagS
def stepL (L : List Msg) (s : Step) : List Msg := if s.kind = 2 then (delS L s.i).1 else if s.kind = 3 then (delS L s.i).1 else if s.kind = 4 then (twiceS L s.i).1 else (putS 3 L s.m).1
def One (W w : World) (a : Nat) (L : List Msg) : Prop := ∃ ma, BIs W.heap.size w a ma 3 L ∧ Below W.heap.size W w
section
variable {W w w' : World} {a : Nat} {L : List Msg}
theorem One.bel (h : One W w a L) : Below W.heap.size W w := by obtain ⟨_, _, h⟩ := h; exact h
theorem One.ok (h : One W w a L) : Ok L := by obtain ⟨_, h, _⟩ := h; exact h.ok
theorem One.below (h : One W w a L) (hb : Below w.heap.size w w') : One W w' a L := by
  obtain ⟨ma, h1, h4⟩ := h
  exact ⟨ma, h1.below hb, h4.trans (hb.mono h4.size)⟩
theorem One.post {ma : Nat} (h1 : BIs W.heap.size w a ma 3 L) (h4 : Below W.heap.size W w) {L' : List Msg} (hI : BIs W.heap.size w' a ma 3 L') (hF : Fr w w' (fp a ma)) : One W w' a L' := ⟨ma, hI, Fr.below h4 hF (fun k hk => h1.ge hk) h4.size⟩
theorem One.put (h : One W w a L) (m : Msg) : Calls Try.prog 10 #[ptr a, mv m] w fun e w' => e = .returned (.int .i64 (putS 3 L m).2) ∧ One W w' a (putS 3 L m).1 := by
  obtain ⟨ma, h1, h4⟩ := h
  refine (put_calls h1 m).mono ?_
  rintro e w' ⟨rfl, hI, hF⟩
  exact ⟨rfl, One.post h1 h4 hI hF⟩
theorem One.twice (h : One W w a L) (i : Int) : Calls Try.prog 19 #[ptr a, .int .i64 i] w fun e w' => e = .returned (.int .i64 (twiceS L i).2) ∧ One W w' a (twiceS L i).1 := by
  obtain ⟨ma, h1, h4⟩ := h
  refine (twice_calls h1 i).mono ?_
  rintro e w' ⟨rfl, hI, hF⟩
  exact ⟨rfl, One.post h1 h4 hI hF⟩
theorem One.drop (h : One W w a L) (i : Int) : Calls Try.prog 18 #[ptr a, .int .i64 i] w fun e w' => e = .returned (.int .i64 (delS L i).2.2) ∧ One W w' a (delS L i).1 := by
  obtain ⟨ma, h1, h4⟩ := h
  refine (drop_calls h1 i).mono ?_
  rintro e w' ⟨rfl, hI, hF⟩
  exact ⟨rfl, One.post h1 h4 hI hF⟩
theorem One.deliver (h : One W w a L) (i : Int) : Calls Try.prog 15 #[ptr a, .int .i64 i] w fun e w' => e = .returned (.tuple #[mv (delS L i).2.1, .int .i64 (delS L i).2.2]) ∧ One W w' a (delS L i).1 := by
  obtain ⟨ma, h1, h4⟩ := h
  refine (deliver_calls h1 i).mono ?_
  rintro e w' ⟨rfl, hI, hF⟩
  exact ⟨rfl, One.post h1 h4 hI hF⟩
theorem One.list (h : One W w a L) : Calls Try.prog 11 #[ptr a] w fun e w' => ∃ v, e = .returned v ∧ w'.ownsRow w.heap.size 30 3 v (uniq L).length (flat (uniq L)) ∧ Below w.heap.size w w' := by
  obtain ⟨ma, h1, h4⟩ := h
  exact list_calls h1
theorem One.len (h : One W w a L) : Calls Try.prog 12 #[ptr a] w fun e w' => e = .returned (.int .i64 (L.length : Int)) ∧ w' = w := by
  obtain ⟨ma, h1, h4⟩ := h
  exact len_calls h1
theorem One.count (h : One W w a L) (m : Msg) : Calls Try.prog 13 #[ptr a, mv m] w fun e w' => e = .returned (.int .i64 (L.count m : Int)) ∧ Below w.heap.size w w' := by
  obtain ⟨ma, h1, h4⟩ := h
  exact count_calls h1 m
end
theorem nxt (i n : Nat) (h : i < n) (hn : n ≤ 1024) : Value.int .i64 (wrap64 ((i : Int) + 1)) = Value.int .i64 ((i + 1 : Nat) : Int) := by
  have e : wrap64 ((i : Int) + 1) = ((i + 1 : Nat) : Int) := by unfold wrap64; omega
  rw [e]
theorem meas (i n : Nat) (h : i < n) (hn : n ≤ 1024) : n - (intOf (Value.int .i64 (wrap64 ((i : Int) + 1)))).toNat < n - (intOf (Value.int .i64 (i : Int))).toNat := by
  rw [nxt i n h hn]
  simp [intOf]
  omega
end Go.Proofs.Ytmledapichlhdaa.Bag
