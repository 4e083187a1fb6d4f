/- view.Commit: what enough nodes have: the middle one of the sorted list. -/
import Derived.Test.YtifhgfjohpbliaaPtx0
import Derived.Test.YtifhgfjohpbliaaVals
import Derived.Test.YtifhgfjohpbliaaLay
import Derived.Shelf.SortM.Plain
import Derived.Shelf.SortM.SortNone
set_option linter.unusedVariables false
set_option linter.unusedSimpArgs false
namespace Go.Proofs.Ytifhgfjohpbliaa.GivenV
open Go.RowKit Go.Proofs.YtifhgfjohpbliaaW.PrintWords Go.Proofs.YtifhgfjohpbliaaW.PrintLast Go.Proofs.YtifhgfjohpbliaaW.PrintMore Go.Proofs.Ytifhgfjohpbliaa.Vals

theorem own_cell {w : World} {base : Nat} {e : TypeId} {size : Nat} {v : Value} {n : Nat} {xs : List Value} (h : w.ownsRow base e size v n xs) {j : Nat} {u : Value} (hj : xs[j]? = some u) :
    ∃ g cap, v = .slice (some ⟨g, 0, none⟩) n cap ∧ w.cell? ⟨g, j, none⟩ = some u := by
  rcases h.2 with ⟨rfl, h0⟩ | ⟨g, cap, cur, rfl, _, hh, _, _, _, ht⟩
  · have : xs = [] := List.eq_nil_of_length_eq_zero (by rw [h.1, h0, Nat.zero_mul])
    rw [this] at hj
    simp at hj
  · refine ⟨g, cap, rfl, ?_⟩
    have h1 : w.cell? ⟨g, j, none⟩ = cur[j]? := blk_cell hh j
    rw [h1, ← Array.getElem?_toList]
    rw [← ht, List.getElem?_take] at hj
    split at hj
    · exact hj
    · simp at hj
def nodesB (n : Int) : Bool := decide (n = 1) || decide (n = 3) || decide (n = 5) || decide (n = 7)
def inB (x : Int) : Bool := decide (0 ≤ x) && decide (x ≤ 1099511627776)
set_option maxRecDepth 100000 in
theorem nodes_calls (n : Int) (w : World) : Calls Try.prog 23 #[.int .i64 n] w fun e w' => e = .returned (.bool (nodesB n)) ∧ w' = w := by
  by_cases h1 : 1 ≤ n
  · by_cases h2 : n ≤ 7
    · have b1 : decide (1 ≤ n) = true := decide_eq_true h1
      have b2 : decide (n ≤ 7) = true := decide_eq_true h2
      have h : n = 1 ∨ n = 2 ∨ n = 3 ∨ n = 4 ∨ n = 5 ∨ n = 6 ∨ n = 7 := by omega
      clear h1 h2 b1 b2
      rcases h with rfl | rfl | rfl | rfl | rfl | rfl | rfl
      all_goals
        go_enter Try.func23, Try.ntmps23
        go_wp2
        go_ret
        exact ⟨rfl, rfl⟩
    · have e : nodesB n = false := by unfold nodesB; simp; omega
      rw [e]
      have b1 : decide (1 ≤ n) = true := decide_eq_true h1
      have b2 : decide (n ≤ 7) = false := decide_eq_false h2
      clear e h1 h2
      go_enter Try.func23, Try.ntmps23
      go_wp2
      go_ret
      exact ⟨rfl, rfl⟩
  · have e : nodesB n = false := by unfold nodesB; simp; omega
    rw [e]
    have b1 : decide (1 ≤ n) = false := decide_eq_false h1
    clear e h1
    go_enter Try.func23, Try.ntmps23
    go_wp2
    go_ret
    exact ⟨rfl, rfl⟩
set_option maxRecDepth 100000 in
theorem in_calls (x : Int) (w : World) : Calls Try.prog 24 #[.int .i64 x] w fun e w' => e = .returned (.bool (inB x)) ∧ w' = w := by
  unfold inB
  by_cases h1 : 0 ≤ x
  · have b1 : decide (0 ≤ x) = true := decide_eq_true h1
    rw [b1, Bool.true_and]
    clear h1
    go_enter Try.func24, Try.ntmps24
    go_wp2
    go_ret
    exact ⟨rfl, rfl⟩
  · have b1 : decide (0 ≤ x) = false := decide_eq_false h1
    rw [b1, Bool.false_and]
    clear h1
    go_enter Try.func24, Try.ntmps24
    go_wp2
    go_ret
    exact ⟨rfl, rfl⟩
set_option maxRecDepth 100000 in
theorem bad_calls (x : Int) (w : World) : Calls Try.prog 25 #[.int .i64 x] w fun e w' => e = .returned (.bool (!inB x)) ∧ w' = w := by
  go_enter Try.func25, Try.ntmps25
  go_wp2_with fail
  refine (in_calls x w).mono ?_
  rintro e w1 ⟨rfl, rfl⟩
  go_wp2
  go_ret
  exact ⟨rfl, rfl⟩
/-- The place of the first one that is none; -1: there is none. -/
def badAt : List Int → Int → Int
  | [], _ => -1
  | x :: l, i => if inB x = true then badAt l (i + 1) else i
theorem badAt_cons (x : Int) (l : List Int) (i : Int) : badAt (x :: l) i = if inB x = true then badAt l (i + 1) else i := rfl
theorem badAt_neg : ∀ (l : List Int) (i : Int), 0 ≤ i → (decide (0 ≤ badAt l i) = !l.all inB)
  | [], i, _ => by simp [badAt]
  | x :: l, i, hi => by
    unfold badAt
    by_cases h : inB x = true
    · rw [if_pos h, badAt_neg l (i + 1) (by omega)]; simp [h]
    · rw [if_neg h]; simp [h, hi]
theorem drop_rd (l : List Int) (i : Nat) (h : i < l.length) : l.drop i = rd l i :: l.drop (i + 1) := by
  rw [List.drop_eq_getElem_cons h]
  unfold rd
  simp [List.getD_eq_getElem?_getD, h]
set_option maxHeartbeats 800000 in
set_option maxRecDepth 100000 in
theorem index_calls (A : Option Addr) (c : Nat) (l : List Int) (w : World) (hr : Kd.C (Kd.int .i64) w A l.length l) (hl : l.length ≤ 7) :
    Calls Try.prog 49 #[.slice A l.length c, .func (.func 25) #[] #[]] w fun e w' => e = .returned (.int .i64 (badAt l 0)) ∧ w' = w := by
  have HR := Aside0.mk hr
  clear hr
  go_enter Try.func49, Try.ntmps49
  go_wp2_with fail
  go_loop [5, 8] (fun _ i => ∃ k : Nat, k ≤ l.length ∧ i = .int .i64 k ∧ Aside0 (badAt l 0 = badAt (l.drop k) k)) (fun _ i => l.length - (intOf i).toNat)
  case atStart => exact ⟨0, by omega, rfl, ⟨rfl⟩⟩
  case round =>
    obtain ⟨k, hk, rfl, E⟩ := hrel
    by_cases hlt : k < l.length
    · obtain ⟨ad, rfl, hc⟩ := Kd.at_int HR.out (k : Int) (by omega) (by omega)
      have hc' : w.cell? (ad.add k) = some (.int .i64 (rd l k)) := hc
      have hd := drop_rd l k hlt
      have E2 := E.out
      rw [hd, badAt_cons] at E2
      clear hc hd
      by_cases hin : inB (rd l k) = true
      · rw [if_pos hin] at E2
        have E3 : Aside0 (badAt l 0 = badAt (l.drop (k + 1)) ((k + 1 : Nat) : Int)) := ⟨by simpa using E2⟩
        clear E2
        go_wp2_with fail
        refine (bad_calls (rd l k) w).mono ?_
        rintro e w1 ⟨rfl, rfl⟩
        rw [hin]
        go_wp2_with fail
        go_round
        case rel => exact ⟨k + 1, by omega, by go_num, E3⟩
        case measure => simp [intOf]; omega
      · rw [if_neg hin] at E2
        have E3 := Aside0.mk E2
        have hin' : inB (rd l k) = false := by simpa using hin
        clear E2 hin
        go_wp2_with fail
        refine (bad_calls (rd l k) w).mono ?_
        rintro e w1 ⟨rfl, rfl⟩
        rw [hin']
        go_wp2_with fail
        go_ret
        exact ⟨by show Ending.returned (.int .i64 (k : Int)) = _; rw [E3.out], rfl⟩
    · obtain rfl : k = l.length := by omega
      have E2 := E.out
      rw [List.drop_of_length_le (Nat.le_refl _)] at E2
      have E3 := Aside0.mk E2
      clear E2
      go_wp2_with fail
      go_ret
      exact ⟨by show Ending.returned (.int .i64 (-1)) = _; rw [E3.out]; rfl, rfl⟩
set_option maxRecDepth 100000 in
theorem contains_calls (A : Option Addr) (c : Nat) (l : List Int) (w : World) (hr : Kd.C (Kd.int .i64) w A l.length l) (hl : l.length ≤ 7) :
    Calls Try.prog 26 #[.slice A l.length c, .func (.func 25) #[] #[]] w fun e w' => e = .returned (.bool (!l.all inB)) ∧ w' = w := by
  rw [← badAt_neg l 0 (by omega)]
  go_enter Try.func26, Try.ntmps26
  go_wp2_with fail
  refine (index_calls A c l w hr hl).mono ?_
  rintro e w1 ⟨rfl, rfl⟩
  go_wp2_with fail
  go_ret
  exact ⟨rfl, rfl⟩
/-- What enough nodes have. -/
def view_Commit.f (l : List Int) : Option (Int × Int) := if nodesB l.length = true then (if l.all inB = true then some (rd (sorted l) ((l.length : Int) / 2), 0) else some (0, 1)) else some (0, 1)
theorem sorted_length (l : List Int) : (sorted l).length = l.length := by unfold sorted; simp
theorem sort_in (n : Nat) (blk off cap : Nat) (ss : List Int) (W : World) (h : Go.Sort.Holds (Value.int .i64) W blk off ss.toArray) (h1 : blk < W.heap.size) (h2 : ss.length < 4611686018427387904) :
    CallsIn Fence.wide n Try.prog 51 #[.slice (some ⟨blk, off, none⟩) ss.length cap] W fun e w' => e = .returned (.tuple #[]) ∧ ∃ k os, w' = Go.Sort.grow (Go.Sort.putRow (Value.int .i64) (Go.Sort.ahead W k) blk off (ss.mergeSort fun x y => decide (x ≤ y)).toArray) os :=
  callsIn_wide.2 (AnyM.slices_Sort_int Lay.sortInt blk off cap ss W h h1 h2)
theorem sort_none (n : Nat) (p : Option Addr) (cap : Nat) (W : World) : CallsIn Fence.wide n Try.prog 51 #[.slice p 0 cap] W fun e w' => e = .returned (.tuple #[]) ∧ w' = W :=
  callsIn_wide.2 (AnyM.slices_Sort_int_none Lay.sortInt p cap W)
set_option maxHeartbeats 800000 in
set_option maxRecDepth 100000 in
theorem sorted_calls (ad : Addr) (c : Nat) (l : List Int) (w : World) (hr : Kd.C (Kd.int .i64) w (some ad) l.length l) (hl : l.length ≤ 7) :
    Calls Try.prog 27 #[.func (.func 52) #[] #[.pointer (some ⟨w.heap.size, 0, none⟩)]] (w.alloc (.cells #[.slice (some ad) l.length c] 32)) fun e W' => ∃ v, e = .returned v ∧ W'.ownsRow (w.heap.size + 1) 3 1 v l.length ((sorted l).map (Value.int .i64)) ∧ Below (w.heap.size + 1) (w.alloc (.cells #[.slice (some ad) l.length c] 32)) W' := by
  refine callsIn_wide.1 (?_ : CallsIn Fence.wide 6 _ _ _ _ _)
  have hat : ∀ j, j < l.length → (w.alloc (.cells #[.slice (some ad) l.length c] 32)).cell? (ad.add j) = some (.int .i64 (l[j]?.getD 0)) ∧ (ad.add j).block < w.heap.size := fun j hj => by
    obtain ⟨ad', he, hc⟩ := Kd.at_int hr (j : Int) (by omega) (by omega)
    obtain rfl := Option.some.inj he
    have hc' : w.cell? (ad.add j) = some (.int .i64 (l[j]?.getD 0)) := by rw [show (ad.add j) = ad.add (j : Int).toNat from rfl, hc]; simp [rd, List.getD_eq_getElem?_getD]
    have hb := World.block_lt_of_cell? w _ hc'
    exact ⟨((below_alloc (Below.refl w.heap.size w) _).cell (p := ad.add j) hb).trans hc', hb⟩
  refine (sorted_in Fence.wide 6 trivial trivial trivial trivial rfl (by omega) 52 #[.pointer (some ⟨w.heap.size, 0, none⟩)] trivial (enters_of Try.func52 (by kernel_rfl) rfl)
    (sort_in _) (sort_none _) w.heap.size (fun ys => ys = l) (fun pre => pre <+: l) l.length (by unfold maxLen; omega) (by omega) (fun xs h => by rw [h]; omega) _ (by simp)
    (values_stops Fence.wide _ trivial rfl (by omega) w.heap.size w.heap.size ad c l (by omega) _ (by simp) (by simp) ((blk_cell (blk_new w _) 0).trans rfl) (fun j hj => (hat j hj).2) (fun j hj => (hat j hj).1))).mono ?_
  rintro e W' ⟨v, xs, rfl, rfl, hrow, _, hb⟩
  have hz : (w.alloc (.cells #[.slice (some ad) xs.length c] 32)).heap.size = w.heap.size + 1 := by simp
  rw [hz] at hrow hb
  exact ⟨v, rfl, hrow, hb⟩
set_option maxHeartbeats 800000 in
set_option maxRecDepth 100000 in
theorem commit_no (A : Option Addr) (c : Nat) (l : List Int) (w : World) (hn : nodesB l.length = false) :
    Calls Try.prog 15 #[.slice A l.length c] w fun e w' => e = .returned (.tuple #[.int .i64 0, .int .i64 1]) ∧ Below w.heap.size w w' := by
  go_enter Try.func15, Try.ntmps15
  go_wp2_with fail
  refine (nodes_calls _ w).mono ?_
  rintro e w1 ⟨rfl, rfl⟩
  rw [hn]
  go_wp2_with fail
  go_ret2
  exact ⟨rfl, Below.refl _ _⟩
set_option maxHeartbeats 800000 in
set_option maxRecDepth 100000 in
theorem commit_bad (A : Option Addr) (c : Nat) (l : List Int) (w : World) (hr : Kd.C (Kd.int .i64) w A l.length l) (hl : l.length ≤ 7) (hn : nodesB l.length = true) (hb : l.all inB = false) :
    Calls Try.prog 15 #[.slice A l.length c] w fun e w' => e = .returned (.tuple #[.int .i64 0, .int .i64 1]) ∧ Below w.heap.size w w' := by
  have HC := Aside0.mk (contains_calls A c l w hr hl)
  rw [hb] at HC
  clear hr
  go_enter Try.func15, Try.ntmps15
  go_wp2_with fail
  refine (nodes_calls _ w).mono ?_
  rintro e w1 ⟨rfl, rfl⟩
  rw [hn]
  go_wp2_with fail
  refine HC.out.mono ?_
  rintro e w1 ⟨rfl, rfl⟩
  go_wp2_with fail
  go_ret2
  exact ⟨rfl, Below.refl _ _⟩
set_option maxHeartbeats 2000000 in
set_option maxRecDepth 100000 in
theorem commit_yes (A : Option Addr) (c : Nat) (l : List Int) (w : World) (hr : Kd.C (Kd.int .i64) w A l.length l) (hl : l.length ≤ 7) (h0 : 0 < l.length) (hn : nodesB l.length = true) (hb : l.all inB = true) :
    Calls Try.prog 15 #[.slice A l.length c] w fun e w' => e = .returned (.tuple #[.int .i64 (rd (sorted l) ((l.length : Int) / 2)), .int .i64 0]) ∧ Below w.heap.size w w' := by
  have HC := Aside0.mk (contains_calls A c l w hr hl)
  rw [hb] at HC
  obtain ⟨ad, rfl, _⟩ := hr.2.2 h0
  have HR := Aside0.mk hr
  clear hr
  go_enter Try.func15, Try.ntmps15
  go_wp2_with fail
  refine (nodes_calls _ w).mono ?_
  rintro e w1 ⟨rfl, rfl⟩
  rw [hn]
  go_wp2_with fail
  refine HC.out.mono ?_
  rintro e w1 ⟨rfl, rfl⟩
  go_wp2_with fail
  refine (callsIn_wide.1 (values_in Fence.wide 5 trivial rfl (some ad) l.length c w1)).mono ?_
  rintro e w2 ⟨rfl, rfl⟩
  go_wp2_with fail
  refine (sorted_calls ad c l w1 HR.out hl).mono ?_
  rintro e w3 ⟨v, rfl, hrow, hb3⟩
  have HB := Aside0.mk ((below_alloc (Below.refl w1.heap.size w1) (.cells #[.slice (some ad) l.length c] 32)).trans (hb3.mono (by simp)))
  have hj : ((sorted l).map (Value.int .i64))[l.length / 2]? = some (.int .i64 (rd (sorted l) ((l.length : Int) / 2))) := by
    have hlt : l.length / 2 < (sorted l).length := by rw [sorted_length]; omega
    rw [List.getElem?_map, List.getElem?_eq_getElem hlt]
    have e : ((l.length : Int) / 2).toNat = l.length / 2 := by omega
    simp [rd, e, List.getD_eq_getElem?_getD, hlt]
  obtain ⟨g, cap, rfl, hcell⟩ := own_cell hrow hj
  have hx0 : (0 : Int) ≤ (l.length : Int) / 2 := by omega
  have hx1 : (l.length : Int) / 2 < (l.length : Int) := by omega
  have hx2 : ((l.length : Int) / 2).toNat = l.length / 2 := by omega
  clear hrow hb3 hj
  go_wp2_with fail
  go_ret2
  exact ⟨rfl, HB.out⟩
theorem view_Commit.calls (A0 : Option Addr) (c0 : Nat) (l0 : List Int) (r1 : Int) (r2 : Int) (w : World) (hr0 : Kd.C (Kd.int .i64) w A0 l0.length l0) (hc0 : l0.length ≤ c0) (h : view_Commit.f l0 = some (r1, r2)) :
    Calls Try.prog 15 #[.slice A0 l0.length c0] w fun e w' => e = .returned (.tuple #[.int .i64 r1, .int .i64 r2]) ∧ Below w.heap.size w w' := by
  unfold view_Commit.f at h
  by_cases hn : nodesB l0.length = true
  · have hl : 0 < l0.length ∧ l0.length ≤ 7 := by unfold nodesB at hn; simp at hn; omega
    rw [if_pos hn] at h
    by_cases hb : l0.all inB = true
    · rw [if_pos hb] at h
      simp only [Option.some.injEq, Prod.mk.injEq] at h
      obtain ⟨rfl, rfl⟩ := h
      exact commit_yes A0 c0 l0 w hr0 hl.2 hl.1 hn hb
    · rw [if_neg hb] at h
      simp only [Option.some.injEq, Prod.mk.injEq] at h
      obtain ⟨rfl, rfl⟩ := h
      exact commit_bad A0 c0 l0 w hr0 hl.2 hn (by simpa using hb)
  · rw [if_neg hn] at h
    simp only [Option.some.injEq, Prod.mk.injEq] at h
    obtain ⟨rfl, rfl⟩ := h
    exact commit_no A0 c0 l0 w (by simpa using hn)
end Go.Proofs.Ytifhgfjohpbliaa.GivenV
