/- A device in memory: New, Write. -/
import Derived.Test.YtobhnababkpcbaaDevR
import Derived.Deep.RegionHeld3
import Derived.Lib.Strings
set_option linter.unusedVariables false
set_option linter.unusedSimpArgs false
namespace Go.Proofs.Ytobhnababkpcbaa.Dev
open Go.RowKit Go.Proofs.YtobhnababkpcbaaW.PrintWords Go.Proofs.YtobhnababkpcbaaW.PrintLast Go.Proofs.YtobhnababkpcbaaW.PrintMore Go.Proofs.Ytobhnababkpcbaa.Maps Go.Proofs.Ytobhnababkpcbaa.DevS Go.Proofs.Ytobhnababkpcbaa.Given

theorem make_map (W : World) : (Instr.makeMap 53 none).run Try.prog W = .ok (.map (some W.heap.size)) (W.alloc (.map #[] 0)) := by
  simp [Instr.makeMap, go_sem]
set_option maxHeartbeats 800000 in
set_option maxRecDepth 100000 in
theorem new_no (n : Int) (w : World) (h : n < 1 ∨ 1024 < n) : Calls Try.prog 8 #[.int .i64 n] w fun e w' => e = .returned (.tuple #[.pointer none, .int .i64 1]) ∧ Below w.heap.size w w' := by
  by_cases h1 : n < 1
  · have b1 : decide (n < 1) = true := decide_eq_true h1
    go_enter Try.func8, Try.ntmps8
    go_wp2
    go_ret2
    exact ⟨rfl, Below.refl _ _⟩
  · have b1 : decide (n < 1) = false := decide_eq_false h1
    have b2 : decide (n > 1024) = true := decide_eq_true (by omega)
    go_enter Try.func8, Try.ntmps8
    go_wp2
    go_ret2
    exact ⟨rfl, Below.refl _ _⟩
theorem new_is (B n : Nat) (w : World) (hB : B ≤ w.heap.size) (h2 : n ≤ 1024) : DevIs B (((w.alloc (.map #[] 0)).alloc (.map #[] 0)).alloc (.cells #[.int .i64 n, .map (some w.heap.size), .map (some (w.heap.size + 1)), .slice none 0 0] 56)) (w.heap.size + 1 + 1) w.heap.size (w.heap.size + 1) (.slice none 0 0) (dNew n) := by
  have s1 : (w.alloc (.map #[] 0)).heap.size = w.heap.size + 1 := by simp
  have s2 : ((w.alloc (.map #[] 0)).alloc (.map #[] 0)).heap.size = w.heap.size + 1 + 1 := by simp
  have m1 : MapF (w.alloc (.map #[] 0)) kp w.heap.size (fun _ => none) := MapF.made w
  have m2 : MapF ((w.alloc (.map #[] 0)).alloc (.map #[] 0)) kp (w.heap.size + 1) (fun _ => none) := by have := MapF.made (kv := kp) (w.alloc (.map #[] 0)); rwa [s1] at this
  refine ⟨?_, own_nil _ _ _ _, ?_, ?_, by omega, hB, by omega, by omega, wf_new h2⟩
  · have := heap_alloc_new ((w.alloc (.map #[] 0)).alloc (.map #[] 0)) (.cells #[.int .i64 n, .map (some w.heap.size), .map (some (w.heap.size + 1)), .slice none 0 0] 56)
    rwa [s2] at this
  · exact (m1.of_block (Below.heap_alloc _ _ _ (by rw [s1]; omega))).of_block (Below.heap_alloc _ _ _ (by rw [s2]; omega))
  · exact m2.of_block (Below.heap_alloc _ _ _ (by rw [s2]; omega))
set_option maxHeartbeats 800000 in
set_option maxRecDepth 100000 in
theorem new_yes (B n : Nat) (w : World) (hB : B ≤ w.heap.size) (h1 : 1 ≤ n) (h2 : n ≤ 1024) : Calls Try.prog 8 #[.int .i64 n] w fun e w' => ∃ db lb sb, e = .returned (.tuple #[ptr db, .int .i64 0]) ∧ DevIs B w' db lb sb (.slice none 0 0) (dNew n) ∧ Below w.heap.size w w' ∧ w.heap.size ≤ db ∧ w.heap.size ≤ lb ∧ w.heap.size ≤ sb := by
  have b1 : decide ((n : Int) < 1) = false := decide_eq_false (by omega)
  have b2 : decide ((n : Int) > 1024) = false := decide_eq_false (by omega)
  have hu := Try.underlying56
  have hmk := make_map
  go_enter Try.func8, Try.ntmps8
  go_wp2
  go_ret2
  refine ⟨w.heap.size + 1 + 1, w.heap.size, w.heap.size + 1, rfl, new_is B n w hB h2, ?_, by omega, by omega, by omega⟩
  exact below_alloc (below_alloc (below_alloc (Below.refl _ _) _) _) _

theorem vs_none : vs (fun _ => none) = fun _ => none := rfl
theorem sz_ne {s : ByteArray} (h : s.size ≠ 0) : (s.toList == ([] : List UInt8)) = false := by
  rw [Go.Lib.toList_data]
  have : s.data.toList ≠ [] := fun e => h (by show s.data.size = 0; rw [← Array.length_toList, e]; rfl)
  simpa using this
theorem sz_eq {s : ByteArray} (h : s.size = 0) : (s.toList == ([] : List UInt8)) = true := by
  rw [Go.Lib.toList_data]
  have : s.data.toList = [] := List.eq_nil_of_length_eq_zero (by rw [Array.length_toList]; exact h)
  simpa using this
section
variable {B db lb sb : Nat} {v : Value} {d : D} {w w' : World} {a : Int} {s : ByteArray}
set_option maxHeartbeats 800000 in
set_option maxRecDepth 100000 in
theorem write_form (r : Value) (w : World) (a : Int) (s : ByteArray) (hs : s.size ≤ 1048576) (h : ¬ formOk s) : Calls Try.prog 10 #[r, .int .i64 a, .string s] w fun e w' => e = .returned (.int .i64 4) ∧ Below w.heap.size w w' := by
  by_cases h1 : s.size = 0
  · have b1 := sz_eq h1
    clear h
    go_enter Try.func10, Try.ntmps10
    go_wp2_with fail
    go_ret
    exact ⟨rfl, Below.refl _ _⟩
  · have b1 := sz_ne h1
    have h2 : s.size % 128 ≠ 0 := fun e => h ⟨h1, e⟩
    have b2 : ((s.size : Int) % 128 != 0) = true := by
      have : (s.size : Int) % 128 ≠ 0 := by omega
      simpa using this
    clear h
    go_enter Try.func10, Try.ntmps10
    go_wp2_with fail
    go_ret
    exact ⟨rfl, Below.refl _ _⟩
set_option maxHeartbeats 1600000 in
set_option maxRecDepth 100000 in
theorem write_place (r : Value) (n : Nat) (w : World) (a : Int) (s : ByteArray) (hr : Calls Try.prog 22 #[r] w fun e w' => e = .returned (.int .i64 n) ∧ w' = w) (hn : n ≤ 1024) (hs : s.size ≤ 1048576) (hf : formOk s) (h : ¬ placeOk n a s) : Calls Try.prog 10 #[r, .int .i64 a, .string s] w fun e w' => e = .returned (.int .i64 6) ∧ Below w.heap.size w w' := by
  have b0 := sz_ne hf.1
  have b1 : ((s.size : Int) % 128 != 0) = false := by
    have h2 := hf.2
    have : (s.size : Int) % 128 = 0 := by omega
    simpa using this
  obtain ⟨m, hm⟩ : ∃ m : Nat, m = s.size / 128 := ⟨_, rfl⟩
  have HmI : Aside0 ((s.size : Int) / 128 = (m : Int)) := ⟨by omega⟩
  have HQ := Aside0.mk hr
  clear hr
  unfold placeOk at h
  rw [← hm] at h
  clear hm
  clear hf
  by_cases h1 : a < 0
  · have c1 : decide (a < 0) = true := decide_eq_true h1
    clear h
    go_enter Try.func10, Try.ntmps10
    go_wp2_with fail
    go_ret
    exact ⟨rfl, Below.refl _ _⟩
  · have c1 : decide (a < 0) = false := decide_eq_false h1
    by_cases h2 : (m : Int) > (n : Int)
    · have c2 : decide ((m : Int) > (n : Int)) = true := decide_eq_true h2
      clear h
      go_enter Try.func10, Try.ntmps10
      go_wp2_with fail
      rw [HmI.out]
      refine HQ.out.mono ?_
      rintro e w1 ⟨rfl, rfl⟩
      go_wp2_with fail
      go_ret
      exact ⟨rfl, Below.refl _ _⟩
    · have c2 : decide ((m : Int) > (n : Int)) = false := decide_eq_false h2
      have w1 : IntKind.i64.wrap ((n : Int) - (m : Int)) = (n : Int) - (m : Int) := IntWalk.i64_in _ (by omega)
      have c3 : decide (a > (n : Int) - (m : Int)) = true := decide_eq_true (by omega)
      clear h
      go_enter Try.func10, Try.ntmps10
      go_wp2_with fail
      rw [HmI.out]
      refine HQ.out.mono ?_
      rintro e w1 ⟨rfl, rfl⟩
      go_wp2_with fail
      refine HQ.out.mono ?_
      rintro e w1 ⟨rfl, rfl⟩
      go_wp2_with fail
      go_ret
      exact ⟨rfl, Below.refl _ _⟩
end
end Go.Proofs.Ytobhnababkpcbaa.Dev
