/- The walk of the law DevNil. -/
import Derived.Test.YtobhnababkpcbaaDevS
set_option linter.unusedVariables false
set_option linter.unusedSimpArgs false
namespace Go.Proofs.Ytobhnababkpcbaa.Dev
open Go.RowKit Go.Proofs.YtobhnababkpcbaaW.PrintWords Go.Proofs.YtobhnababkpcbaaW.PrintLast Go.Proofs.YtobhnababkpcbaaW.PrintMore Go.Proofs.Ytobhnababkpcbaa.Maps Go.Proofs.Ytobhnababkpcbaa.DevS Go.Proofs.Ytobhnababkpcbaa.Given
set_option maxRecDepth 100000 in
theorem read_nil (w : World) (a : Int) : Calls Try.prog 13 #[.pointer none, .int .i64 a] w fun e w' => e = .returned (.tuple #[.string ⟨#[]⟩, .int .i64 6]) ∧ w' = w := by
  have hup := Try.underlying24
  by_cases h1 : a < 0
  · have b1 : decide (a < 0) = true := decide_eq_true h1
    go_enter Try.func13, Try.ntmps13
    go_wp2_with fail
    go_ret2
    exact ⟨rfl, rfl⟩
  · have b1 : decide (a < 0) = false := decide_eq_false h1
    have b2 : decide (a ≥ 0) = true := decide_eq_true (by omega)
    go_enter Try.func13, Try.ntmps13
    go_wp2_with fail
    refine (blocks_nil w).mono ?_
    rintro e w1 ⟨rfl, rfl⟩
    go_wp2_with fail
    go_ret2
    exact ⟨rfl, rfl⟩
set_option maxRecDepth 100000 in
theorem lasts_nil (w : World) (a : Int) : Calls Try.prog 14 #[.pointer none, .int .i64 a] w fun e w' => e = .returned (.tuple #[.string ⟨#[]⟩, .int .i64 6]) ∧ w' = w := by
  have hup := Try.underlying24
  by_cases h1 : a < 0
  · have b1 : decide (a < 0) = true := decide_eq_true h1
    go_enter Try.func14, Try.ntmps14
    go_wp2_with fail
    go_ret2
    exact ⟨rfl, rfl⟩
  · have b1 : decide (a < 0) = false := decide_eq_false h1
    have b2 : decide (a ≥ 0) = true := decide_eq_true (by omega)
    go_enter Try.func14, Try.ntmps14
    go_wp2_with fail
    refine (blocks_nil w).mono ?_
    rintro e w1 ⟨rfl, rfl⟩
    go_wp2_with fail
    go_ret2
    exact ⟨rfl, rfl⟩
theorem not_form_nil : ¬ formOk ⟨#[]⟩ := fun h => h.1 rfl
theorem form_block (c : Int) : formOk (blockB c) := by unfold formOk; rw [blockB_size]; decide
theorem not_place_block (c a : Int) : ¬ placeOk 0 a (blockB c) := by unfold placeOk; rw [blockB_size]; omega
end Go.Proofs.Ytobhnababkpcbaa.Dev
namespace Go.Proofs.Ytobhnababkpcbaa.Core
open Go.RowKit Go.Proofs.YtobhnababkpcbaaW.PrintWords Go.Proofs.YtobhnababkpcbaaW.PrintLast Go.Proofs.YtobhnababkpcbaaW.PrintMore Go.Proofs.Ytobhnababkpcbaa.Maps Go.Proofs.Ytobhnababkpcbaa.DevS Go.Proofs.Ytobhnababkpcbaa.Given Go.Proofs.Ytobhnababkpcbaa.Dev
/-- What a crash of a nil device answers. -/
theorem crash_nil_any (torn : Int) (w : World) : ∃ r : Int, (r == 0) = (decide (torn ≥ 0) && decide (torn ≤ 1024)) ∧ Calls Try.prog 12 #[.pointer none, .slice none 0 0, .int .i64 torn] w fun e w' => e = .returned (.int .i64 r) ∧ w' = w := by
  by_cases h : torn < 0 ∨ 1024 < torn
  · refine ⟨1, ?_, crash_arg _ _ w h⟩
    rcases h with h | h
    · rw [decide_eq_false (show ¬ torn ≥ 0 by omega)]; rfl
    · rw [decide_eq_false (show ¬ torn ≤ 1024 by omega), Bool.and_false]; rfl
  · refine ⟨0, ?_, crash_nil _ w (by omega) (by omega)⟩
    rw [decide_eq_true (show torn ≥ 0 by omega), decide_eq_true (show torn ≤ 1024 by omega)]; rfl
set_option maxHeartbeats 3200000 in
set_option maxRecDepth 100000 in
theorem DevNil (w : World) (a : Int) (ha : (Lit.int .i64 a).wf = true) (torn : Int) (ht : (Lit.int .i64 torn).wf = true) :
    Calls Try.prog 6 #[.int .i64 a, .int .i64 torn] w fun e w' => e = .returned (.bool true) ∧ Below w.heap.size w w' := by
  clear ha ht
  have HB := Aside0.mk (fun W => block_any 1 W)
  have HF := Aside0.mk (form_block 1)
  have HP := Aside0.mk (not_place_block 1 a)
  have HZ := Aside0.mk (blockB_size 1)
  generalize blockB 1 = bb at HB HF HP HZ
  have HC := Aside0.mk (crash_nil_any torn)
  go_enter Try.func6, Try.ntmps6
  go_wp2_with fail
  refine (read_nil _ a).mono ?_
  rintro e w1 ⟨rfl, rfl⟩
  go_wp2_with fail
  refine (lasts_nil _ a).mono ?_
  rintro e w2 ⟨rfl, rfl⟩
  go_wp2_with fail
  refine (flush_nil _).mono ?_
  rintro e w3 ⟨rfl, rfl⟩
  go_wp2_with fail
  refine (write_form (.pointer none) _ a ⟨#[]⟩ (by show 0 ≤ 1048576; omega) not_form_nil).mono ?_
  rintro e w4 ⟨rfl, hb4⟩
  have B4 := Aside0.mk hb4
  clear hb4
  go_wp2_with fail
  refine (HB.out _).mono ?_
  rintro e w5 ⟨rfl, hb5⟩
  have B5 := Aside0.mk (B4.out.trans (hb5.mono B4.out.size))
  clear hb5
  go_wp2_with fail
  refine (write_place (.pointer none) 0 _ a bb (blocks_nil _) (by omega) (by rw [HZ.out]; omega) HF.out HP.out).mono ?_
  rintro e w6 ⟨rfl, hb6⟩
  have B6 := Aside0.mk (B5.out.trans (hb6.mono B5.out.size))
  clear hb6
  go_wp2_with fail
  refine (waits_nil _).mono ?_
  rintro e w7 ⟨rfl, rfl⟩
  go_wp2_with fail
  refine (blocks_nil _).mono ?_
  rintro e w8 ⟨rfl, rfl⟩
  go_wp2_with fail
  obtain ⟨r, hr, hC⟩ := HC.out w8
  refine hC.mono ?_
  rintro e w9 ⟨rfl, rfl⟩
  clear hC
  rcases Bool.eq_false_or_eq_true (decide (torn ≥ 0)) with t1 | t1 <;> rcases Bool.eq_false_or_eq_true (decide (torn ≤ 1024)) with t2 | t2
  all_goals
    rw [t1, t2] at hr
    simp only [Bool.and_true, Bool.and_false, Bool.true_and, Bool.false_and] at hr
    go_wp2_with fail
    refine (speaks_calls _).mono ?_
    rintro e w10 ⟨rfl, hb10⟩
    have B10 := Aside0.mk (B6.out.trans (hb10.mono B6.out.size))
    clear hb10
    go_wp2_with fail
    go_ret
    exact ⟨rfl, B10.out⟩
end Go.Proofs.Ytobhnababkpcbaa.Core
