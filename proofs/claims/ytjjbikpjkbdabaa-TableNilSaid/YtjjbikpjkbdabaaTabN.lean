/- A table that is nil: what its functions do. -/
import Derived.Test.YtjjbikpjkbdabaaTabS
set_option linter.unusedVariables false
set_option linter.unusedSimpArgs false
namespace Go.Proofs.Ytjjbikpjkbdabaa.Tab
open Go.RowKit Go.Proofs.YtjjbikpjkbdabaaW.PrintWords Go.Proofs.YtjjbikpjkbdabaaW.PrintLast Go.Proofs.YtjjbikpjkbdabaaW.PrintMore Go.Proofs.Ytjjbikpjkbdabaa.Maps Go.Proofs.Ytjjbikpjkbdabaa.TabS

section
variable {B : Nat} {c r : Int} {w : World} {x : Res} {A : Option Addr} {cx : Nat}
set_option maxRecDepth 100000 in
theorem nil_at (c : Int) (w : World) : Calls Try.prog 20 #[.pointer none, .int .i64 c] w fun e w' => e = .returned (.pointer none) ∧ w' = w := by
  have hu := Try.underlying23
  go_enter Try.func20, Try.ntmps20
  go_wp2_with fail
  go_ret
  exact ⟨rfl, rfl⟩
set_option maxHeartbeats 800000 in
set_option maxRecDepth 100000 in
theorem nil_ask_wrong (B : Nat) (hw : wrong c r = true) : Calls Try.prog 11 #[.pointer none, .int .i64 c, .int .i64 r] w (AskPost B w (0, zero, 1)) := by
  have hu := Try.underlying29
  go_enter Try.func11, Try.ntmps11
  go_wp2_with fail
  refine (nil_at c _).mono ?_
  rintro e w1 ⟨rfl, rfl⟩
  go_wp2_with fail
  refine (wrong_calls c r _).mono ?_
  rintro e w1 ⟨rfl, rfl⟩
  rw [hw]
  go_wp2_with fail
  exact bodyPost_ret (v := .tuple #[.int .i64 0, vres zero none 0, .int .i64 1]) (by simp [results, Try.results11, go_sem, vres, zero]; rfl) rfl ⟨none, 0, rfl, Names.nil _ _, below_alloc (Below.refl _ _) _⟩
set_option maxHeartbeats 800000 in
set_option maxRecDepth 100000 in
theorem nil_ask (B : Nat) (hw : wrong c r = false) : Calls Try.prog 11 #[.pointer none, .int .i64 c, .int .i64 r] w (AskPost B w (1, zero, 0)) := by
  have hu := Try.underlying29
  have hup := Try.underlying61
  have hus := Try.underlying64
  go_enter Try.func11, Try.ntmps11
  go_wp2_with fail
  refine (nil_at c _).mono ?_
  rintro e w1 ⟨rfl, rfl⟩
  go_wp2_with fail
  refine (wrong_calls c r _).mono ?_
  rintro e w1 ⟨rfl, rfl⟩
  rw [hw]
  go_wp2_with fail
  exact bodyPost_ret (v := .tuple #[.int .i64 1, vres zero none 0, .int .i64 0]) (by simp [results, Try.results11, go_sem, vres, zero]; rfl) rfl ⟨none, 0, rfl, Names.nil _ _, below_alloc (Below.refl _ _) _⟩
set_option maxHeartbeats 800000 in
set_option maxRecDepth 100000 in
theorem nil_last : Calls Try.prog 13 #[.pointer none, .int .i64 c] w fun e w' => e = .returned (.tuple #[.int .i64 0, .bool false]) ∧ w' = w := by
  have hup := Try.underlying61
  have hus := Try.underlying64
  go_enter Try.func13, Try.ntmps13
  go_wp2_with fail
  refine (nil_at c _).mono ?_
  rintro e w1 ⟨rfl, rfl⟩
  go_wp2_with fail
  go_ret2
  exact ⟨rfl, rfl⟩
set_option maxHeartbeats 2000000 in
set_option maxRecDepth 100000 in
theorem nil_begin_wrong (hw : wrong c r = true) : Calls Try.prog 9 #[.pointer none, .int .i64 c, .int .i64 r] w fun e w' => e = .returned (.int .i64 1) ∧ Below w.heap.size w w' := by
  have hu := Try.underlying29
  have hut := Try.underlying23
  go_enter Try.func9, Try.ntmps9
  go_wp2_with fail
  refine (nil_ask_wrong 0 hw).mono ?_
  rintro e w1 ⟨A, c', rfl, hn, hb⟩
  dsimp only
  unfold vres
  have P3 := Aside0.mk hb
  clear hn hb
  go_wp2_with fail
  go_ret
  exact ⟨rfl, below_alloc P3.out _⟩
set_option maxHeartbeats 2000000 in
set_option maxRecDepth 100000 in
theorem nil_begin (hw : wrong c r = false) : Calls Try.prog 9 #[.pointer none, .int .i64 c, .int .i64 r] w fun e w' => e = .returned (.int .i64 5) ∧ Below w.heap.size w w' := by
  have hu := Try.underlying29
  have hut := Try.underlying23
  go_enter Try.func9, Try.ntmps9
  go_wp2_with fail
  refine (nil_ask 0 hw).mono ?_
  rintro e w1 ⟨A, c', rfl, hn, hb⟩
  dsimp only
  unfold vres
  have P3 := Aside0.mk hb
  clear hn hb
  go_wp2_with fail
  go_ret
  exact ⟨rfl, below_alloc P3.out _⟩
set_option maxHeartbeats 2000000 in
set_option maxRecDepth 100000 in
theorem nil_done_wrong (hw : wrong c r = true) : Calls Try.prog 10 #[.pointer none, .int .i64 c, .int .i64 r, vres x A cx] w fun e w' => e = .returned (.int .i64 1) ∧ Below w.heap.size w w' := by
  have hu := Try.underlying29
  have hup := Try.underlying61
  have hus := Try.underlying64
  unfold vres
  go_enter Try.func10, Try.ntmps10
  go_wp2_with fail
  refine (nil_at c _).mono ?_
  rintro e w1 ⟨rfl, rfl⟩
  go_wp2_with fail
  refine (wrong_calls c r _).mono ?_
  rintro e w1 ⟨rfl, rfl⟩
  rw [hw]
  go_wp2_with fail
  go_ret
  exact ⟨rfl, below_alloc (Below.refl _ _) _⟩
set_option maxHeartbeats 2000000 in
set_option maxRecDepth 100000 in
theorem nil_done (hw : wrong c r = false) : Calls Try.prog 10 #[.pointer none, .int .i64 c, .int .i64 r, vres x A cx] w fun e w' => e = .returned (.int .i64 6) ∧ Below w.heap.size w w' := by
  have hu := Try.underlying29
  have hup := Try.underlying61
  have hus := Try.underlying64
  unfold vres
  go_enter Try.func10, Try.ntmps10
  go_wp2_with fail
  refine (nil_at c _).mono ?_
  rintro e w1 ⟨rfl, rfl⟩
  go_wp2_with fail
  refine (wrong_calls c r _).mono ?_
  rintro e w1 ⟨rfl, rfl⟩
  rw [hw]
  go_wp2_with fail
  go_ret
  exact ⟨rfl, below_alloc (Below.refl _ _) _⟩
set_option maxRecDepth 100000 in
theorem nil_clients : Calls Try.prog 18 #[.pointer none] w fun e w' => e = .returned (.slice none 0 0) ∧ w' = w := by
  have hut := Try.underlying23
  go_enter Try.func18, Try.ntmps18
  go_wp2_with fail
  go_ret
  exact ⟨rfl, rfl⟩
set_option maxRecDepth 100000 in
theorem refwrong_calls (c r : Int) (w : World) : Calls Try.prog 19 #[.int .i64 c, .int .i64 r] w fun e w' => e = .returned (.bool (wrong c r)) ∧ w' = w := by
  unfold wrong
  by_cases h1 : c < 0
  · rw [if_pos h1]
    have b1 : decide (c < 0) = true := decide_eq_true h1
    clear h1
    go_enter Try.func19, Try.ntmps19
    go_wp2
    go_ret
    exact ⟨rfl, rfl⟩
  rw [if_neg h1]
  have b1 : decide (c < 0) = false := decide_eq_false h1
  clear h1
  by_cases h2 : c > 1099511627776
  · rw [if_pos h2]
    have b2 : decide (1099511627776 < c) = true := decide_eq_true h2
    clear h2
    go_enter Try.func19, Try.ntmps19
    go_wp2
    go_ret
    exact ⟨rfl, rfl⟩
  rw [if_neg h2]
  have b2 : decide (1099511627776 < c) = false := decide_eq_false h2
  clear h2
  by_cases h3 : r < 1
  · rw [if_pos h3]
    have b3 : decide (r < 1) = true := decide_eq_true h3
    clear h3
    go_enter Try.func19, Try.ntmps19
    go_wp2
    go_ret
    exact ⟨rfl, rfl⟩
  rw [if_neg h3]
  have b3 : decide (r < 1) = false := decide_eq_false h3
  clear h3
  go_enter Try.func19, Try.ntmps19
  go_wp2
  go_ret
  exact ⟨rfl, rfl⟩
end
end Go.Proofs.Ytjjbikpjkbdabaa.Tab
