/- The walk of the law CacheNil. -/
import Derived.Test.YtikefafpkclgeaaCacheV
set_option linter.unusedVariables false
set_option linter.unusedSimpArgs false
namespace Go.Proofs.Ytikefafpkclgeaa.Core
open Go.RowKit Go.Proofs.YtikefafpkclgeaaW.PrintWords Go.Proofs.YtikefafpkclgeaaW.PrintLast Go.Proofs.YtikefafpkclgeaaW.PrintMore Go.Proofs.Ytikefafpkclgeaa.Maps Go.Proofs.Ytikefafpkclgeaa.CacheS Go.Proofs.Ytikefafpkclgeaa.Cache
set_option maxHeartbeats 1600000 in
set_option maxRecDepth 100000 in
theorem load_nil (k : Int) (d : ByteArray) (w : World) : Calls Try.prog 10 #[.pointer none, .int .i64 k, .string d] w fun e w' => e = .returned (.tuple #[.int .i64 0, .int .i64 (if rightS k d = true then 5 else 1)]) ∧ Below w.heap.size w w' := by
  have hpp := Try.underlying23
  have HB := Aside0.mk (below_alloc (Below.refl w.heap.size w) (.cells #[.pointer none] 23))
  have c0 := (blk_cell (blk_new w (.cells #[.pointer none] 23)) 0).trans (Eq.refl (some (Value.pointer none)))
  have hR := Aside0.mk (right_calls k d)
  rcases Bool.eq_false_or_eq_true (rightS k d) with hr | hr
  all_goals
    rw [hr] at hR ⊢
    clear hr
    go_enter Try.func10, Try.ntmps10
    go_wp2_with fail
    refine (hR.out _).mono ?_
    rintro x w1 ⟨rfl, rfl⟩
    go_wp2_with fail
    go_ret2
    exact ⟨by simp, HB.out⟩
set_option maxHeartbeats 1600000 in
set_option maxRecDepth 100000 in
theorem look_nil (k : Int) (w : World) : Calls Try.prog 14 #[.pointer none, .int .i64 k] w fun e w' => e = .returned (.tuple #[.string zs, .bool false]) ∧ Below w.heap.size w w' := by
  have hpf := Try.underlying59
  go_enter Try.func14, Try.ntmps14
  go_wp2_with fail
  refine (at_nil k w).mono ?_
  rintro x w1 ⟨rfl, rfl⟩
  go_wp2_with fail
  go_ret2
  exact ⟨rfl, Below.refl _ _⟩
set_option maxHeartbeats 1600000 in
set_option maxRecDepth 100000 in
theorem store_nil (k : Int) (d : ByteArray) (w : World) : Calls Try.prog 11 #[.pointer none, .int .i64 k, .string d] w fun e w' => e = .returned (.int .i64 (if rightS k d = true then 6 else 1)) ∧ Below w.heap.size w w' := by
  have hpf := Try.underlying59
  have hR := Aside0.mk (right_calls k d)
  rcases Bool.eq_false_or_eq_true (rightS k d) with hr | hr
  all_goals
    rw [hr] at hR ⊢
    clear hr
    go_enter Try.func11, Try.ntmps11
    go_wp2_with fail
    refine (at_nil k w).mono ?_
    rintro x w1 ⟨rfl, rfl⟩
    go_wp2_with fail
    refine (hR.out _).mono ?_
    rintro x w1 ⟨rfl, rfl⟩
    go_wp2_with fail
    go_ret
    exact ⟨by simp, Below.refl _ _⟩
set_option maxHeartbeats 1600000 in
set_option maxRecDepth 100000 in
theorem pin_nil (k : Int) (w : World) : Calls Try.prog 22 #[.pointer none, .int .i64 k] w fun e w' => e = .returned (.int .i64 6) ∧ Below w.heap.size w w' := by
  have hpf := Try.underlying59
  go_enter Try.func22, Try.ntmps22
  go_wp2_with fail
  refine (at_nil k w).mono ?_
  rintro x w1 ⟨rfl, rfl⟩
  go_wp2_with fail
  go_ret
  exact ⟨rfl, Below.refl _ _⟩
set_option maxHeartbeats 1600000 in
set_option maxRecDepth 100000 in
theorem unpin_nil (k : Int) (w : World) : Calls Try.prog 23 #[.pointer none, .int .i64 k] w fun e w' => e = .returned (.int .i64 6) ∧ Below w.heap.size w w' := by
  have hpf := Try.underlying59
  go_enter Try.func23, Try.ntmps23
  go_wp2_with fail
  refine (at_nil k w).mono ?_
  rintro x w1 ⟨rfl, rfl⟩
  go_wp2_with fail
  go_ret
  exact ⟨rfl, Below.refl _ _⟩
set_option maxHeartbeats 12800000 in
set_option maxRecDepth 100000 in
theorem CacheNil (W : World) (n : Int) (hn : (Lit.int .i64 n).wf = true) (d : ByteArray) (hd : d.size ≤ 140737488351232) :
    Calls Try.prog 7 #[.int .i64 n, .string d] W fun e w' => e = .returned (.bool true) ∧ Below W.heap.size W w' := by
  clear hn hd
  have hup := Try.underlying23
  have hcase : (rightS n d = true ∧ decide (n < 0) = false ∧ decide (n > 1023) = false ∧ ((d.size : Int) != 128) = false) ∨ (rightS n d = false ∧ (decide (n < 0) = true ∨ (decide (n < 0) = false ∧ decide (n > 1023) = true) ∨ (decide (n < 0) = false ∧ decide (n > 1023) = false ∧ ((d.size : Int) != 128) = true))) := by
    unfold rightS
    by_cases h1 : n < 0
    · exact .inr ⟨by rw [decide_eq_false (by omega)]; rfl, .inl (decide_eq_true h1)⟩
    · by_cases h2 : n > 1023
      · exact .inr ⟨by rw [decide_eq_false (show ¬ n < 1024 by omega), Bool.and_false]; rfl, .inr (.inl ⟨decide_eq_false h1, decide_eq_true h2⟩)⟩
      · by_cases h3 : d.size = 128
        · exact .inl ⟨by rw [decide_eq_true (show 0 ≤ n by omega), decide_eq_true (show n < 1024 by omega), decide_eq_true h3]; rfl, decide_eq_false h1, decide_eq_false h2, by simp [h3]⟩
        · exact .inr ⟨by rw [decide_eq_false h3, Bool.and_false], .inr (.inr ⟨decide_eq_false h1, decide_eq_false h2, by simp; omega⟩)⟩
  have HL := Aside0.mk (load_nil n d)
  have HSt := Aside0.mk (store_nil n d)
  have key : ∀ (r : Bool), rightS n d = r → (r = true ∧ decide (n < 0) = false ∧ decide (n > 1023) = false ∧ ((d.size : Int) != 128) = false) ∨ (r = false ∧ (decide (n < 0) = true ∨ (decide (n < 0) = false ∧ decide (n > 1023) = true) ∨ (decide (n < 0) = false ∧ decide (n > 1023) = false ∧ ((d.size : Int) != 128) = true))) := fun r hr => by rw [← hr]; exact hcase
  clear hcase
  generalize hrr : rightS n d = r at HL HSt
  have hcase := key r hrr
  clear key hrr
  rcases hcase with ⟨rfl, h1, h2, h3⟩ | ⟨rfl, h1 | ⟨h1, h2⟩ | ⟨h1, h2, h3⟩⟩
  all_goals
    go_enter Try.func7, Try.ntmps7
    go_wp2_with fail
    refine (HL.out _).mono ?_
    rintro x w1 ⟨rfl, hb⟩
    have B1 := Aside0.mk hb
    clear hb
    go_wp2_with fail
    refine (look_nil n _).mono ?_
    rintro x w2 ⟨rfl, hb⟩
    have B2 := Aside0.mk (B1.out.trans (hb.mono B1.out.size))
    clear hb
    go_wp2_with fail
    refine (HSt.out _).mono ?_
    rintro x w3 ⟨rfl, hb⟩
    have B3 := Aside0.mk (B2.out.trans (hb.mono B2.out.size))
    clear hb
    go_wp2_with fail
    refine (pin_nil n _).mono ?_
    rintro x w4 ⟨rfl, hb⟩
    have B4 := Aside0.mk (B3.out.trans (hb.mono B3.out.size))
    clear hb
    go_wp2_with fail
    refine (unpin_nil n _).mono ?_
    rintro x w5 ⟨rfl, hb⟩
    have B5 := Aside0.mk (B4.out.trans (hb.mono B4.out.size))
    clear hb
    go_wp2_with fail
    refine (held_nil _).mono ?_
    rintro x w6 ⟨rfl, hb⟩
    have B6 := Aside0.mk (B5.out.trans (hb.mono B5.out.size))
    clear hb
    go_wp2_with fail
    refine (dirty_nil _).mono ?_
    rintro x w7 ⟨rfl, hb⟩
    have B7 := Aside0.mk (B6.out.trans (hb.mono B6.out.size))
    clear hb
    go_wp2_with fail
    refine (take_nil _).mono ?_
    rintro x w8 ⟨v, rfl, ⟨A, c, rfl⟩, hb⟩
    have B8 := Aside0.mk (B7.out.trans (hb.mono B7.out.size))
    clear hb
    go_wp2_with fail
    refine (speaks_calls _).mono ?_
    rintro x w9 ⟨rfl, hb⟩
    have B9 := Aside0.mk (B8.out.trans (hb.mono B8.out.size))
    clear hb
    go_wp2_with fail
    go_ret
    exact ⟨rfl, B9.out⟩
end Go.Proofs.Ytikefafpkclgeaa.Core
