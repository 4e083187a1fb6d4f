/- The nil bag. -/
import Derived.Test.YtmledapichlhdaaBagD
set_option linter.unusedVariables false
set_option linter.unusedSimpArgs false
namespace Go.Proofs.Ytmledapichlhdaa.Bag
open Go.RowKit Go.Proofs.YtmledapichlhdaaW.PrintWords Go.Proofs.YtmledapichlhdaaW.PrintLast Go.Proofs.YtmledapichlhdaaW.PrintMore Go.Proofs.Ytmledapichlhdaa.Maps Go.Proofs.Ytmledapichlhdaa.BagS
set_option maxRecDepth 100000 in
theorem node_nil (w : World) (g : Nat) (i : Int) (hg : w.cell? ⟨g, 0, none⟩ = some (.pointer none)) : Calls Try.prog 25 #[.int .i64 i, .pointer (some ⟨g, 0, none⟩)] w fun e w' => e = .returned (.bool false) ∧ w' = w := by
  have hup := Try.underlying23
  have hu := Try.underlying61
  go_enter Try.func25, Try.ntmps25
  go_wp2_with fail
  go_ret
  exact ⟨rfl, rfl⟩
set_option maxHeartbeats 1600000 in
set_option maxRecDepth 100000 in
theorem put_nil (w : World) (m : Msg) : Calls Try.prog 10 #[.pointer none, mv m] w fun e w' => e = .returned (.int .i64 1) ∧ Below w.heap.size w w' := by
  have hup := Try.underlying23
  have hu := Try.underlying61
  have hum := Try.underlying30
  have hb1 := below_alloc (Below.refl w.heap.size w) (.cells #[.pointer none] 23)
  have hb2 := hb1.trans ((below_alloc (Below.refl _ (w.alloc (.cells #[.pointer none] 23))) (.cells #[.int .i64 m.1, .int .i64 m.2.1, .string m.2.2] 30)).mono hb1.size)
  obtain ⟨W2, hW2⟩ : ∃ W2, W2 = (w.alloc (.cells #[.pointer none] 23)).alloc (.cells #[.int .i64 m.1, .int .i64 m.2.1, .string m.2.2] 30) := ⟨_, rfl⟩
  have P1 : W2.heap[w.heap.size]? = some (.cells #[.pointer none] 23 (0, 0)) := by rw [hW2]; exact blk_alloc (blk_new w _) _
  have P2 : W2.heap[w.heap.size + 1]? = some (.cells #[.int .i64 m.1, .int .i64 m.2.1, .string m.2.2] 30 (0, 0)) := by
    rw [hW2]
    have := blk_new (w.alloc (.cells #[.pointer none] 23)) (.cells #[.int .i64 m.1, .int .i64 m.2.1, .string m.2.2] 30)
    simpa using this
  rw [← hW2] at hb2
  have g0 : W2.cell? ⟨w.heap.size, 0, none⟩ = some (.pointer none) := (blk_cell P1 0).trans rfl
  have HN := Aside0.mk (node_nil W2 w.heap.size m.1 g0)
  have HB2 := Aside0.mk hb2
  have d0 := (blk_cell P2 0).trans (Eq.refl (some (Value.int .i64 m.1)))
  have d1 := (blk_cell P2 1).trans (Eq.refl (some (Value.int .i64 m.2.1)))
  have d2 := (blk_cell P2 2).trans (Eq.refl (some (Value.string m.2.2)))
  unfold mv at *
  clear hb1 hb2 P1 P2
  go_enter Try.func10, Try.ntmps10
  go_upto_region 2 with fail
  rw [← hW2]
  clear hW2
  go_wp2_with fail
  refine HN.out.mono ?_
  rintro e w3 ⟨rfl, rfl⟩
  go_wp2_with fail
  go_ret
  exact ⟨rfl, HB2.out⟩
set_option maxRecDepth 100000 in
theorem list_nil (w : World) : Calls Try.prog 11 #[.pointer none] w fun e w' => e = .returned (.slice none 0 0) ∧ w' = w := by
  have hup := Try.underlying23
  go_enter Try.func11, Try.ntmps11
  go_wp2_with fail
  go_ret
  exact ⟨rfl, rfl⟩
set_option maxRecDepth 100000 in
theorem len_nil (w : World) : Calls Try.prog 12 #[.pointer none] w fun e w' => e = .returned (.int .i64 0) ∧ w' = w := by
  have hup := Try.underlying23
  go_enter Try.func12, Try.ntmps12
  go_wp2_with fail
  go_ret
  exact ⟨rfl, rfl⟩
set_option maxRecDepth 100000 in
theorem count_nil (w : World) (m : Msg) : Calls Try.prog 13 #[.pointer none, mv m] w fun e w' => e = .returned (.int .i64 0) ∧ Below w.heap.size w w' := by
  have hup := Try.underlying23
  have hum := Try.underlying30
  have HB := Aside0.mk (below_alloc (Below.refl w.heap.size w) (.cells #[.int .i64 m.1, .int .i64 m.2.1, .string m.2.2] 30))
  unfold mv
  go_enter Try.func13, Try.ntmps13
  go_wp2_with fail
  go_ret
  exact ⟨rfl, HB.out⟩
set_option maxHeartbeats 800000 in
set_option maxRecDepth 100000 in
theorem twice_nil (w : World) (i : Int) : Calls Try.prog 19 #[.pointer none, .int .i64 i] w fun e w' => e = .returned (.int .i64 6) ∧ w' = w := by
  have hcase : decide (i < 0) = true ∨ (decide (i < 0) = false ∧ decide (i ≥ 0) = true) := by
    by_cases h1 : i < 0
    · exact .inl (decide_eq_true h1)
    · exact .inr ⟨decide_eq_false h1, decide_eq_true (by omega)⟩
  rcases hcase with b1 | ⟨b1, b2⟩
  all_goals
    go_enter Try.func19, Try.ntmps19
    go_wp2_with fail
    refine (list_nil w).mono ?_
    rintro e w1 ⟨rfl, rfl⟩
    go_wp2_with fail
    go_ret
    exact ⟨rfl, rfl⟩
set_option maxHeartbeats 1600000 in
set_option maxRecDepth 100000 in
theorem deliver_nil (w : World) (i : Int) : Calls Try.prog 15 #[.pointer none, .int .i64 i] w fun e w' => e = .returned (.tuple #[mv z0, .int .i64 6]) ∧ Below w.heap.size w w' := by
  have hum := Try.underlying30
  have hb0 := below_alloc (Below.refl w.heap.size w) (.cells #[.int .i64 0, .int .i64 0, .string ⟨#[]⟩] 30)
  have P0 := blk_new w (.cells #[.int .i64 0, .int .i64 0, .string ⟨#[]⟩] 30)
  have HB0 := Aside0.mk hb0
  have hcase : decide (i < 0) = true ∨ (decide (i < 0) = false ∧ decide (i ≥ 0) = true) := by
    by_cases h1 : i < 0
    · exact .inl (decide_eq_true h1)
    · exact .inr ⟨decide_eq_false h1, decide_eq_true (by omega)⟩
  have HL := Aside0.mk (list_nil (w.alloc (.cells #[.int .i64 0, .int .i64 0, .string ⟨#[]⟩] 30)))
  have f1 := blk_frozen P0
  have d0 := (blk_cell P0 0).trans rfl
  have d1 := (blk_cell P0 1).trans rfl
  have d2 := (blk_cell P0 2).trans rfl
  clear hb0
  rcases hcase with b1 | ⟨b1, b2⟩
  all_goals
    go_enter Try.func15, Try.ntmps15
    go_wp2_with fail
    refine HL.out.mono ?_
    rintro e w1 ⟨rfl, rfl⟩
    go_wp2_with fail
    refine bodyPost_ret (v := .tuple #[.agg #[.int .i64 0, .int .i64 0, .string ⟨#[]⟩], .int .i64 6]) (by simp [results, Try.results15, go_sem, d0, d1, d2]) rfl ⟨rfl, ?_⟩
    exact HB0.out
set_option maxHeartbeats 1600000 in
set_option maxRecDepth 100000 in
theorem drop_nil (w : World) (i : Int) : Calls Try.prog 18 #[.pointer none, .int .i64 i] w fun e w' => e = .returned (.int .i64 6) ∧ Below w.heap.size w w' := by
  have hum := Try.underlying30
  go_enter Try.func18, Try.ntmps18
  go_wp2_with fail
  refine (deliver_nil w i).mono ?_
  rintro e w1 ⟨rfl, hb1⟩
  have hb := Aside0.mk (below_alloc (Below.refl w1.heap.size w1) (.cells #[.int .i64 0, .int .i64 0, .string ⟨#[]⟩] 30))
  have B1 := Aside0.mk (hb1.trans (hb.out.mono hb1.size))
  clear hb1
  unfold mv z0
  go_wp2_with fail
  go_ret
  exact ⟨rfl, B1.out⟩
end Go.Proofs.Ytmledapichlhdaa.Bag
