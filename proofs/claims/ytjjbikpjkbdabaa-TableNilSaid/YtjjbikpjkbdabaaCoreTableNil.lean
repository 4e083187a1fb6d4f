/- Of every client and every request: TableNil answers true, and what was in memory stays. -/
import Derived.Test.YtjjbikpjkbdabaaTabN
set_option linter.unusedVariables false
set_option linter.unusedSimpArgs false
namespace Go.Proofs.Ytjjbikpjkbdabaa.Core
open Go.RowKit Go.Proofs.YtjjbikpjkbdabaaW.PrintWords Go.Proofs.YtjjbikpjkbdabaaW.PrintLast Go.Proofs.YtjjbikpjkbdabaaW.PrintMore Go.Proofs.Ytjjbikpjkbdabaa.Maps Go.Proofs.Ytjjbikpjkbdabaa.TabS Go.Proofs.Ytjjbikpjkbdabaa.Tab

set_option maxHeartbeats 4000000 in
set_option maxRecDepth 100000 in
theorem nil_wrong (W : World) (c r : Int) (hw : wrong c r = true) : Calls Try.prog 6 #[.int .i64 c, .int .i64 r] W fun e W' => e = .returned (.bool true) ∧ Below W.heap.size W W' := by
  have hu := Try.underlying29
  have hut := Try.underlying23
  go_enter Try.func6, Try.ntmps6
  go_wp2_with fail
  refine (nil_ask_wrong 0 hw).mono ?_
  rintro e w1 ⟨A, c', rfl, hn, hb⟩
  dsimp only
  unfold vres
  have B1 := Aside0.mk (below_alloc hb (robj zero A c'))
  clear hn hb
  go_wp2_with fail
  generalize hw1 : w1.alloc (robj zero A c') = v1 at B1 ⊢
  clear hw1
  refine nil_last.mono ?_
  rintro e w2 ⟨rfl, rfl⟩
  go_wp2_with fail
  refine (nil_begin_wrong hw).mono ?_
  rintro e w3 ⟨rfl, hb⟩
  have B3 := Aside0.mk (B1.out.trans (hb.mono B1.out.size))
  clear hb
  go_wp2_with fail
  refine (nil_done_wrong (x := zero) (A := none) (cx := 0) hw).mono ?_
  rintro e w4 ⟨rfl, hb⟩
  have B4 := Aside0.mk (B3.out.trans (hb.mono B3.out.size))
  clear hb
  go_wp2_with fail
  refine (refwrong_calls c r _).mono ?_
  rintro e w5 ⟨rfl, rfl⟩
  rw [hw]
  go_wp2_with fail
  refine (speaks_calls _).mono ?_
  rintro e w6 ⟨rfl, hb⟩
  have B6 := Aside0.mk (B4.out.trans (hb.mono B4.out.size))
  clear hb
  go_wp2_with fail
  go_ret
  exact ⟨rfl, B6.out⟩
set_option maxHeartbeats 4000000 in
set_option maxRecDepth 100000 in
theorem nil_right (W : World) (c r : Int) (hw : wrong c r = false) : Calls Try.prog 6 #[.int .i64 c, .int .i64 r] W fun e W' => e = .returned (.bool true) ∧ Below W.heap.size W W' := by
  have hu := Try.underlying29
  have hut := Try.underlying23
  go_enter Try.func6, Try.ntmps6
  go_wp2_with fail
  refine (nil_ask 0 hw).mono ?_
  rintro e w1 ⟨A, c', rfl, hn, hb⟩
  dsimp only
  unfold vres
  have B1 := Aside0.mk (below_alloc hb (robj zero A c'))
  clear hn hb
  go_wp2_with fail
  generalize hw1 : w1.alloc (robj zero A c') = v1 at B1 ⊢
  clear hw1
  refine nil_last.mono ?_
  rintro e w2 ⟨rfl, rfl⟩
  go_wp2_with fail
  refine (nil_begin hw).mono ?_
  rintro e w3 ⟨rfl, hb⟩
  have B3 := Aside0.mk (B1.out.trans (hb.mono B1.out.size))
  clear hb
  go_wp2_with fail
  refine (nil_done (x := zero) (A := none) (cx := 0) hw).mono ?_
  rintro e w4 ⟨rfl, hb⟩
  have B4 := Aside0.mk (B3.out.trans (hb.mono B3.out.size))
  clear hb
  go_wp2_with fail
  refine (refwrong_calls c r _).mono ?_
  rintro e w5 ⟨rfl, rfl⟩
  rw [hw]
  go_wp2_with fail
  refine nil_clients.mono ?_
  rintro e w7 ⟨rfl, rfl⟩
  go_wp2_with fail
  refine (speaks_calls _).mono ?_
  rintro e w6 ⟨rfl, hb⟩
  have B6 := Aside0.mk (B4.out.trans (hb.mono B4.out.size))
  clear hb
  go_wp2_with fail
  go_ret
  exact ⟨rfl, B6.out⟩
theorem TableNil (W : World) (c : Int) (hc : (Lit.int .i64 c).wf = true) (r : Int) (hr : (Lit.int .i64 r).wf = true) : Calls Try.prog 6 #[.int .i64 c, .int .i64 r] W fun e W' => e = .returned (.bool true) ∧ Below W.heap.size W W' := by
  cases hw : wrong c r with
  | true => exact nil_wrong W c r hw
  | false => exact nil_right W c r hw
end Go.Proofs.Ytjjbikpjkbdabaa.Core
