/- The walk of the law BagNil. -/
import Derived.Test.YtmledapichlhdaaBagV
import Derived.Test.YtmledapichlhdaaBagZ
set_option linter.unusedVariables false
set_option linter.unusedSimpArgs false
namespace Go.Proofs.Ytmledapichlhdaa.Core
open Go.RowKit Go.Proofs.YtmledapichlhdaaW.PrintWords Go.Proofs.YtmledapichlhdaaW.PrintLast Go.Proofs.YtmledapichlhdaaW.PrintMore Go.Proofs.Ytmledapichlhdaa.Maps Go.Proofs.Ytmledapichlhdaa.BagS Go.Proofs.Ytmledapichlhdaa.Bag
set_option maxHeartbeats 3200000 in
set_option maxRecDepth 100000 in
theorem BagNil (w : World) (m : Msg) (i : Int) (hi : (Lit.int .i64 i).wf = true) :
    Calls Try.prog 6 #[mv m, .int .i64 i] w fun e w' => e = .returned (.bool true) ∧ Below w.heap.size w w' := by
  clear hi
  have hum := Try.underlying30
  have hb1 := below_alloc (Below.refl w.heap.size w) (.cells #[.int .i64 m.1, .int .i64 m.2.1, .string m.2.2] 30)
  obtain ⟨W1, hW1⟩ : ∃ W1, W1 = w.alloc (.cells #[.int .i64 m.1, .int .i64 m.2.1, .string m.2.2] 30) := ⟨_, rfl⟩
  have P1 : W1.heap[w.heap.size]? = some (.cells #[.int .i64 m.1, .int .i64 m.2.1, .string m.2.2] 30 (0, 0)) := by rw [hW1]; exact blk_new w _
  rw [← hW1] at hb1
  have HP1 := Aside0.mk P1
  have B1 := Aside0.mk hb1
  clear hb1 P1
  unfold mv
  go_enter Try.func6, Try.ntmps6
  go_upto_region 1 with fail
  rw [← hW1]
  clear hW1
  go_wp2_with fail
  refine (deliver_nil _ i).mono ?_
  rintro e w2 ⟨rfl, hb⟩
  have hb2 := below_alloc (Below.refl w2.heap.size w2) (.cells #[.int .i64 0, .int .i64 0, .string ⟨#[]⟩] 30)
  have B2 := Aside0.mk ((B1.out.trans (hb.mono B1.out.size)).trans (hb2.mono (B1.out.trans (hb.mono B1.out.size)).size))
  have P2 := Aside0.mk (blk_below (blk_below HP1.out hb) hb2)
  clear hb hb2
  unfold mv z0
  go_upto_region 3 with fail
  generalize w2.alloc (.cells #[.int .i64 0, .int .i64 0, .string ⟨#[]⟩] 30) = W2 at B2 P2 ⊢
  have d0 := (blk_cell P2.out 0).trans (Eq.refl (some (Value.int .i64 m.1)))
  have d1 := (blk_cell P2.out 1).trans (Eq.refl (some (Value.int .i64 m.2.1)))
  have d2 := (blk_cell P2.out 2).trans (Eq.refl (some (Value.string m.2.2)))
  go_wp2_with fail
  have hP := put_nil W2 m
  unfold mv at hP
  refine hP.mono ?_
  clear hP
  rintro e w3 ⟨rfl, hb⟩
  have B3 := Aside0.mk (B2.out.trans (hb.mono B2.out.size))
  have P3 := Aside0.mk (blk_below P2.out hb)
  clear hb
  go_wp2_with fail
  refine (drop_nil _ i).mono ?_
  rintro e w4 ⟨rfl, hb⟩
  have B4 := Aside0.mk (B3.out.trans (hb.mono B3.out.size))
  have P4 := Aside0.mk (blk_below P3.out hb)
  clear hb
  go_wp2_with fail
  refine (twice_nil _ i).mono ?_
  rintro e w5 ⟨rfl, rfl⟩
  go_wp2_with fail
  refine (list_nil _).mono ?_
  rintro e w6 ⟨rfl, rfl⟩
  have e0 := (blk_cell P4.out 0).trans (Eq.refl (some (Value.int .i64 m.1)))
  have e1 := (blk_cell P4.out 1).trans (Eq.refl (some (Value.int .i64 m.2.1)))
  have e2 := (blk_cell P4.out 2).trans (Eq.refl (some (Value.string m.2.2)))
  go_wp2_with fail
  have hP := count_nil w6 m
  unfold mv at hP
  refine hP.mono ?_
  clear hP
  rintro e w7 ⟨rfl, hb⟩
  have B7 := Aside0.mk (B4.out.trans (hb.mono B4.out.size))
  clear hb
  go_wp2_with fail
  refine (len_nil _).mono ?_
  rintro e w8 ⟨rfl, rfl⟩
  go_wp2_with fail
  refine (speaks_calls _).mono ?_
  rintro e w9 ⟨rfl, hb⟩
  have B9 := Aside0.mk (B7.out.trans (hb.mono B7.out.size))
  clear hb
  go_wp2_with fail
  go_ret
  exact ⟨rfl, B9.out⟩
end Go.Proofs.Ytmledapichlhdaa.Core
