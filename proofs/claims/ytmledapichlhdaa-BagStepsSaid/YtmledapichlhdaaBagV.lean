/- The program's bag: the small case. -/
import Derived.Test.YtmledapichlhdaaBagD
set_option linter.unusedVariables false
set_option linter.unusedSimpArgs false
namespace Go.Proofs.Ytmledapichlhdaa.Bag
open Go.RowKit Go.Proofs.YtmledapichlhdaaW.PrintWords Go.Proofs.YtmledapichlhdaaW.PrintLast Go.Proofs.YtmledapichlhdaaW.PrintMore Go.Proofs.Ytmledapichlhdaa.Maps Go.Proofs.Ytmledapichlhdaa.BagS
theorem own_keep {w w' : World} {b : Nat} {e : TypeId} {size : Nat} {v : Value} {n : Nat} {xs : List Value} (h : w.ownsRow b e size v n xs) (hb : ∀ k, b ≤ k → k < w.heap.size → w'.heap[k]? = w.heap[k]?) : w'.ownsRow b e size v n xs := by
  refine ⟨h.1, ?_⟩
  rcases h.2 with h2 | ⟨g, cap, cur, hv, hg, hk, rest⟩
  · exact .inl h2
  · exact .inr ⟨g, cap, cur, hv, hg, (hb g hg (blk_lt hk)).trans hk, rest⟩
theorem own_fr {w w' : World} {b : Nat} {e : TypeId} {size : Nat} {v : Value} {n : Nat} {xs : List Value} {f : Nat → Prop} (h : w.ownsRow b e size v n xs) (hF : Fr w w' f) (hf : ∀ k, f k → k < b) : w'.ownsRow b e size v n xs := own_keep h fun k hk hl => hF.block k hl (fun h => by have := hf k h; omega)
theorem own_below {w w' : World} {b : Nat} {e : TypeId} {size : Nat} {v : Value} {n : Nat} {xs : List Value} (h : w.ownsRow b e size v n xs) (hB : Below w.heap.size w w') : w'.ownsRow b e size v n xs := own_keep h fun k _ hl => hB.block k hl
def mA : Msg := (0, 1, ⟨#[97]⟩)
def mB : Msg := (0, 1, ⟨#[98]⟩)
theorem sp1 : putS 2 [] mB = ([mB], 0) := by rfl
theorem sp2 : putS 2 [mB] mA = ([mA, mB], 0) := by rfl
theorem sp3 : putS 2 [mA, mB] mA = ([mA, mA, mB], 0) := by rfl
theorem spu : uniq [mA, mA, mB] = [mA, mB] := by decide
theorem spd : delS [mA, mA, mB] 1 = ([mA, mA], mB, 0) := by
  unfold delS
  have h : hasI [mA, mA, mB] 1 := by unfold hasI; rw [spu]; decide
  have ha : atU [mA, mA, mB] 1 = mB := by unfold atU; rw [spu]; rfl
  rw [if_pos h, ha]
  have he : [mA, mA, mB].erase mB = [mA, mA] := by decide
  rw [he]
theorem spc : [mA, mA].count mA = 2 := by decide
set_option maxHeartbeats 3200000 in
set_option maxRecDepth 100000 in
theorem speaks_calls (w : World) : Calls Try.prog 9 #[] w fun e w' => e = .returned (.bool true) ∧ Below w.heap.size w w' := by
  have hup := Try.underlying23
  have hum := Try.underlying30
  go_enter Try.func9, Try.ntmps9
  go_wp2_with fail
  refine (new_yes 2 w w.heap.size (Nat.le_refl _) (by omega) (by omega)).mono ?_
  rintro e w1 ⟨bb, mb, rfl, hI, hB, hN⟩
  have I1 := Aside0.mk hI
  have B1 := Aside0.mk hB
  clear hI hB hN
  unfold ptr
  go_wp2_with fail
  have hP := put_calls I1.out mB
  rw [sp1] at hP
  unfold ptr mv mB at hP
  refine hP.mono ?_
  clear hP
  rintro e w2 ⟨rfl, hI, hF⟩
  have B2 : Aside0 (Below w.heap.size w w2) := ⟨Fr.below B1.out hF (fun k hk => I1.out.ge hk) B1.out.size⟩
  have I2 : Aside0 (BIs w.heap.size w2 bb mb 2 [mB]) := ⟨hI⟩
  clear hI hF
  go_wp2_with fail
  have hP := put_calls I2.out mA
  rw [sp2] at hP
  unfold ptr mv mA at hP
  refine hP.mono ?_
  clear hP
  rintro e w3 ⟨rfl, hI, hF⟩
  have B3 : Aside0 (Below w.heap.size w w3) := ⟨Fr.below B2.out hF (fun k hk => I2.out.ge hk) B2.out.size⟩
  have I3 : Aside0 (BIs w.heap.size w3 bb mb 2 [mA, mB]) := ⟨hI⟩
  clear hI hF
  go_wp2_with fail
  have hP := put_calls (L := [mA, mB]) I3.out mA
  rw [sp3] at hP
  unfold ptr mv mA at hP
  refine hP.mono ?_
  clear hP
  rintro e w4 ⟨rfl, hI, hF⟩
  have B4 : Aside0 (Below w.heap.size w w4) := ⟨Fr.below B3.out hF (fun k hk => I3.out.ge hk) B3.out.size⟩
  have I4 : Aside0 (BIs w.heap.size w4 bb mb 2 [mA, mA, mB]) := ⟨hI⟩
  clear hI hF
  go_wp2_with fail
  have hP := len_calls I4.out
  unfold ptr at hP
  refine hP.mono ?_
  clear hP
  rintro e w5 ⟨rfl, rfl⟩
  have l3 : (([mA, mA, mB].length : Nat) : Int) = 3 := rfl
  rw [l3]
  go_wp2_with fail
  have hP := list_calls I4.out
  rw [spu] at hP
  unfold ptr at hP
  refine hP.mono ?_
  clear hP
  rintro e w6 ⟨v, rfl, hr, hb⟩
  obtain ⟨A, c, rfl⟩ := own_slice hr
  have B6 : Aside0 (Below w.heap.size w w6) := ⟨B4.out.trans (hb.mono B4.out.size)⟩
  have I6 := Aside0.mk (I4.out.below hb)
  have R6 := Aside0.mk hr
  clear hr hb
  have l2 : [mA, mB].length = 2 := rfl
  rw [l2] at R6 ⊢
  go_wp2_with fail
  have hP := deliver_calls I6.out 1
  rw [spd] at hP
  unfold ptr at hP
  refine hP.mono ?_
  clear hP
  rintro e w7 ⟨rfl, hI, hF⟩
  have B7 : Aside0 (Below w.heap.size w w7) := ⟨Fr.below B6.out hF (fun k hk => I6.out.ge hk) B6.out.size⟩
  have I7 : Aside0 (BIs w.heap.size w7 bb mb 2 [mA, mA]) := ⟨hI⟩
  have R7 := Aside0.mk (own_fr R6.out hF (fun k hk => I4.out.lt hk))
  clear hI hF
  unfold mv mB
  have hb8 := below_alloc (Below.refl w7.heap.size w7) (.cells #[.int .i64 0, .int .i64 1, .string ⟨#[98]⟩] 30)
  have X8 := blk_new w7 (.cells #[.int .i64 0, .int .i64 1, .string ⟨#[98]⟩] 30)
  have x2 := (blk_cell X8 2).trans (Eq.refl (some (Value.string ⟨#[98]⟩)))
  have B8 := Aside0.mk (B7.out.trans (hb8.mono B7.out.size))
  have I8 := Aside0.mk (I7.out.below hb8)
  have R8 := own_below R7.out hb8
  obtain ⟨g, rfl, -, -, y2⟩ := row_at (v := .slice none 0 0) (l := [mA, mB]) (i := 0) (x := mA) R8 rfl
  unfold mA at y2
  have hC := Aside0.mk (count_calls I8.out mA)
  rw [spc] at hC
  clear hb8 X8 R8
  unfold ptr mv mA at hC
  go_wp2_with fail
  refine hC.out.mono ?_
  rintro e w9 ⟨rfl, hb⟩
  have B9 := Aside0.mk (B8.out.trans (hb.mono B8.out.size))
  clear hb
  go_wp2_with fail
  go_ret
  exact ⟨rfl, B9.out⟩
end Go.Proofs.Ytmledapichlhdaa.Bag
