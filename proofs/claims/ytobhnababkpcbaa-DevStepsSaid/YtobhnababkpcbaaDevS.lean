/- The small case: a torn write of two blocks. -/
import Derived.Test.YtobhnababkpcbaaDevC
import Derived.Test.YtobhnababkpcbaaDevData
set_option linter.unusedVariables false
set_option linter.unusedSimpArgs false
namespace Go.Proofs.Ytobhnababkpcbaa.Dev
open Go.RowKit Go.Proofs.YtobhnababkpcbaaW.PrintWords Go.Proofs.YtobhnababkpcbaaW.PrintLast Go.Proofs.YtobhnababkpcbaaW.PrintMore Go.Proofs.Ytobhnababkpcbaa.Maps Go.Proofs.Ytobhnababkpcbaa.DevS Go.Proofs.Ytobhnababkpcbaa.Given

theorem blk_first (a b : ByteArray) (h : a.size = 128) : blk (a ++ b) 0 = a := by
  have hl : a.data.toList.length = 128 := by rw [Array.length_toList]; exact h
  unfold blk
  refine ByteArray.ext (Array.toList_inj.1 ?_)
  rw [Go.Lib.extract_data, ByteArray.data_append, Array.toList_append]
  simp only [Nat.zero_mul, Nat.zero_add, Nat.one_mul, List.drop_zero]
  rw [show 128 = a.data.toList.length from hl.symm]
  simp
def two : ByteArray := blockB 97 ++ blockB 98
theorem two_size : two.size = 256 := by unfold two; rw [ByteArray.size_append, blockB_size, blockB_size]
theorem two_div : two.size / 128 = 2 := by rw [two_size]
def L2 : F := DevS.put (fun _ => none) 0 (blockB 97)
def D1 : D := ⟨2, fun _ => none, layF (fun _ => none) 0 two 2, [(0, two)]⟩
def D2 : D := ⟨2, L2, L2, []⟩
theorem formTwo : formOk two := by unfold formOk; rw [two_size]; decide
theorem placeTwo : placeOk 2 0 two := by unfold placeOk; rw [two_size]; decide
theorem write_two : dWrite (dNew 2) 0 two = (D1, 0) := by
  unfold dWrite
  rw [if_neg (fun e => e formTwo), if_neg (fun e => e placeTwo), two_div]
  rfl
theorem look_put (f : F) (k : Int) (v : ByteArray) : DevS.look (DevS.put f k v) k = v := by
  unfold DevS.look DevS.put
  rw [if_pos rfl]
  rfl
theorem look_other (k c : Int) (v : ByteArray) (h : k ≠ c) : DevS.look (DevS.put (fun _ => none) k v) c = blockB 0 := by
  unfold DevS.look DevS.put
  rw [if_neg h]
  rfl
theorem crash_ok' (d : D) (picks : List Bool) (t : Nat) (h : t ≤ 1024) (f : F) (hf : crashF picks t 0 true d.la d.q = f) : dCrash d picks (t : Int) = (⟨d.n, f, f, []⟩, 0) := by
  unfold dCrash
  rw [if_neg (by omega), if_neg (by omega), Int.toNat_natCast, hf]
theorem D2_la : crashF [] 1 0 true (fun _ => none) [(0, two)] = L2 := by
  have e : min 1 (two.size / 128) = 1 := by rw [two_size]; decide
  have e2 : blk two 0 = blockB 97 := blk_first _ _ (blockB_size 97)
  rw [crashF, if_neg (by simp), if_pos rfl, crashF]
  unfold layW
  rw [e, layF, layF, e2]
  rfl
theorem crash_two : dCrash D1 [] 1 = (D2, 0) := crash_ok' D1 [] 1 (by omega) L2 D2_la
theorem read_two : dRead D2 0 = (blockB 97, 0) := by
  unfold dRead
  rw [if_pos ⟨by decide, by show (0 : Int) < 2; decide⟩]
  show (DevS.look L2 0, (0 : Int)) = _
  unfold L2
  rw [look_put]
theorem lasts_two : dLasts D2 1 = (blockB 0, 0) := by
  unfold dLasts
  rw [if_pos ⟨by decide, by show (1 : Int) < 2; decide⟩]
  show (DevS.look L2 1, (0 : Int)) = _
  unfold L2
  rw [look_other _ _ _ (by decide)]

set_option maxHeartbeats 3200000 in
set_option maxRecDepth 100000 in
theorem speaks_calls (w : World) : Calls Try.prog 9 #[] w fun e w' => e = .returned (.bool true) ∧ Below w.heap.size w w' := by
  have hup := Try.underlying24
  have hb1 := fun W => block_any 97 W
  have hb2 := fun W => block_any 98 W
  have hb3 := fun W => block_any 0 W
  have HB1 := Aside0.mk hb1
  have HB2 := Aside0.mk hb2
  have HB3 := Aside0.mk hb3
  have htw : blockB 97 ++ blockB 98 = two := rfl
  have hsz1 : (blockB 97).size = 128 := blockB_size 97
  have hsz2 : (blockB 98).size = 128 := blockB_size 98
  have HD := Aside0.mk (And.intro read_two lasts_two)
  clear hb1 hb2 hb3
  generalize blockB 97 = A97 at HB1 htw hsz1 HD
  generalize blockB 98 = A98 at HB2 htw hsz2
  generalize blockB 0 = A0 at HB3 HD
  go_enter Try.func9, Try.ntmps9
  go_wp2_with fail
  refine (new_yes w.heap.size 2 w (Nat.le_refl _) (by omega) (by omega)).mono ?_
  rintro e w1 ⟨db, lb, sb, rfl, hD1, hBe1, _⟩
  have D1' := Aside0.mk hD1
  have B1 := Aside0.mk hBe1
  clear hD1 hBe1
  unfold ptr
  go_wp2_with fail
  refine (HB1.out _).mono ?_
  rintro e w2 ⟨rfl, hb2⟩
  have B2 := Aside0.mk (B1.out.trans (hb2.mono B1.out.size))
  have E2 := Aside0.mk (D1'.out.below hb2)
  clear hb2
  go_wp2_with fail
  refine (HB2.out _).mono ?_
  rintro e w3 ⟨rfl, hb3⟩
  have B3 := Aside0.mk (B2.out.trans (hb3.mono B2.out.size))
  have E3 := Aside0.mk (E2.out.below hb3)
  clear hb3
  go_wp2_with fail
  have hW := write_calls (a := 0) (s := two) E3.out (B3.out.size) (by rw [two_size]; omega) (by simp [dNew])
  rw [write_two] at hW
  unfold ptr at hW
  refine hW.mono ?_
  rintro e w4 ⟨sb4, v4, rfl, hD4, hF4, hK4⟩
  clear hW
  have B4 : Aside0 (Below w.heap.size w w4) := ⟨Fr.below B3.out hF4 (fun k hk => E3.out.fp_ge hk) B3.out.size⟩
  have E4 := Aside0.mk hD4
  clear hD4 hF4 hK4
  go_wp2_with fail
  have hWt := waits_calls E4.out
  unfold ptr at hWt
  refine hWt.mono ?_
  rintro e w5 ⟨rfl, rfl⟩
  clear hWt
  have q1 : D1.q.length = 1 := rfl
  rw [q1]
  go_wp2_with fail
  have hC := crash_calls (A := none) (c := 0) (picks := []) (torn := 1) E4.out B4.out.size (by rw [q1]; omega) (Picks.nil _ _) (by simp) (by simp)
  rw [crash_two] at hC
  unfold ptr at hC
  refine hC.mono ?_
  rintro e w6 ⟨sb6, v6, rfl, hD6, hF6, hK6⟩
  clear hC
  have B6 : Aside0 (Below w.heap.size w w6) := ⟨Fr.below B4.out hF6 (fun k hk => E4.out.fp_ge hk) B4.out.size⟩
  have E6 := Aside0.mk hD6
  clear hD6 hF6 hK6
  go_wp2_with fail
  have hR := read_calls E6.out 0
  rw [HD.out.1] at hR
  unfold ptr at hR
  refine hR.mono ?_
  rintro e w7 ⟨rfl, hb7⟩
  clear hR
  have B7 := Aside0.mk (B6.out.trans (hb7.mono B6.out.size))
  have E7 := Aside0.mk (E6.out.below hb7)
  clear hb7
  go_wp2_with fail
  have hL := lasts_calls E7.out 1
  rw [HD.out.2] at hL
  unfold ptr at hL
  refine hL.mono ?_
  rintro e w8 ⟨rfl, hb8⟩
  clear hL
  have B8 := Aside0.mk (B7.out.trans (hb8.mono B7.out.size))
  have E8 := Aside0.mk (E7.out.below hb8)
  clear hb8
  go_wp2_with fail
  refine (HB1.out _).mono ?_
  rintro e w9 ⟨rfl, hb9⟩
  have B9 := Aside0.mk (B8.out.trans (hb9.mono B8.out.size))
  have E9 := Aside0.mk (E8.out.below hb9)
  clear hb9
  go_wp2_with fail
  refine (HB3.out _).mono ?_
  rintro e w10 ⟨rfl, hb10⟩
  have B10 := Aside0.mk (B9.out.trans (hb10.mono B9.out.size))
  have E10 := Aside0.mk (E9.out.below hb10)
  clear hb10
  go_wp2_with fail
  have hBl := blocks_calls E10.out
  unfold ptr at hBl
  refine hBl.mono ?_
  rintro e w11 ⟨rfl, rfl⟩
  clear hBl
  have n2 : ((D2.n : Nat) : Int) = 2 := rfl
  rw [n2]
  go_wp2_with fail
  have hWt2 := waits_calls E10.out
  unfold ptr at hWt2
  refine hWt2.mono ?_
  rintro e w12 ⟨rfl, rfl⟩
  have q2 : D2.q.length = 0 := rfl
  rw [q2]
  clear hWt2
  go_wp2_with fail
  go_ret
  exact ⟨rfl, B10.out⟩
end Go.Proofs.Ytobhnababkpcbaa.Dev
