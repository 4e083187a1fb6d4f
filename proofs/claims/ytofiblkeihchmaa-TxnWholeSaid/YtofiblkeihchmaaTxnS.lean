/- speaks. -/
import Derived.Test.YtofiblkeihchmaaTxnBk
import Derived.Test.YtofiblkeihchmaaTxnPure
import Derived.Test.YtofiblkeihchmaaTxnBlock
import Derived.Deep.RegionHeld3
set_option linter.unusedVariables false
set_option linter.unusedSimpArgs false
namespace Go.Proofs.Ytofiblkeihchmaa.Txn
open Go.RowKit Go.Proofs.YtofiblkeihchmaaW.PrintWords Go.Proofs.YtofiblkeihchmaaW.PrintLast Go.Proofs.YtofiblkeihchmaaW.PrintMore Go.Proofs.Ytofiblkeihchmaa.TxnS Go.Proofs.Ytofiblkeihchmaa.Blk
theorem chs_new (W : World) (l : List Ch) (hl : l.length ≤ 1000) : Chs (W.alloc (.cells (cv l).toArray 39)) (some ⟨W.heap.size, 0, none⟩) l := by
  have r1 := World.ownsRow_lit (e := 39) (base := 0) (size := 2) W (cv l).toArray l.length (Nat.zero_le _) (by unfold maxLen; omega) (by simp [cv_length])
  exact own_chs r1 rfl
def sA : List Ch := [(3, blockB 97)]
def sB : List Ch := [(3, blockB 98), (5, blockB 99)]
theorem sA_right : right sA := ⟨⟨by decide, by decide, blockB_size 97, trivial⟩, by decide⟩
theorem sB_right : right sB := ⟨⟨by decide, by decide, blockB_size 98, by decide, by decide, blockB_size 99, trivial⟩, by decide⟩
theorem s_mer : merS sA sB = (sB, 0) := by
  have hF : merF sA sB = allF none0 sB := by
    funext k
    show putF (putF (putF none0 (3, blockB 97)) (3, blockB 98)) (5, blockB 99) k = putF (putF none0 (3, blockB 98)) (5, blockB 99) k
    unfold putF
    dsimp only
    split
    · rfl
    · split <;> rfl
  have hl := listF_allF sB_right.1
  rw [merS_of sA_right sB_right, hF, hl, if_neg (by decide)]
theorem s_dec : decS (blocksL 7 sA) = (7, sA, 2, 0) := by
  have := dec_enc (seq := 7) (l := sA) (by decide) (by decide) sA_right []
  rw [List.append_nil] at this
  exact this
theorem s_chk : chk [(0, ⟨#[]⟩)] = 70 := if_neg (fun h => by have := h.1.2.2.1; exact absurd this (by decide))
theorem s_sizes : ∀ b ∈ blocksL 7 sA, b.size ≤ 1125899906842624 := by
  intro b hb
  have h128 : b.size = 128 := by
    rcases List.mem_cons.1 hb with rfl | hb
    · exact Spec.blockS_size _ (by rw [headT_size]; decide)
    · have : b = blockB 97 := by simpa [sA] using hb
      rw [this]; exact blockB_size 97
  omega
set_option maxHeartbeats 6400000 in
set_option maxRecDepth 100000 in
theorem speaks_calls (w : World) : Calls Try.prog 13 #[] w fun e w' => e = .returned (.bool true) ∧ Below w.heap.size w w' := by
  have hu := Try.underlying39
  have HBk := fun c w => Aside0.mk (block_any c w)
  go_enter Try.func13, Try.ntmps13
  go_wp2_with fail
  refine (HBk 97 _).out.mono ?_
  rintro e w1 ⟨rfl, hB⟩
  have B1 := Aside0.mk hB
  clear hB
  have C2 : Aside0 (Chs (w1.alloc (.cells #[.int .i64 3, .string (blockB 97)] 39)) (some ⟨w1.heap.size, 0, none⟩) sA) := ⟨chs_new w1 sA (by decide)⟩
  have B2 := Aside0.mk (below_alloc B1.out (.cells #[.int .i64 3, .string (blockB 97)] 39))
  have L1 : sA.length = 1 := rfl
  have HE := Aside0.mk (fun W (h : Chs W (some ⟨w1.heap.size, 0, none⟩) sA) => enc_yes 7 sA (some ⟨w1.heap.size, 0, none⟩) 1 W h (by decide) (by decide) sA_right)
  rw [L1] at HE
  clear B1 L1
  go_wp2_with fail
  generalize hW2 : w1.alloc (.cells #[.int .i64 3, .string (blockB 97)] 39) = W2 at C2 B2 ⊢
  clear hW2
  refine (HE.out _ C2.out).mono ?_
  rintro e w3 ⟨v2, rfl, hr, hB⟩
  obtain ⟨A2, c2, rfl⟩ := own_slice hr
  have C3 := Aside0.mk (C2.out.below hB)
  have B3 := Aside0.mk (B2.out.trans (hB.mono B2.out.size))
  have S3 := Aside0.mk (own_strs hr rfl)
  have L2 : (blocksL 7 sA).length = 2 := rfl
  have HD := Aside0.mk (decode_calls (blocksL 7 sA) A2 c2 w3 S3.out s_sizes (by rw [L2]; omega))
  rw [s_dec, L2] at HD
  clear hr hB HE C2 B2 S3
  rw [L2]
  clear L2
  go_wp2_with fail
  refine HD.out.mono ?_
  rintro e w4 ⟨v5, rfl, hr, hB⟩
  replace hr : w4.ownsRow w3.heap.size 39 2 v5 1 (cv sA) := hr
  obtain ⟨A5, c5, rfl⟩ := own_slice hr
  have C4 := Aside0.mk (C3.out.below hB)
  have B4 := Aside0.mk (B3.out.trans (hB.mono B3.out.size))
  have D4 := Aside0.mk (own_chs hr rfl)
  clear hr hB HD C3 B3
  go_wp2_with fail
  refine (HBk 98 _).out.mono ?_
  rintro e w5 ⟨rfl, hB⟩
  have C5 := Aside0.mk (C4.out.below hB)
  have D5 := Aside0.mk (D4.out.below hB)
  have B5 := Aside0.mk (B4.out.trans (hB.mono B4.out.size))
  clear hB C4 D4 B4
  go_wp2_with fail
  refine (HBk 99 _).out.mono ?_
  rintro e w6 ⟨rfl, hB⟩
  have C6 := Aside0.mk (C5.out.below hB)
  have D6 := Aside0.mk (D5.out.below hB)
  have B6 := Aside0.mk (B5.out.trans (hB.mono B5.out.size))
  clear hB C5 D5 B5
  have C7 : Aside0 (Chs (w6.alloc (.cells #[.int .i64 3, .string (blockB 98), .int .i64 5, .string (blockB 99)] 39)) (some ⟨w6.heap.size, 0, none⟩) sB) := ⟨chs_new w6 sB (by decide)⟩
  have BX := Aside0.mk (below_alloc (Below.refl w6.heap.size w6) (.cells #[.int .i64 3, .string (blockB 98), .int .i64 5, .string (blockB 99)] 39))
  have C7A := Aside0.mk (C6.out.below BX.out)
  have D7 := Aside0.mk (D6.out.below BX.out)
  have B7 := Aside0.mk (B6.out.trans (BX.out.mono B6.out.size))
  have L1 : sA.length = 1 := rfl
  have L2 : sB.length = 2 := rfl
  have HM := Aside0.mk (fun W (h : Chs W (some ⟨w1.heap.size, 0, none⟩) sA) (h2 : Chs W (some ⟨w6.heap.size, 0, none⟩) sB) => merge_calls sA sB (some ⟨w1.heap.size, 0, none⟩) (some ⟨w6.heap.size, 0, none⟩) 1 2 W h h2 (by rw [L1]; omega) (by rw [L2]; omega))
  rw [L1, L2, s_mer] at HM
  clear L1 L2 BX C6 D6 B6
  go_wp2_with fail
  generalize hW7 : w6.alloc (.cells #[.int .i64 3, .string (blockB 98), .int .i64 5, .string (blockB 99)] 39) = W7 at C7 C7A D7 B7 ⊢
  clear hW7
  refine (HM.out _ C7A.out C7.out).mono ?_
  rintro e w8 ⟨v8, rfl, hr, hB⟩
  replace hr : w8.ownsRow W7.heap.size 39 2 v8 2 (cv sB) := hr
  obtain ⟨A8, c8, rfl⟩ := own_slice hr
  have B8 := Aside0.mk (B7.out.trans (hB.mono B7.out.size))
  have C8 := Aside0.mk (C7A.out.below hB)
  have D8 := Aside0.mk (D7.out.below hB)
  have M8 := Aside0.mk (own_chs hr rfl)
  clear hr hB HM C7 C7A D7 B7
  obtain ⟨ad, rfl, m0, m1⟩ := M8.out 0 (by decide)
  have had : ad.add (0 * 2) = ad := by unfold Addr.add; simp
  rw [had] at m0 m1
  have HM1 : Aside0 (∀ W, Below w8.heap.size w8 W → W.cell? ⟨ad.block, ad.off + 1, none⟩ = some (.string (blockB 98))) := ⟨fun W hb => by
    have hlt := World.block_lt_of_cell? w8 _ m1
    exact (World.cell?_of_block (hb.block _ hlt)).trans m1⟩
  have L1 : sA.length = 1 := rfl
  have HCh : Aside0 (∀ W, Below w8.heap.size w8 W → Calls Try.prog 12 #[.slice A5 1 c5, .slice (some ⟨w1.heap.size, 0, none⟩) 1 1] W fun e w' => e = .returned (.bool true) ∧ Below W.heap.size W w') := ⟨fun W hb => by
    have := changes_calls sA sA A5 (some ⟨w1.heap.size, 0, none⟩) c5 1 W (D8.out.below hb) (C8.out.below hb) (by rw [L1]; omega) (by rw [L1]; omega)
    rwa [decide_eq_true rfl] at this⟩
  have HCk : Aside0 (∀ W, Calls Try.prog 10 #[.slice (some ⟨W.heap.size, 0, none⟩) 1 1] (W.alloc (.cells #[.int .i64 0, .string ⟨#[]⟩] 39)) fun e w' => e = .returned (.int .i64 70) ∧ Below W.heap.size W w') := ⟨fun W => by
    have := check_calls [(0, ⟨#[]⟩)] (some ⟨W.heap.size, 0, none⟩) 1 _ (chs_new W [(0, ⟨#[]⟩)] (by decide)) (by decide)
    rw [s_chk] at this
    refine this.mono ?_
    rintro e w' ⟨rfl, hb⟩
    exact ⟨rfl, (below_alloc (Below.refl W.heap.size W) _).trans (hb.mono (by simp))⟩⟩
  clear m0 m1 had L1 M8 C8 D8
  have B0 : Aside0 (Below w8.heap.size w8 w8.drew) := ⟨below_drew1 (Below.refl _ _)⟩
  go_wp2_with fail
  go_region_held3 (fun w' => w'.cell? ⟨ad.block, ad.off + 1, none⟩ = some (.string (blockB 98))) (first | exact HM1.out _ B0.out | exact HM1.out _ T1.out | exact HM1.out _ T2.out | exact HM1.out _ T3.out | exact HM1.out _ (below_alloc T2.out _)) (first
    | (go_at_call 12; refine (HCh.out _ B0.out).mono ?_; rintro e w9 ⟨rfl, hb9⟩; have T1 := Aside0.mk (B0.out.trans (hb9.mono B0.out.size)); clear hb9)
    | (go_at_call 20; refine (HBk 98 _).out.mono ?_; rintro e w9 ⟨rfl, hb9⟩; have T2 := Aside0.mk (T1.out.trans (hb9.mono T1.out.size)); clear hb9)
    | (go_at_call 10; refine (HCk.out _).mono ?_; rintro e w9 ⟨rfl, hb9⟩; have T3 := Aside0.mk (T2.out.trans (hb9.mono T2.out.size)); clear hb9))
  all_goals go_wp2_with fail
  all_goals go_ret
  all_goals exact ⟨rfl, B8.out.trans (T3.out.mono B8.out.size)⟩
end Go.Proofs.Ytofiblkeihchmaa.Txn
