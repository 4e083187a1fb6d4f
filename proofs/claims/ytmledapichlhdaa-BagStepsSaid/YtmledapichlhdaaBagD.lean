/- The program's bag: Deliver, Drop. -/
import Derived.Test.YtmledapichlhdaaBagP
set_option linter.unusedVariables false
set_option linter.unusedSimpArgs false
namespace Go.Proofs.Ytmledapichlhdaa.Bag
open Go.RowKit Go.Proofs.YtmledapichlhdaaW.PrintWords Go.Proofs.YtmledapichlhdaaW.PrintLast Go.Proofs.YtmledapichlhdaaW.PrintMore Go.Proofs.Ytmledapichlhdaa.Maps Go.Proofs.Ytmledapichlhdaa.BagS
section
variable {B : Nat} {w : World} {bb mb : Nat} {n : Int} {L : List Msg}
set_option maxHeartbeats 12800000 in
set_option maxRecDepth 100000 in
theorem deliver_yes (h : BIs B w bb mb n L) (j : Nat) (x : Msg) (hx : (uniq L)[j]? = some x) : Calls Try.prog 15 #[ptr bb, .int .i64 (j : Int)] w (DPost B bb mb n w (L.erase x, x, 0)) := by
  have hum := Try.underlying30
  have hup := Try.underlying23
  have hu := Try.underlying61
  have hb0 := below_alloc (Below.refl w.heap.size w) (.cells #[.int .i64 0, .int .i64 0, .string ⟨#[]⟩] 30)
  have H0 := Aside0.mk h
  have HL := Aside0.mk (list_calls (h.below hb0))
  have hul : (uniq L).length ≤ 1024 := Nat.le_trans (uniq_le L) h.ok.len
  have hxL : x ∈ L := ((uniq_inv h.ok.srt).mem x).1 (List.mem_of_getElem? hx)
  have hj : j < (uniq L).length := (List.getElem?_eq_some_iff.1 hx).1
  obtain ⟨U, hU⟩ : ∃ U, U = uniq L := ⟨_, rfl⟩
  rw [← hU] at HL hul hx hj
  have P0 := Aside0.mk (blk_new w (.cells #[.int .i64 0, .int .i64 0, .string ⟨#[]⟩] 30))
  have HB0 := Aside0.mk hb0
  have HX := Aside0.mk hx
  have HxL := Aside0.mk hxL
  have b1 : decide ((j : Int) < 0) = false := decide_eq_false (by omega)
  have b2 : decide ((j : Int) ≥ (U.length : Int)) = false := decide_eq_false (by omega)
  have hj2 : (j : Int) < (U.length : Int) := by omega
  clear h hU hb0 hx hxL
  unfold ptr at *
  go_enter Try.func15, Try.ntmps15
  go_wp2_with fail
  refine HL.out.mono ?_
  rintro e w1 ⟨v, rfl, hr, hb⟩
  obtain ⟨A, c, rfl⟩ := own_slice hr
  obtain ⟨g, rfl, x0, x1, x2⟩ := row_at (v := .slice A U.length c) hr HX.out
  have hb2 := below_alloc (Below.refl w1.heap.size w1) (.cells #[.int .i64 x.1, .int .i64 x.2.1, .string x.2.2] 30)
  have B2 := Aside0.mk ((HB0.out.trans (hb.mono HB0.out.size)).trans (hb2.mono (HB0.out.trans (hb.mono HB0.out.size)).size))
  have PR := Aside0.mk (blk_below (blk_below P0.out hb) hb2)
  have PX := Aside0.mk (blk_new w1 (.cells #[.int .i64 x.1, .int .i64 x.2.1, .string x.2.2] 30))
  have HlX : Aside0 (w.heap.size < w1.heap.size) := ⟨by have := blk_lt P0.out; have := hb.size; omega⟩
  clear hr hb hb2 HL
  go_upto_region 5 with fail
  generalize w1.alloc (.cells #[.int .i64 x.1, .int .i64 x.2.1, .string x.2.2] 30) = W2 at B2 PR PX ⊢
  generalize w1.heap.size = gx at PX HlX ⊢
  clear x0 x1 x2 P0 HB0
  have H2 := H0.out.below B2.out
  obtain ⟨w1, st, he, hm1, hg1, hs1, hst⟩ := (H2.map.of_block (w' := W2.drew) rfl).entry keyLaw Try.underlying59 (zero_int _) x
  rw [cnt_get] at he hm1
  obtain ⟨w2, hs, hm2, hg2, hs2⟩ := hst w1 rfl (.int .i64 ((L.count x : Int) - 1))
  have hl1 := (H2.map.of_block (w' := W2.drew) rfl).lookup keyLaw Try.underlying59 (zero_int _) x
  rw [cnt_get] at hl1
  have hl2 := hm1.lookup keyLaw Try.underlying59 (zero_int _) x
  have hfp : (fput (cnt L) x (.int .i64 (L.count x : Int)) x).getD (.int .i64 0) = .int .i64 (L.count x : Int) := by unfold fput; rw [if_pos rfl]; rfl
  rw [hfp] at hl2
  have hnX : gx ≠ mb := fun e => by have := H0.out.lt (k := mb) (.inr rfl); have := HlX.out; omega
  have hnR : w.heap.size ≠ mb := fun e => by have := H0.out.lt (k := mb) (.inr rfl); omega
  have hnXb : gx ≠ bb := fun e => by have := H0.out.lt (k := bb) (.inl rfl); have := HlX.out; omega
  have hnRb : w.heap.size ≠ bb := fun e => by have := H0.out.lt (k := bb) (.inl rfl); omega
  have X1 : w1.heap[gx]? = some (.cells #[.int .i64 x.1, .int .i64 x.2.1, .string x.2.2] 30 (0, 0)) := (hg1.block gx (blk_lt (blk_drew PX.out)) (by simpa using hnX)).trans PX.out
  have X2 : w2.heap[gx]? = some (.cells #[.int .i64 x.1, .int .i64 x.2.1, .string x.2.2] 30 (0, 0)) := (hg2.block gx (blk_lt X1) (by simpa using hnX)).trans X1
  have R1 : w1.heap[w.heap.size]? = some (.cells #[.int .i64 0, .int .i64 0, .string ⟨#[]⟩] 30 (0, 0)) := (hg1.block w.heap.size (blk_lt (blk_drew PR.out)) (by simpa using hnR)).trans PR.out
  have R2 : w2.heap[w.heap.size]? = some (.cells #[.int .i64 0, .int .i64 0, .string ⟨#[]⟩] 30 (0, 0)) := (hg2.block w.heap.size (blk_lt R1) (by simpa using hnR)).trans R1
  have Q1 : w1.heap[bb]? = some (.cells #[.int .i64 n, .int .i64 (L.length : Int), .map (some mb)] 61 (0, 0)) := (hg1.block bb (blk_lt (blk_drew H2.blk)) (by simpa using H2.ne)).trans H2.blk
  have Q2 : w2.heap[bb]? = some (.cells #[.int .i64 n, .int .i64 (L.length : Int), .map (some mb)] 61 (0, 0)) := (hg2.block bb (blk_lt Q1) (by simpa using H2.ne)).trans Q1
  have hq : L.count x ≤ L.length := List.count_le_length
  have hq1 : 1 ≤ L.count x := List.count_pos_iff.2 HxL.out
  have hq3 : L.length ≤ 1024 := H2.ok.len
  have wr1 : wrap64 ((L.count x : Int) - 1) = (L.count x : Int) - 1 := by unfold wrap64; omega
  have wr2 : wrap64 ((L.length : Int) - 1) = (L.length : Int) - 1 := by unfold wrap64; omega
  have hel : ((L.erase x).length : Int) = (L.length : Int) - 1 := by rw [List.length_erase_of_mem HxL.out]; omega
  -- the length is one less
  obtain ⟨w3, hw3⟩ : ∃ w3, w3 = w2.setCell ⟨bb, 1, none⟩ (.int .i64 ((L.length : Int) - 1)) := ⟨_, rfl⟩
  have Q3 : w3.heap[bb]? = some (.cells #[.int .i64 n, .int .i64 ((L.length : Int) - 1), .map (some mb)] 61 (0, 0)) := by rw [hw3]; exact blk_put Q2 1 _ (by simp)
  have X3 : w3.heap[gx]? = some (.cells #[.int .i64 x.1, .int .i64 x.2.1, .string x.2.2] 30 (0, 0)) := by rw [hw3]; exact (Below.heap_setCell w2 ⟨bb, 1, none⟩ _ gx hnXb).trans X2
  have R3 : w3.heap[w.heap.size]? = some (.cells #[.int .i64 0, .int .i64 0, .string ⟨#[]⟩] 30 (0, 0)) := by rw [hw3]; exact (Below.heap_setCell w2 ⟨bb, 1, none⟩ _ w.heap.size hnRb).trans R2
  have hm3 : MapF w3 mv mb (fput (cnt L) x (.int .i64 ((L.count x : Int) - 1))) := by rw [hw3]; exact hm2.of_block (Below.heap_setCell w2 ⟨bb, 1, none⟩ _ mb (fun e => H2.ne e.symm))
  have F3 : Fr w w3 (fp bb mb) := by
    rw [hw3]
    exact ((((Fr.of_below B2.out _).trans (Fr.of_below (w' := W2.drew) (below_drew1 (Below.refl _ _)) (fun _ => False)) (fun _ h => h.elim)).trans (Fr.of_grown hg1) (fun k hk => .inl (.inr hk))).trans (Fr.of_grown hg2) (fun k hk => .inl (.inr hk))).trans (fr_set1 w2 bb 1 _) (fun k hk => .inl (.inl hk))
  have hl3 := (hm3.of_block (w' := w3.drew) rfl).lookup keyLaw Try.underlying59 (zero_int _) x
  have hfp3 : (fput (cnt L) x (.int .i64 ((L.count x : Int) - 1)) x).getD (.int .i64 0) = .int .i64 ((L.count x : Int) - 1) := by unfold fput; rw [if_pos rfl]; rfl
  rw [hfp3] at hl3
  have HEnd : Aside0 (∀ W, W.heap[bb]? = w3.heap[bb]? → MapF W mv mb (cnt (L.erase x)) → BIs B W bb mb n (L.erase x)) := ⟨fun W hW hm => ⟨by rw [hW, hel]; exact Q3, hm, ⟨erase_sorted x H2.ok.srt, by omega⟩, H2.bb, H2.bm⟩⟩
  have c1 := H2.c1
  have c2 := H2.c2
  have k2 := (blk_cell Q1 2).trans (Eq.refl (some (Value.map (some mb))))
  have g1 := (blk_cell Q2 1).trans (Eq.refl (some (Value.int .i64 (L.length : Int))))
  have gf := blk_frozen Q2 1
  have a0 := (blk_cell PX.out 0).trans (Eq.refl (some (Value.int .i64 x.1)))
  have a1 := (blk_cell PX.out 1).trans (Eq.refl (some (Value.int .i64 x.2.1)))
  have a2 := (blk_cell PX.out 2).trans (Eq.refl (some (Value.string x.2.2)))
  have e0 := (blk_cell X1 0).trans (Eq.refl (some (Value.int .i64 x.1)))
  have e1 := (blk_cell X1 1).trans (Eq.refl (some (Value.int .i64 x.2.1)))
  have e2 := (blk_cell X1 2).trans (Eq.refl (some (Value.string x.2.2)))
  have HQ3 := Aside0.mk Q3
  have HX3 := Aside0.mk X3
  have HR3 := Aside0.mk R3
  have HM3 := Aside0.mk hm3
  have HF3 := Aside0.mk F3
  have HL3 := Aside0.mk hl3
  have HW3 := Aside0.mk hw3
  have HNs := Aside0.mk (And.intro hnX (And.intro hnR (And.intro hnXb (And.intro hnRb H2.ne))))
  clear H2 hm1 hm2 hg1 hg2 hs1 hs2 hst hfp hfp3 hl3 X1 X2 R1 R2 Q1 Q2 Q3 X3 R3 hm3 F3 hw3 hel hnX hnR hnXb hnRb PX PR B2
  unfold mv at *
  go_wp2_with fail
  go_region
  all_goals
    clear he hs hl1 hl2 c1 c2 k2 a0 a1 a2 e0 e1 e2
    go_upto_region 7 with fail
    rw [← HW3.out]
    have m2 := (blk_cell HQ3.out 2).trans (Eq.refl (some (Value.map (some mb))))
    have p0 := (blk_cell HX3.out 0).trans (Eq.refl (some (Value.int .i64 x.1)))
    have p1 := (blk_cell HX3.out 1).trans (Eq.refl (some (Value.int .i64 x.2.1)))
    have p2 := (blk_cell HX3.out 2).trans (Eq.refl (some (Value.string x.2.2)))
    have hl3 := HL3.out
    clear g1 gf
    by_cases hc : L.count x = 1
    · have z1 : ((L.count x : Int) - 1 == 0) = true := by simp; omega
      obtain ⟨w4, hdl, hm4, hg4, hs4⟩ := (HM3.out.of_block (w' := w3.drew.drew) rfl).delete keyLaw Try.underlying59 x 30 0
      have hmF : fdel (fput (cnt L) x (.int .i64 ((L.count x : Int) - 1))) x = cnt (L.erase x) := by
        rw [cnt_erase L x HxL.out, if_pos hc]
        funext y
        unfold fdel fput
        by_cases e : x = y
        · rw [if_pos e, if_pos e]
        · rw [if_neg e, if_neg e, if_neg e]
      rw [hmF] at hm4
      have blk4 : ∀ k, k ≠ mb → k < w3.heap.size → w4.heap[k]? = w3.heap[k]? := fun k hk hlt => hg4.block k hlt (by simpa using hk)
      have XX := Aside0.mk ((blk4 gx HNs.out.1 (blk_lt HX3.out)).trans HX3.out)
      have RR := Aside0.mk ((blk4 w.heap.size HNs.out.2.1 (blk_lt HR3.out)).trans HR3.out)
      have F4 : Fr w w4 (fp bb mb) := (HF3.out.trans (Fr.of_below (w' := w3.drew.drew) (below_drew1 (below_drew1 (Below.refl _ _))) (fun _ => False)) (fun _ h => h.elim)).trans (Fr.of_grown hg4) (fun k hk => .inl (.inr hk))
      have HFin : Aside0 (BIs B (((w4.setCell ⟨w.heap.size, 0, none⟩ (.int .i64 x.1)).setCell ⟨w.heap.size, 1, none⟩ (.int .i64 x.2.1)).setCell ⟨w.heap.size, 2, none⟩ (.string x.2.2)) bb mb n (L.erase x) ∧ Fr w (((w4.setCell ⟨w.heap.size, 0, none⟩ (.int .i64 x.1)).setCell ⟨w.heap.size, 1, none⟩ (.int .i64 x.2.1)).setCell ⟨w.heap.size, 2, none⟩ (.string x.2.2)) (fp bb mb)) := ⟨by
        have hI := HEnd.out w4 (blk4 bb HNs.out.2.2.2.2 (blk_lt HQ3.out)) hm4
        have g3 := (((fr_set1 w4 w.heap.size 0 (.int .i64 x.1)).trans (fr_set1 _ w.heap.size 1 (.int .i64 x.2.1)) (fun _ h => .inl h)).trans (fr_set1 _ w.heap.size 2 (.string x.2.2)) (fun _ h => .inl h))
        exact ⟨hI.fr g3 (fun k hk e => by rcases hk with h | h; exact HNs.out.2.2.2.1 (e.symm.trans h); exact HNs.out.2.1 (e.symm.trans h)), F4.trans g3 (fun k hk => .inr (Nat.le_of_eq hk.symm))⟩⟩
      have D0 := (blk_cell RR.out 0).trans rfl
      have D1 := (blk_cell RR.out 1).trans rfl
      have D2 := (blk_cell RR.out 2).trans rfl
      have E0 := (blk_cell XX.out 0).trans (Eq.refl (some (Value.int .i64 x.1)))
      have E1 := (blk_cell XX.out 1).trans (Eq.refl (some (Value.int .i64 x.2.1)))
      have E2 := (blk_cell XX.out 2).trans (Eq.refl (some (Value.string x.2.2)))
      have FF := blk_frozen RR.out
      clear hm4 hg4 hs4 hmF blk4 F4 hc
      try unfold mv at hdl
      go_wp2_with fail
      go_region
      go_wp2_with fail
      go_region
      all_goals
        go_wp2_with fail
        refine bodyPost_ret (v := .tuple #[.agg #[.int .i64 x.1, .int .i64 x.2.1, .string x.2.2], .int .i64 0]) (by simp [results, Try.results15, go_sem, D0, D1, D2]) rfl ⟨rfl, HFin.out.1, HFin.out.2⟩
    · have z1 : ((L.count x : Int) - 1 == 0) = false := by simp; omega
      have hmF : fput (cnt L) x (.int .i64 ((L.count x : Int) - 1)) = cnt (L.erase x) := by rw [cnt_erase L x HxL.out, if_neg hc]
      have hm4 := HM3.out
      rw [hmF] at hm4
      have XX := Aside0.mk HX3.out
      have RR := Aside0.mk HR3.out
      have HFin : Aside0 (BIs B (((w3.setCell ⟨w.heap.size, 0, none⟩ (.int .i64 x.1)).setCell ⟨w.heap.size, 1, none⟩ (.int .i64 x.2.1)).setCell ⟨w.heap.size, 2, none⟩ (.string x.2.2)).drew bb mb n (L.erase x) ∧ Fr w (((w3.setCell ⟨w.heap.size, 0, none⟩ (.int .i64 x.1)).setCell ⟨w.heap.size, 1, none⟩ (.int .i64 x.2.1)).setCell ⟨w.heap.size, 2, none⟩ (.string x.2.2)).drew (fp bb mb)) := ⟨by
        have hI := HEnd.out w3 rfl hm4
        have g3 := (((fr_set1 w3 w.heap.size 0 (.int .i64 x.1)).trans (fr_set1 _ w.heap.size 1 (.int .i64 x.2.1)) (fun _ h => .inl h)).trans (fr_set1 _ w.heap.size 2 (.string x.2.2)) (fun _ h => .inl h))
        exact ⟨(hI.fr g3 (fun k hk e => by rcases hk with h | h; exact HNs.out.2.2.2.1 (e.symm.trans h); exact HNs.out.2.1 (e.symm.trans h))).below (below_drew1 (Below.refl _ _)), (HF3.out.trans g3 (fun k hk => .inr (Nat.le_of_eq hk.symm))).trans (Fr.of_below (below_drew1 (Below.refl _ _)) (fun _ => False)) (fun _ h => h.elim)⟩⟩
      have D0 := (blk_cell RR.out 0).trans rfl
      have D1 := (blk_cell RR.out 1).trans rfl
      have D2 := (blk_cell RR.out 2).trans rfl
      have E0 := (blk_cell XX.out 0).trans (Eq.refl (some (Value.int .i64 x.1)))
      have E1 := (blk_cell XX.out 1).trans (Eq.refl (some (Value.int .i64 x.2.1)))
      have E2 := (blk_cell XX.out 2).trans (Eq.refl (some (Value.string x.2.2)))
      have FF := blk_frozen RR.out
      clear hm4 hmF hc
      go_wp2_with fail
      go_region
      all_goals
        go_wp2_with fail
        refine bodyPost_ret (v := .tuple #[.agg #[.int .i64 x.1, .int .i64 x.2.1, .string x.2.2], .int .i64 0]) (by simp [results, Try.results15, go_sem, D0, D1, D2]) rfl ⟨rfl, HFin.out.1, HFin.out.2⟩
theorem deliver_calls (h : BIs B w bb mb n L) (i : Int) : Calls Try.prog 15 #[ptr bb, .int .i64 i] w (DPost B bb mb n w (delS L i)) := by
  unfold delS
  by_cases hh : hasI L i
  · rw [if_pos hh]
    obtain ⟨j, rfl⟩ : ∃ j : Nat, i = j := ⟨i.toNat, by have := hh.1; omega⟩
    have hj : j < (uniq L).length := by have := hh.2; omega
    have e : atU L (j : Int) = (uniq L)[j] := by
      unfold atU
      rw [Int.toNat_natCast, List.getD_eq_getElem?_getD, List.getElem?_eq_getElem hj]
      rfl
    rw [e]
    exact deliver_yes h j _ (List.getElem?_eq_getElem hj)
  · rw [if_neg hh]
    exact deliver_no h i hh
set_option maxHeartbeats 1600000 in
set_option maxRecDepth 100000 in
theorem drop_calls (h : BIs B w bb mb n L) (i : Int) : Calls Try.prog 18 #[ptr bb, .int .i64 i] w (APost B bb mb n w ((delS L i).1, (delS L i).2.2)) := by
  have hum := Try.underlying30
  have HD := Aside0.mk (deliver_calls h i)
  generalize delS L i = d at HD
  obtain ⟨d1, d2, d3⟩ := d
  clear h
  unfold ptr at *
  go_enter Try.func18, Try.ntmps18
  go_wp2_with fail
  refine HD.out.mono ?_
  rintro e w1 ⟨rfl, hI, hF⟩
  have hb := below_alloc (Below.refl w1.heap.size w1) (.cells #[.int .i64 d2.1, .int .i64 d2.2.1, .string d2.2.2] 30)
  have I2 := Aside0.mk (hI.below hb)
  have F2 := Aside0.mk (hF.trans (Fr.of_below hb (fun _ => False)) (fun _ h => h.elim))
  clear hI hF HD hb
  unfold mv
  go_wp2_with fail
  go_ret
  exact ⟨rfl, I2.out, F2.out⟩
end
end Go.Proofs.Ytmledapichlhdaa.Bag
