/- The document's bag: add, Put, Count. -/
import Derived.Test.YtmledapichlhdaaRBag
set_option linter.unusedVariables false
set_option linter.unusedSimpArgs false
namespace Go.Proofs.Ytmledapichlhdaa.Bag
open Go.RowKit Go.Proofs.YtmledapichlhdaaW.PrintWords Go.Proofs.YtmledapichlhdaaW.PrintLast Go.Proofs.YtmledapichlhdaaW.PrintMore Go.Proofs.Ytmledapichlhdaa.Maps Go.Proofs.Ytmledapichlhdaa.BagS
theorem room1 {n j k : Nat} (h1 : n ≤ j + 1) (h2 : j ≤ k) (h3 : k < 1024) : (n + 1) * 32 ≤ 140737488355328 := by omega
theorem room2 {n j k : Nat} (h1 : n ≤ j + 1) (h2 : j ≤ k) (h3 : k < 1024) : (n + 1 + 1) * 32 ≤ 140737488355328 := by omega
section
variable {B rb : Nat} {w w' : World} {v : Value} {n : Int} {L : List Msg}
set_option maxHeartbeats 1600000 in
set_option maxRecDepth 100000 in
theorem radd_full (h : RIs B w rb v n L) (m : Msg) (hf : 1024 ≤ L.length) : Calls Try.prog 34 #[ptr rb, mv m] w fun e w' => e = .returned (.int .i64 5) ∧ RPost B rb v n w L w' := by
  have hup := Try.underlying36
  have hu := Try.underlying54
  obtain ⟨A, c, rfl⟩ := h.slice
  have hb1 := below_alloc (Below.refl w.heap.size w) (.cells #[.int .i64 m.1, .int .i64 m.2.1, .string m.2.2] 43)
  have c1 := (h.below hb1).c1
  have HP := Aside0.mk (h.stay hb1)
  have b1 : decide ((L.length : Int) ≥ 1024) = true := decide_eq_true (by omega)
  clear h hb1 hf
  unfold ptr mv
  go_enter Try.func34, Try.ntmps34
  go_wp2_with fail
  go_ret
  exact ⟨rfl, HP.out⟩
set_option maxHeartbeats 6400000 in
set_option maxRecDepth 100000 in
theorem radd_room (h : RIs B w rb v n L) (m : Msg) (hf : L.length < 1024) : Calls Try.prog 34 #[ptr rb, mv m] w fun e w' => e = .returned (.int .i64 0) ∧ RPost B rb v n w (ins L m) w' := by
  have hup := Try.underlying36
  have hu := Try.underlying54
  have hum := Try.underlying43
  obtain ⟨A, c, rfl⟩ := h.slice
  have H0 := Aside0.mk h
  have hb1 := below_alloc (Below.refl w.heap.size w) (.cells #[.int .i64 m.1, .int .i64 m.2.1, .string m.2.2] 43)
  have B1 := Aside0.mk hb1
  have P1 := Aside0.mk (blk_new w (.cells #[.int .i64 m.1, .int .i64 m.2.1, .string m.2.2] 43))
  have HF := Aside0.mk hf
  have b1 : decide ((L.length : Int) ≥ 1024) = false := decide_eq_false (by omega)
  clear h hb1 hf
  unfold ptr mv
  go_enter Try.func34, Try.ntmps34
  go_upto_region 1 with fail
  generalize w.alloc (.cells #[.int .i64 m.1, .int .i64 m.2.1, .string m.2.2] 43) = W1 at B1 P1 ⊢
  have HM : Aside0 (w.heap.size ≤ W1.heap.size) := ⟨B1.out.size⟩
  have c1 := (H0.out.below B1.out).c1
  go_wp2_with fail
  go_loopw [5, 6, 20] (fun v5 v6 c wi => ∃ j : Nat, j ≤ L.length ∧ v6 = .bool (ip L m j).2 ∧ c = .int .i64 j ∧ Aside0 (wi.ownsRow W1.heap.size 43 3 v5 (ip L m j).1.length (flat (ip L m j).1) ∧ Below W1.heap.size W1 wi)) (fun _ _ c _ => L.length - (intOf c).toNat)
  case atStart => exact ⟨0, by omega, by rw [ip_zero], rfl, ⟨by rw [ip_zero]; exact own_nil _ _ _ _, Below.refl _ _⟩⟩
  case round =>
    obtain ⟨j, hj, rfl, rfl, I⟩ := hrel
    clear c1
    obtain ⟨A5, c5, rfl⟩ := own_slice I.out.1
    have BI := Aside0.mk (B1.out.trans (I.out.2.mono HM.out))
    by_cases hlj : j < L.length
    · obtain ⟨x, hx⟩ : ∃ x, L[j]? = some x := ⟨_, List.getElem?_eq_getElem hlj⟩
      have hb2 : decide ((j : Int) < (L.length : Int)) = true := decide_eq_true (by omega)
      obtain ⟨g5, rfl, x0, x1, x2⟩ := rrow_at (v := .slice none 0 0) (l := L) (H0.out.below BI.out).row hx
      have PX := Aside0.mk (blk_new wr (.cells #[.int .i64 x.1, .int .i64 x.2.1, .string x.2.2] 43))
      have hbx := below_alloc (Below.refl wr.heap.size wr) (.cells #[.int .i64 x.1, .int .i64 x.2.1, .string x.2.2] 43)
      have I2 := Aside0.mk (And.intro (own_below I.out.1 hbx) (I.out.2.trans (hbx.mono I.out.2.size)))
      have NB : Aside0 (∀ k, Value.ownBlock (.slice A5 (ip L m j).1.length c5) = some k → k < wr.heap.size) := ⟨fun k hk => own_lt2 I.out.1 hk⟩
      have HX := Aside0.mk hx
      clear hx hbx BI
      go_upto_region 8 with fail
      generalize wr.alloc (.cells #[.int .i64 x.1, .int .i64 x.2.1, .string x.2.2] 43) = W9 at PX I2 ⊢
      generalize wr.heap.size = b9 at PX NB ⊢
      clear x0 x1 x2 I
      have PM := Aside0.mk (blk_below P1.out I2.out.2)
      have p0 := (blk_cell PX.out 0).trans (Eq.refl (some (Value.int .i64 x.1)))
      have p1 := (blk_cell PX.out 1).trans (Eq.refl (some (Value.int .i64 x.2.1)))
      have p2 := (blk_cell PX.out 2).trans (Eq.refl (some (Value.string x.2.2)))
      have hml := room1 (ip_len L m j) hj HF.out
      have N1 := Aside0.mk (nxt j L.length hlj (Nat.le_of_lt HF.out))
      have M1 := Aside0.mk (meas j L.length hlj (Nat.le_of_lt HF.out))
      rcases Bool.eq_false_or_eq_true (ip L m j).2 with hq | hq
      · have hE := Aside0.mk (ip_go HX.out (Or.inl hq))
        rw [hq] at hE ⊢
        go_wp2_with (at_builtin; refine print_append_cells W1.heap.size rfl (.tmp 35) (.tmp 37) 51 43 (.agg #[.int .i64 0, .int .i64 0, .string ⟨#[]⟩]) 3 32 rfl Try.underlying51 info_rmsg rfl (by decide) (by decide) _ _ _ (enc x) rfl rfl rfl (one_cells x) I2.out.1 I2.out.2 I2.out.2.size hml ?_; intro v6 w6 hr6 hb6 hg6 ho6)
        have I6 := Aside0.mk (And.intro hr6 hb6)
        clear hr6 hb6 hg6 ho6 p0 p1 p2
        go_wp2_with fail
        go_roundw
        case rel => exact ⟨j + 1, hlj, by rw [hE.out], N1.out, ⟨by rw [hE.out, flat_snoc, List.length_append]; exact I6.out.1, I6.out.2⟩⟩
        case measure => exact M1.out
      have m0 := (blk_cell PM.out 0).trans (Eq.refl (some (Value.int .i64 m.1)))
      have m1 := (blk_cell PM.out 1).trans (Eq.refl (some (Value.int .i64 m.2.1)))
      have m2 := (blk_cell PM.out 2).trans (Eq.refl (some (Value.string m.2.2)))
      have hA := Aside0.mk (ahead_calls m x W9)
      unfold mv at hA
      rcases Bool.eq_false_or_eq_true (lt m x) with hq2 | hq2
      · have hE := Aside0.mk (ip_now HX.out hq hq2)
        rw [hq2] at hA
        rw [hq]
        go_wp2_with fail
        refine hA.out.mono ?_
        rintro e w5 ⟨rfl, hb⟩
        have I5 := Aside0.mk (And.intro (own_below I2.out.1 hb) (I2.out.2.trans (hb.mono I2.out.2.size)))
        have PX5 := Aside0.mk (blk_below PX.out hb)
        have PM5 := Aside0.mk (blk_below PM.out hb)
        clear hb hA p0 p1 p2 m0 m1 m2
        have m0 := (blk_cell PM5.out 0).trans (Eq.refl (some (Value.int .i64 m.1)))
        have m1 := (blk_cell PM5.out 1).trans (Eq.refl (some (Value.int .i64 m.2.1)))
        have m2 := (blk_cell PM5.out 2).trans (Eq.refl (some (Value.string m.2.2)))
        go_upto_region 11 with (at_builtin; refine print_append_cells W1.heap.size rfl (.tmp 31) (.tmp 33) 51 43 (.agg #[.int .i64 0, .int .i64 0, .string ⟨#[]⟩]) 3 32 rfl Try.underlying51 info_rmsg rfl (by decide) (by decide) _ _ _ (enc m) rfl rfl rfl (one_cells m) I5.out.1 I5.out.2 I5.out.2.size hml ?_; intro v6 w6 hr6 hb6 hg6 ho6)
        have hml2 := room2 (ip_len L m j) hj HF.out
        have I6 := Aside0.mk (And.intro hr6 hb6)
        have PX6 := Aside0.mk ((hg6.block b9 (blk_lt PX5.out) (fun e => Nat.lt_irrefl _ (NB.out b9 e.symm))).trans PX5.out)
        clear hr6 hb6 hg6 ho6 m0 m1 m2
        have p0 := (blk_cell PX6.out 0).trans (Eq.refl (some (Value.int .i64 x.1)))
        have p1 := (blk_cell PX6.out 1).trans (Eq.refl (some (Value.int .i64 x.2.1)))
        have p2 := (blk_cell PX6.out 2).trans (Eq.refl (some (Value.string x.2.2)))
        obtain ⟨A6, c6, rfl⟩ := own_slice I6.out.1
        go_wp2_with (at_builtin; refine print_append_cells W1.heap.size rfl (.tmp 35) (.tmp 37) 51 43 (.agg #[.int .i64 0, .int .i64 0, .string ⟨#[]⟩]) 3 32 rfl Try.underlying51 info_rmsg rfl (by decide) (by decide) _ _ _ (enc x) rfl rfl rfl (one_cells x) I6.out.1 I6.out.2 I6.out.2.size hml2 ?_; intro v7 w7 hr6 hb6 hg6 ho6)
        have I7 := Aside0.mk (And.intro hr6 hb6)
        clear hr6 hb6 hg6 ho6 p0 p1 p2
        go_wp2_with fail
        go_roundw
        case rel => exact ⟨j + 1, hlj, by rw [hE.out], N1.out, ⟨by rw [hE.out, flat_snoc, flat_snoc, List.length_append, List.length_append]; exact I7.out.1, I7.out.2⟩⟩
        case measure => exact M1.out
      · have hE := Aside0.mk (ip_go HX.out (Or.inr hq2))
        rw [hq2] at hA
        rw [hq] at hE ⊢
        go_wp2_with fail
        refine hA.out.mono ?_
        rintro e w5 ⟨rfl, hb⟩
        have I5 := Aside0.mk (And.intro (own_below I2.out.1 hb) (I2.out.2.trans (hb.mono I2.out.2.size)))
        have PX5 := Aside0.mk (blk_below PX.out hb)
        clear hb hA p0 p1 p2 m0 m1 m2
        have p0 := (blk_cell PX5.out 0).trans (Eq.refl (some (Value.int .i64 x.1)))
        have p1 := (blk_cell PX5.out 1).trans (Eq.refl (some (Value.int .i64 x.2.1)))
        have p2 := (blk_cell PX5.out 2).trans (Eq.refl (some (Value.string x.2.2)))
        go_wp2_with (at_builtin; refine print_append_cells W1.heap.size rfl (.tmp 35) (.tmp 37) 51 43 (.agg #[.int .i64 0, .int .i64 0, .string ⟨#[]⟩]) 3 32 rfl Try.underlying51 info_rmsg rfl (by decide) (by decide) _ _ _ (enc x) rfl rfl rfl (one_cells x) I5.out.1 I5.out.2 I5.out.2.size hml ?_; intro v6 w6 hr6 hb6 hg6 ho6)
        have I6 := Aside0.mk (And.intro hr6 hb6)
        clear hr6 hb6 hg6 ho6 p0 p1 p2
        go_wp2_with fail
        go_roundw
        case rel => exact ⟨j + 1, hlj, by rw [hE.out], N1.out, ⟨by rw [hE.out, flat_snoc, List.length_append]; exact I6.out.1, I6.out.2⟩⟩
        case measure => exact M1.out
    · obtain rfl : j = L.length := by omega
      have hb2 : decide ((L.length : Int) < (L.length : Int)) = false := decide_eq_false (by omega)
      have OKM : Aside0 (Ok (ins L m)) := ⟨⟨ins_sorted m H0.out.ok.srt, by rw [ins_len]; exact HF.out⟩⟩
      rcases ip_end (L := L) (m := m) with ⟨hq, he⟩ | ⟨hq, he⟩
      · have hr := I.out.1
        rw [he] at hr
        have RS := Aside0.mk (rset H0.out HM.out BI.out hr OKM.out)
        have gf := blk_frozen (H0.out.below BI.out).blk 1
        have gc := (H0.out.below BI.out).c1
        clear hr I
        rw [hq]
        go_wp2_with fail
        go_ret
        exact ⟨rfl, RS.out⟩
      · have PM := Aside0.mk (blk_below P1.out I.out.2)
        have m0 := (blk_cell PM.out 0).trans (Eq.refl (some (Value.int .i64 m.1)))
        have m1 := (blk_cell PM.out 1).trans (Eq.refl (some (Value.int .i64 m.2.1)))
        have m2 := (blk_cell PM.out 2).trans (Eq.refl (some (Value.string m.2.2)))
        have hml := room1 (ip_len L m L.length) (Nat.le_refl _) HF.out
        have he := Aside0.mk he
        rw [hq]
        go_upto_region 15 with (at_builtin; refine print_append_cells W1.heap.size rfl (.tmp 42) (.tmp 44) 51 43 (.agg #[.int .i64 0, .int .i64 0, .string ⟨#[]⟩]) 3 32 rfl Try.underlying51 info_rmsg rfl (by decide) (by decide) _ _ _ (enc m) rfl rfl rfl (one_cells m) I.out.1 I.out.2 I.out.2.size hml ?_; intro v6 w6 hr6 hb6 hg6 ho6)
        have hr : w6.ownsRow W1.heap.size 43 3 v6 (ins L m).length (flat (ins L m)) := by rw [← he.out, flat_snoc, List.length_append]; exact hr6
        obtain ⟨A6, c6, rfl⟩ := own_slice hr
        have B6 := Aside0.mk (B1.out.trans (hb6.mono HM.out))
        have RS := Aside0.mk (rset H0.out HM.out B6.out hr OKM.out)
        have gf := blk_frozen (H0.out.below B6.out).blk 1
        have gc := (H0.out.below B6.out).c1
        clear hr hr6 hb6 hg6 ho6 m0 m1 m2 I
        go_wp2_with fail
        go_ret
        exact ⟨rfl, RS.out⟩
theorem radd_calls (h : RIs B w rb v n L) (m : Msg) : Calls Try.prog 34 #[ptr rb, mv m] w fun e w' => e = .returned (.int .i64 (addS L m).2) ∧ RPost B rb v n w (addS L m).1 w' := by
  unfold addS
  by_cases hf : 1024 ≤ L.length
  · rw [if_pos hf]; exact radd_full h m hf
  · rw [if_neg hf]; exact radd_room h m (by omega)
theorem RPost.late {W : World} {L' : List Msg} (hb : Below W.heap.size W w) (h : RPost B rb v n w L' w') : RPost B rb v n W L' w' := by
  obtain ⟨v', h1, h2, h3⟩ := h
  exact ⟨v', h1, (Fr.of_below hb _).trans h2 (fun k hk => .inl hk), fun k hk => (h3 k hk).imp id (Nat.le_trans hb.size)⟩
set_option maxHeartbeats 3200000 in
set_option maxRecDepth 100000 in
theorem rput_calls (h : RIs B w rb v n L) (m : Msg) : Calls Try.prog 21 #[ptr rb, mv m] w fun e w' => e = .returned (.int .i64 (putS n L m).2) ∧ RPost B rb v n w (putS n L m).1 w' := by
  have hup := Try.underlying36
  have hu := Try.underlying54
  have hum := Try.underlying43
  have hb1 := below_alloc (Below.refl w.heap.size w) (.cells #[.int .i64 m.1, .int .i64 m.2.1, .string m.2.2] 43)
  have P1 := blk_new w (.cells #[.int .i64 m.1, .int .i64 m.2.1, .string m.2.2] 43)
  have H1 := h.below hb1
  have c0 := H1.c0
  have hA := Aside0.mk (radd_calls (H1.below (below_drew1 (Below.refl _ _))) m)
  have HS := Aside0.mk (fun w' (hb : Below w.heap.size w w') => h.stay hb)
  have HB := Aside0.mk hb1
  have m0 := (blk_cell P1 0).trans (Eq.refl (some (Value.int .i64 m.1)))
  have m1 := (blk_cell P1 1).trans (Eq.refl (some (Value.int .i64 m.2.1)))
  have m2 := (blk_cell P1 2).trans (Eq.refl (some (Value.string m.2.2)))
  clear h hb1 P1 H1
  generalize hr : putS n L m = r
  have HR := Aside0.mk hr
  clear hr
  unfold ptr mv at *
  have hcase : (badN n m.1 ∧ (decide (m.1 < 0) = true ∨ (decide (m.1 < 0) = false ∧ decide (m.1 ≥ n) = true))) ∨ (¬ badN n m.1 ∧ decide (m.1 < 0) = false ∧ decide (m.1 ≥ n) = false) := by
    unfold badN
    rw [decide_eq_true_eq, decide_eq_false_iff_not, decide_eq_true_eq, decide_eq_false_iff_not]; omega
  have hcase2 : (badN n m.2.1 ∧ (decide (m.2.1 < 0) = true ∨ (decide (m.2.1 < 0) = false ∧ decide (m.2.1 ≥ n) = true))) ∨ (¬ badN n m.2.1 ∧ decide (m.2.1 < 0) = false ∧ decide (m.2.1 ≥ n) = false) := by
    unfold badN
    rw [decide_eq_true_eq, decide_eq_false_iff_not, decide_eq_true_eq, decide_eq_false_iff_not]; omega
  rcases hcase with ⟨hb, h1 | ⟨h1, h2⟩⟩ | ⟨hb, h1, h2⟩
  · have HE : Aside0 (r = (L, 1)) := ⟨by rw [← HR.out]; unfold putS; rw [if_pos (.inl hb)]⟩
    clear hcase2 hb
    go_enter Try.func21, Try.ntmps21
    go_wp2_with fail
    go_region
    go_wp2_with fail
    go_ret
    rw [HE.out]
    exact ⟨rfl, HS.out _ (by first | exact HB.out | exact below_drew1 HB.out)⟩
  · have HE : Aside0 (r = (L, 1)) := ⟨by rw [← HR.out]; unfold putS; rw [if_pos (.inl hb)]⟩
    clear hcase2 hb
    go_enter Try.func21, Try.ntmps21
    go_wp2_with fail
    go_region
    go_wp2_with fail
    go_ret
    rw [HE.out]
    exact ⟨rfl, HS.out _ (by first | exact HB.out | exact below_drew1 HB.out)⟩
  · rcases hcase2 with ⟨hb2, h3 | ⟨h3, h4⟩⟩ | ⟨hb2, h3, h4⟩
    · have HE : Aside0 (r = (L, 1)) := ⟨by rw [← HR.out]; unfold putS; rw [if_pos (.inr hb2)]⟩
      clear hb2 hb
      go_enter Try.func21, Try.ntmps21
      go_wp2_with fail
      go_region
      go_wp2_with fail
      go_ret
      rw [HE.out]
      exact ⟨rfl, HS.out _ (by first | exact HB.out | exact below_drew1 HB.out)⟩
    · have HE : Aside0 (r = (L, 1)) := ⟨by rw [← HR.out]; unfold putS; rw [if_pos (.inr hb2)]⟩
      clear hb2 hb
      go_enter Try.func21, Try.ntmps21
      go_wp2_with fail
      go_region
      go_wp2_with fail
      go_ret
      rw [HE.out]
      exact ⟨rfl, HS.out _ (by first | exact HB.out | exact below_drew1 HB.out)⟩
    · by_cases hl : 65535 < m.2.2.size
      · have HE : Aside0 (r = (L, 2)) := ⟨by rw [← HR.out]; unfold putS; rw [if_neg (fun e => e.elim hb hb2), if_pos hl]⟩
        have h5 : decide ((m.2.2.size : Int) > 65535) = true := decide_eq_true (by omega)
        clear hb2 hb hl
        go_enter Try.func21, Try.ntmps21
        go_wp2_with fail
        go_region
        go_wp2_with fail
        go_ret
        rw [HE.out]
        exact ⟨rfl, HS.out _ (by first | exact HB.out | exact below_drew1 HB.out)⟩
      · have HE : Aside0 (r = addS L m) := ⟨by rw [← HR.out]; unfold putS; rw [if_neg (fun e => e.elim hb hb2), if_neg hl]⟩
        have h5 : decide ((m.2.2.size : Int) > 65535) = false := decide_eq_false (by omega)
        clear hb2 hb hl
        go_enter Try.func21, Try.ntmps21
        go_wp2_with fail
        go_region
        go_wp2_with fail
        refine hA.out.mono ?_
        rintro e w2 ⟨rfl, hp⟩
        have HP := Aside0.mk (RPost.late (below_drew1 HB.out) hp)
        clear hp hA
        go_wp2_with fail
        go_ret
        rw [HE.out]
        exact ⟨rfl, HP.out⟩
set_option maxHeartbeats 3200000 in
set_option maxRecDepth 100000 in
theorem rcount_calls (h : RIs B w rb v n L) (m : Msg) : Calls Try.prog 24 #[ptr rb, mv m] w fun e w' => e = .returned (.int .i64 (L.count m : Int)) ∧ Below w.heap.size w w' := by
  have hup := Try.underlying36
  have hu := Try.underlying54
  have hum := Try.underlying43
  obtain ⟨A, c, rfl⟩ := h.slice
  have H0 := Aside0.mk h
  have hb1 := below_alloc (Below.refl w.heap.size w) (.cells #[.int .i64 m.1, .int .i64 m.2.1, .string m.2.2] 43)
  have B1 := Aside0.mk hb1
  have P1 := Aside0.mk (blk_new w (.cells #[.int .i64 m.1, .int .i64 m.2.1, .string m.2.2] 43))
  have HF := Aside0.mk h.ok.len
  clear h hb1
  unfold ptr mv
  go_enter Try.func24, Try.ntmps24
  go_upto_region 1 with fail
  generalize w.alloc (.cells #[.int .i64 m.1, .int .i64 m.2.1, .string m.2.2] 43) = W1 at B1 P1 ⊢
  have HM : Aside0 (w.heap.size ≤ W1.heap.size) := ⟨B1.out.size⟩
  have c1 := (H0.out.below B1.out).c1
  go_wp2_with fail
  go_loopw [5, 13] (fun v5 c wi => ∃ j : Nat, j ≤ L.length ∧ v5 = .int .i64 (cn L m j : Int) ∧ c = .int .i64 j ∧ Aside0 (Below W1.heap.size W1 wi)) (fun _ c _ => L.length - (intOf c).toNat)
  case atStart => exact ⟨0, by omega, by rw [cn_zero]; rfl, rfl, ⟨Below.refl _ _⟩⟩
  case round =>
    obtain ⟨j, hj, rfl, rfl, I⟩ := hrel
    clear c1
    have BI := Aside0.mk (B1.out.trans (I.out.mono HM.out))
    by_cases hlj : j < L.length
    · obtain ⟨x, hx⟩ : ∃ x, L[j]? = some x := ⟨_, List.getElem?_eq_getElem hlj⟩
      have hb2 : decide ((j : Int) < (L.length : Int)) = true := decide_eq_true (by omega)
      obtain ⟨g5, rfl, x0, x1, x2⟩ := rrow_at (v := .slice none 0 0) (l := L) (H0.out.below BI.out).row hx
      have PX := Aside0.mk (blk_new wr (.cells #[.int .i64 x.1, .int .i64 x.2.1, .string x.2.2] 43))
      have hbx := below_alloc (Below.refl wr.heap.size wr) (.cells #[.int .i64 x.1, .int .i64 x.2.1, .string x.2.2] 43)
      have I2 := Aside0.mk (I.out.trans (hbx.mono I.out.size))
      have HX := Aside0.mk hx
      have hcl := cn_le L m j
      have wr1 : wrap64 ((cn L m j : Int) + 1) = ((cn L m j + 1 : Nat) : Int) := by have h2 := HF.out; unfold wrap64; omega
      clear hx hbx BI hcl
      go_upto_region 5 with fail
      generalize wr.alloc (.cells #[.int .i64 x.1, .int .i64 x.2.1, .string x.2.2] 43) = W9 at PX I2 ⊢
      generalize wr.heap.size = b9 at PX ⊢
      clear x0 x1 x2 I
      have PM := Aside0.mk (blk_below P1.out I2.out)
      have p0 := (blk_cell PX.out 0).trans (Eq.refl (some (Value.int .i64 x.1)))
      have p1 := (blk_cell PX.out 1).trans (Eq.refl (some (Value.int .i64 x.2.1)))
      have p2 := (blk_cell PX.out 2).trans (Eq.refl (some (Value.string x.2.2)))
      have m0 := (blk_cell PM.out 0).trans (Eq.refl (some (Value.int .i64 m.1)))
      have m1 := (blk_cell PM.out 1).trans (Eq.refl (some (Value.int .i64 m.2.1)))
      have m2 := (blk_cell PM.out 2).trans (Eq.refl (some (Value.string m.2.2)))
      have N1 := Aside0.mk (nxt j L.length hlj HF.out)
      have M1 := Aside0.mk (meas j L.length hlj HF.out)
      have W9B : Aside0 (Below W1.heap.size W1 W9.drew) := ⟨below_drew1 I2.out⟩
      by_cases hxm : x = m
      · have hE := Aside0.mk (cn_hit HX.out hxm)
        subst hxm
        go_wp2_with fail
        go_roundw
        case rel => exact ⟨j + 1, hlj, by rw [hE.out]; first | rfl | rw [wr1], N1.out, by first | exact I2 | exact W9B⟩
        case measure => exact M1.out
      · have hE := Aside0.mk (cn_miss HX.out hxm)
        have heq : ∀ w : World, (Op.equalIn 10000 43 (.agg #[.int .i64 x.1, .int .i64 x.2.1, .string x.2.2]) (.agg #[.int .i64 m.1, .int .i64 m.2.1, .string m.2.2])).run Try.prog w = .ok false w := fun w => by have := eq_rmsg x m w; rw [decide_eq_false hxm] at this; exact this
        clear wr1 hxm
        go_wp2_with fail
        go_roundw
        case rel => exact ⟨j + 1, hlj, by rw [hE.out], N1.out, by first | exact I2 | exact W9B⟩
        case measure => exact M1.out
    · obtain rfl : j = L.length := by omega
      have hb2 : decide ((L.length : Int) < (L.length : Int)) = false := decide_eq_false (by omega)
      rw [cn_all]
      go_wp2_with fail
      go_ret
      exact ⟨rfl, BI.out⟩
end
end Go.Proofs.Ytmledapichlhdaa.Bag
