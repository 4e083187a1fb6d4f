/- The document's bag: Twice, Deliver; a message turned into the document's; lists that are equal. -/
import Derived.Test.YtmledapichlhdaaRBagL
import Derived.Deep.RegionHeld3
set_option linter.unusedVariables false
set_option linter.unusedSimpArgs false
namespace Go.Proofs.Ytmledapichlhdaa.Bag
open Go.RowKit Go.Proofs.YtmledapichlhdaaW.PrintWords Go.Proofs.YtmledapichlhdaaW.PrintLast Go.Proofs.YtmledapichlhdaaW.PrintMore Go.Proofs.Ytmledapichlhdaa.Maps Go.Proofs.Ytmledapichlhdaa.BagS
section
variable {B rb : Nat} {w w' : World} {v : Value} {n : Int} {L : List Msg}
theorem RIs.fr {f : Nat → Prop} (h : RIs B w rb v n L) (hF : Fr w w' f) (h1 : ¬ f rb) (h2 : ∀ k, v.ownBlock = some k → ¬ f k) : RIs B w' rb v n L :=
  ⟨(hF.block rb (blk_lt h.blk) h1).trans h.blk, own_of_block h.row fun k hk => hF.block k (own_lt2 h.row hk) (h2 k hk), h.ok, h.bd⟩
theorem rset2 {W : World} (h : RIs B W rb v n L) {base q : Nat} (hq : W.heap.size ≤ q) (hqb : q < base) (hb : Below W.heap.size W w) {u : Value} {M : List Msg} (hr : w.ownsRow base 43 3 u M.length (flat M)) (hok : Ok M) (hF : Fr (w.setCell ⟨rb, 1, none⟩ u) w' (fun k => k = q)) : RPost B rb v n W M w' := by
  have hlt := blk_lt h.blk
  have h1 := (h.below hb).set (base := base) (by omega) hr hok
  refine ⟨u, h1.fr hF (fun e => by omega) (fun k hk e => by have := own_ge hr hk; omega), ?_, fun k hk => .inr (by have := own_ge hr hk; omega)⟩
  exact ((Fr.of_below hb _).trans (fr_set1 w rb 1 u) (fun k hk => .inl hk)).trans hF (fun k hk => .inr (by omega))
set_option maxHeartbeats 3200000 in
set_option maxRecDepth 100000 in
theorem rtwice_calls (h : RIs B w rb v n L) (i : Int) : Calls Try.prog 20 #[ptr rb, .int .i64 i] w fun e w' => e = .returned (.int .i64 (twiceS L i).2) ∧ RPost B rb v n w (twiceS L i).1 w' := by
  have hum := Try.underlying43
  have H0 := Aside0.mk h
  have HL := Aside0.mk (rlist_calls h)
  have hul : (uniq L).length ≤ 1024 := Nat.le_trans (uniq_le L) h.ok.len
  obtain ⟨res, hres⟩ : ∃ res, res = twiceS L i := ⟨_, rfl⟩
  rw [← hres]
  have HR := Aside0.mk hres
  obtain ⟨U, hU⟩ : ∃ U, U = uniq L := ⟨_, rfl⟩
  rw [← hU] at HL hul
  have HU := Aside0.mk hU
  clear h hres hU
  by_cases hh : 0 ≤ i ∧ i < (U.length : Int)
  · obtain ⟨j, rfl⟩ : ∃ j : Nat, i = j := ⟨i.toNat, by omega⟩
    have hj : j < U.length := by omega
    obtain ⟨x, hx⟩ : ∃ x, U[j]? = some x := ⟨_, List.getElem?_eq_getElem hj⟩
    have HE : Aside0 (res = addS L x) := ⟨by
      rw [HR.out]
      unfold twiceS atU
      rw [if_pos (show hasI L j from ⟨hh.1, by rw [← HU.out]; exact hh.2⟩), ← HU.out, Int.toNat_natCast, List.getD_eq_getElem?_getD, hx]
      rfl⟩
    have HX := Aside0.mk hx
    have b1 : decide ((j : Int) < 0) = false := decide_eq_false (by omega)
    have b2 : decide ((j : Int) ≥ (U.length : Int)) = false := decide_eq_false (by omega)
    have hj2 : (j : Int) < (U.length : Int) := hh.2
    clear hh hx
    unfold ptr at *
    go_enter Try.func20, Try.ntmps20
    go_wp2_with fail
    refine HL.out.mono ?_
    rintro e w1 ⟨v, rfl, hr, hb⟩
    obtain ⟨A, c, rfl⟩ := own_slice hr
    obtain ⟨g, rfl, x0, x1, x2⟩ := rrow_at (v := .slice A U.length c) hr HX.out
    have B1 := Aside0.mk hb
    have HA := Aside0.mk (radd_calls (H0.out.below hb) x)
    unfold ptr mv at HA
    clear hr hb HL
    go_wp2_with fail
    refine HA.out.mono ?_
    rintro e w5 ⟨rfl, hp⟩
    have HP := Aside0.mk (RPost.late B1.out hp)
    clear hp HA
    go_wp2_with fail
    go_ret
    rw [HE.out]
    exact ⟨rfl, HP.out⟩
  · have HE : Aside0 (res = (L, 6)) := ⟨by
      rw [HR.out]
      unfold twiceS
      rw [if_neg (show ¬ hasI L i from fun e => hh ⟨e.1, by rw [HU.out]; exact e.2⟩)]⟩
    have hcase : decide (i < 0) = true ∨ (decide (i < 0) = false ∧ decide (i ≥ (U.length : Int)) = true) := by
      rw [decide_eq_true_eq, decide_eq_false_iff_not, decide_eq_true_eq]; omega
    clear hh
    unfold ptr at *
    rcases hcase with b1 | ⟨b1, b2⟩
    all_goals
      go_enter Try.func20, Try.ntmps20
      go_wp2_with fail
      refine HL.out.mono ?_
      rintro e w1 ⟨v, rfl, hr, hb⟩
      obtain ⟨A, c, rfl⟩ := own_slice hr
      have HP := Aside0.mk (H0.out.stay hb)
      clear hr hb HL
      go_wp2_with fail
      go_ret
      rw [HE.out]
      exact ⟨rfl, HP.out⟩
set_option maxHeartbeats 3200000 in
set_option maxRecDepth 100000 in
theorem rdeliver_no (h : RIs B w rb v n L) (i : Int) (hn : ¬ hasI L i) : Calls Try.prog 16 #[ptr rb, .int .i64 i] w fun e w' => e = .returned (.tuple #[mv z0, .int .i64 6]) ∧ RPost B rb v n w L w' := by
  have hum := Try.underlying43
  have hb0 := below_alloc (Below.refl w.heap.size w) (.cells #[.int .i64 0, .int .i64 0, .string ⟨#[]⟩] 43)
  have P0 := Aside0.mk (blk_new w (.cells #[.int .i64 0, .int .i64 0, .string ⟨#[]⟩] 43))
  have H0 := Aside0.mk h
  have HL := Aside0.mk (rlist_calls (h.below hb0))
  have HB0 := Aside0.mk hb0
  have hcase : decide (i < 0) = true ∨ (decide (i < 0) = false ∧ decide (i ≥ ((uniq L).length : Int)) = true) := by
    unfold hasI at hn
    rw [decide_eq_true_eq, decide_eq_false_iff_not, decide_eq_true_eq]; omega
  generalize uniq L = U at HL hcase
  clear h hb0 hn
  unfold ptr at *
  rcases hcase with b1 | ⟨b1, b2⟩
  all_goals
    go_enter Try.func16, Try.ntmps16
    go_wp2_with fail
    refine HL.out.mono ?_
    rintro e w1 ⟨v, rfl, hr, hb⟩
    obtain ⟨A, c, rfl⟩ := own_slice hr
    have P1 := Aside0.mk (blk_below P0.out hb)
    have B1 := Aside0.mk (HB0.out.trans (hb.mono HB0.out.size))
    have D0 := (blk_cell P1.out 0).trans rfl
    have D1 := (blk_cell P1.out 1).trans rfl
    have D2 := (blk_cell P1.out 2).trans rfl
    have FF := blk_frozen P1.out
    have HP : Aside0 (RPost B rb _ n w L (((w1.setCell ⟨w.heap.size, 0, none⟩ (.int .i64 0)).setCell ⟨w.heap.size, 1, none⟩ (.int .i64 0)).setCell ⟨w.heap.size, 2, none⟩ (.string ⟨#[]⟩))) := ⟨H0.out.stay (((B1.out.setCell (p := ⟨w.heap.size, 0, none⟩) (Nat.le_refl _) _).setCell (p := ⟨w.heap.size, 1, none⟩) (Nat.le_refl _) _).setCell (p := ⟨w.heap.size, 2, none⟩) (Nat.le_refl _) _)⟩
    clear hr hb HL
    go_wp2_with fail
    refine bodyPost_ret (v := .tuple #[.agg #[.int .i64 0, .int .i64 0, .string ⟨#[]⟩], .int .i64 6]) (by simp [results, Try.results16, go_sem, D0, D1, D2]) rfl ⟨rfl, HP.out⟩
set_option maxHeartbeats 12800000 in
set_option maxRecDepth 100000 in
theorem rdeliver_yes (h : RIs B w rb v n L) (j : Nat) (x : Msg) (hx : (uniq L)[j]? = some x) : Calls Try.prog 16 #[ptr rb, .int .i64 (j : Int)] w fun e w' => e = .returned (.tuple #[mv x, .int .i64 0]) ∧ RPost B rb v n w (L.erase x) w' := by
  have hum := Try.underlying43
  have hup := Try.underlying36
  have hu := Try.underlying54
  obtain ⟨A, c, rfl⟩ := h.slice
  have hb0 := below_alloc (Below.refl w.heap.size w) (.cells #[.int .i64 0, .int .i64 0, .string ⟨#[]⟩] 43)
  have P0 := Aside0.mk (blk_new w (.cells #[.int .i64 0, .int .i64 0, .string ⟨#[]⟩] 43))
  have H0 := Aside0.mk h
  have HL := Aside0.mk (rlist_calls (h.below hb0))
  have hul : (uniq L).length ≤ 1024 := Nat.le_trans (uniq_le L) h.ok.len
  have hxL : x ∈ L := ((uniq_inv h.ok.srt).mem x).1 (List.mem_of_getElem? hx)
  have hj : j < (uniq L).length := (List.getElem?_eq_some_iff.1 hx).1
  obtain ⟨U, hU⟩ : ∃ U, U = uniq L := ⟨_, rfl⟩
  rw [← hU] at HL hul hx hj
  have HB0 := Aside0.mk hb0
  have HX := Aside0.mk hx
  have HF := Aside0.mk h.ok.len
  have OKE : Aside0 (Ok (L.erase x)) := ⟨⟨erase_sorted x h.ok.srt, Nat.le_trans (List.length_erase_le ..) h.ok.len⟩⟩
  have b1 : decide ((j : Int) < 0) = false := decide_eq_false (by omega)
  have b2 : decide ((j : Int) ≥ (U.length : Int)) = false := decide_eq_false (by omega)
  have hj2 : (j : Int) < (U.length : Int) := by omega
  have b3 : decide (U.length ≤ j) = false := decide_eq_false (by omega)
  clear h hU hb0 hx hxL
  unfold ptr at *
  go_enter Try.func16, Try.ntmps16
  go_wp2_with fail
  refine HL.out.mono ?_
  rintro e w1 ⟨u, rfl, hr, hb⟩
  obtain ⟨A1, c1, rfl⟩ := own_slice hr
  obtain ⟨g, rfl, -, -, -⟩ := rrow_at (v := .slice none 0 0) hr HX.out
  have P1 := Aside0.mk (blk_below P0.out hb)
  have B1 := Aside0.mk (HB0.out.trans (hb.mono HB0.out.size))
  have HlX : Aside0 (w.heap.size < w1.heap.size) := ⟨blk_lt P1.out⟩
  have R1 := Aside0.mk hr
  have k1 := (H0.out.below B1.out).c1
  clear hr hb HL
  go_wp2_with fail
  go_loopw [7, 8, 27] (fun v7 v8 z wi => ∃ k : Nat, k ≤ L.length ∧ v8 = .bool (er L x k).2 ∧ z = .int .i64 k ∧ Aside0 (wi.ownsRow w1.heap.size 43 3 v7 (er L x k).1.length (flat (er L x k).1) ∧ Below w1.heap.size w1 wi)) (fun _ _ z _ => L.length - (intOf z).toNat)
  case atStart => exact ⟨0, by omega, by rw [er_zero], rfl, ⟨by rw [er_zero]; exact own_nil _ _ _ _, Below.refl _ _⟩⟩
  case round =>
    obtain ⟨k, hk, rfl, rfl, I⟩ := hrel
    clear k1
    obtain ⟨A7, c7, rfl⟩ := own_slice I.out.1
    have BI := Aside0.mk (B1.out.trans (I.out.2.mono (Nat.le_of_lt HlX.out)))
    by_cases hlk : k < L.length
    · obtain ⟨y, hy⟩ : ∃ y, L[k]? = some y := ⟨_, List.getElem?_eq_getElem hlk⟩
      have hb2 : decide ((k : Int) < (L.length : Int)) = true := decide_eq_true (by omega)
      obtain ⟨g5, rfl, y0, y1, y2⟩ := rrow_at (v := .slice none 0 0) (l := L) (H0.out.below BI.out).row hy
      have PX := Aside0.mk (blk_new wr (.cells #[.int .i64 y.1, .int .i64 y.2.1, .string y.2.2] 43))
      have hbx := below_alloc (Below.refl wr.heap.size wr) (.cells #[.int .i64 y.1, .int .i64 y.2.1, .string y.2.2] 43)
      have I2 := Aside0.mk (And.intro (own_below I.out.1 hbx) (I.out.2.trans (hbx.mono I.out.2.size)))
      have HY := Aside0.mk hy
      clear hy hbx BI
      go_upto_region 9 with fail
      generalize wr.alloc (.cells #[.int .i64 y.1, .int .i64 y.2.1, .string y.2.2] 43) = W9 at PX I2 ⊢
      generalize wr.heap.size = b9 at PX ⊢
      clear y0 y1 y2 I
      have D9 : Aside0 (Below W9.heap.size W9 W9.drew) := ⟨below_drew1 (Below.refl _ _)⟩
      have I3 : Aside0 (W9.drew.ownsRow w1.heap.size 43 3 (.slice A7 (er L x k).1.length c7) (er L x k).1.length (flat (er L x k).1) ∧ Below w1.heap.size w1 W9.drew) := ⟨own_below I2.out.1 D9.out, below_drew1 I2.out.2⟩
      obtain ⟨_, hg, x0, x1, x2⟩ := rrow_at (v := .slice none 0 0) (own_below R1.out I2.out.2) HX.out
      cases hg
      have q0 := (blk_cell PX.out 0).trans (Eq.refl (some (Value.int .i64 y.1)))
      have q1 := (blk_cell PX.out 1).trans (Eq.refl (some (Value.int .i64 y.2.1)))
      have q2 := (blk_cell PX.out 2).trans (Eq.refl (some (Value.string y.2.2)))
      have PD := blk_drew PX.out
      have p0 := (blk_cell PD 0).trans (Eq.refl (some (Value.int .i64 y.1)))
      have p1 := (blk_cell PD 1).trans (Eq.refl (some (Value.int .i64 y.2.1)))
      have p2 := (blk_cell PD 2).trans (Eq.refl (some (Value.string y.2.2)))
      have hml := room3 (er_len L x k) hk HF.out
      have N1 := Aside0.mk (nxt k L.length hlk HF.out)
      have M1 := Aside0.mk (meas k L.length hlk HF.out)
      clear PD
      rcases Bool.eq_false_or_eq_true (er L x k).2 with hq | hq
      · have hE := Aside0.mk (er_miss HY.out (Or.inl hq))
        rw [hq] at hE ⊢
        go_wp2_with fail
        go_region
        go_wp2_with (at_builtin; refine print_append_cells w1.heap.size rfl (.tmp 41) (.tmp 43) 51 43 (.agg #[.int .i64 0, .int .i64 0, .string ⟨#[]⟩]) 3 32 rfl Try.underlying51 info_rmsg rfl (by decide) (by decide) _ _ _ (enc y) rfl rfl rfl (one_cells y) I3.out.1 I3.out.2 I3.out.2.size hml ?_; intro v6 w6 hr6 hb6 hg6 ho6)
        have I6 := Aside0.mk (And.intro hr6 hb6)
        clear hr6 hb6 hg6 ho6 p0 p1 p2 q0 q1 q2
        go_wp2_with fail
        go_roundw
        case rel => exact ⟨k + 1, hlk, by rw [hE.out], N1.out, ⟨by rw [hE.out, flat_snoc, List.length_append]; exact I6.out.1, I6.out.2⟩⟩
        case measure => exact M1.out
      by_cases hxy : y = x
      · have hE : Aside0 (er L x (k + 1) = ((er L x k).1, true)) := ⟨er_hit (hxy ▸ HY.out) hq⟩
        have heq : ∀ w : World, (Op.equalIn 10000 43 (.agg #[.int .i64 y.1, .int .i64 y.2.1, .string y.2.2]) (.agg #[.int .i64 x.1, .int .i64 x.2.1, .string x.2.2])).run Try.prog w = .ok true w := fun w => by have := eq_rmsg y x w; rw [decide_eq_true hxy] at this; exact this
        clear hxy
        rw [hq]
        go_wp2_with fail
        go_region
        go_wp2_with fail
        go_roundw
        case rel => exact ⟨k + 1, hlk, by rw [hE.out], N1.out, ⟨by rw [hE.out]; exact I3.out.1, I3.out.2⟩⟩
        case measure => exact M1.out
      · have hE := Aside0.mk (er_miss HY.out (Or.inr hxy))
        have heq : ∀ w : World, (Op.equalIn 10000 43 (.agg #[.int .i64 y.1, .int .i64 y.2.1, .string y.2.2]) (.agg #[.int .i64 x.1, .int .i64 x.2.1, .string x.2.2])).run Try.prog w = .ok false w := fun w => by have := eq_rmsg y x w; rw [decide_eq_false hxy] at this; exact this
        clear hxy
        rw [hq] at hE ⊢
        go_wp2_with fail
        go_region
        go_wp2_with (at_builtin; refine print_append_cells w1.heap.size rfl (.tmp 41) (.tmp 43) 51 43 (.agg #[.int .i64 0, .int .i64 0, .string ⟨#[]⟩]) 3 32 rfl Try.underlying51 info_rmsg rfl (by decide) (by decide) _ _ _ (enc y) rfl rfl rfl (one_cells y) I3.out.1 I3.out.2 I3.out.2.size hml ?_; intro v6 w6 hr6 hb6 hg6 ho6)
        have I6 := Aside0.mk (And.intro hr6 hb6)
        clear hr6 hb6 hg6 ho6 p0 p1 p2 q0 q1 q2
        go_wp2_with fail
        go_roundw
        case rel => exact ⟨k + 1, hlk, by rw [hE.out], N1.out, ⟨by rw [hE.out, flat_snoc, List.length_append]; exact I6.out.1, I6.out.2⟩⟩
        case measure => exact M1.out
    · obtain rfl : k = L.length := by omega
      have hb2 : decide ((L.length : Int) < (L.length : Int)) = false := decide_eq_false (by omega)
      have e1 : (er L x L.length).1 = L.erase x := by rw [er_all]
      have gf := blk_frozen (H0.out.below BI.out).blk 1
      have gc := (H0.out.below BI.out).c1
      have hrb : rb < w.heap.size := blk_lt H0.out.blk
      have RR := own_of_block (own_below R1.out I.out.2) (w' := wr.setCell ⟨rb, 1, none⟩ (.slice A7 (er L x L.length).1.length c7)) (fun k hk => Below.heap_setCell wr ⟨rb, 1, none⟩ _ k (fun e => by have h1 := own_ge R1.out hk; have h2 := HB0.out.size; have e : k = rb := e; omega))
      have PP := Aside0.mk ((Below.heap_setCell wr ⟨rb, 1, none⟩ (.slice A7 (er L x L.length).1.length c7) w.heap.size (by show w.heap.size ≠ rb; omega)).trans (blk_below P1.out I.out.2))
      have RS : Aside0 (∀ w', Fr (wr.setCell ⟨rb, 1, none⟩ (.slice A7 (er L x L.length).1.length c7)) w' (fun k => k = w.heap.size) → RPost B rb (.slice A L.length c) n w (L.erase x) w') := ⟨fun w' hF => by have h := rset2 H0.out (Nat.le_refl _) HlX.out BI.out I.out.1 (by rw [e1]; exact OKE.out) hF; rw [e1] at h; exact h⟩
      obtain ⟨_, hg, x0, x1, x2⟩ := rrow_at (v := .slice none 0 0) RR HX.out
      cases hg
      have D0 := (blk_cell PP.out 0).trans rfl
      have D1 := (blk_cell PP.out 1).trans rfl
      have D2 := (blk_cell PP.out 2).trans rfl
      have FF := blk_frozen PP.out
      clear RR I BI hrb e1
      go_upto_region 14 with fail
      generalize wr.setCell ⟨rb, 1, none⟩ (.slice A7 (er L x L.length).1.length c7) = W5 at *
      go_wp2_with fail
      refine bodyPost_ret (v := .tuple #[.agg #[.int .i64 x.1, .int .i64 x.2.1, .string x.2.2], .int .i64 0]) (by simp [results, Try.results16, go_sem, D0, D1, D2]) rfl ⟨rfl, RS.out _ (((fr_set1 W5 w.heap.size 0 (.int .i64 x.1)).trans (fr_set1 _ w.heap.size 1 (.int .i64 x.2.1)) (fun _ h => .inl h)).trans (fr_set1 _ w.heap.size 2 (.string x.2.2)) (fun _ h => .inl h))⟩
theorem rdeliver_calls (h : RIs B w rb v n L) (i : Int) : Calls Try.prog 16 #[ptr rb, .int .i64 i] w fun e w' => e = .returned (.tuple #[mv (delS L i).2.1, .int .i64 (delS L i).2.2]) ∧ RPost B rb v n w (delS L i).1 w' := by
  unfold delS
  by_cases hh : hasI L i
  · rw [if_pos hh]
    obtain ⟨j, rfl⟩ : ∃ j : Nat, i = j := ⟨i.toNat, by have := hh.1; omega⟩
    have hj : j < (uniq L).length := by have := hh.2; omega
    have e : atU L (j : Int) = (uniq L)[j] := by
      unfold atU
      rw [Int.toNat_natCast, List.getD_eq_getElem?_getD, List.getElem?_eq_getElem hj]
      rfl
    rw [e]
    exact rdeliver_yes h j _ (List.getElem?_eq_getElem hj)
  · rw [if_neg hh]
    exact rdeliver_no h i hh
set_option maxHeartbeats 3200000 in
set_option maxRecDepth 100000 in
theorem ref_calls (m : Msg) (w : World) : Calls Try.prog 17 #[mv m] w fun e w' => e = .returned (mv m) ∧ Below w.heap.size w w' := by
  have hum := Try.underlying30
  have hur := Try.underlying43
  obtain ⟨W2, hW2⟩ : ∃ W2, W2 = (w.alloc (.cells #[.int .i64 m.1, .int .i64 m.2.1, .string m.2.2] 30)).alloc (.cells #[.int .i64 0, .int .i64 0, .string ⟨#[]⟩] 43) := ⟨_, rfl⟩
  have HB : Aside0 (Below w.heap.size w W2) := ⟨by rw [hW2]; exact below_alloc (below_alloc (Below.refl _ _) _) _⟩
  have P1 : W2.heap[w.heap.size]? = some (.cells #[.int .i64 m.1, .int .i64 m.2.1, .string m.2.2] 30 (0, 0)) := by rw [hW2]; exact blk_alloc (blk_new w _) _
  have P2 : W2.heap[w.heap.size + 1]? = some (.cells #[.int .i64 0, .int .i64 0, .string ⟨#[]⟩] 43 (0, 0)) := by
    rw [hW2]
    have := blk_new (w.alloc (.cells #[.int .i64 m.1, .int .i64 m.2.1, .string m.2.2] 30)) (.cells #[.int .i64 0, .int .i64 0, .string ⟨#[]⟩] 43)
    simpa using this
  have a0 := (blk_cell P1 0).trans (Eq.refl (some (Value.int .i64 m.1)))
  have a1 := (blk_cell P1 1).trans (Eq.refl (some (Value.int .i64 m.2.1)))
  have a2 := (blk_cell P1 2).trans (Eq.refl (some (Value.string m.2.2)))
  have D0 := (blk_cell P2 0).trans rfl
  have D1 := (blk_cell P2 1).trans rfl
  have D2 := (blk_cell P2 2).trans rfl
  have FF := blk_frozen P2
  have hge : Aside0 (w.heap.size ≤ w.heap.size + 1) := ⟨Nat.le_succ _⟩
  clear P1 P2
  unfold mv
  go_enter Try.func17, Try.ntmps17
  go_upto_region 1 with fail
  rw [← hW2]
  clear hW2
  go_wp2_with fail
  all_goals
    refine bodyPost_ret (v := .agg #[.int .i64 m.1, .int .i64 m.2.1, .string m.2.2]) (by simp [results, Try.results17, go_sem, D0, D1, D2]) rfl ⟨rfl, by first | exact below_drew1 (((HB.out.setCell (p := ⟨w.heap.size + 1, 0, none⟩) hge.out _).setCell (p := ⟨w.heap.size + 1, 1, none⟩) hge.out _).setCell (p := ⟨w.heap.size + 1, 2, none⟩) hge.out _) | exact (((HB.out.setCell (p := ⟨w.heap.size + 1, 0, none⟩) hge.out _).setCell (p := ⟨w.heap.size + 1, 1, none⟩) hge.out _).setCell (p := ⟨w.heap.size + 1, 2, none⟩) hge.out _)⟩
set_option maxHeartbeats 6400000 in
set_option maxRecDepth 100000 in
theorem lists_calls {b1 b2 : Nat} {A1 A2 : Option Addr} {c1 c2 : Nat} {l : List Msg} (w : World) (h1 : w.ownsRow b1 30 3 (.slice A1 l.length c1) l.length (flat l)) (h2 : w.ownsRow b2 43 3 (.slice A2 l.length c2) l.length (flat l)) (hl : l.length ≤ 1024) :
    Calls Try.prog 22 #[.slice A1 l.length c1, .slice A2 l.length c2] w fun e w' => e = .returned (.bool true) ∧ Below w.heap.size w w' := by
  have hum := Try.underlying30
  have hur := Try.underlying43
  have R := Aside0.mk (And.intro h1 h2)
  have HL := Aside0.mk hl
  clear h1 h2 hl
  go_enter Try.func22, Try.ntmps22
  go_wp2_with fail
  go_loopw [13] (fun z wi => ∃ k : Nat, k ≤ l.length ∧ z = .int .i64 k ∧ Aside0 (Below w.heap.size w wi)) (fun z _ => l.length - (intOf z).toNat)
  case atStart => exact ⟨0, by omega, rfl, ⟨Below.refl _ _⟩⟩
  case round =>
    obtain ⟨k, hk, rfl, I⟩ := hrel
    by_cases hlk : k < l.length
    · obtain ⟨x, hx⟩ : ∃ x, l[k]? = some x := ⟨_, List.getElem?_eq_getElem hlk⟩
      have hb2 : decide ((k : Int) < (l.length : Int)) = true := decide_eq_true (by omega)
      have hk2 : (k : Int) < (l.length : Int) := by omega
      obtain ⟨g1, rfl, x0, x1, x2⟩ := row_at (v := .slice none 0 0) (l := l) (own_below R.out.1 I.out) hx
      obtain ⟨g2, rfl, y0, y1, y2⟩ := rrow_at (v := .slice none 0 0) (l := l) (own_below R.out.2 I.out) hx
      have heq : ∀ w : World, (Op.equalIn 10000 43 (.agg #[.int .i64 x.1, .int .i64 x.2.1, .string x.2.2]) (.agg #[.int .i64 x.1, .int .i64 x.2.1, .string x.2.2])).run Try.prog w = .ok true w := fun w => by have := eq_rmsg x x w; rw [decide_eq_true rfl] at this; exact this
      have B0 : Aside0 (Below wr.heap.size wr wr.drew) := ⟨below_drew1 (Below.refl _ _)⟩
      have HCr : Aside0 (∀ w' : World, Below wr.heap.size wr w' → w'.cell? ⟨g1, k * 3, none⟩ = some (.int .i64 x.1) ∧ w'.cell? ⟨g1, k * 3 + 1, none⟩ = some (.int .i64 x.2.1) ∧ w'.cell? ⟨g1, k * 3 + 2, none⟩ = some (.string x.2.2) ∧ w'.cell? ⟨g2, k * 3, none⟩ = some (.int .i64 x.1) ∧ w'.cell? ⟨g2, k * 3 + 1, none⟩ = some (.int .i64 x.2.1) ∧ w'.cell? ⟨g2, k * 3 + 2, none⟩ = some (.string x.2.2)) := ⟨fun w' hb => ⟨old_cell hb x0, old_cell hb x1, old_cell hb x2, old_cell hb y0, old_cell hb y1, old_cell hb y2⟩⟩
      have K1 : Aside0 (∀ w' : World, Calls Try.prog 17 #[.agg #[.int .i64 x.1, .int .i64 x.2.1, .string x.2.2]] w' fun e w'' => e = .returned (.agg #[.int .i64 x.1, .int .i64 x.2.1, .string x.2.2]) ∧ Below w'.heap.size w' w'') := ⟨fun w' => ref_calls x w'⟩
      have N1 := Aside0.mk (nxt k l.length hlk HL.out)
      have M1 := Aside0.mk (meas k l.length hlk HL.out)
      clear hx x0 x1 x2 y0 y1 y2
      go_upto_region 6 with fail
      go_region_held3 (fun w' => w'.cell? ⟨g1, k * 3, none⟩ = some (.int .i64 x.1) ∧ w'.cell? ⟨g1, k * 3 + 1, none⟩ = some (.int .i64 x.2.1) ∧ w'.cell? ⟨g1, k * 3 + 2, none⟩ = some (.string x.2.2) ∧ w'.cell? ⟨g2, k * 3, none⟩ = some (.int .i64 x.1) ∧ w'.cell? ⟨g2, k * 3 + 1, none⟩ = some (.int .i64 x.2.1) ∧ w'.cell? ⟨g2, k * 3 + 2, none⟩ = some (.string x.2.2)) (first | exact HCr.out _ B0.out | exact HCr.out _ B5.out) (first
        | (go_at_call 17; ((with_reducible refine (K1.out _).mono ?_); rintro e w5 ⟨rfl, hb5⟩; have B5 := Aside0.mk (B0.out.trans (hb5.mono B0.out.size)); clear hb5)))
      all_goals
        go_wp2_with fail
        go_roundw
        case rel => exact ⟨k + 1, hlk, N1.out, ⟨I.out.trans (B5.out.mono I.out.size)⟩⟩
        case measure => exact M1.out
    · obtain rfl : k = l.length := by omega
      have hb2 : decide ((l.length : Int) < (l.length : Int)) = false := decide_eq_false (by omega)
      go_wp2_with fail
      go_ret
      exact ⟨rfl, I.out⟩
end
end Go.Proofs.Ytmledapichlhdaa.Bag
