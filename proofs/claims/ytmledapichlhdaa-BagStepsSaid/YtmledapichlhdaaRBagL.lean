/- The document's bag: List, Twice, Deliver. -/
import Derived.Test.YtmledapichlhdaaRBagA
set_option linter.unusedVariables false
set_option linter.unusedSimpArgs false
namespace Go.Proofs.Ytmledapichlhdaa.Bag
open Go.RowKit Go.Proofs.YtmledapichlhdaaW.PrintWords Go.Proofs.YtmledapichlhdaaW.PrintLast Go.Proofs.YtmledapichlhdaaW.PrintMore Go.Proofs.Ytmledapichlhdaa.Maps Go.Proofs.Ytmledapichlhdaa.BagS
theorem room3 {n j k : Nat} (h1 : n ≤ j) (h2 : j ≤ k) (h3 : k ≤ 1024) : (n + 1) * 32 ≤ 140737488355328 := by omega
theorem wrap_pred {i j : Nat} (h : j = i + 1) (h2 : j ≤ 1024) : wrap64 ((j : Int) - 1) = (i : Int) := by unfold wrap64; omega
section
variable {B rb : Nat} {w w' : World} {v : Value} {n : Int} {L : List Msg}
set_option maxHeartbeats 6400000 in
set_option maxRecDepth 100000 in
theorem rlist_calls (h : RIs B w rb v n L) : Calls Try.prog 23 #[ptr rb] w fun e w' => ∃ u, e = .returned u ∧ w'.ownsRow w.heap.size 43 3 u (uniq L).length (flat (uniq L)) ∧ Below w.heap.size w w' := by
  have hup := Try.underlying36
  have hu := Try.underlying54
  have hum := Try.underlying43
  obtain ⟨A, c, rfl⟩ := h.slice
  have H0 := Aside0.mk h
  have c1 := h.c1
  have HF := Aside0.mk h.ok.len
  clear h
  unfold ptr
  go_enter Try.func23, Try.ntmps23
  go_wp2_with fail
  go_loopw [3, 11] (fun v3 c wi => ∃ j : Nat, j ≤ L.length ∧ c = .int .i64 j ∧ Aside0 (wi.ownsRow w.heap.size 43 3 v3 (up L j).length (flat (up L j)) ∧ Below w.heap.size w wi)) (fun _ c _ => L.length - (intOf c).toNat)
  case atStart => exact ⟨0, by omega, rfl, ⟨by rw [up_zero]; exact own_nil _ _ _ _, Below.refl _ _⟩⟩
  case round =>
    obtain ⟨j, hj, rfl, I⟩ := hrel
    clear c1
    obtain ⟨A3, c3, rfl⟩ := own_slice I.out.1
    by_cases hlj : j < L.length
    · obtain ⟨x, hx⟩ : ∃ x, L[j]? = some x := ⟨_, List.getElem?_eq_getElem hlj⟩
      have hb2 : decide ((j : Int) < (L.length : Int)) = true := decide_eq_true (by omega)
      obtain ⟨g5, rfl, x0, x1, x2⟩ := rrow_at (v := .slice none 0 0) (l := L) (H0.out.below I.out.2).row hx
      have PX := Aside0.mk (blk_new wr (.cells #[.int .i64 x.1, .int .i64 x.2.1, .string x.2.2] 43))
      have hbx := below_alloc (Below.refl wr.heap.size wr) (.cells #[.int .i64 x.1, .int .i64 x.2.1, .string x.2.2] 43)
      have I2 := Aside0.mk (And.intro (own_below I.out.1 hbx) (I.out.2.trans (hbx.mono I.out.2.size)))
      have HX := Aside0.mk hx
      clear hx hbx
      go_upto_region 5 with fail
      generalize wr.alloc (.cells #[.int .i64 x.1, .int .i64 x.2.1, .string x.2.2] 43) = W9 at PX I2 ⊢
      generalize wr.heap.size = b9 at PX ⊢
      clear x0 x1 x2 I
      have H9 := Aside0.mk (H0.out.below I2.out.2)
      have D9 : Aside0 (Below W9.heap.size W9 W9.drew) := ⟨below_drew1 (Below.refl _ _)⟩
      have I3 : Aside0 (W9.drew.ownsRow w.heap.size 43 3 (.slice A3 (up L j).length c3) (up L j).length (flat (up L j)) ∧ Below w.heap.size w W9.drew) := ⟨own_below I2.out.1 D9.out, below_drew1 I2.out.2⟩
      have q0 := (blk_cell PX.out 0).trans (Eq.refl (some (Value.int .i64 x.1)))
      have q1 := (blk_cell PX.out 1).trans (Eq.refl (some (Value.int .i64 x.2.1)))
      have q2 := (blk_cell PX.out 2).trans (Eq.refl (some (Value.string x.2.2)))
      have PD := blk_drew PX.out
      have p0 := (blk_cell PD 0).trans (Eq.refl (some (Value.int .i64 x.1)))
      have p1 := (blk_cell PD 1).trans (Eq.refl (some (Value.int .i64 x.2.1)))
      have p2 := (blk_cell PD 2).trans (Eq.refl (some (Value.string x.2.2)))
      have c1 := H9.out.c1
      have hml := room3 (up_len L j) hj HF.out
      have N1 := Aside0.mk (nxt j L.length hlj HF.out)
      have M1 := Aside0.mk (meas j L.length hlj HF.out)
      clear PD
      rcases Nat.eq_zero_or_pos j with rfl | hpos
      · have hE := Aside0.mk (up_first HX.out)
        go_wp2_with fail
        go_region
        go_wp2_with (at_builtin; refine print_append_cells w.heap.size rfl (.tmp 30) (.tmp 32) 51 43 (.agg #[.int .i64 0, .int .i64 0, .string ⟨#[]⟩]) 3 32 rfl Try.underlying51 info_rmsg rfl (by decide) (by decide) _ _ _ (enc x) rfl rfl rfl (one_cells x) I3.out.1 I3.out.2 I3.out.2.size hml ?_; intro v6 w6 hr6 hb6 hg6 ho6)
        have I6 := Aside0.mk (And.intro hr6 hb6)
        clear hr6 hb6 hg6 ho6 p0 p1 p2
        go_wp2_with fail
        go_roundw
        case rel => exact ⟨0 + 1, hlj, rfl, ⟨by rw [hE.out, flat_snoc, List.length_append]; exact I6.out.1, I6.out.2⟩⟩
        case measure => exact (show L.length - 1 < L.length - 0 from Nat.sub_lt_sub_left hlj Nat.zero_lt_one)
      · obtain ⟨i, hij⟩ : ∃ i, j = i + 1 := ⟨j - 1, by omega⟩
        have hil : i < L.length := by omega
        obtain ⟨y, hy⟩ : ∃ y, L[i]? = some y := ⟨_, List.getElem?_eq_getElem hil⟩
        obtain ⟨_, hg, y0, y1, y2⟩ := rrow_at (v := .slice none 0 0) (l := L) H9.out.row hy
        cases hg
        have hz : ((j : Int) == 0) = false := by simp; omega
        have wr1 := wrap_pred hij (Nat.le_trans hj HF.out)
        have hi2 : (i : Int) < (L.length : Int) := by omega
        have HY := Aside0.mk hy
        have HIJ := Aside0.mk hij
        clear hij hy hpos
        by_cases hxy : y = x
        · have hE : Aside0 (up L (j + 1) = up L j) := ⟨by have h1 := HX.out; rw [HIJ.out] at h1 ⊢; exact up_same h1 (hxy ▸ HY.out)⟩
          have heq : ∀ w : World, (Op.equalIn 10000 43 (.agg #[.int .i64 y.1, .int .i64 y.2.1, .string y.2.2]) (.agg #[.int .i64 x.1, .int .i64 x.2.1, .string x.2.2])).run Try.prog w = .ok true w := fun w => by have := eq_rmsg y x w; rw [decide_eq_true hxy] at this; exact this
          clear hxy
          go_wp2_with fail
          go_region
          go_wp2_with fail
          go_roundw
          case rel => exact ⟨j + 1, hlj, N1.out, ⟨by rw [hE.out]; exact I3.out.1, I3.out.2⟩⟩
          case measure => exact M1.out
        · have hE : Aside0 (up L (j + 1) = up L j ++ [x]) := ⟨by have h1 := HX.out; rw [HIJ.out] at h1 ⊢; exact up_new h1 HY.out hxy⟩
          have heq : ∀ w : World, (Op.equalIn 10000 43 (.agg #[.int .i64 y.1, .int .i64 y.2.1, .string y.2.2]) (.agg #[.int .i64 x.1, .int .i64 x.2.1, .string x.2.2])).run Try.prog w = .ok false w := fun w => by have := eq_rmsg y x w; rw [decide_eq_false hxy] at this; exact this
          clear hxy
          go_wp2_with fail
          go_region
          go_wp2_with (at_builtin; refine print_append_cells w.heap.size rfl (.tmp 30) (.tmp 32) 51 43 (.agg #[.int .i64 0, .int .i64 0, .string ⟨#[]⟩]) 3 32 rfl Try.underlying51 info_rmsg rfl (by decide) (by decide) _ _ _ (enc x) rfl rfl rfl (one_cells x) I3.out.1 I3.out.2 I3.out.2.size hml ?_; intro v6 w6 hr6 hb6 hg6 ho6)
          have I6 := Aside0.mk (And.intro hr6 hb6)
          clear hr6 hb6 hg6 ho6 p0 p1 p2
          go_wp2_with fail
          go_roundw
          case rel => exact ⟨j + 1, hlj, N1.out, ⟨by rw [hE.out, flat_snoc, List.length_append]; exact I6.out.1, I6.out.2⟩⟩
          case measure => exact M1.out
    · obtain rfl : j = L.length := by omega
      have hb2 : decide ((L.length : Int) < (L.length : Int)) = false := decide_eq_false (by omega)
      have hr := I.out.1
      rw [up_all] at hr
      have R := Aside0.mk (And.intro hr I.out.2)
      clear hr I
      rw [up_all]
      go_wp2_with fail
      go_ret
      exact ⟨_, rfl, R.out.1, R.out.2⟩
end
end Go.Proofs.Ytmledapichlhdaa.Bag
