/- The walk of the law BagOnce (under way). -/
import Derived.Test.YtmledapichlhdaaBagX
set_option linter.unusedVariables false
set_option linter.unusedSimpArgs false
namespace Go.Proofs.Ytmledapichlhdaa.Core
open Go.RowKit Go.Proofs.YtmledapichlhdaaW.PrintWords Go.Proofs.YtmledapichlhdaaW.PrintLast Go.Proofs.YtmledapichlhdaaW.PrintMore Go.Proofs.Ytmledapichlhdaa.Maps Go.Proofs.Ytmledapichlhdaa.BagS Go.Proofs.Ytmledapichlhdaa.Bag
theorem enc_one (x : Msg) : ∀ u ∈ enc x, u.oneCell' = true := by
  intro u hu
  unfold enc at hu
  simp at hu
  rcases hu with rfl | rfl | rfl <;> rfl
theorem msg_eq_iff (x m : Msg) : x = m ↔ x.1 = m.1 ∧ x.2.1 = m.2.1 ∧ x.2.2.toList = m.2.2.toList := by
  obtain ⟨x1, x2, x3⟩ := x
  obtain ⟨m1, m2, m3⟩ := m
  simp only [Prod.mk.injEq]
  rw [text_eq]
set_option maxHeartbeats 3200000 in
set_option maxRecDepth 100000 in
theorem once_long (W : World) (A : Option Addr) (n c : Nat) (hn : 200 < n) :
    Calls Try.prog 5 #[.slice A n c] W fun e W' => e = .returned (.bool true) ∧ Below W.heap.size W W' := by
  have hup := Try.underlying23
  have hum := Try.underlying30
  have b1 : decide ((n : Int) > 200) = true := decide_eq_true (by omega)
  go_enter Try.func5, Try.ntmps5
  go_wp2_with fail
  refine (new_yes 3 W W.heap.size (Nat.le_refl _) (by omega) (by omega)).mono ?_
  rintro e w1 ⟨ba, ma, rfl, hI, hB, hN⟩
  have B1 := Aside0.mk hB
  clear hI hB hN
  unfold ptr
  go_wp2_with fail
  refine (speaks_calls _).mono ?_
  rintro e w3 ⟨rfl, hb⟩
  have B3 := Aside0.mk (B1.out.trans (hb.mono B1.out.size))
  clear hb
  go_wp2_with fail
  go_ret
  exact ⟨rfl, B3.out⟩
theorem room {n : Nat} (h : n ≤ 200) : (n + 1) * 32 ≤ 140737488355328 := by omega
set_option maxHeartbeats 12800000 in
set_option maxRecDepth 100000 in
theorem once_short (W : World) (A : Option Addr) (c : Nat) (l : List Step) (hC : Kd.C stepK W A l.length l) (hn : l.length ≤ 200) :
    Calls Try.prog 5 #[.slice A l.length c] W fun e W' => e = .returned (.bool true) ∧ Below W.heap.size W W' := by
  have hup := Try.underlying23
  have hum := Try.underlying30
  have hus := Try.underlying40
  have HC := Aside0.mk hC
  have HN := Aside0.mk hn
  have b1 : decide ((l.length : Int) > 200) = false := decide_eq_false (by omega)
  clear hC hn
  go_enter Try.func5, Try.ntmps5
  go_wp2_with fail
  refine (new_yes 3 W W.heap.size (Nat.le_refl _) (by omega) (by omega)).mono ?_
  rintro e w1 ⟨ba, ma, rfl, hI, hB, hN⟩
  have O1 : Aside0 (Th W w1 ba [] (.slice none 0 0) []) := ⟨ma, hI, hB, own_nil _ _ _ _, fun k _ => by simp [Value.ownBlock]⟩
  clear hI hB hN
  unfold ptr
  go_wp2_with fail
  go_loopw [5, 41] (fun v5 c wr => ∃ (i : Nat) (L T : List Msg), i ≤ l.length ∧ c = .int .i64 i ∧ Aside0 (Th W wr ba L v5 T) ∧ Aside0 (Sub L T ∧ T.length ≤ i)) (fun _ c _ => l.length - (intOf c).toNat)
  case atStart => exact ⟨0, [], [], by omega, rfl, O1, ⟨Sub.nil, by simp⟩⟩
  case round =>
    obtain ⟨i, L, T, hi, rfl, H, HS⟩ := hrel
    clear O1
    by_cases hlt : i < l.length
    · obtain ⟨s, hs⟩ : ∃ s, l[i]? = some s := ⟨_, List.getElem?_eq_getElem hlt⟩
      obtain ⟨ad, rfl, hcs⟩ := step_at HC.out hs
      obtain ⟨e0, e1, e2, e3, e4⟩ := hcs wr H.out.bel
      have hb1 : decide ((i : Int) < (l.length : Int)) = true := decide_eq_true (by omega)
      have P1 := Aside0.mk (blk_new wr (.cells #[.int .i64 s.kind, .int .i64 s.i, .int .i64 s.m.1, .int .i64 s.m.2.1, .string s.m.2.2] 40))
      have B2 := Aside0.mk (below_alloc (Below.refl wr.heap.size wr) (.cells #[.int .i64 s.kind, .int .i64 s.i, .int .i64 s.m.1, .int .i64 s.m.2.1, .string s.m.2.2] 40))
      have O2 := Aside0.mk (H.out.below B2.out)
      obtain ⟨A5, c5, rfl⟩ := own_slice H.out.row
      have HT2 : Aside0 (T.length ≤ 200) := ⟨Nat.le_trans HS.out.2 (Nat.le_trans hi HN.out)⟩
      clear hs hcs
      go_upto_region 8 with fail
      have hl8 : Aside0 (wr.heap.size < (wr.alloc (.cells #[.int .i64 s.kind, .int .i64 s.i, .int .i64 s.m.1, .int .i64 s.m.2.1, .string s.m.2.2] 40)).heap.size) := ⟨blk_lt P1.out⟩
      generalize wr.alloc (.cells #[.int .i64 s.kind, .int .i64 s.i, .int .i64 s.m.1, .int .i64 s.m.2.1, .string s.m.2.2] 40) = W2 at P1 O2 B2 hl8 ⊢
      clear e0 e1 e2 e3 e4
      have q0 := (blk_cell P1.out 0).trans (Eq.refl (some (Value.int .i64 s.kind)))
      have q1 := (blk_cell P1.out 1).trans (Eq.refl (some (Value.int .i64 s.i)))
      have q2 := (blk_cell P1.out 2).trans (Eq.refl (some (Value.int .i64 s.m.1)))
      have q3 := (blk_cell P1.out 3).trans (Eq.refl (some (Value.int .i64 s.m.2.1)))
      have q4 := (blk_cell P1.out 4).trans (Eq.refl (some (Value.string s.m.2.2)))
      rcases Bool.eq_false_or_eq_true (s.kind == 2) with k2 | k2
      · have hP := Aside0.mk (O2.out.deliver s.i)
        unfold ptr mv at hP
        have DC := del_cases H.out.one.ok.srt s.i
        generalize delS L s.i = r at hP DC
        obtain ⟨r1, r2, r3⟩ := r
        rcases DC with h | ⟨m, hm, h⟩
        · cases h
          go_wp2_with fail
          refine hP.out.mono ?_
          rintro e w3 ⟨rfl, hT⟩
          have T3 := Aside0.mk hT
          clear hT hP q0 q1 q2 q3 q4
          go_wp2_with fail
          go_roundw
          case rel => exact ⟨i + 1, _, T, hlt, nxt i l.length hlt (Nat.le_trans HN.out (by decide)), ⟨T3.out.below (below_alloc (Below.refl _ _) _)⟩, ⟨HS.out.1, Nat.le_succ_of_le HS.out.2⟩⟩
          case measure => exact meas i l.length hlt (Nat.le_trans HN.out (by decide))
        · obtain ⟨rfl, rfl, rfl⟩ : r1 = L.erase m ∧ m = r2 ∧ r3 = 0 := by simpa [eq_comm] using h
          go_wp2_with fail
          refine hP.out.mono ?_
          rintro e w3 ⟨rfl, hT⟩
          have P8 := Aside0.mk (blk_new w3 (.cells #[.int .i64 m.1, .int .i64 m.2.1, .string m.2.2] 30))
          have T8 := Aside0.mk (hT.below (below_alloc (Below.refl w3.heap.size w3) (.cells #[.int .i64 m.1, .int .i64 m.2.1, .string m.2.2] 30)))
          have S8 : Aside0 (Sub (L.erase m) (T.erase m) ∧ m ∈ T ∧ (T.erase m).length ≤ i + 1) := ⟨sub_both HS.out.1 m, sub_mem HS.out.1 hm, Nat.le_trans (List.length_erase_le ..) (Nat.le_succ_of_le HS.out.2)⟩
          clear hT hP q0 q1 q2 q3 q4 hm
          go_upto_region 13 with fail
          clear P1 B2 hl8 O2 H
          generalize w3.alloc (.cells #[.int .i64 m.1, .int .i64 m.2.1, .string m.2.2] 30) = W8 at P8 T8 ⊢
          generalize w3.heap.size = b8 at P8 ⊢
          generalize wr.heap.size = b7
          go_wp2_with fail
          go_loopw [10, 11, 70] (fun v10 v11 c wi => ∃ j : Nat, j ≤ T.length ∧ v11 = .bool (er T m j).2 ∧ c = .int .i64 j ∧ Aside0 (wi.ownsRow W8.heap.size 30 3 v10 (er T m j).1.length (flat (er T m j).1) ∧ Below W8.heap.size W8 wi)) (fun _ _ c _ => T.length - (intOf c).toNat)
          case atStart => exact ⟨0, by omega, by rw [er_zero], rfl, ⟨by rw [er_zero]; exact own_nil _ _ _ _, Below.refl _ _⟩⟩
          case round =>
            obtain ⟨j, hj, rfl, rfl, I⟩ := hrel
            have TI := Aside0.mk (T8.out.below I.out.2)
            by_cases hlj : j < T.length
            · obtain ⟨x, hx⟩ : ∃ x, T[j]? = some x := ⟨_, List.getElem?_eq_getElem hlj⟩
              have hb2 : decide ((j : Int) < (T.length : Int)) = true := decide_eq_true (by omega)
              obtain ⟨g5, rfl, x0, x1, x2⟩ := row_at (v := .slice none 0 0) (l := T) TI.out.row hx
              obtain ⟨A10, c10, rfl⟩ := own_slice I.out.1
              have PX := Aside0.mk (blk_new wr (.cells #[.int .i64 x.1, .int .i64 x.2.1, .string x.2.2] 30))
              have hbx := below_alloc (Below.refl wr.heap.size wr) (.cells #[.int .i64 x.1, .int .i64 x.2.1, .string x.2.2] 30)
              have I2 := Aside0.mk (And.intro (own_below I.out.1 hbx) (I.out.2.trans (hbx.mono I.out.2.size)))
              have HX := Aside0.mk hx
              clear hx hbx
              go_upto_region 19 with fail
              generalize wr.alloc (.cells #[.int .i64 x.1, .int .i64 x.2.1, .string x.2.2] 30) = W9 at PX I2 ⊢
              generalize wr.heap.size = b9 at PX ⊢
              clear x0 x1 x2 I TI
              have PM := Aside0.mk (blk_below P8.out I2.out.2)
              have p0 := (blk_cell PX.out 0).trans (Eq.refl (some (Value.int .i64 x.1)))
              have p1 := (blk_cell PX.out 1).trans (Eq.refl (some (Value.int .i64 x.2.1)))
              have p2 := (blk_cell PX.out 2).trans (Eq.refl (some (Value.string x.2.2)))
              have m0 := (blk_cell PM.out 0).trans (Eq.refl (some (Value.int .i64 m.1)))
              have m1 := (blk_cell PM.out 1).trans (Eq.refl (some (Value.int .i64 m.2.1)))
              have m2 := (blk_cell PM.out 2).trans (Eq.refl (some (Value.string m.2.2)))
              have hml := room (Nat.le_trans (er_len T m j) (Nat.le_trans hj HT2.out))
              have N1 := Aside0.mk (nxt j T.length hlj (Nat.le_trans HT2.out (by decide)))
              have M1 := Aside0.mk (meas j T.length hlj (Nat.le_trans HT2.out (by decide)))
              rcases Bool.eq_false_or_eq_true (er T m j).2 with hq | hq
              · have hE := Aside0.mk (er_miss HX.out (Or.inl hq))
                rw [hq] at hE ⊢
                go_wp2_with (at_builtin; refine print_append_cells W8.heap.size rfl (.tmp 81) (.tmp 83) 22 30 (.agg #[.int .i64 0, .int .i64 0, .string ⟨#[]⟩]) 3 32 rfl Try.underlying22 info_msg rfl (by decide) (by decide) _ _ _ (enc x) rfl rfl rfl (enc_one x) I2.out.1 I2.out.2 I2.out.2.size hml ?_; intro v6 w6 hr6 hb6 hg6 ho6)
                have I6 := Aside0.mk (And.intro hr6 hb6)
                clear hr6 hb6 hg6 ho6 p0 p1 p2 m0 m1 m2
                go_wp2_with fail
                go_roundw
                case rel => exact ⟨j + 1, hlj, by rw [hE.out], N1.out, ⟨by rw [hE.out, flat_snoc, List.length_append]; exact I6.out.1, I6.out.2⟩⟩
                case measure => exact M1.out
              by_cases hxm : x = m
              · subst hxm
                have hE := Aside0.mk (er_hit HX.out hq)
                rw [hq]
                go_wp2_with fail
                go_roundw
                case rel => exact ⟨j + 1, hlj, by rw [hE.out], N1.out, ⟨by rw [hE.out]; exact I2.out.1, I2.out.2⟩⟩
                case measure => exact M1.out
              · have hE := Aside0.mk (er_miss HX.out (Or.inr hxm))
                rw [hq] at hE ⊢
                have heq : ∀ w : World, (Op.equalIn 10000 30 (.agg #[.int .i64 x.1, .int .i64 x.2.1, .string x.2.2]) (.agg #[.int .i64 m.1, .int .i64 m.2.1, .string m.2.2])).run Try.prog w = .ok false w := fun w => by have := eq_msg x m w; rw [decide_eq_false hxm] at this; exact this
                clear hxm
                go_wp2_with (at_builtin; refine print_append_cells W8.heap.size rfl (.tmp 81) (.tmp 83) 22 30 (.agg #[.int .i64 0, .int .i64 0, .string ⟨#[]⟩]) 3 32 rfl Try.underlying22 info_msg rfl (by decide) (by decide) _ _ _ (enc x) rfl rfl rfl (enc_one x) I2.out.1 I2.out.2 I2.out.2.size hml ?_; intro v6 w6 hr6 hb6 hg6 ho6)
                have I6 := Aside0.mk (And.intro hr6 hb6)
                clear hr6 hb6 hg6 ho6 p0 p1 p2 m0 m1 m2
                go_wp2_with fail
                go_roundw
                case rel => exact ⟨j + 1, hlj, by rw [hE.out], N1.out, ⟨by rw [hE.out, flat_snoc, List.length_append]; exact I6.out.1, I6.out.2⟩⟩
                case measure => exact M1.out
            · obtain rfl : j = T.length := by omega
              have hb2 : decide ((T.length : Int) < (T.length : Int)) = false := decide_eq_false (by omega)
              have hq : (er T m T.length).2 = true := by rw [er_all]; exact decide_eq_true S8.out.2.1
              have I3 := I.out
              rw [er_all] at I3
              have T9 := Aside0.mk (T8.out.swap I3.2 I3.1)
              clear I3
              rw [hq]
              go_wp2_with fail
              go_roundw
              case rel => exact ⟨i + 1, _, _, hlt, nxt i l.length hlt (Nat.le_trans HN.out (by decide)), T9, ⟨S8.out.1, S8.out.2.2⟩⟩
              case measure => exact meas i l.length hlt (Nat.le_trans HN.out (by decide))
      rcases Bool.eq_false_or_eq_true (s.kind == 3) with k3 | k3
      · have hP := Aside0.mk (O2.out.drop s.i)
        unfold ptr at hP
        go_wp2_with fail
        refine hP.out.mono ?_
        rintro e w3 ⟨rfl, hT⟩
        have T3 := Aside0.mk hT
        have hdc : Aside0 (Sub (delS L s.i).1 T) := ⟨by
          rcases del_cases H.out.one.ok.srt s.i with h | ⟨m, _, h⟩
          · rw [h]; exact HS.out.1
          · rw [h]; exact sub_erase HS.out.1 m⟩
        clear hT hP q0 q1 q2 q3 q4
        go_wp2_with fail
        go_roundw
        case rel => exact ⟨i + 1, _, T, hlt, nxt i l.length hlt (Nat.le_trans HN.out (by decide)), T3, ⟨hdc.out, Nat.le_succ_of_le HS.out.2⟩⟩
        case measure => exact meas i l.length hlt (Nat.le_trans HN.out (by decide))
      rcases Bool.eq_false_or_eq_true (s.kind == 4) with k4 | k4
      · have hQ := Aside0.mk O2.out.one.list
        unfold ptr at hQ
        have hUL : Aside0 ((uniq L).length ≤ 1024) := ⟨Nat.le_trans (uniq_le L) H.out.one.ok.len⟩
        have hat := Aside0.mk (fun j : Nat => (show hasI L (j : Int) → (uniq L)[j]? = some (atU L (j : Int)) from fun hi => by
          have hj : j < (uniq L).length := by have := hi.2; omega
          unfold atU
          rw [Int.toNat_natCast, List.getD_eq_getElem?_getD, List.getElem?_eq_getElem hj]
          rfl))
        have TC := Aside0.mk (twice_cases L s.i)
        have HI := Aside0.mk (show hasI L s.i → 0 ≤ s.i ∧ s.i < (uniq L).length from fun h => h)
        generalize uniq L = U at hQ hUL hat HI
        go_wp2_with fail
        refine hQ.out.mono ?_
        rintro e w3 ⟨u, rfl, hr, hb⟩
        obtain ⟨A7, c7, rfl⟩ := own_slice hr
        have R3 := Aside0.mk hr
        have P3 := Aside0.mk (blk_below P1.out hb)
        have B3 := Aside0.mk (B2.out.trans (hb.mono B2.out.size))
        clear hr hb hQ q0 q1 q2 q3 q4
        have q1 := (blk_cell P3.out 1).trans (Eq.refl (some (Value.int .i64 s.i)))
        have hl3 : Aside0 (wr.heap.size < w3.heap.size) := ⟨blk_lt P3.out⟩
        have hP := Aside0.mk (H.out.twices B3.out s.i)
        unfold ptr at hP
        have TC := TC.out
        generalize twiceS L s.i = r at hP TC
        obtain ⟨r1, r2⟩ := r
        rcases TC with ⟨h1, h2⟩ | ⟨h3, h⟩
        · have z : (r2 == 0) = false := by simpa using h1
          dsimp only at h2
          subst h2
          go_wp2_with fail
          refine hP.out.mono ?_
          rintro e w4 ⟨rfl, hT, -⟩
          have T3 := Aside0.mk hT
          clear hT hP q1
          go_wp2_with fail
          go_roundw
          case rel => exact ⟨i + 1, _, T, hlt, nxt i l.length hlt (Nat.le_trans HN.out (by decide)), T3, ⟨HS.out.1, Nat.le_succ_of_le HS.out.2⟩⟩
          case measure => exact meas i l.length hlt (Nat.le_trans HN.out (by decide))
        · cases h
          generalize s.i = si at P3 hP q1 HI h3 ⊢
          obtain ⟨j, rfl⟩ : ∃ j : Nat, si = j := ⟨si.toNat, by have := (HI.out h3).1; omega⟩
          have hju : j < U.length := by have := (HI.out h3).2; omega
          have hx : Aside0 (U[j]? = some (atU L (j : Int))) := ⟨hat.out j h3⟩
          generalize atU L (j : Int) = x at hP hx
          have b2 : decide ((j : Int) < 0) = false := decide_eq_false (by omega)
          have b3 : decide ((j : Int) ≥ (U.length : Int)) = false := decide_eq_false (by omega)
          have hj2 : (j : Int) < (U.length : Int) := by omega
          clear hat HI h3
          go_wp2_with fail
          refine hP.out.mono ?_
          rintro e w4 ⟨rfl, hT, hLt⟩
          have T4 := Aside0.mk hT
          have P4 := Aside0.mk ((hLt _ (Nat.le_refl _) hl3.out).trans P3.out)
          have R4 := Aside0.mk (own_keep R3.out (fun k hk hl => hLt k (Nat.le_trans (Nat.le_of_lt hl8.out) hk) hl))
          clear hT hP hLt q1
          have q1 := (blk_cell P4.out 1).trans (Eq.refl (some (Value.int .i64 (j : Int))))
          obtain ⟨g, rfl, x0, x1, x2⟩ := row_at (v := .slice none 0 0) (l := U) R4.out hx.out
          have hml := room HT2.out
          go_wp2_with (at_builtin; refine print_append_cells W.heap.size rfl (.tmp 114) (.tmp 120) 22 30 (.agg #[.int .i64 0, .int .i64 0, .string ⟨#[]⟩]) 3 32 rfl Try.underlying22 info_msg rfl (by decide) (by decide) _ _ _ (enc x) rfl rfl rfl (enc_one x) T4.out.row T4.out.bel T4.out.bel.size hml ?_; intro v6 w6 hr6 hb6 hg6 ho6)
          have T6 : Aside0 (Th W w6 ba (ins L x) v6 (T ++ [x])) := ⟨T4.out.grow hg6 (by rw [flat_snoc, List.length_append]; exact hr6) hb6 ho6⟩
          clear hr6 hb6 hg6 ho6 q1 x0 x1 x2
          go_wp2_with fail
          go_roundw
          case rel => exact ⟨i + 1, _, _, hlt, nxt i l.length hlt (Nat.le_trans HN.out (by decide)), T6, ⟨sub_ins HS.out.1 x, by rw [List.length_append]; exact Nat.succ_le_succ HS.out.2⟩⟩
          case measure => exact meas i l.length hlt (Nat.le_trans HN.out (by decide))
      · have hP := Aside0.mk (H.out.puts B2.out s.m)
        unfold ptr mv at hP
        have PC := put_cases 3 L s.m
        generalize putS 3 L s.m = r at hP PC
        obtain ⟨r1, r2⟩ := r
        rcases PC with ⟨h1, h2⟩ | h
        · have z : (r2 == 0) = false := by simpa using h1
          dsimp only at h2
          subst h2
          go_wp2_with fail
          refine hP.out.mono ?_
          rintro e w3 ⟨rfl, hT, -⟩
          have T3 := Aside0.mk hT
          clear hT hP q0 q1 q2 q3 q4
          go_wp2_with fail
          go_roundw
          case rel => exact ⟨i + 1, _, T, hlt, nxt i l.length hlt (Nat.le_trans HN.out (by decide)), T3, ⟨HS.out.1, Nat.le_succ_of_le HS.out.2⟩⟩
          case measure => exact meas i l.length hlt (Nat.le_trans HN.out (by decide))
        · cases h
          go_wp2_with fail
          refine hP.out.mono ?_
          rintro e w3 ⟨rfl, hT, hLt⟩
          have T3 := Aside0.mk hT
          have P3 := Aside0.mk ((hLt _ (Nat.le_refl _) hl8.out).trans P1.out)
          clear hT hP hLt q0 q1 q2 q3 q4
          have q2 := (blk_cell P3.out 2).trans (Eq.refl (some (Value.int .i64 s.m.1)))
          have q3 := (blk_cell P3.out 3).trans (Eq.refl (some (Value.int .i64 s.m.2.1)))
          have q4 := (blk_cell P3.out 4).trans (Eq.refl (some (Value.string s.m.2.2)))
          have hml := room HT2.out
          go_wp2_with (at_builtin; refine print_append_cells W.heap.size rfl (.tmp 52) (.tmp 55) 22 30 (.agg #[.int .i64 0, .int .i64 0, .string ⟨#[]⟩]) 3 32 rfl Try.underlying22 info_msg rfl (by decide) (by decide) _ _ _ (enc s.m) rfl rfl rfl (enc_one s.m) T3.out.row T3.out.bel T3.out.bel.size hml ?_; intro v6 w6 hr6 hb6 hg6 ho6)
          have T6 : Aside0 (Th W w6 ba (ins L s.m) v6 (T ++ [s.m])) := ⟨T3.out.grow hg6 (by rw [flat_snoc, List.length_append]; exact hr6) hb6 ho6⟩
          clear hr6 hb6 hg6 ho6 q2 q3 q4
          go_wp2_with fail
          go_roundw
          case rel => exact ⟨i + 1, _, _, hlt, nxt i l.length hlt (Nat.le_trans HN.out (by decide)), T6, ⟨sub_ins HS.out.1 s.m, by rw [List.length_append]; exact Nat.succ_le_succ HS.out.2⟩⟩
          case measure => exact meas i l.length hlt (Nat.le_trans HN.out (by decide))
    · obtain rfl : i = l.length := by omega
      have hb1 : decide ((l.length : Int) < (l.length : Int)) = false := decide_eq_false (by omega)
      go_wp2_with fail
      refine (speaks_calls _).mono ?_
      rintro e w7 ⟨rfl, hb⟩
      have B7 := Aside0.mk (H.out.bel.trans (hb.mono H.out.bel.size))
      clear hb
      go_wp2_with fail
      go_ret
      exact ⟨rfl, B7.out⟩
theorem BagOnce (W : World) (A : Option Addr) (n c : Nat) (l : List Step) (h : (Kd.slice 40 stepK).K W l [.slice A n c]) (hg : True) :
    Calls Try.prog 5 #[.slice A n c] W fun e W' => e = .returned (.bool true) ∧ Below W.heap.size W W' := by
  obtain ⟨A1, c1, he, hcc, hC⟩ := h
  obtain ⟨rfl, rfl, rfl⟩ : A = A1 ∧ n = l.length ∧ c = c1 := by simpa using he
  by_cases hn : l.length ≤ 200
  · exact once_short W A c l hC hn
  · exact once_long W A l.length c (by omega)
end Go.Proofs.Ytmledapichlhdaa.Core
