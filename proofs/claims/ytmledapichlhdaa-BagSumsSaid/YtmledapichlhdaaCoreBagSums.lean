/- The walk of the law BagSums. -/
import Derived.Test.YtmledapichlhdaaBagT
set_option linter.unusedVariables false
set_option linter.unusedSimpArgs false
namespace Go.Proofs.Ytmledapichlhdaa.Core
open Go.RowKit Go.Proofs.YtmledapichlhdaaW.PrintWords Go.Proofs.YtmledapichlhdaaW.PrintLast Go.Proofs.YtmledapichlhdaaW.PrintMore Go.Proofs.Ytmledapichlhdaa.Maps Go.Proofs.Ytmledapichlhdaa.BagS Go.Proofs.Ytmledapichlhdaa.Bag
theorem msg_eq_iff (x m : Msg) : x = m ↔ x.1 = m.1 ∧ x.2.1 = m.2.1 ∧ x.2.2.toList = m.2.2.toList := by
  obtain ⟨x1, x2, x3⟩ := x
  obtain ⟨m1, m2, m3⟩ := m
  simp only [Prod.mk.injEq]
  rw [text_eq]
set_option maxHeartbeats 3200000 in
set_option maxRecDepth 100000 in
theorem sums_long (W : World) (A : Option Addr) (n c : Nat) (m : Msg) (hn : 300 < n) :
    Calls Try.prog 7 #[.slice A n c, mv m] W fun e W' => e = .returned (.bool true) ∧ Below W.heap.size W W' := by
  have hup := Try.underlying23
  have hum := Try.underlying30
  have b1 : decide ((n : Int) > 300) = true := decide_eq_true (by omega)
  have B0 := Aside0.mk (below_alloc (Below.refl W.heap.size W) (.cells #[.int .i64 m.1, .int .i64 m.2.1, .string m.2.2] 30))
  unfold mv
  go_enter Try.func7, Try.ntmps7
  go_wp2_with fail
  refine (new_yes 3 _ W.heap.size B0.out.size (by omega) (by omega)).mono ?_
  rintro e w1 ⟨ba, ma, rfl, hI, hB, hN⟩
  have B1 := Aside0.mk (B0.out.trans (hB.mono B0.out.size))
  clear hI hB hN
  unfold ptr
  go_wp2_with fail
  refine (speaks_calls _).mono ?_
  rintro e w3 ⟨rfl, hb⟩
  have B3 := Aside0.mk (B1.out.trans (hb.mono B1.out.size))
  clear hb
  go_wp2_with fail
  go_ret
  exact ⟨rfl, B3.out⟩
set_option maxHeartbeats 12800000 in
set_option maxRecDepth 100000 in
theorem sums_short (W : World) (A : Option Addr) (c : Nat) (l : List Step) (m : Msg) (hC : Kd.C stepK W A l.length l) (hn : l.length ≤ 300) :
    Calls Try.prog 7 #[.slice A l.length c, mv m] W fun e W' => e = .returned (.bool true) ∧ Below W.heap.size W W' := by
  have hup := Try.underlying23
  have hum := Try.underlying30
  have hus := Try.underlying40
  have HC := Aside0.mk hC
  have HN := Aside0.mk hn
  have b1 : decide ((l.length : Int) > 300) = false := decide_eq_false (by omega)
  have B0 := Aside0.mk (below_alloc (Below.refl W.heap.size W) (.cells #[.int .i64 m.1, .int .i64 m.2.1, .string m.2.2] 30))
  have P0 := Aside0.mk (blk_new W (.cells #[.int .i64 m.1, .int .i64 m.2.1, .string m.2.2] 30))
  clear hC hn
  unfold mv
  go_enter Try.func7, Try.ntmps7
  go_upto_region 1 with fail
  generalize W.alloc (.cells #[.int .i64 m.1, .int .i64 m.2.1, .string m.2.2] 30) = W1 at B0 P0 ⊢
  generalize W.heap.size = bm at P0 ⊢
  go_wp2_with fail
  refine (new_yes 3 W1 W1.heap.size (Nat.le_refl _) (by omega) (by omega)).mono ?_
  rintro e w1 ⟨ba, ma, rfl, hI, hB, hN⟩
  have O1 : Aside0 (One W1 w1 ba []) := ⟨ma, hI, hB⟩
  clear hI hB hN
  unfold ptr
  go_wp2_with fail
  go_loopw [39] (fun c wr => ∃ (i : Nat) (L : List Msg), i ≤ l.length ∧ c = .int .i64 i ∧ Aside0 (One W1 wr ba L)) (fun c _ => l.length - (intOf c).toNat)
  case atStart => exact ⟨0, [], by omega, rfl, O1⟩
  case round =>
    obtain ⟨i, L, hi, rfl, H⟩ := hrel
    clear O1
    by_cases hlt : i < l.length
    · obtain ⟨s, hs⟩ : ∃ s, l[i]? = some s := ⟨_, List.getElem?_eq_getElem hlt⟩
      obtain ⟨ad, rfl, hcs⟩ := step_at HC.out hs
      obtain ⟨e0, e1, e2, e3, e4⟩ := hcs wr (B0.out.trans (H.out.bel.mono B0.out.size))
      have hb1 : decide ((i : Int) < (l.length : Int)) = true := decide_eq_true (by omega)
      have P1 := Aside0.mk (blk_new wr (.cells #[.int .i64 s.kind, .int .i64 s.i, .int .i64 s.m.1, .int .i64 s.m.2.1, .string s.m.2.2] 40))
      have O2 := Aside0.mk (H.out.below (below_alloc (Below.refl wr.heap.size wr) (.cells #[.int .i64 s.kind, .int .i64 s.i, .int .i64 s.m.1, .int .i64 s.m.2.1, .string s.m.2.2] 40)))
      clear hs hcs
      go_upto_region 7 with fail
      generalize wr.alloc (.cells #[.int .i64 s.kind, .int .i64 s.i, .int .i64 s.m.1, .int .i64 s.m.2.1, .string s.m.2.2] 40) = W2 at P1 O2 ⊢
      generalize wr.heap.size = b8 at P1 ⊢
      clear e0 e1 e2 e3 e4 H
      have q0 := (blk_cell P1.out 0).trans (Eq.refl (some (Value.int .i64 s.kind)))
      have q1 := (blk_cell P1.out 1).trans (Eq.refl (some (Value.int .i64 s.i)))
      have q2 := (blk_cell P1.out 2).trans (Eq.refl (some (Value.int .i64 s.m.1)))
      have q3 := (blk_cell P1.out 3).trans (Eq.refl (some (Value.int .i64 s.m.2.1)))
      have q4 := (blk_cell P1.out 4).trans (Eq.refl (some (Value.string s.m.2.2)))
      rcases Bool.eq_false_or_eq_true (s.kind == 2) with k2 | k2
      · have hP := Aside0.mk (O2.out.deliver s.i)
        unfold ptr mv at hP
        go_wp2_with fail
        refine hP.out.mono ?_
        rintro e w3 ⟨rfl, hT⟩
        have T3 := Aside0.mk hT
        clear hT hP q0 q1 q2 q3 q4
        go_wp2_with fail
        go_roundw
        case rel => exact ⟨i + 1, _, hlt, nxt i l.length hlt (Nat.le_trans HN.out (by decide)), T3⟩
        case measure => exact meas i l.length hlt (Nat.le_trans HN.out (by decide))
      rcases Bool.eq_false_or_eq_true (s.kind == 3) with k3 | k3
      · have hP := Aside0.mk (O2.out.drop s.i)
        unfold ptr at hP
        go_wp2_with fail
        refine hP.out.mono ?_
        rintro e w3 ⟨rfl, hT⟩
        have T3 := Aside0.mk hT
        clear hT hP q0 q1 q2 q3 q4
        go_wp2_with fail
        go_roundw
        case rel => exact ⟨i + 1, _, hlt, nxt i l.length hlt (Nat.le_trans HN.out (by decide)), T3⟩
        case measure => exact meas i l.length hlt (Nat.le_trans HN.out (by decide))
      rcases Bool.eq_false_or_eq_true (s.kind == 4) with k4 | k4
      · have hP := Aside0.mk (O2.out.twice s.i)
        unfold ptr at hP
        go_wp2_with fail
        refine hP.out.mono ?_
        rintro e w3 ⟨rfl, hT⟩
        have T3 := Aside0.mk hT
        clear hT hP q0 q1 q2 q3 q4
        go_wp2_with fail
        go_roundw
        case rel => exact ⟨i + 1, _, hlt, nxt i l.length hlt (Nat.le_trans HN.out (by decide)), T3⟩
        case measure => exact meas i l.length hlt (Nat.le_trans HN.out (by decide))
      · have hP := Aside0.mk (O2.out.put s.m)
        unfold ptr mv at hP
        go_wp2_with fail
        refine hP.out.mono ?_
        rintro e w3 ⟨rfl, hT⟩
        have T3 := Aside0.mk hT
        clear hT hP q0 q1 q2 q3 q4
        go_wp2_with fail
        go_roundw
        case rel => exact ⟨i + 1, _, hlt, nxt i l.length hlt (Nat.le_trans HN.out (by decide)), T3⟩
        case measure => exact meas i l.length hlt (Nat.le_trans HN.out (by decide))
    · obtain rfl : i = l.length := by omega
      have hb1 : decide ((l.length : Int) < (l.length : Int)) = false := decide_eq_false (by omega)
      have hP := Aside0.mk H.out.list
      unfold ptr at hP
      go_wp2_with fail
      refine hP.out.mono ?_
      rintro e w3 ⟨v, rfl, hr, hb⟩
      obtain ⟨A1, c1, rfl⟩ := own_slice hr
      generalize wr.heap.size = bA at hr
      have Z := Aside0.mk (And.intro (H.out.below hb) hr)
      have OK := Aside0.mk H.out.ok
      have HU : Aside0 ((uniq L).length ≤ 1024) := ⟨Nat.le_trans (uniq_le L) OK.out.len⟩
      clear hr hb hP H
      obtain ⟨U, hU⟩ : ∃ U, U = uniq L := ⟨_, rfl⟩
      have hU2 := Aside0.mk hU
      rw [← hU] at Z HU
      rw [← hU]
      clear hU
      go_wp2_with fail
      go_loopw [9, 10, 71] (fun v9 v10 c wi => ∃ k : Nat, k ≤ U.length ∧ v9 = .int .i64 (sumTo L k : Int) ∧ v10 = .bool (inTo L m k) ∧ c = .int .i64 k ∧ Aside0 (One W1 wi ba L ∧ wi.ownsRow bA 30 3 (.slice A1 U.length c1) U.length (flat U))) (fun _ _ c _ => U.length - (intOf c).toNat)
      case atStart => exact ⟨0, by omega, by simp [sumTo], by simp [inTo], rfl, Z⟩
      case round =>
        obtain ⟨k, hk, rfl, rfl, rfl, H⟩ := hrel
        clear Z
        by_cases hlt : k < U.length
        · obtain ⟨x, hx⟩ : ∃ x, U[k]? = some x := ⟨_, List.getElem?_eq_getElem hlt⟩
          have hb2 : decide ((k : Int) < (U.length : Int)) = true := decide_eq_true (by omega)
          have hxu : (uniq L)[k]? = some x := by rw [← hU2.out]; exact hx
          have hxL : 1 ≤ L.count x := List.count_pos_iff.2 (((uniq_inv OK.out.srt).mem x).1 (List.mem_of_getElem? hxu))
          have hc1 : decide ((L.count x : Int) < 1) = false := decide_eq_false (by omega)
          have hsw := sum_wrap hxu OK.out.len
          obtain ⟨bq, hbq⟩ : ∃ b, b = decide (x = m) := ⟨_, rfl⟩
          have hin : Aside0 (inTo L m (k + 1) = (inTo L m k || bq)) := ⟨by rw [hbq]; exact inTo_next hxu⟩
          obtain ⟨g1, rfl, x0, x1, x2⟩ := row_at (v := .slice none 0 0) (l := U) H.out.2 hx
          have BQ := Aside0.mk hbq
          clear hbq
          have P3 := Aside0.mk (blk_new wr (.cells #[.int .i64 x.1, .int .i64 x.2.1, .string x.2.2] 30))
          have hbx := below_alloc (Below.refl wr.heap.size wr) (.cells #[.int .i64 x.1, .int .i64 x.2.1, .string x.2.2] 30)
          have S3 := Aside0.mk (And.intro (H.out.1.below hbx) (own_below H.out.2 hbx))
          clear hx hxu hxL hbx
          go_upto_region 21 with fail
          generalize wr.alloc (.cells #[.int .i64 x.1, .int .i64 x.2.1, .string x.2.2] 30) = W2 at P3 S3 ⊢
          generalize wr.heap.size = b12 at P3 ⊢
          clear x0 x1 x2 H
          have K : Aside0 (∀ w' : World, One W1 w' ba L → Calls Try.prog 13 #[.pointer (some ⟨ba, 0, none⟩), .agg #[.int .i64 x.1, .int .i64 x.2.1, .string x.2.2]] w' fun e w'' => e = .returned (.int .i64 (L.count x : Int)) ∧ Below w'.heap.size w' w'') := ⟨fun w' h => h.count x⟩
          have p0 := (blk_cell P3.out 0).trans (Eq.refl (some (Value.int .i64 x.1)))
          have p1 := (blk_cell P3.out 1).trans (Eq.refl (some (Value.int .i64 x.2.1)))
          have p2 := (blk_cell P3.out 2).trans (Eq.refl (some (Value.string x.2.2)))
          go_wp2_with fail
          refine (K.out _ S3.out.1).mono ?_
          rintro e w4 ⟨rfl, hb⟩
          have S4 := Aside0.mk (And.intro (S3.out.1.below hb) (own_below S3.out.2 hb))
          have P4 := Aside0.mk (blk_below P3.out hb)
          clear hb p0 p1 p2
          have p0 := (blk_cell P4.out 0).trans (Eq.refl (some (Value.int .i64 x.1)))
          have p1 := (blk_cell P4.out 1).trans (Eq.refl (some (Value.int .i64 x.2.1)))
          have p2 := (blk_cell P4.out 2).trans (Eq.refl (some (Value.string x.2.2)))
          go_wp2_with fail
          refine (K.out _ S4.out.1).mono ?_
          rintro e w5 ⟨rfl, hb⟩
          have S5 := Aside0.mk (And.intro (S4.out.1.below hb) (own_below S4.out.2 hb))
          have P5 := Aside0.mk (blk_below P4.out hb)
          have PM := Aside0.mk (blk_below P0.out S5.out.1.bel)
          clear hb p0 p1 p2 S3 S4 P3 P4
          have p0 := (blk_cell P5.out 0).trans (Eq.refl (some (Value.int .i64 x.1)))
          have p1 := (blk_cell P5.out 1).trans (Eq.refl (some (Value.int .i64 x.2.1)))
          have p2 := (blk_cell P5.out 2).trans (Eq.refl (some (Value.string x.2.2)))
          have m0 := (blk_cell PM.out 0).trans (Eq.refl (some (Value.int .i64 m.1)))
          have m1 := (blk_cell PM.out 1).trans (Eq.refl (some (Value.int .i64 m.2.1)))
          have m2 := (blk_cell PM.out 2).trans (Eq.refl (some (Value.string m.2.2)))
          rcases Bool.eq_false_or_eq_true (inTo L m k) with hq | hq
          all_goals
            have HIN := hin.out
            rw [hq] at HIN
            have HIN := Aside0.mk HIN
            rw [hq]
            clear hin
            go_wp2_with fail
            all_goals
              go_roundw
              case rel => exact ⟨k + 1, hlt, by first | rfl | rw [hsw], by
                rw [HIN.out]
                first
                  | rfl
                  | (rw [BQ.out, decide_eq_true ((msg_eq_iff x m).2 ⟨by assumption, by assumption, by assumption⟩)]; rfl)
                  | (rw [BQ.out, decide_eq_false (fun e => absurd ((msg_eq_iff x m).1 e).1 (by assumption))]; rfl)
                  | (rw [BQ.out, decide_eq_false (fun e => absurd ((msg_eq_iff x m).1 e).2.1 (by assumption))]; rfl)
                  | (rw [BQ.out, decide_eq_false (fun e => absurd ((msg_eq_iff x m).1 e).2.2 (by assumption))]; rfl), nxt k U.length hlt HU.out, S5⟩
              case measure => exact meas k U.length hlt HU.out
        · obtain rfl : k = U.length := by omega
          have hb2 : decide ((U.length : Int) < (U.length : Int)) = false := decide_eq_false (by omega)
          have hs := sumTo_all OK.out.srt
          have hin := inTo_all m OK.out.srt
          rw [← hU2.out] at hs hin
          rw [hs, hin]
          have PM := Aside0.mk (blk_below P0.out H.out.1.bel)
          have m0 := (blk_cell PM.out 0).trans (Eq.refl (some (Value.int .i64 m.1)))
          have m1 := (blk_cell PM.out 1).trans (Eq.refl (some (Value.int .i64 m.2.1)))
          have m2 := (blk_cell PM.out 2).trans (Eq.refl (some (Value.string m.2.2)))
          have KL := Aside0.mk H.out.1.len
          have K := Aside0.mk (H.out.1.count m)
          clear hs hin
          unfold ptr mv at K
          unfold ptr at KL
          generalize ((L.count m : Nat) : Int) = cx at K ⊢
          rcases Bool.eq_false_or_eq_true (decide (cx > 0)) with hq | hq
          all_goals
            rw [hq]
            go_wp2_with fail
            refine KL.out.mono ?_
            rintro e w4 ⟨rfl, rfl⟩
            go_wp2_with fail
            refine K.out.mono ?_
            rintro e w5 ⟨rfl, hb⟩
            have O5 := Aside0.mk (H.out.1.below hb)
            clear hb
            go_wp2_with fail
            refine (speaks_calls _).mono ?_
            rintro e w7 ⟨rfl, hb⟩
            have B7 := Aside0.mk ((B0.out.trans (O5.out.bel.mono B0.out.size)).trans (hb.mono (B0.out.trans (O5.out.bel.mono B0.out.size)).size))
            clear hb
            go_wp2_with fail
            go_ret
            exact ⟨rfl, B7.out⟩
theorem BagSums (W : World) (A : Option Addr) (n c : Nat) (l : List Step) (h : (Kd.slice 40 stepK).K W l [.slice A n c]) (hg : True) (m : Msg) :
    Calls Try.prog 7 #[.slice A n c, mv m] W fun e W' => e = .returned (.bool true) ∧ Below W.heap.size W W' := by
  obtain ⟨A1, c1, he, hcc, hC⟩ := h
  obtain ⟨rfl, rfl, rfl⟩ : A = A1 ∧ n = l.length ∧ c = c1 := by simpa using he
  by_cases hn : l.length ≤ 300
  · exact sums_short W A c l m hC hn
  · exact sums_long W A l.length c m (by omega)
end Go.Proofs.Ytmledapichlhdaa.Core
