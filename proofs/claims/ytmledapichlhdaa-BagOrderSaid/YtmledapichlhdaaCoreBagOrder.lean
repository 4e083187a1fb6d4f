/- The walk of the law BagOrder. -/
import Derived.Test.YtmledapichlhdaaBagO
import Derived.Deep.RegionHeld3
set_option linter.unusedVariables false
set_option linter.unusedSimpArgs false
namespace Go.Proofs.Ytmledapichlhdaa.Core
open Go.RowKit Go.Proofs.YtmledapichlhdaaW.PrintWords Go.Proofs.YtmledapichlhdaaW.PrintLast Go.Proofs.YtmledapichlhdaaW.PrintMore Go.Proofs.Ytmledapichlhdaa.Maps Go.Proofs.Ytmledapichlhdaa.BagS Go.Proofs.Ytmledapichlhdaa.Bag
theorem sub_idx (n i : Nat) (h : i < n) (hn : n ≤ 300) : wrap64 ((n : Int) - 1 - (i : Int)) = ((n - 1 - i : Nat) : Int) := by
  have e : ((n - 1 - i : Nat) : Int) = (n : Int) - 1 - (i : Int) := by omega
  rw [e]; unfold wrap64; omega
theorem nxt (i n : Nat) (h : i < n) (hn : n ≤ 1024) : Value.int .i64 (wrap64 ((i : Int) + 1)) = Value.int .i64 ((i + 1 : Nat) : Int) := by
  have e : wrap64 ((i : Int) + 1) = ((i + 1 : Nat) : Int) := by unfold wrap64; omega
  rw [e]
theorem meas (i n : Nat) (h : i < n) (hn : n ≤ 1024) : n - (intOf (Value.int .i64 (wrap64 ((i : Int) + 1)))).toNat < n - (intOf (Value.int .i64 (i : Int))).toNat := by
  rw [nxt i n h hn]
  simp [intOf]
  omega
theorem sub_one (n i : Nat) (h : i < n) (hn : n ≤ 300) : wrap64 ((n : Int) - 1) = (n : Int) - 1 := by unfold wrap64; omega
set_option maxHeartbeats 3200000 in
set_option maxRecDepth 100000 in
theorem order_long (W : World) (A : Option Addr) (n c : Nat) (hn : 300 < n) :
    Calls Try.prog 3 #[.slice A n c] W fun e W' => e = .returned (.bool true) ∧ Below W.heap.size W W' := by
  have hup := Try.underlying23
  have b1 : decide ((n : Int) > 300) = true := decide_eq_true (by omega)
  go_enter Try.func3, Try.ntmps3
  go_wp2_with fail
  refine (new_yes 3 W W.heap.size (Nat.le_refl _) (by omega) (by omega)).mono ?_
  rintro e w1 ⟨ba, ma, rfl, hI, hB, hN⟩
  have B1 := Aside0.mk hB
  clear hI hB hN
  unfold ptr
  go_wp2_with fail
  refine (new_yes 3 w1 W.heap.size B1.out.size (by omega) (by omega)).mono ?_
  rintro e w2 ⟨bb, mb, rfl, hI, hB, hN⟩
  have B2 := Aside0.mk (B1.out.trans (hB.mono B1.out.size))
  clear hI hB hN
  unfold ptr
  go_wp2_with fail
  refine (speaks_calls _).mono ?_
  rintro e w3 ⟨rfl, hb⟩
  have B3 := Aside0.mk (B2.out.trans (hb.mono B2.out.size))
  clear hb
  go_wp2_with fail
  go_ret
  exact ⟨rfl, B3.out⟩
set_option maxHeartbeats 12800000 in
set_option maxRecDepth 100000 in
theorem order_short (W : World) (A : Option Addr) (c : Nat) (l : List Msg) (hC : Kd.C msgK W A l.length l) (hn : l.length ≤ 300) :
    Calls Try.prog 3 #[.slice A l.length c] W fun e W' => e = .returned (.bool true) ∧ Below W.heap.size W W' := by
  have hup := Try.underlying23
  have hum := Try.underlying30
  have HC := Aside0.mk hC
  have HN := Aside0.mk hn
  have b1 : decide ((l.length : Int) > 300) = false := decide_eq_false (by omega)
  clear hC hn
  go_enter Try.func3, Try.ntmps3
  go_wp2_with fail
  refine (new_yes 3 W W.heap.size (Nat.le_refl _) (by omega) (by omega)).mono ?_
  rintro e w1 ⟨ba, ma, rfl, hI, hB, hN⟩
  have I1 := Aside0.mk hI
  have B1 := Aside0.mk hB
  clear hI hB hN
  unfold ptr
  go_wp2_with fail
  refine (new_yes 3 w1 W.heap.size B1.out.size (by omega) (by omega)).mono ?_
  rintro e w2 ⟨bb, mb, rfl, hI, hB, hN⟩
  have T2 : Aside0 (Two W w2 ba bb (upTo l 0) (upTo l.reverse 0)) := ⟨by rw [upTo_zero, upTo_zero]; exact ⟨ma, mb, I1.out.below hB, hI, fun k hk hk' => by have h1 := I1.out.lt hk; have h2 := hN k hk'; omega, B1.out.trans (hB.mono B1.out.size)⟩⟩
  clear hI hB hN I1 B1
  unfold ptr
  go_wp2_with fail
  go_loopw [57] (fun c wr => ∃ i : Nat, i ≤ l.length ∧ c = .int .i64 i ∧ Aside0 (Two W wr ba bb (upTo l i) (upTo l.reverse i))) (fun c _ => l.length - (intOf c).toNat)
  case atStart => exact ⟨0, by omega, rfl, T2⟩
  case round =>
    obtain ⟨i, hi, rfl, H⟩ := hrel
    clear T2
    by_cases hlt : i < l.length
    · obtain ⟨x, hx⟩ : ∃ x, l[i]? = some x := ⟨_, List.getElem?_eq_getElem hlt⟩
      obtain ⟨j, hj⟩ : ∃ j, j = l.length - 1 - i := ⟨_, rfl⟩
      have hjl : j < l.length := by omega
      obtain ⟨y, hy⟩ : ∃ y, l[j]? = some y := ⟨_, List.getElem?_eq_getElem hjl⟩
      have hy2 : l.reverse[i]? = some y := by
        rw [rev_at hlt, ← hy, List.getElem?_eq_getElem hjl]
        simp only [hj]
      obtain ⟨ad, rfl, hcx⟩ := msg_at HC.out hx
      obtain ⟨ad2, hA2, hcy⟩ := msg_at HC.out hy
      obtain rfl : ad = ad2 := by simpa using hA2
      have HX := Aside0.mk (And.intro (upTo_next hx) (upTo_next hy2))
      have HCY := Aside0.mk hcy
      obtain ⟨e0, e1, e2⟩ := hcx wr H.out.bel
      have wr1 := sub_one l.length i hlt HN.out
      have wr2 := sub_idx l.length i hlt HN.out
      rw [← hj] at wr2
      have hb1 : decide ((i : Int) < (l.length : Int)) = true := decide_eq_true (by omega)
      have hP := Aside0.mk (H.out.put1 x)
      clear hx hy hy2 hcx hcy hA2 hj
      unfold ptr mv at hP
      go_wp2_with fail
      refine hP.out.mono ?_
      rintro e w3 ⟨rfl, hT⟩
      have T3 := Aside0.mk hT
      clear hT hP e0 e1 e2 H
      obtain ⟨f0, f1, f2⟩ := HCY.out w3 T3.out.bel
      have hP := Aside0.mk (T3.out.put2 y)
      unfold ptr mv at hP
      go_wp2_with fail
      refine hP.out.mono ?_
      rintro e w4 ⟨rfl, hT⟩
      have T4 := Aside0.mk hT
      clear hT hP f0 f1 f2
      go_wp2_with fail
      go_roundw
      case rel =>
        exact ⟨i + 1, hlt, nxt i l.length hlt (Nat.le_trans HN.out (by decide)), ⟨by rw [HX.out.1, HX.out.2]; exact T4.out⟩⟩
      case measure =>
        exact meas i l.length hlt (Nat.le_trans HN.out (by decide))
    · obtain rfl : i = l.length := by omega
      have e1 := upTo_all l
      have e2 : upTo l.reverse l.length = l.foldl (putL 3) [] := by rw [← List.length_reverse, upTo_all, put_order 3 l (by have := HN.out; omega)]
      have H2 := H.out
      rw [e1, e2] at H2
      generalize l.foldl (putL 3) [] = L at H2
      have T := Aside0.mk H2
      clear H H2 e1 e2
      have hb1 : decide ((l.length : Int) < (l.length : Int)) = false := decide_eq_false (by omega)
      have hP := Aside0.mk T.out.list1
      unfold ptr at hP
      go_wp2_with fail
      refine hP.out.mono ?_
      rintro e w3 ⟨v, rfl, hr, hb⟩
      obtain ⟨A1, c1, rfl⟩ := own_slice hr
      have R1 := Aside0.mk hr
      have T3 := Aside0.mk (T.out.below hb)
      clear hr hb hP
      have hP := Aside0.mk T3.out.list2
      unfold ptr at hP
      go_wp2_with fail
      refine hP.out.mono ?_
      rintro e w4 ⟨v, rfl, hr, hb⟩
      obtain ⟨A2, c2, rfl⟩ := own_slice hr
      have R2 := Aside0.mk hr
      have R1b := Aside0.mk (own_below R1.out hb)
      have T4 := Aside0.mk (T3.out.below hb)
      clear hr hb hP R1 T3
      have HU : Aside0 ((uniq L).length ≤ 1024) := ⟨by obtain ⟨_, _, h1, _⟩ := T4.out; exact Nat.le_trans (uniq_le L) h1.ok.len⟩
      generalize hU : uniq L = U at R1b R2 HU ⊢
      clear hU
      generalize wr.heap.size = bA at R1b
      generalize w3.heap.size = bB at R2
      have hl1 := Aside0.mk T4.out.len1
      have hl2 := Aside0.mk T4.out.len2
      unfold ptr at hl1 hl2
      go_wp2_with fail
      refine hl1.out.mono ?_
      rintro e w5 ⟨rfl, rfl⟩
      go_wp2_with fail
      refine hl2.out.mono ?_
      rintro e w6 ⟨rfl, rfl⟩
      clear hl1 hl2
      go_wp2_with fail
      have Z := Aside0.mk (And.intro T4.out (And.intro R1b.out R2.out))
      clear T4 R1b R2
      go_loopw [95] (fun c wi => ∃ k : Nat, k ≤ U.length ∧ c = .int .i64 k ∧ Aside0 (Two W wi ba bb L L ∧ wi.ownsRow bA 30 3 (.slice A1 U.length c1) U.length (flat U) ∧ wi.ownsRow bB 30 3 (.slice A2 U.length c2) U.length (flat U))) (fun c _ => U.length - (intOf c).toNat)
      case atStart => exact ⟨0, by omega, rfl, Z⟩
      case round =>
        obtain ⟨k, hk, rfl, H⟩ := hrel
        clear Z
        by_cases hlt : k < U.length
        · obtain ⟨x, hx⟩ : ∃ x, U[k]? = some x := ⟨_, List.getElem?_eq_getElem hlt⟩
          have hb2 : decide ((k : Int) < (U.length : Int)) = true := decide_eq_true (by omega)
          obtain ⟨g1, rfl, x0, x1, x2⟩ := row_at (v := .slice none 0 0) (l := U) H.out.2.1 hx
          obtain ⟨g2, rfl, y0, y1, y2⟩ := row_at (v := .slice none 0 0) (l := U) H.out.2.2 hx
          have HX := Aside0.mk hx
          have heq : ∀ w : World, (Op.equal 30 (.agg #[.int .i64 x.1, .int .i64 x.2.1, .string x.2.2]) (.agg #[.int .i64 x.1, .int .i64 x.2.1, .string x.2.2])).run Try.prog w = .ok true w := fun w => by have := eq_msg x x w; rw [decide_eq_true rfl] at this; exact this
          have HD : Aside0 (Two W wr.drew ba bb L L ∧ wr.drew.ownsRow bA 30 3 (.slice (some ⟨g1, 0, none⟩) U.length c1) U.length (flat U) ∧ wr.drew.ownsRow bB 30 3 (.slice (some ⟨g2, 0, none⟩) U.length c2) U.length (flat U)) := ⟨H.out.1.below (below_drew1 (Below.refl _ _)), own_below H.out.2.1 (below_drew1 (Below.refl _ _)), own_below H.out.2.2 (below_drew1 (Below.refl _ _))⟩
          have B0 : Aside0 (Below wr.heap.size wr wr.drew) := ⟨below_drew1 (Below.refl _ _)⟩
          have HCr : Aside0 (∀ w' : World, Below wr.heap.size wr w' → w'.cell? ⟨g1, k * 3, none⟩ = some (.int .i64 x.1) ∧ w'.cell? ⟨g1, k * 3 + 1, none⟩ = some (.int .i64 x.2.1) ∧ w'.cell? ⟨g1, k * 3 + 2, none⟩ = some (.string x.2.2) ∧ w'.cell? ⟨g2, k * 3, none⟩ = some (.int .i64 x.1) ∧ w'.cell? ⟨g2, k * 3 + 1, none⟩ = some (.int .i64 x.2.1) ∧ w'.cell? ⟨g2, k * 3 + 2, none⟩ = some (.string x.2.2)) := ⟨fun w' hb => ⟨old_cell hb x0, old_cell hb x1, old_cell hb x2, old_cell hb y0, old_cell hb y1, old_cell hb y2⟩⟩
          have K1 : Aside0 (∀ w' : World, Two W w' ba bb L L → Calls Try.prog 13 #[.pointer (some ⟨ba, 0, none⟩), .agg #[.int .i64 x.1, .int .i64 x.2.1, .string x.2.2]] w' fun e w'' => e = .returned (.int .i64 (L.count x : Int)) ∧ Below w'.heap.size w' w'') := ⟨fun w' h => h.count1 x⟩
          have K2 : Aside0 (∀ w' : World, Two W w' ba bb L L → Calls Try.prog 13 #[.pointer (some ⟨bb, 0, none⟩), .agg #[.int .i64 x.1, .int .i64 x.2.1, .string x.2.2]] w' fun e w'' => e = .returned (.int .i64 (L.count x : Int)) ∧ Below w'.heap.size w' w'') := ⟨fun w' h => h.count2 x⟩
          generalize ((L.count x : Nat) : Int) = cx at K1 K2
          clear hx x0 x1 x2 y0 y1 y2
          go_upto_region 18 with fail
          go_region_held3 (fun w' => w'.cell? ⟨g1, k * 3, none⟩ = some (.int .i64 x.1) ∧ w'.cell? ⟨g1, k * 3 + 1, none⟩ = some (.int .i64 x.2.1) ∧ w'.cell? ⟨g1, k * 3 + 2, none⟩ = some (.string x.2.2) ∧ w'.cell? ⟨g2, k * 3, none⟩ = some (.int .i64 x.1) ∧ w'.cell? ⟨g2, k * 3 + 1, none⟩ = some (.int .i64 x.2.1) ∧ w'.cell? ⟨g2, k * 3 + 2, none⟩ = some (.string x.2.2)) (first | exact HCr.out _ B0.out | exact HCr.out _ B5.out | exact HCr.out _ B6.out) (first
            | (go_at_call 13; first
              | ((with_reducible refine (K1.out _ HD.out.1).mono ?_); rintro e w5 ⟨rfl, hb5⟩; have S5 := Aside0.mk (And.intro (HD.out.1.below hb5) (And.intro (own_below HD.out.2.1 hb5) (own_below HD.out.2.2 hb5))); have B5 := Aside0.mk (B0.out.trans (hb5.mono B0.out.size)); clear hb5)
              | ((with_reducible refine (K2.out _ S5.out.1).mono ?_); rintro e w6 ⟨rfl, hb6⟩; have S6 := Aside0.mk (And.intro (S5.out.1.below hb6) (And.intro (own_below S5.out.2.1 hb6) (own_below S5.out.2.2 hb6))); have B6 := Aside0.mk (B5.out.trans (hb6.mono B5.out.size)); clear hb6)))
          all_goals
            go_wp2_with fail
            go_roundw
            case rel =>
              exact ⟨k + 1, hlt, nxt k U.length hlt HU.out, S6⟩
            case measure =>
              exact meas k U.length hlt HU.out
        · obtain rfl : k = U.length := by omega
          have hb2 : decide ((U.length : Int) < (U.length : Int)) = false := decide_eq_false (by omega)
          go_wp2_with fail
          refine (speaks_calls _).mono ?_
          rintro e w7 ⟨rfl, hb⟩
          have B7 := Aside0.mk (H.out.1.bel.trans (hb.mono H.out.1.bel.size))
          clear hb
          go_wp2_with fail
          go_ret
          exact ⟨rfl, B7.out⟩
theorem BagOrder (W : World) (A : Option Addr) (n c : Nat) (l : List Msg) (h : (Kd.slice 30 msgK).K W l [.slice A n c]) (hg : True) :
    Calls Try.prog 3 #[.slice A n c] W fun e W' => e = .returned (.bool true) ∧ Below W.heap.size W W' := by
  obtain ⟨A1, c1, he, hcc, hC⟩ := h
  obtain ⟨rfl, rfl, rfl⟩ : A = A1 ∧ n = l.length ∧ c = c1 := by simpa using he
  by_cases hn : l.length ≤ 300
  · exact order_short W A c l hC hn
  · exact order_long W A l.length c (by omega)
end Go.Proofs.Ytmledapichlhdaa.Core
