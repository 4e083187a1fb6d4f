/- The walk of the law BagSteps: both bags side by side, step by step. -/
import Derived.Test.YtmledapichlhdaaBagDuo
set_option linter.unusedVariables false
set_option linter.unusedSimpArgs false
namespace Go.Proofs.Ytmledapichlhdaa.Core
open Go.RowKit Go.Proofs.YtmledapichlhdaaW.PrintWords Go.Proofs.YtmledapichlhdaaW.PrintLast Go.Proofs.YtmledapichlhdaaW.PrintMore Go.Proofs.Ytmledapichlhdaa.Maps Go.Proofs.Ytmledapichlhdaa.BagS Go.Proofs.Ytmledapichlhdaa.Bag
set_option maxHeartbeats 3200000 in
set_option maxRecDepth 100000 in
theorem steps_no (W : World) (n : Int) (A : Option Addr) (k c : Nat) (hn : n < 1 ∨ 7 < n) :
    Calls Try.prog 4 #[.int .i64 n, .slice A k c] W fun e W' => e = .returned (.bool true) ∧ Below W.heap.size W W' := by
  have hup := Try.underlying23
  have huq := Try.underlying36
  have HN := Aside0.mk hn
  clear hn
  go_enter Try.func4, Try.ntmps4
  go_wp2_with fail
  refine (new_no n W HN.out).mono ?_
  rintro e w1 ⟨rfl, hb⟩
  have B1 := Aside0.mk hb
  clear hb
  go_wp2_with fail
  refine (rnew_no n w1 HN.out).mono ?_
  rintro e w2 ⟨rfl, hb⟩
  have B2 := Aside0.mk (B1.out.trans (hb.mono B1.out.size))
  clear hb
  go_wp2_with fail
  refine (speaks_calls _).mono ?_
  rintro e w3 ⟨rfl, hb⟩
  have B3 := Aside0.mk (B2.out.trans (hb.mono B2.out.size))
  clear hb
  go_wp2_with fail
  go_ret
  exact ⟨rfl, B3.out⟩
set_option maxHeartbeats 3200000 in
set_option maxRecDepth 100000 in
theorem steps_long (W : World) (n : Int) (A : Option Addr) (k c : Nat) (h1 : 1 ≤ n) (h7 : n ≤ 7) (hk : 300 < k) :
    Calls Try.prog 4 #[.int .i64 n, .slice A k c] W fun e W' => e = .returned (.bool true) ∧ Below W.heap.size W W' := by
  have hup := Try.underlying23
  have huq := Try.underlying36
  have HN := Aside0.mk (And.intro h1 h7)
  have b1 : decide ((k : Int) > 300) = true := decide_eq_true (by omega)
  clear h1 h7 hk
  go_enter Try.func4, Try.ntmps4
  go_wp2_with fail
  refine (new_yes n W W.heap.size (Nat.le_refl _) HN.out.1 HN.out.2).mono ?_
  rintro e w1 ⟨ba, ma, rfl, hI, hB, hN⟩
  have B1 := Aside0.mk hB
  clear hI hB hN
  unfold ptr
  go_wp2_with fail
  refine (rnew_yes n w1 W.heap.size B1.out.size HN.out.1 HN.out.2).mono ?_
  rintro e w2 ⟨rb, rfl, hR, hB, hN⟩
  have B2 := Aside0.mk (B1.out.trans (hB.mono B1.out.size))
  clear hR hB hN
  unfold ptr
  go_wp2_with fail
  refine (speaks_calls _).mono ?_
  rintro e w3 ⟨rfl, hb⟩
  have B3 := Aside0.mk (B2.out.trans (hb.mono B2.out.size))
  clear hb
  go_wp2_with fail
  go_ret
  exact ⟨rfl, B3.out⟩
set_option maxHeartbeats 51200000 in
set_option maxRecDepth 100000 in
theorem steps_short (W : World) (n : Int) (A : Option Addr) (c : Nat) (l : List Step) (h1 : 1 ≤ n) (h7 : n ≤ 7) (hC : Kd.C stepK W A l.length l) (hn : l.length ≤ 300) :
    Calls Try.prog 4 #[.int .i64 n, .slice A l.length c] W fun e W' => e = .returned (.bool true) ∧ Below W.heap.size W W' := by
  have hup := Try.underlying23
  have huq := Try.underlying36
  have hub := Try.underlying54
  have hum := Try.underlying30
  have hur := Try.underlying43
  have hus := Try.underlying40
  have HC := Aside0.mk hC
  have HL := Aside0.mk hn
  have HN := Aside0.mk (And.intro h1 h7)
  have b1 : decide ((l.length : Int) > 300) = false := decide_eq_false (by omega)
  clear hC hn h1 h7
  go_enter Try.func4, Try.ntmps4
  go_wp2_with fail
  refine (new_yes n W W.heap.size (Nat.le_refl _) HN.out.1 HN.out.2).mono ?_
  rintro e w1 ⟨ba, ma, rfl, hI, hB, hN⟩
  have I1 := Aside0.mk hI
  have B1 := Aside0.mk hB
  clear hI hB hN
  unfold ptr
  go_wp2_with fail
  refine (rnew_yes n w1 W.heap.size B1.out.size HN.out.1 HN.out.2).mono ?_
  rintro e w2 ⟨rb, rfl, hR, hB, hN⟩
  have D2 : Aside0 (Duo W w2.heap.size w2 ba rb n [] []) := ⟨ma, _, I1.out.below hB, hR, fun k hk => ⟨Nat.lt_of_lt_of_le (I1.out.lt hk) hB.size, fun e => by have := I1.out.lt hk; omega, by simp [Value.ownBlock]⟩, blk_lt hR.blk, Nat.le_refl _, B1.out.trans (hB.mono B1.out.size)⟩
  clear hR hB hN I1 B1
  unfold ptr
  go_wp2_with fail
  generalize w2.heap.size = Q at D2
  go_loopw [47] (fun z wr => ∃ (i : Nat) (L : List Msg), i ≤ l.length ∧ z = .int .i64 i ∧ Aside0 (Duo W Q wr ba rb n L L)) (fun z _ => l.length - (intOf z).toNat)
  case atStart => exact ⟨0, [], by omega, rfl, D2⟩
  case round =>
    obtain ⟨i, L, hi, rfl, H⟩ := hrel
    clear D2
    by_cases hlt : i < l.length
    · obtain ⟨s, hs⟩ : ∃ s, l[i]? = some s := ⟨_, List.getElem?_eq_getElem hlt⟩
      obtain ⟨ad, rfl, hcs⟩ := step_at HC.out hs
      obtain ⟨e0, e1, e2, e3, e4⟩ := hcs wr H.out.bel
      have hb1 : decide ((i : Int) < (l.length : Int)) = true := decide_eq_true (by omega)
      have P1 := Aside0.mk (blk_new wr (.cells #[.int .i64 s.kind, .int .i64 s.i, .int .i64 s.m.1, .int .i64 s.m.2.1, .string s.m.2.2] 40))
      have O2 := Aside0.mk (H.out.below (below_alloc (Below.refl wr.heap.size wr) (.cells #[.int .i64 s.kind, .int .i64 s.i, .int .i64 s.m.1, .int .i64 s.m.2.1, .string s.m.2.2] 40)))
      have HQ := Aside0.mk H.out.size
      have N1 := Aside0.mk (nxt i l.length hlt (Nat.le_trans HL.out (by decide)))
      have M1 := Aside0.mk (meas i l.length hlt (Nat.le_trans HL.out (by decide)))
      clear hs hcs
      go_upto_region 10 with fail
      generalize wr.alloc (.cells #[.int .i64 s.kind, .int .i64 s.i, .int .i64 s.m.1, .int .i64 s.m.2.1, .string s.m.2.2] 40) = W2 at P1 O2 ⊢
      generalize wr.heap.size = b8 at P1 HQ ⊢
      clear e0 e1 e2 e3 e4 H
      have q0 := (blk_cell P1.out 0).trans (Eq.refl (some (Value.int .i64 s.kind)))
      have q1 := (blk_cell P1.out 1).trans (Eq.refl (some (Value.int .i64 s.i)))
      have q2 := (blk_cell P1.out 2).trans (Eq.refl (some (Value.int .i64 s.m.1)))
      have q3 := (blk_cell P1.out 3).trans (Eq.refl (some (Value.int .i64 s.m.2.1)))
      have q4 := (blk_cell P1.out 4).trans (Eq.refl (some (Value.string s.m.2.2)))
      rcases Bool.eq_false_or_eq_true (s.kind == 2) with k2 | k2
      · have hP := Aside0.mk (O2.out.deliver s.i)
        have hR : Aside0 (∀ w', Duo W Q w' ba rb n (delS L s.i).1 L → Calls Try.prog 16 #[ptr rb, .int .i64 s.i] w' fun e w'' => e = .returned (.tuple #[mv (delS L s.i).2.1, .int .i64 (delS L s.i).2.2]) ∧ Duo W Q w'' ba rb n (delS L s.i).1 (delS L s.i).1 ∧ Stay Q w' w'') := ⟨fun w' h => h.rdeliver s.i⟩
        unfold ptr mv at hP hR
        generalize delS L s.i = r at hP hR
        obtain ⟨r1, m, r3⟩ := r
        go_wp2_with fail
        refine hP.out.mono ?_
        rintro e w3 ⟨rfl, hT, hS⟩
        have PB := Aside0.mk (blk_new w3 (.cells #[.int .i64 m.1, .int .i64 m.2.1, .string m.2.2] 30))
        have hba := below_alloc (Below.refl w3.heap.size w3) (.cells #[.int .i64 m.1, .int .i64 m.2.1, .string m.2.2] 30)
        have D3 := Aside0.mk (hT.below hba)
        have P3 := Aside0.mk (blk_below (hS.blk P1.out HQ.out) hba)
        have HQ3 : Aside0 (Q ≤ w3.heap.size) := ⟨hT.size⟩
        clear hT hS hba hP q0 q1 q2 q3 q4 P1 O2
        go_upto_region 15 with fail
        generalize w3.alloc (.cells #[.int .i64 m.1, .int .i64 m.2.1, .string m.2.2] 30) = W3 at PB D3 P3 ⊢
        generalize w3.heap.size = b11 at PB HQ3 ⊢
        have q1 := (blk_cell P3.out 1).trans (Eq.refl (some (Value.int .i64 s.i)))
        have hR := Aside0.mk (hR.out W3 D3.out)
        go_wp2_with fail
        refine hR.out.mono ?_
        rintro e w4 ⟨rfl, hT, hS⟩
        have PC := Aside0.mk (blk_new w4 (.cells #[.int .i64 m.1, .int .i64 m.2.1, .string m.2.2] 43))
        have hba := below_alloc (Below.refl w4.heap.size w4) (.cells #[.int .i64 m.1, .int .i64 m.2.1, .string m.2.2] 43)
        have D4 := Aside0.mk (hT.below hba)
        have P4 := Aside0.mk (blk_below (hS.blk P3.out HQ.out) hba)
        have PB4 := Aside0.mk (blk_below (hS.blk PB.out HQ3.out) hba)
        clear hT hS hba hR q1 P3 D3 PB
        go_upto_region 16 with fail
        generalize w4.alloc (.cells #[.int .i64 m.1, .int .i64 m.2.1, .string m.2.2] 43) = W4 at PB4 D4 P4 PC ⊢
        generalize w4.heap.size = b13 at PC ⊢
        have G0 : Aside0 (Below W4.heap.size W4 W4.drew) := ⟨below_drew1 (Below.refl _ _)⟩
        have HCm : Aside0 (∀ w' : World, Below W4.heap.size W4 w' → w'.cell? ⟨b11, 0, none⟩ = some (.int .i64 m.1) ∧ w'.cell? ⟨b11, 1, none⟩ = some (.int .i64 m.2.1) ∧ w'.cell? ⟨b11, 2, none⟩ = some (.string m.2.2) ∧ w'.cell? ⟨b13, 0, none⟩ = some (.int .i64 m.1) ∧ w'.cell? ⟨b13, 1, none⟩ = some (.int .i64 m.2.1) ∧ w'.cell? ⟨b13, 2, none⟩ = some (.string m.2.2)) := ⟨fun w' hb => ⟨old_cell hb ((blk_cell PB4.out 0).trans rfl), old_cell hb ((blk_cell PB4.out 1).trans rfl), old_cell hb ((blk_cell PB4.out 2).trans rfl), old_cell hb ((blk_cell PC.out 0).trans rfl), old_cell hb ((blk_cell PC.out 1).trans rfl), old_cell hb ((blk_cell PC.out 2).trans rfl)⟩⟩
        have KR : Aside0 (∀ w' : World, Calls Try.prog 17 #[.agg #[.int .i64 m.1, .int .i64 m.2.1, .string m.2.2]] w' fun e w'' => e = .returned (.agg #[.int .i64 m.1, .int .i64 m.2.1, .string m.2.2]) ∧ Below w'.heap.size w' w'') := ⟨fun w' => ref_calls m w'⟩
        have heq : ∀ w : World, (Op.equalIn 10000 43 (.agg #[.int .i64 m.1, .int .i64 m.2.1, .string m.2.2]) (.agg #[.int .i64 m.1, .int .i64 m.2.1, .string m.2.2])).run Try.prog w = .ok true w := fun w => by have := eq_rmsg m m w; rw [decide_eq_true rfl] at this; exact this
        go_region_held3 (fun w' => w'.cell? ⟨b11, 0, none⟩ = some (.int .i64 m.1) ∧ w'.cell? ⟨b11, 1, none⟩ = some (.int .i64 m.2.1) ∧ w'.cell? ⟨b11, 2, none⟩ = some (.string m.2.2) ∧ w'.cell? ⟨b13, 0, none⟩ = some (.int .i64 m.1) ∧ w'.cell? ⟨b13, 1, none⟩ = some (.int .i64 m.2.1) ∧ w'.cell? ⟨b13, 2, none⟩ = some (.string m.2.2)) (first | exact HCm.out _ G1.out | exact HCm.out _ G0.out) (first
          | (go_at_call 17; ((with_reducible refine (KR.out _).mono ?_); rintro e w5 ⟨rfl, hb5⟩; have G1 := Aside0.mk (G0.out.trans (hb5.mono G0.out.size)); clear hb5)))
        all_goals
          have D5 := Aside0.mk (D4.out.below G1.out)
          have P5 := Aside0.mk (blk_below P4.out G1.out)
          clear heq
          go_upto_region 25 with fail
          obtain ⟨A9, c9, hce⟩ := D5.out.cell
          have B0 : Aside0 (Below w5.heap.size w5 w5.drew) := ⟨below_drew1 (Below.refl _ _)⟩
          have S0 := Aside0.mk (D5.out.below B0.out)
          have HUL : Aside0 ((uniq r1).length ≤ 1024) := ⟨Nat.le_trans (uniq_le r1) D5.out.ok.len⟩
          have HCr : Aside0 (∀ w' : World, Below w5.heap.size w5 w' → w'.cell? ⟨b8, 2, none⟩ = some (.int .i64 s.m.1) ∧ w'.cell? ⟨b8, 3, none⟩ = some (.int .i64 s.m.2.1) ∧ w'.cell? ⟨b8, 4, none⟩ = some (.string s.m.2.2) ∧ w'.cell? ⟨rb, 1, none⟩ = some (.slice A9 (r1).length c9)) := ⟨fun w' hb => ⟨old_cell hb ((blk_cell P5.out 2).trans rfl), old_cell hb ((blk_cell P5.out 3).trans rfl), old_cell hb ((blk_cell P5.out 4).trans rfl), old_cell hb hce⟩⟩
          have K1 : Aside0 (∀ w' : World, Duo W Q w' ba rb n (r1) (r1) → Calls Try.prog 11 #[.pointer (some ⟨ba, 0, none⟩)] w' fun e w'' => ∃ v, e = .returned v ∧ w''.ownsRow w'.heap.size 30 3 v (uniq r1).length (flat (uniq r1)) ∧ Below w'.heap.size w' w'') := ⟨fun w' h => h.list⟩
          have K2 : Aside0 (∀ w' : World, Duo W Q w' ba rb n (r1) (r1) → Calls Try.prog 23 #[.pointer (some ⟨rb, 0, none⟩)] w' fun e w'' => ∃ v, e = .returned v ∧ w''.ownsRow w'.heap.size 43 3 v (uniq r1).length (flat (uniq r1)) ∧ Below w'.heap.size w' w'') := ⟨fun w' h => h.rlist⟩
          have K4 : Aside0 (∀ w' : World, Duo W Q w' ba rb n (r1) (r1) → Calls Try.prog 13 #[.pointer (some ⟨ba, 0, none⟩), .agg #[.int .i64 s.m.1, .int .i64 s.m.2.1, .string s.m.2.2]] w' fun e w'' => e = .returned (.int .i64 ((r1).count s.m : Int)) ∧ Below w'.heap.size w' w'') := ⟨fun w' h => h.count s.m⟩
          have K5 : Aside0 (∀ w' : World, Calls Try.prog 17 #[.agg #[.int .i64 s.m.1, .int .i64 s.m.2.1, .string s.m.2.2]] w' fun e w'' => e = .returned (.agg #[.int .i64 s.m.1, .int .i64 s.m.2.1, .string s.m.2.2]) ∧ Below w'.heap.size w' w'') := ⟨fun w' => ref_calls s.m w'⟩
          have K6 : Aside0 (∀ w' : World, Duo W Q w' ba rb n (r1) (r1) → Calls Try.prog 24 #[.pointer (some ⟨rb, 0, none⟩), .agg #[.int .i64 s.m.1, .int .i64 s.m.2.1, .string s.m.2.2]] w' fun e w'' => e = .returned (.int .i64 ((r1).count s.m : Int)) ∧ Below w'.heap.size w' w'') := ⟨fun w' h => h.rcount s.m⟩
          have K7 : Aside0 (∀ w' : World, Duo W Q w' ba rb n (r1) (r1) → Calls Try.prog 12 #[.pointer (some ⟨ba, 0, none⟩)] w' fun e w'' => e = .returned (.int .i64 ((r1).length : Int)) ∧ Below w'.heap.size w' w'') := ⟨fun w' h => h.len⟩
          generalize (((r1).count s.m : Nat) : Int) = cx at K4 K6
          generalize uniq r1 = U at K1 K2 HUL
          clear hce
          go_region_held3 (fun w' => w'.cell? ⟨b8, 2, none⟩ = some (.int .i64 s.m.1) ∧ w'.cell? ⟨b8, 3, none⟩ = some (.int .i64 s.m.2.1) ∧ w'.cell? ⟨b8, 4, none⟩ = some (.string s.m.2.2) ∧ w'.cell? ⟨rb, 1, none⟩ = some (.slice A9 (r1).length c9)) (first | exact HCr.out _ B7.out | exact HCr.out _ B6.out | exact HCr.out _ B5.out | exact HCr.out _ B4.out | exact HCr.out _ B3.out | exact HCr.out _ B2.out | exact HCr.out _ B1.out | exact HCr.out _ B0.out) (first
            | (go_at_call 11; (with_reducible refine (K1.out _ S0.out).mono ?_); rintro e w11 ⟨v11, rfl, hr, hb⟩; obtain ⟨A11, c11, rfl⟩ := own_slice hr; have R1 := Aside0.mk hr; have S1 := Aside0.mk (S0.out.below hb); have B1 := Aside0.mk (B0.out.trans (hb.mono B0.out.size)); clear hr hb)
            | (go_at_call 23; (with_reducible refine (K2.out _ S1.out).mono ?_); rintro e w12 ⟨v12, rfl, hr, hb⟩; obtain ⟨A12, c12, rfl⟩ := own_slice hr; have R2 := Aside0.mk hr; have R1b := Aside0.mk (own_below R1.out hb); have S2 := Aside0.mk (S1.out.below hb); have B2 := Aside0.mk (B1.out.trans (hb.mono B1.out.size)); clear hr hb)
            | (go_at_call 22; (with_reducible refine (lists_calls _ R1b.out R2.out HUL.out).mono ?_); rintro e w13 ⟨rfl, hb⟩; have S3 := Aside0.mk (S2.out.below hb); have B3 := Aside0.mk (B2.out.trans (hb.mono B2.out.size)); clear hb)
            | (go_at_call 13; (with_reducible refine (K4.out _ S3.out).mono ?_); rintro e w14 ⟨rfl, hb⟩; have S4 := Aside0.mk (S3.out.below hb); have B4 := Aside0.mk (B3.out.trans (hb.mono B3.out.size)); clear hb)
            | (go_at_call 17; (with_reducible refine (K5.out _).mono ?_); rintro e w15 ⟨rfl, hb⟩; have S5 := Aside0.mk (S4.out.below hb); have B5 := Aside0.mk (B4.out.trans (hb.mono B4.out.size)); clear hb)
            | (go_at_call 24; (with_reducible refine (K6.out _ S5.out).mono ?_); rintro e w16 ⟨rfl, hb⟩; have S6 := Aside0.mk (S5.out.below hb); have B6 := Aside0.mk (B5.out.trans (hb.mono B5.out.size)); clear hb)
            | (go_at_call 12; (with_reducible refine (K7.out _ S6.out).mono ?_); rintro e w17 ⟨rfl, hb⟩; have S7 := Aside0.mk (S6.out.below hb); have B7 := Aside0.mk (B6.out.trans (hb.mono B6.out.size)); clear hb))
          all_goals
            go_wp2_with fail
            go_roundw
            case rel => exact ⟨i + 1, _, hlt, N1.out, S7⟩
            case measure => exact M1.out
      rcases Bool.eq_false_or_eq_true (s.kind == 3) with k3 | k3
      · have hR : Aside0 (Calls Try.prog 16 #[ptr rb, .int .i64 s.i] W2 fun e w'' => e = .returned (.tuple #[mv (delS L s.i).2.1, .int .i64 (delS L s.i).2.2]) ∧ Duo W Q w'' ba rb n L (delS L s.i).1 ∧ Stay Q W2 w'') := ⟨O2.out.rdeliver s.i⟩
        have hP : Aside0 (∀ w', Duo W Q w' ba rb n L (delS L s.i).1 → Calls Try.prog 18 #[ptr ba, .int .i64 s.i] w' fun e w'' => e = .returned (.int .i64 (delS L s.i).2.2) ∧ Duo W Q w'' ba rb n (delS L s.i).1 (delS L s.i).1 ∧ Stay Q w' w'') := ⟨fun w' h => h.drop s.i⟩
        unfold ptr mv at hR
        unfold ptr at hP
        generalize delS L s.i = r at hP hR
        obtain ⟨r1, m, r3⟩ := r
        go_wp2_with fail
        refine hR.out.mono ?_
        rintro e w3 ⟨rfl, hT, hS⟩
        have hba := below_alloc (Below.refl w3.heap.size w3) (.cells #[.int .i64 m.1, .int .i64 m.2.1, .string m.2.2] 43)
        have D3 := Aside0.mk (hT.below hba)
        have P3 := Aside0.mk (blk_below (hS.blk P1.out HQ.out) hba)
        clear hT hS hba hR q0 q1 q2 q3 q4 P1 O2
        go_upto_region 20 with fail
        generalize w3.alloc (.cells #[.int .i64 m.1, .int .i64 m.2.1, .string m.2.2] 43) = W3 at D3 P3 ⊢
        generalize w3.heap.size = b15
        have q1 := (blk_cell P3.out 1).trans (Eq.refl (some (Value.int .i64 s.i)))
        have hP := Aside0.mk (hP.out W3 D3.out)
        go_wp2_with fail
        refine hP.out.mono ?_
        rintro e w5 ⟨rfl, hT, hS⟩
        have D5 := Aside0.mk hT
        have P5 := Aside0.mk (hS.blk P3.out HQ.out)
        clear hT hS hP q1 P3 D3
        go_upto_region 25 with fail
        obtain ⟨A9, c9, hce⟩ := D5.out.cell
        have B0 : Aside0 (Below w5.heap.size w5 w5.drew) := ⟨below_drew1 (Below.refl _ _)⟩
        have S0 := Aside0.mk (D5.out.below B0.out)
        have HUL : Aside0 ((uniq r1).length ≤ 1024) := ⟨Nat.le_trans (uniq_le r1) D5.out.ok.len⟩
        have HCr : Aside0 (∀ w' : World, Below w5.heap.size w5 w' → w'.cell? ⟨b8, 2, none⟩ = some (.int .i64 s.m.1) ∧ w'.cell? ⟨b8, 3, none⟩ = some (.int .i64 s.m.2.1) ∧ w'.cell? ⟨b8, 4, none⟩ = some (.string s.m.2.2) ∧ w'.cell? ⟨rb, 1, none⟩ = some (.slice A9 (r1).length c9)) := ⟨fun w' hb => ⟨old_cell hb ((blk_cell P5.out 2).trans rfl), old_cell hb ((blk_cell P5.out 3).trans rfl), old_cell hb ((blk_cell P5.out 4).trans rfl), old_cell hb hce⟩⟩
        have K1 : Aside0 (∀ w' : World, Duo W Q w' ba rb n (r1) (r1) → Calls Try.prog 11 #[.pointer (some ⟨ba, 0, none⟩)] w' fun e w'' => ∃ v, e = .returned v ∧ w''.ownsRow w'.heap.size 30 3 v (uniq r1).length (flat (uniq r1)) ∧ Below w'.heap.size w' w'') := ⟨fun w' h => h.list⟩
        have K2 : Aside0 (∀ w' : World, Duo W Q w' ba rb n (r1) (r1) → Calls Try.prog 23 #[.pointer (some ⟨rb, 0, none⟩)] w' fun e w'' => ∃ v, e = .returned v ∧ w''.ownsRow w'.heap.size 43 3 v (uniq r1).length (flat (uniq r1)) ∧ Below w'.heap.size w' w'') := ⟨fun w' h => h.rlist⟩
        have K4 : Aside0 (∀ w' : World, Duo W Q w' ba rb n (r1) (r1) → Calls Try.prog 13 #[.pointer (some ⟨ba, 0, none⟩), .agg #[.int .i64 s.m.1, .int .i64 s.m.2.1, .string s.m.2.2]] w' fun e w'' => e = .returned (.int .i64 ((r1).count s.m : Int)) ∧ Below w'.heap.size w' w'') := ⟨fun w' h => h.count s.m⟩
        have K5 : Aside0 (∀ w' : World, Calls Try.prog 17 #[.agg #[.int .i64 s.m.1, .int .i64 s.m.2.1, .string s.m.2.2]] w' fun e w'' => e = .returned (.agg #[.int .i64 s.m.1, .int .i64 s.m.2.1, .string s.m.2.2]) ∧ Below w'.heap.size w' w'') := ⟨fun w' => ref_calls s.m w'⟩
        have K6 : Aside0 (∀ w' : World, Duo W Q w' ba rb n (r1) (r1) → Calls Try.prog 24 #[.pointer (some ⟨rb, 0, none⟩), .agg #[.int .i64 s.m.1, .int .i64 s.m.2.1, .string s.m.2.2]] w' fun e w'' => e = .returned (.int .i64 ((r1).count s.m : Int)) ∧ Below w'.heap.size w' w'') := ⟨fun w' h => h.rcount s.m⟩
        have K7 : Aside0 (∀ w' : World, Duo W Q w' ba rb n (r1) (r1) → Calls Try.prog 12 #[.pointer (some ⟨ba, 0, none⟩)] w' fun e w'' => e = .returned (.int .i64 ((r1).length : Int)) ∧ Below w'.heap.size w' w'') := ⟨fun w' h => h.len⟩
        generalize (((r1).count s.m : Nat) : Int) = cx at K4 K6
        generalize uniq r1 = U at K1 K2 HUL
        clear hce
        go_region_held3 (fun w' => w'.cell? ⟨b8, 2, none⟩ = some (.int .i64 s.m.1) ∧ w'.cell? ⟨b8, 3, none⟩ = some (.int .i64 s.m.2.1) ∧ w'.cell? ⟨b8, 4, none⟩ = some (.string s.m.2.2) ∧ w'.cell? ⟨rb, 1, none⟩ = some (.slice A9 (r1).length c9)) (first | exact HCr.out _ B7.out | exact HCr.out _ B6.out | exact HCr.out _ B5.out | exact HCr.out _ B4.out | exact HCr.out _ B3.out | exact HCr.out _ B2.out | exact HCr.out _ B1.out | exact HCr.out _ B0.out) (first
          | (go_at_call 11; (with_reducible refine (K1.out _ S0.out).mono ?_); rintro e w11 ⟨v11, rfl, hr, hb⟩; obtain ⟨A11, c11, rfl⟩ := own_slice hr; have R1 := Aside0.mk hr; have S1 := Aside0.mk (S0.out.below hb); have B1 := Aside0.mk (B0.out.trans (hb.mono B0.out.size)); clear hr hb)
          | (go_at_call 23; (with_reducible refine (K2.out _ S1.out).mono ?_); rintro e w12 ⟨v12, rfl, hr, hb⟩; obtain ⟨A12, c12, rfl⟩ := own_slice hr; have R2 := Aside0.mk hr; have R1b := Aside0.mk (own_below R1.out hb); have S2 := Aside0.mk (S1.out.below hb); have B2 := Aside0.mk (B1.out.trans (hb.mono B1.out.size)); clear hr hb)
          | (go_at_call 22; (with_reducible refine (lists_calls _ R1b.out R2.out HUL.out).mono ?_); rintro e w13 ⟨rfl, hb⟩; have S3 := Aside0.mk (S2.out.below hb); have B3 := Aside0.mk (B2.out.trans (hb.mono B2.out.size)); clear hb)
          | (go_at_call 13; (with_reducible refine (K4.out _ S3.out).mono ?_); rintro e w14 ⟨rfl, hb⟩; have S4 := Aside0.mk (S3.out.below hb); have B4 := Aside0.mk (B3.out.trans (hb.mono B3.out.size)); clear hb)
          | (go_at_call 17; (with_reducible refine (K5.out _).mono ?_); rintro e w15 ⟨rfl, hb⟩; have S5 := Aside0.mk (S4.out.below hb); have B5 := Aside0.mk (B4.out.trans (hb.mono B4.out.size)); clear hb)
          | (go_at_call 24; (with_reducible refine (K6.out _ S5.out).mono ?_); rintro e w16 ⟨rfl, hb⟩; have S6 := Aside0.mk (S5.out.below hb); have B6 := Aside0.mk (B5.out.trans (hb.mono B5.out.size)); clear hb)
          | (go_at_call 12; (with_reducible refine (K7.out _ S6.out).mono ?_); rintro e w17 ⟨rfl, hb⟩; have S7 := Aside0.mk (S6.out.below hb); have B7 := Aside0.mk (B6.out.trans (hb.mono B6.out.size)); clear hb))
        all_goals
          go_wp2_with fail
          go_roundw
          case rel => exact ⟨i + 1, _, hlt, N1.out, S7⟩
          case measure => exact M1.out
      rcases Bool.eq_false_or_eq_true (s.kind == 4) with k4 | k4
      · have G0 : Aside0 (Below W2.heap.size W2 W2.drew) := ⟨below_drew1 (Below.refl _ _)⟩
        have D2 := Aside0.mk (O2.out.below G0.out)
        have P2 := Aside0.mk (blk_below P1.out G0.out)
        have hP : Aside0 (Calls Try.prog 19 #[ptr ba, .int .i64 s.i] W2.drew fun e w'' => e = .returned (.int .i64 (twiceS L s.i).2) ∧ Duo W Q w'' ba rb n (twiceS L s.i).1 L ∧ Stay Q W2.drew w'') := ⟨D2.out.twice s.i⟩
        have hR : Aside0 (∀ w', Duo W Q w' ba rb n (twiceS L s.i).1 L → Calls Try.prog 20 #[ptr rb, .int .i64 s.i] w' fun e w'' => e = .returned (.int .i64 (twiceS L s.i).2) ∧ Duo W Q w'' ba rb n (twiceS L s.i).1 (twiceS L s.i).1 ∧ Stay Q w' w'') := ⟨fun w' h => h.rtwice s.i⟩
        unfold ptr at hP hR
        generalize twiceS L s.i = r at hP hR
        obtain ⟨r1, r2⟩ := r
        have HCs : Aside0 (∀ w' : World, w'.heap[b8]? = some (.cells #[.int .i64 s.kind, .int .i64 s.i, .int .i64 s.m.1, .int .i64 s.m.2.1, .string s.m.2.2] 40 (0, 0)) → w'.cell? ⟨b8, 1, none⟩ = some (.int .i64 s.i)) := ⟨fun w' hb => (blk_cell hb 1).trans rfl⟩
        clear q0 q1 q2 q3 q4
        have q0 := (blk_cell P1.out 0).trans (Eq.refl (some (Value.int .i64 s.kind)))
        go_upto_region 23 with fail
        go_region_held3 (fun w' => w'.cell? ⟨b8, 1, none⟩ = some (.int .i64 s.i)) (first | exact HCs.out _ P4.out | exact HCs.out _ P3.out | exact HCs.out _ P2.out) (first
          | (go_at_call 19; ((with_reducible refine hP.out.mono ?_); rintro e w3 ⟨rfl, hT, hS⟩; have D3 := Aside0.mk hT; have P3 := Aside0.mk (hS.blk P2.out HQ.out); clear hT hS))
          | (go_at_call 20; ((with_reducible refine (hR.out _ D3.out).mono ?_); rintro e w5 ⟨rfl, hT, hS⟩; have D5 := Aside0.mk hT; have P4 := Aside0.mk (hS.blk P3.out HQ.out); clear hT hS)))
        all_goals
          clear q0 hP hR
          go_upto_region 25 with fail
          obtain ⟨A9, c9, hce⟩ := D5.out.cell
          have B0 : Aside0 (Below w5.heap.size w5 w5.drew) := ⟨below_drew1 (Below.refl _ _)⟩
          have S0 := Aside0.mk (D5.out.below B0.out)
          have HUL : Aside0 ((uniq r1).length ≤ 1024) := ⟨Nat.le_trans (uniq_le r1) D5.out.ok.len⟩
          have HCr : Aside0 (∀ w' : World, Below w5.heap.size w5 w' → w'.cell? ⟨b8, 2, none⟩ = some (.int .i64 s.m.1) ∧ w'.cell? ⟨b8, 3, none⟩ = some (.int .i64 s.m.2.1) ∧ w'.cell? ⟨b8, 4, none⟩ = some (.string s.m.2.2) ∧ w'.cell? ⟨rb, 1, none⟩ = some (.slice A9 (r1).length c9)) := ⟨fun w' hb => ⟨old_cell hb ((blk_cell P4.out 2).trans rfl), old_cell hb ((blk_cell P4.out 3).trans rfl), old_cell hb ((blk_cell P4.out 4).trans rfl), old_cell hb hce⟩⟩
          have K1 : Aside0 (∀ w' : World, Duo W Q w' ba rb n (r1) (r1) → Calls Try.prog 11 #[.pointer (some ⟨ba, 0, none⟩)] w' fun e w'' => ∃ v, e = .returned v ∧ w''.ownsRow w'.heap.size 30 3 v (uniq r1).length (flat (uniq r1)) ∧ Below w'.heap.size w' w'') := ⟨fun w' h => h.list⟩
          have K2 : Aside0 (∀ w' : World, Duo W Q w' ba rb n (r1) (r1) → Calls Try.prog 23 #[.pointer (some ⟨rb, 0, none⟩)] w' fun e w'' => ∃ v, e = .returned v ∧ w''.ownsRow w'.heap.size 43 3 v (uniq r1).length (flat (uniq r1)) ∧ Below w'.heap.size w' w'') := ⟨fun w' h => h.rlist⟩
          have K4 : Aside0 (∀ w' : World, Duo W Q w' ba rb n (r1) (r1) → Calls Try.prog 13 #[.pointer (some ⟨ba, 0, none⟩), .agg #[.int .i64 s.m.1, .int .i64 s.m.2.1, .string s.m.2.2]] w' fun e w'' => e = .returned (.int .i64 ((r1).count s.m : Int)) ∧ Below w'.heap.size w' w'') := ⟨fun w' h => h.count s.m⟩
          have K5 : Aside0 (∀ w' : World, Calls Try.prog 17 #[.agg #[.int .i64 s.m.1, .int .i64 s.m.2.1, .string s.m.2.2]] w' fun e w'' => e = .returned (.agg #[.int .i64 s.m.1, .int .i64 s.m.2.1, .string s.m.2.2]) ∧ Below w'.heap.size w' w'') := ⟨fun w' => ref_calls s.m w'⟩
          have K6 : Aside0 (∀ w' : World, Duo W Q w' ba rb n (r1) (r1) → Calls Try.prog 24 #[.pointer (some ⟨rb, 0, none⟩), .agg #[.int .i64 s.m.1, .int .i64 s.m.2.1, .string s.m.2.2]] w' fun e w'' => e = .returned (.int .i64 ((r1).count s.m : Int)) ∧ Below w'.heap.size w' w'') := ⟨fun w' h => h.rcount s.m⟩
          have K7 : Aside0 (∀ w' : World, Duo W Q w' ba rb n (r1) (r1) → Calls Try.prog 12 #[.pointer (some ⟨ba, 0, none⟩)] w' fun e w'' => e = .returned (.int .i64 ((r1).length : Int)) ∧ Below w'.heap.size w' w'') := ⟨fun w' h => h.len⟩
          generalize (((r1).count s.m : Nat) : Int) = cx at K4 K6
          generalize uniq r1 = U at K1 K2 HUL
          clear hce
          go_region_held3 (fun w' => w'.cell? ⟨b8, 2, none⟩ = some (.int .i64 s.m.1) ∧ w'.cell? ⟨b8, 3, none⟩ = some (.int .i64 s.m.2.1) ∧ w'.cell? ⟨b8, 4, none⟩ = some (.string s.m.2.2) ∧ w'.cell? ⟨rb, 1, none⟩ = some (.slice A9 (r1).length c9)) (first | exact HCr.out _ B7.out | exact HCr.out _ B6.out | exact HCr.out _ B5.out | exact HCr.out _ B4.out | exact HCr.out _ B3.out | exact HCr.out _ B2.out | exact HCr.out _ B1.out | exact HCr.out _ B0.out) (first
            | (go_at_call 11; (with_reducible refine (K1.out _ S0.out).mono ?_); rintro e w11 ⟨v11, rfl, hr, hb⟩; obtain ⟨A11, c11, rfl⟩ := own_slice hr; have R1 := Aside0.mk hr; have S1 := Aside0.mk (S0.out.below hb); have B1 := Aside0.mk (B0.out.trans (hb.mono B0.out.size)); clear hr hb)
            | (go_at_call 23; (with_reducible refine (K2.out _ S1.out).mono ?_); rintro e w12 ⟨v12, rfl, hr, hb⟩; obtain ⟨A12, c12, rfl⟩ := own_slice hr; have R2 := Aside0.mk hr; have R1b := Aside0.mk (own_below R1.out hb); have S2 := Aside0.mk (S1.out.below hb); have B2 := Aside0.mk (B1.out.trans (hb.mono B1.out.size)); clear hr hb)
            | (go_at_call 22; (with_reducible refine (lists_calls _ R1b.out R2.out HUL.out).mono ?_); rintro e w13 ⟨rfl, hb⟩; have S3 := Aside0.mk (S2.out.below hb); have B3 := Aside0.mk (B2.out.trans (hb.mono B2.out.size)); clear hb)
            | (go_at_call 13; (with_reducible refine (K4.out _ S3.out).mono ?_); rintro e w14 ⟨rfl, hb⟩; have S4 := Aside0.mk (S3.out.below hb); have B4 := Aside0.mk (B3.out.trans (hb.mono B3.out.size)); clear hb)
            | (go_at_call 17; (with_reducible refine (K5.out _).mono ?_); rintro e w15 ⟨rfl, hb⟩; have S5 := Aside0.mk (S4.out.below hb); have B5 := Aside0.mk (B4.out.trans (hb.mono B4.out.size)); clear hb)
            | (go_at_call 24; (with_reducible refine (K6.out _ S5.out).mono ?_); rintro e w16 ⟨rfl, hb⟩; have S6 := Aside0.mk (S5.out.below hb); have B6 := Aside0.mk (B5.out.trans (hb.mono B5.out.size)); clear hb)
            | (go_at_call 12; (with_reducible refine (K7.out _ S6.out).mono ?_); rintro e w17 ⟨rfl, hb⟩; have S7 := Aside0.mk (S6.out.below hb); have B7 := Aside0.mk (B6.out.trans (hb.mono B6.out.size)); clear hb))
          all_goals
            go_wp2_with fail
            go_roundw
            case rel => exact ⟨i + 1, _, hlt, N1.out, S7⟩
            case measure => exact M1.out
      · have G0 : Aside0 (Below W2.heap.size W2 W2.drew) := ⟨below_drew1 (Below.refl _ _)⟩
        have D2 := Aside0.mk (O2.out.below G0.out)
        have P2 := Aside0.mk (blk_below P1.out G0.out)
        have hP : Aside0 (Calls Try.prog 10 #[ptr ba, mv s.m] W2.drew fun e w'' => e = .returned (.int .i64 (putS n L s.m).2) ∧ Duo W Q w'' ba rb n (putS n L s.m).1 L ∧ Stay Q W2.drew w'') := ⟨D2.out.put s.m⟩
        have hR : Aside0 (∀ w', Duo W Q w' ba rb n (putS n L s.m).1 L → Calls Try.prog 21 #[ptr rb, mv s.m] w' fun e w'' => e = .returned (.int .i64 (putS n L s.m).2) ∧ Duo W Q w'' ba rb n (putS n L s.m).1 (putS n L s.m).1 ∧ Stay Q w' w'') := ⟨fun w' h => h.rput s.m⟩
        have KR : Aside0 (∀ w' : World, Calls Try.prog 17 #[.agg #[.int .i64 s.m.1, .int .i64 s.m.2.1, .string s.m.2.2]] w' fun e w'' => e = .returned (.agg #[.int .i64 s.m.1, .int .i64 s.m.2.1, .string s.m.2.2]) ∧ Below w'.heap.size w' w'') := ⟨fun w' => ref_calls s.m w'⟩
        unfold ptr mv at hP hR
        generalize putS n L s.m = r at hP hR
        obtain ⟨r1, r2⟩ := r
        have HCs : Aside0 (∀ w' : World, w'.heap[b8]? = some (.cells #[.int .i64 s.kind, .int .i64 s.i, .int .i64 s.m.1, .int .i64 s.m.2.1, .string s.m.2.2] 40 (0, 0)) → w'.cell? ⟨b8, 2, none⟩ = some (.int .i64 s.m.1) ∧ w'.cell? ⟨b8, 3, none⟩ = some (.int .i64 s.m.2.1) ∧ w'.cell? ⟨b8, 4, none⟩ = some (.string s.m.2.2)) := ⟨fun w' hb => ⟨(blk_cell hb 2).trans rfl, (blk_cell hb 3).trans rfl, (blk_cell hb 4).trans rfl⟩⟩
        clear q0 q1 q2 q3 q4
        have q0 := (blk_cell P1.out 0).trans (Eq.refl (some (Value.int .i64 s.kind)))
        go_upto_region 11 with fail
        go_region_held3 (fun w' => w'.cell? ⟨b8, 2, none⟩ = some (.int .i64 s.m.1) ∧ w'.cell? ⟨b8, 3, none⟩ = some (.int .i64 s.m.2.1) ∧ w'.cell? ⟨b8, 4, none⟩ = some (.string s.m.2.2)) (first | exact HCs.out _ P5.out | exact HCs.out _ P4.out | exact HCs.out _ P3.out | exact HCs.out _ P2.out) (first
          | (go_at_call 10; ((with_reducible refine hP.out.mono ?_); rintro e w3 ⟨rfl, hT, hS⟩; have D3 := Aside0.mk hT; have P3 := Aside0.mk (hS.blk P2.out HQ.out); clear hT hS))
          | (go_at_call 17; ((with_reducible refine (KR.out _).mono ?_); rintro e w4 ⟨rfl, hb5⟩; have D4 := Aside0.mk (D3.out.below hb5); have P4 := Aside0.mk (blk_below P3.out hb5); clear hb5))
          | (go_at_call 21; ((with_reducible refine (hR.out _ D4.out).mono ?_); rintro e w5 ⟨rfl, hT, hS⟩; have D5 := Aside0.mk hT; have P5 := Aside0.mk (hS.blk P4.out HQ.out); clear hT hS)))
        all_goals
          clear q0 hP hR
          go_upto_region 25 with fail
          obtain ⟨A9, c9, hce⟩ := D5.out.cell
          have B0 : Aside0 (Below w5.heap.size w5 w5.drew) := ⟨below_drew1 (Below.refl _ _)⟩
          have S0 := Aside0.mk (D5.out.below B0.out)
          have HUL : Aside0 ((uniq r1).length ≤ 1024) := ⟨Nat.le_trans (uniq_le r1) D5.out.ok.len⟩
          have HCr : Aside0 (∀ w' : World, Below w5.heap.size w5 w' → w'.cell? ⟨b8, 2, none⟩ = some (.int .i64 s.m.1) ∧ w'.cell? ⟨b8, 3, none⟩ = some (.int .i64 s.m.2.1) ∧ w'.cell? ⟨b8, 4, none⟩ = some (.string s.m.2.2) ∧ w'.cell? ⟨rb, 1, none⟩ = some (.slice A9 (r1).length c9)) := ⟨fun w' hb => ⟨old_cell hb ((blk_cell P5.out 2).trans rfl), old_cell hb ((blk_cell P5.out 3).trans rfl), old_cell hb ((blk_cell P5.out 4).trans rfl), old_cell hb hce⟩⟩
          have K1 : Aside0 (∀ w' : World, Duo W Q w' ba rb n (r1) (r1) → Calls Try.prog 11 #[.pointer (some ⟨ba, 0, none⟩)] w' fun e w'' => ∃ v, e = .returned v ∧ w''.ownsRow w'.heap.size 30 3 v (uniq r1).length (flat (uniq r1)) ∧ Below w'.heap.size w' w'') := ⟨fun w' h => h.list⟩
          have K2 : Aside0 (∀ w' : World, Duo W Q w' ba rb n (r1) (r1) → Calls Try.prog 23 #[.pointer (some ⟨rb, 0, none⟩)] w' fun e w'' => ∃ v, e = .returned v ∧ w''.ownsRow w'.heap.size 43 3 v (uniq r1).length (flat (uniq r1)) ∧ Below w'.heap.size w' w'') := ⟨fun w' h => h.rlist⟩
          have K4 : Aside0 (∀ w' : World, Duo W Q w' ba rb n (r1) (r1) → Calls Try.prog 13 #[.pointer (some ⟨ba, 0, none⟩), .agg #[.int .i64 s.m.1, .int .i64 s.m.2.1, .string s.m.2.2]] w' fun e w'' => e = .returned (.int .i64 ((r1).count s.m : Int)) ∧ Below w'.heap.size w' w'') := ⟨fun w' h => h.count s.m⟩
          have K5 : Aside0 (∀ w' : World, Calls Try.prog 17 #[.agg #[.int .i64 s.m.1, .int .i64 s.m.2.1, .string s.m.2.2]] w' fun e w'' => e = .returned (.agg #[.int .i64 s.m.1, .int .i64 s.m.2.1, .string s.m.2.2]) ∧ Below w'.heap.size w' w'') := ⟨fun w' => ref_calls s.m w'⟩
          have K6 : Aside0 (∀ w' : World, Duo W Q w' ba rb n (r1) (r1) → Calls Try.prog 24 #[.pointer (some ⟨rb, 0, none⟩), .agg #[.int .i64 s.m.1, .int .i64 s.m.2.1, .string s.m.2.2]] w' fun e w'' => e = .returned (.int .i64 ((r1).count s.m : Int)) ∧ Below w'.heap.size w' w'') := ⟨fun w' h => h.rcount s.m⟩
          have K7 : Aside0 (∀ w' : World, Duo W Q w' ba rb n (r1) (r1) → Calls Try.prog 12 #[.pointer (some ⟨ba, 0, none⟩)] w' fun e w'' => e = .returned (.int .i64 ((r1).length : Int)) ∧ Below w'.heap.size w' w'') := ⟨fun w' h => h.len⟩
          generalize (((r1).count s.m : Nat) : Int) = cx at K4 K6
          generalize uniq r1 = U at K1 K2 HUL
          clear hce
          go_region_held3 (fun w' => w'.cell? ⟨b8, 2, none⟩ = some (.int .i64 s.m.1) ∧ w'.cell? ⟨b8, 3, none⟩ = some (.int .i64 s.m.2.1) ∧ w'.cell? ⟨b8, 4, none⟩ = some (.string s.m.2.2) ∧ w'.cell? ⟨rb, 1, none⟩ = some (.slice A9 (r1).length c9)) (first | exact HCr.out _ B7.out | exact HCr.out _ B6.out | exact HCr.out _ B5.out | exact HCr.out _ B4.out | exact HCr.out _ B3.out | exact HCr.out _ B2.out | exact HCr.out _ B1.out | exact HCr.out _ B0.out) (first
            | (go_at_call 11; (with_reducible refine (K1.out _ S0.out).mono ?_); rintro e w11 ⟨v11, rfl, hr, hb⟩; obtain ⟨A11, c11, rfl⟩ := own_slice hr; have R1 := Aside0.mk hr; have S1 := Aside0.mk (S0.out.below hb); have B1 := Aside0.mk (B0.out.trans (hb.mono B0.out.size)); clear hr hb)
            | (go_at_call 23; (with_reducible refine (K2.out _ S1.out).mono ?_); rintro e w12 ⟨v12, rfl, hr, hb⟩; obtain ⟨A12, c12, rfl⟩ := own_slice hr; have R2 := Aside0.mk hr; have R1b := Aside0.mk (own_below R1.out hb); have S2 := Aside0.mk (S1.out.below hb); have B2 := Aside0.mk (B1.out.trans (hb.mono B1.out.size)); clear hr hb)
            | (go_at_call 22; (with_reducible refine (lists_calls _ R1b.out R2.out HUL.out).mono ?_); rintro e w13 ⟨rfl, hb⟩; have S3 := Aside0.mk (S2.out.below hb); have B3 := Aside0.mk (B2.out.trans (hb.mono B2.out.size)); clear hb)
            | (go_at_call 13; (with_reducible refine (K4.out _ S3.out).mono ?_); rintro e w14 ⟨rfl, hb⟩; have S4 := Aside0.mk (S3.out.below hb); have B4 := Aside0.mk (B3.out.trans (hb.mono B3.out.size)); clear hb)
            | (go_at_call 17; (with_reducible refine (K5.out _).mono ?_); rintro e w15 ⟨rfl, hb⟩; have S5 := Aside0.mk (S4.out.below hb); have B5 := Aside0.mk (B4.out.trans (hb.mono B4.out.size)); clear hb)
            | (go_at_call 24; (with_reducible refine (K6.out _ S5.out).mono ?_); rintro e w16 ⟨rfl, hb⟩; have S6 := Aside0.mk (S5.out.below hb); have B6 := Aside0.mk (B5.out.trans (hb.mono B5.out.size)); clear hb)
            | (go_at_call 12; (with_reducible refine (K7.out _ S6.out).mono ?_); rintro e w17 ⟨rfl, hb⟩; have S7 := Aside0.mk (S6.out.below hb); have B7 := Aside0.mk (B6.out.trans (hb.mono B6.out.size)); clear hb))
          all_goals
            go_wp2_with fail
            go_roundw
            case rel => exact ⟨i + 1, _, hlt, N1.out, S7⟩
            case measure => exact M1.out
    · obtain rfl : i = l.length := by omega
      have hb1 : decide ((l.length : Int) < (l.length : Int)) = false := decide_eq_false (by omega)
      go_wp2_with fail
      refine (speaks_calls _).mono ?_
      rintro e w7 ⟨rfl, hb⟩
      have B7 := Aside0.mk (H.out.bel.trans (hb.mono H.out.bel.size))
      clear hb
      go_wp2_with fail
      go_ret
      exact ⟨rfl, B7.out⟩
theorem BagSteps (W : World) (n : Int) (hw : (Lit.int .i64 n).wf = true) (A : Option Addr) (k c : Nat) (l : List Step) (h : (Kd.slice 40 stepK).K W l [.slice A k c]) (hg : True) :
    Calls Try.prog 4 #[.int .i64 n, .slice A k c] W fun e W' => e = .returned (.bool true) ∧ Below W.heap.size W W' := by
  obtain ⟨A1, c1, he, hcc, hC⟩ := h
  obtain ⟨rfl, rfl, rfl⟩ : A = A1 ∧ k = l.length ∧ c = c1 := by simpa using he
  by_cases h1 : n < 1 ∨ 7 < n
  · exact steps_no W n A l.length c h1
  · by_cases hn : l.length ≤ 300
    · exact steps_short W n A c l (by omega) (by omega) hC hn
    · exact steps_long W n A l.length c (by omega) (by omega) (by omega)
end Go.Proofs.Ytmledapichlhdaa.Core
