/- The walk of the law CacheSteps. -/
import Derived.Test.YtikefafpkclgeaaCacheDuo
set_option linter.unusedVariables false
set_option linter.unusedSimpArgs false
namespace Go.Proofs.Ytikefafpkclgeaa.Core
open Go.RowKit Go.Proofs.YtikefafpkclgeaaW.PrintWords Go.Proofs.YtikefafpkclgeaaW.PrintLast Go.Proofs.YtikefafpkclgeaaW.PrintMore Go.Proofs.Ytikefafpkclgeaa.Maps Go.Proofs.Ytikefafpkclgeaa.CacheS Go.Proofs.Ytikefafpkclgeaa.Cache
theorem nxt500 (i n : Nat) (h : i < n) (hn : n ≤ 500) : Value.int .i64 (wrap64 ((i : Int) + 1)) = Value.int .i64 ((i + 1 : Nat) : Int) := nxt i n h (Nat.le_trans hn (by decide))
theorem tk_len (L : List F) (h : L.length ≤ 64) : (dirtyS L).length ≤ 1024 := by
  unfold dirtyS
  refine Nat.le_trans (List.length_filterMap_le _ _) ?_
  rw [(rise_perm _).length_eq]
  unfold heldS
  rw [List.length_map]
  omega
set_option maxHeartbeats 12800000 in
set_option maxRecDepth 100000 in
theorem steps_no (W : World) (n : Int) (A : Option Addr) (k c : Nat) (hn : n < 1 ∨ 64 < n) :
    Calls Try.prog 5 #[.int .i64 n, .slice A k c] W fun e W' => e = .returned (.bool true) ∧ Below W.heap.size W W' := by
  have hup := Try.underlying23
  have hur := Try.underlying43
  have HN := Aside0.mk hn
  clear hn
  go_enter Try.func5, Try.ntmps5
  go_wp2_with fail
  refine (new_no n W HN.out).mono ?_
  rintro e w1 ⟨rfl, hb⟩
  have B1 := Aside0.mk hb
  clear hb
  go_wp2_with fail
  refine (rnew_no n w1 HN.out).mono ?_
  rintro e w2 ⟨rfl, hb⟩
  have B2 := Aside0.mk (B1.out.trans (hb.mono B1.out.size))
  clear hb
  go_wp2_with fail
  refine (speaks_calls _).mono ?_
  rintro e w3 ⟨rfl, hb⟩
  have B3 := Aside0.mk (B2.out.trans (hb.mono B2.out.size))
  clear hb
  go_wp2_with fail
  go_ret
  exact ⟨rfl, B3.out⟩
set_option maxHeartbeats 12800000 in
set_option maxRecDepth 100000 in
theorem steps_long (W : World) (n : Int) (A : Option Addr) (k c : Nat) (h1 : 1 ≤ n) (h7 : n ≤ 64) (hk : 500 < k) :
    Calls Try.prog 5 #[.int .i64 n, .slice A k c] W fun e W' => e = .returned (.bool true) ∧ Below W.heap.size W W' := by
  have hup := Try.underlying23
  have hur := Try.underlying43
  have HN := Aside0.mk (And.intro h1 h7)
  have b1 : decide ((k : Int) > 500) = true := decide_eq_true (by omega)
  clear h1 h7 hk
  go_enter Try.func5, Try.ntmps5
  go_wp2_with fail
  refine (new_yes n W W.heap.size (Nat.le_refl _) HN.out.1 HN.out.2).mono ?_
  rintro e w1 ⟨cb, mb, rfl, hI, hB, -⟩
  have B1 := Aside0.mk hB
  clear hI hB
  unfold ptr
  go_wp2_with fail
  refine (rnew_yes n w1 w1.heap.size (Nat.le_refl _) HN.out.1 HN.out.2).mono ?_
  rintro e w2 ⟨rb, rfl, hI, hb, -⟩
  have B2 := Aside0.mk (B1.out.trans (hb.mono B1.out.size))
  clear hI hb
  unfold ptr
  go_wp2_with fail
  refine (speaks_calls _).mono ?_
  rintro e w3 ⟨rfl, hb⟩
  have B3 := Aside0.mk (B2.out.trans (hb.mono B2.out.size))
  clear hb
  go_wp2_with fail
  go_ret
  exact ⟨rfl, B3.out⟩
set_option maxHeartbeats 51200000 in
set_option maxRecDepth 100000 in
theorem steps_short (W : World) (n : Int) (A : Option Addr) (c : Nat) (l : List Step) (h1 : 1 ≤ n) (h7 : n ≤ 64) (hC : Kd.C stepK W A l.length l) (hn : l.length ≤ 500) :
    Calls Try.prog 5 #[.int .i64 n, .slice A l.length c] W fun e W' => e = .returned (.bool true) ∧ Below W.heap.size W W' := by
  have hup := Try.underlying23
  have hur := Try.underlying43
  have hus := Try.underlying30
  have HC := Aside0.mk hC
  have HL := Aside0.mk hn
  have HN := Aside0.mk (And.intro h1 h7)
  have b1 : decide ((l.length : Int) > 500) = false := decide_eq_false (by omega)
  clear hC hn h1 h7
  go_enter Try.func5, Try.ntmps5
  go_wp2_with fail
  refine (new_yes n W W.heap.size (Nat.le_refl _) HN.out.1 HN.out.2).mono ?_
  rintro e w1 ⟨cb, mb, rfl, hI, hB, -⟩
  have C1 : Aside0 (Cch W w1 cb n 0 (fun _ => False) []) := ⟨Cch.new hI hB _ (fun k hk => hk.elim)⟩
  clear hI hB
  unfold ptr
  go_wp2_with fail
  refine (rnew_yes n w1 W.heap.size C1.out.bel.size HN.out.1 HN.out.2).mono ?_
  rintro e w2 ⟨rb, rfl, hI, hb, hge⟩
  have D2 : Aside0 (Duo W w2 cb rb n 0 (fun _ => False) [] []) := ⟨⟨_, (C1.out.more hb).sub fun k hk => by
    rcases hk with hk | hk
    · rcases hk with rfl | hk
      · exact .inr ⟨hge, blk_lt hI.blk⟩
      · cases hk
    · exact hk.elim, hI, fun k hk => hk.elim⟩⟩
  clear hI hb hge C1
  unfold ptr
  go_wp2_with fail
  go_loopw [41] (fun z wr => ∃ (i : Nat) (L : List F), i ≤ l.length ∧ z = .int .i64 i ∧ Aside0 (Duo W wr cb rb n i (fun _ => False) L L)) (fun z _ => l.length - (intOf z).toNat)
  case atStart => exact ⟨0, [], by omega, rfl, D2⟩
  case round =>
    obtain ⟨i, L, hi, rfl, H⟩ := hrel
    clear D2
    by_cases hlt : i < l.length
    · as_aux_lemma =>
        obtain ⟨s, hs⟩ : ∃ s, l[i]? = some s := ⟨_, List.getElem?_eq_getElem hlt⟩
        obtain ⟨ad, rfl, hcs⟩ := step_at HC.out hs
        obtain ⟨e0, e1, e2⟩ := hcs wr H.out.bel
        have hb1 : decide ((i : Int) < (l.length : Int)) = true := decide_eq_true (by omega)
        have P1 := Aside0.mk (blk_new wr (.cells #[.int .i64 s.kind, .int .i64 s.k, .string s.d] 30))
        have S2 := Aside0.mk (H.out.below (below_alloc (Below.refl wr.heap.size wr) (.cells #[.int .i64 s.kind, .int .i64 s.k, .string s.d] 30)))
        have HT : Aside0 (i < 1000000) := ⟨by have := HL.out; omega⟩
        have HT2 : Aside0 (i + 1 ≤ 1000000) := ⟨by have := HL.out; omega⟩
        have N1 := Aside0.mk (nxt i l.length hlt (Nat.le_trans HL.out (by decide)))
        have M1 := Aside0.mk (meas i l.length hlt (Nat.le_trans HL.out (by decide)))
        clear hs hcs
        go_upto_region 10 with fail
        generalize wr.alloc (.cells #[.int .i64 s.kind, .int .i64 s.k, .string s.d] 30) = W2 at P1 S2 ⊢
        generalize wr.heap.size = b8 at P1 ⊢
        clear e0 e1 e2 H
        have q0 := (blk_cell P1.out 0).trans (Eq.refl (some (Value.int .i64 s.kind)))
        have q1 := (blk_cell P1.out 1).trans (Eq.refl (some (Value.int .i64 s.k)))
        have q2 := (blk_cell P1.out 2).trans (Eq.refl (some (Value.string s.d)))
        have hA := Aside0.mk (asks_calls S2.out HN.out.1 HT.out s)
        unfold ptr at hA
        go_wp2_with fail
        refine hA.out.mono ?_
        rintro e w3 ⟨rfl, L', hD⟩
        have D3 := Aside0.mk hD
        have OK3 := Aside0.mk (hD.ok HT2.out)
        have hH := Aside0.mk hD.held
        have hR := Aside0.mk (fun w' (h : Duo W w' cb rb n (i + 1) (fun _ => False) L' L') => h.rheld OK3.out)
        have HLe : Aside0 ((heldS L').length ≤ 1000) := ⟨by have := OK3.out.len; unfold heldS; rw [List.length_map]; omega⟩
        unfold ptr at hH hR
        clear hD hA q0 q1 q2 P1 S2
        generalize heldS L' = K at hH hR HLe
        go_wp2_with fail
        refine hH.out.mono ?_
        rintro e w4 ⟨v, rfl, hr, hb⟩
        obtain ⟨A4, c4, rfl⟩ := own_slice hr
        have D4 := Aside0.mk (D3.out.below hb)
        have R4 := Aside0.mk hr
        clear hr hb hH D3
        go_wp2_with fail
        refine (hR.out _ D4.out).mono ?_
        rintro e w5 ⟨v, rfl, hr, hb⟩
        obtain ⟨A5, c5, rfl⟩ := own_slice hr
        have D5 := Aside0.mk (D4.out.below hb)
        have R5 := Aside0.mk (And.intro (own_below R4.out hb) hr)
        clear hr hb hR D4 R4
        go_wp2_with fail
        refine (ints_calls R5.out.1 R5.out.2 HLe.out).mono ?_
        rintro e w6 ⟨rfl, hb⟩
        have D6 := Aside0.mk (D5.out.below hb)
        clear hb D5 R5
        go_wp2_with fail
        go_roundw
        case rel => exact ⟨i + 1, _, hlt, N1.out, D6⟩
        case measure => exact M1.out
    · obtain rfl : i = l.length := by omega
      have hb1 : decide ((l.length : Int) < (l.length : Int)) = false := decide_eq_false (by omega)
      have OK3 := Aside0.mk (H.out.ok (by have := HL.out; omega))
      have hH := Aside0.mk H.out.dirty
      have hR := Aside0.mk (fun w' (h : Duo W w' cb rb n l.length (fun _ => False) L L) => h.rdirty OK3.out)
      have HLe := Aside0.mk (tk_len L OK3.out.len)
      unfold ptr at hH hR
      generalize dirtyS L = S at hH hR HLe
      go_wp2_with fail
      refine hH.out.mono ?_
      rintro e w4 ⟨v, rfl, hr, hb⟩
      obtain ⟨A4, c4, rfl⟩ := own_slice hr
      have D4 := Aside0.mk (H.out.below hb)
      have R4 := Aside0.mk hr
      clear hr hb hH
      go_wp2_with fail
      refine (hR.out _ D4.out).mono ?_
      rintro e w5 ⟨v, rfl, hr, hb⟩
      obtain ⟨A5, c5, rfl⟩ := own_slice hr
      have D5 := Aside0.mk (D4.out.below hb)
      have R5 := Aside0.mk (And.intro (own_below R4.out hb) hr)
      clear hr hb hR D4 R4
      go_wp2_with fail
      refine (changes_calls _ R5.out.1 R5.out.2 HLe.out).mono ?_
      rintro e w6 ⟨rfl, hb⟩
      have B6 := Aside0.mk (D5.out.bel.trans (hb.mono D5.out.bel.size))
      clear hb D5 R5
      go_wp2_with fail
      refine (speaks_calls _).mono ?_
      rintro e w7 ⟨rfl, hb⟩
      have B7 := Aside0.mk (B6.out.trans (hb.mono B6.out.size))
      clear hb
      go_wp2_with fail
      go_ret
      exact ⟨rfl, B7.out⟩
theorem CacheSteps (W : World) (n : Int) (hw : (Lit.int .i64 n).wf = true) (A : Option Addr) (k c : Nat) (l : List Step) (h : (Kd.slice 30 stepK).K W l [.slice A k c]) (hg : True) :
    Calls Try.prog 5 #[.int .i64 n, .slice A k c] W fun e W' => e = .returned (.bool true) ∧ Below W.heap.size W W' := by
  obtain ⟨A1, c1, he, hcc, hC⟩ := h
  obtain ⟨rfl, rfl, rfl⟩ : A = A1 ∧ k = l.length ∧ c = c1 := by simpa using he
  by_cases h1 : n < 1 ∨ 64 < n
  · exact steps_no W n A l.length c h1
  · by_cases hn : l.length ≤ 500
    · exact steps_short W n A c l (by omega) (by omega) hC hn
    · exact steps_long W n A l.length c (by omega) (by omega) (by omega)
end Go.Proofs.Ytikefafpkclgeaa.Core
