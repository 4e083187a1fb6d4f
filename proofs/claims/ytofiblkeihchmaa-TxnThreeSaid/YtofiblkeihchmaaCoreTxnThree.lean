/- The walk of the law TxnThree. -/
import Derived.Test.YtofiblkeihchmaaTxnOpen
set_option linter.unusedVariables false
set_option linter.unusedSimpArgs false
namespace Go.Proofs.Ytofiblkeihchmaa.Core
open Go.RowKit Go.Proofs.YtofiblkeihchmaaW.PrintWords Go.Proofs.YtofiblkeihchmaaW.PrintLast Go.Proofs.YtofiblkeihchmaaW.PrintMore Go.Proofs.Ytofiblkeihchmaa.TxnS Go.Proofs.Ytofiblkeihchmaa.Txn
set_option maxHeartbeats 6400000 in
set_option maxRecDepth 100000 in
theorem txnThree (W : World) (a b c : List Ch) (A B C : Option Addr) (c1 c2 c3 : Nat) (ha : Chs W A a) (hb : Chs W B b) (hc : Chs W C c) (hla : a.length ≤ 1125899906842624) (hlb : b.length ≤ 1125899906842624) (hlc : c.length ≤ 1125899906842624) :
    Calls Try.prog 7 #[.slice A a.length c1, .slice B b.length c2, .slice C c.length c3] W fun e W' => e = .returned (.bool true) ∧ Below W.heap.size W W' := by
  have HA := Aside0.mk ha
  have HB := Aside0.mk hb
  have HC := Aside0.mk hc
  have HM1 := Aside0.mk (merge_calls a b A B c1 c2 W ha hb hla hlb)
  have HM2 := Aside0.mk (fun w (h : Below W.heap.size W w) => merge_calls b c B C c2 c3 w (hb.below h) (hc.below h) hlb hlc)
  clear ha hb hc
  have HS := Aside0.mk speaks_calls
  by_cases h0 : (merS a b).2 = 0 ∧ (merS b c).2 = 0
  · have HR1 := Aside0.mk (merS_ok h0.1)
    have HR2 := Aside0.mk (merS_ok h0.2)
    have H3 := Aside0.mk (mer_three h0.1 h0.2)
    rw [h0.1] at HM1
    rw [h0.2] at HM2
    clear h0
    obtain ⟨x, hx⟩ : ∃ x, x = (merS a b).1 := ⟨_, rfl⟩
    obtain ⟨y, hy⟩ : ∃ y, y = (merS b c).1 := ⟨_, rfl⟩
    rw [← hx] at HM1 HR1 H3
    rw [← hy] at HM2 HR2 H3
    have hxl : x.length ≤ 48 := HR1.out.2.2.2.2
    have hyl : y.length ≤ 48 := HR2.out.2.2.2.2
    have hal : a.length ≤ 48 := HR1.out.1.2
    clear hx hy
    go_enter Try.func7, Try.ntmps7
    go_wp2_with fail
    refine HM1.out.mono ?_
    rintro e w1 ⟨v1, rfl, hr, hB⟩
    obtain ⟨X, cx, rfl⟩ := own_slice hr
    have X1 := Aside0.mk (own_chs hr rfl)
    have B1 := Aside0.mk hB
    clear hr hB HM1
    go_wp2_with fail
    refine (HM2.out _ B1.out).mono ?_
    rintro e w2 ⟨v2, rfl, hr, hB⟩
    obtain ⟨Y, cy, rfl⟩ := own_slice hr
    have Y2 := Aside0.mk (own_chs hr rfl)
    have X2 := Aside0.mk (X1.out.below hB)
    have B2 := Aside0.mk (B1.out.trans (hB.mono B1.out.size))
    clear hr hB HM2 X1 B1
    have HM3 := Aside0.mk (merge_calls x c X C cx c3 w2 X2.out (HC.out.below B2.out) (by omega) hlc)
    have HM4 := Aside0.mk (fun w (h : Below w2.heap.size w2 w) => merge_calls a y A Y c1 cy w ((HA.out.below B2.out).below h) (Y2.out.below h) (by omega) (by omega))
    have HM5 := Aside0.mk (fun w (h : Below w2.heap.size w2 w) => merge_calls a a A A c1 c1 w ((HA.out.below B2.out).below h) ((HA.out.below B2.out).below h) (by omega) (by omega))
    rw [H3.out] at HM3
    rw [mer_self HR1.out.1] at HM5
    have hq : (merS a y).1.length ≤ 1125899906842624 := by
      by_cases hh : (merS a y).2 = 0
      · have := (merS_ok hh).2.2.2.2; omega
      · rw [merS_no hh]; simp
    generalize merS a y = q at HM3 HM4 hq
    obtain ⟨ql, qe⟩ := q
    dsimp only at HM3 HM4 HM5 hq
    clear HR1 HR2 H3
    go_wp2_with fail
    refine HM3.out.mono ?_
    rintro e w3 ⟨v3, rfl, hr, hB⟩
    obtain ⟨P, cp, rfl⟩ := own_slice hr
    have P3 := Aside0.mk (own_chs hr rfl)
    have B3 := Aside0.mk hB
    clear hr hB HM3
    go_wp2_with fail
    refine (HM4.out _ B3.out).mono ?_
    rintro e w4 ⟨v4, rfl, hr, hB⟩
    obtain ⟨Q, cq, rfl⟩ := own_slice hr
    have Q4 := Aside0.mk (own_chs hr rfl)
    have P4 := Aside0.mk (P3.out.below hB)
    have B4 := Aside0.mk (B3.out.trans (hB.mono B3.out.size))
    clear hr hB HM4 P3 B3
    go_wp2_with fail
    refine (HM5.out _ B4.out).mono ?_
    rintro e w5 ⟨v5, rfl, hr, hB⟩
    obtain ⟨M, cm, rfl⟩ := own_slice hr
    have M5 := Aside0.mk (own_chs hr rfl)
    have Q5 := Aside0.mk (Q4.out.below hB)
    have P5 := Aside0.mk (P4.out.below hB)
    have B5 := Aside0.mk (B4.out.trans (hB.mono B4.out.size))
    clear hr hB HM5 P4 Q4 B4
    have HC1 := Aside0.mk (changes_calls ql ql P Q cp cq w5 P5.out Q5.out hq hq)
    have HC2 := Aside0.mk (fun w (h : Below w5.heap.size w5 w) => changes_calls a a M A cm c1 w (M5.out.below h) (((HA.out.below B2.out).below B5.out).below h) (by omega) (by omega))
    rw [decide_eq_true rfl] at HC1
    rw [show decide (a = a) = true from decide_eq_true rfl] at HC2
    have qqe : (qe == qe) = true := by simp
    go_wp2_with fail
    refine HC1.out.mono ?_
    rintro e w6 ⟨rfl, hB⟩
    have B6 := Aside0.mk hB
    clear hB HC1
    go_wp2_with fail
    refine (HC2.out _ B6.out).mono ?_
    rintro e w7 ⟨rfl, hB⟩
    have B7 := Aside0.mk (B6.out.trans (hB.mono B6.out.size))
    clear hB HC2
    go_wp2_with fail
    refine (HS.out _).mono ?_
    rintro e w8 ⟨rfl, hB⟩
    have B8 := Aside0.mk (B7.out.trans (hB.mono B7.out.size))
    clear hB
    go_wp2_with fail
    go_ret
    exact ⟨rfl, B2.out.trans ((B5.out.trans (B8.out.mono B5.out.size)).mono B2.out.size)⟩
  · have hcs : ((merS a b).2 != 0) = true ∨ ((merS a b).2 != 0) = false ∧ ((merS b c).2 != 0) = true := by
      by_cases h1 : (merS a b).2 = 0
      · right
        exact ⟨by simp [h1], by simp; exact fun h2 => h0 ⟨h1, h2⟩⟩
      · left; simp [h1]
    clear h0
    generalize merS a b = p at HM1 hcs
    generalize merS b c = q at HM2 hcs
    obtain ⟨pl, pe⟩ := p
    obtain ⟨ql, qe⟩ := q
    dsimp only at HM1 HM2 hcs
    have HCs := Aside0.mk hcs
    clear hcs
    go_enter Try.func7, Try.ntmps7
    go_wp2_with fail
    refine HM1.out.mono ?_
    rintro e w1 ⟨v1, rfl, hr, hB⟩
    have B1 := Aside0.mk hB
    clear hr hB HM1
    go_wp2_with fail
    refine (HM2.out _ B1.out).mono ?_
    rintro e w2 ⟨v2, rfl, hr, hB⟩
    have B2 := Aside0.mk (B1.out.trans (hB.mono B1.out.size))
    clear hr hB HM2 B1
    rcases HCs.out with h1 | ⟨h1, h2⟩
    all_goals
      go_wp2_with fail
      refine (HS.out _).mono ?_
      rintro e w8 ⟨rfl, hB⟩
      have B8 := Aside0.mk (B2.out.trans (hB.mono B2.out.size))
      clear hB
      go_wp2_with fail
      go_ret
      exact ⟨rfl, B8.out⟩
theorem TxnThree (W : World) (A : Option Addr) (n c1 : Nat) (a : List Ch) (h1 : (Kd.slice 39 chK).K W a [.slice A n c1]) (g1 : goodL a) (B : Option Addr) (m c2 : Nat) (b : List Ch) (h2 : (Kd.slice 39 chK).K W b [.slice B m c2]) (g2 : goodL b) (C : Option Addr) (k c3 : Nat) (c : List Ch) (h3 : (Kd.slice 39 chK).K W c [.slice C k c3]) (g3 : goodL c) :
    Calls Try.prog 7 #[.slice A n c1, .slice B m c2, .slice C k c3] W fun e W' => e = .returned (.bool true) ∧ Below W.heap.size W W' := by
  obtain ⟨rfl, ha⟩ := chs_of h1
  obtain ⟨rfl, hb⟩ := chs_of h2
  obtain ⟨rfl, hc⟩ := chs_of h3
  exact txnThree W a b c A B C c1 c2 c3 ha hb hc (by have := g1.1; omega) (by have := g2.1; omega) (by have := g3.1; omega)
end Go.Proofs.Ytofiblkeihchmaa.Core
