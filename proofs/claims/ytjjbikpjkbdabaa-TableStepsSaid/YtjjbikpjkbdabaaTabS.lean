/- Results compared, and what the laws of tables ask first. -/
import Derived.Test.YtjjbikpjkbdabaaTabD
import Derived.Lib.Strings
set_option linter.unusedVariables false
set_option linter.unusedSimpArgs false
namespace Go.Proofs.Ytjjbikpjkbdabaa.Tab
open Go.RowKit Go.Proofs.YtjjbikpjkbdabaaW.PrintWords Go.Proofs.YtjjbikpjkbdabaaW.PrintLast Go.Proofs.YtjjbikpjkbdabaaW.PrintMore Go.Proofs.Ytjjbikpjkbdabaa.Maps Go.Proofs.Ytjjbikpjkbdabaa.TabS

theorem text_eq (a b : ByteArray) : a.toList = b.toList ↔ a = b := by
  constructor
  · intro h
    rw [Go.Lib.toList_data, Go.Lib.toList_data] at h
    exact ByteArray.ext (Array.toList_inj.mp h)
  · intro h
    rw [h]
theorem wrap_small (i : Int) (h0 : 0 ≤ i) (h1 : i < 9223372036854775808) : wrap64 i = i := by
  unfold wrap64
  first
  | (rw [IntKind.wrap_i64]; omega)
  | (simp [IntKind.wrap_i64]; omega)
  | omega
theorem rd_at (a : List ByteArray) (i : Nat) (h : i < a.length) : rdOf ByteArray.empty a (i : Nat) = a[i] := by
  unfold rdOf
  simp [List.getD_eq_getElem?_getD, h]
theorem texts_l0 (a b : List ByteArray) (hl : a.length = b.length) (hs : a.length < 4611686018427387904) : ∀ (d i : Nat), i + d = a.length → Pt.cartularyplain_Texts.l0 (d + 1) a b (a.length : Int) (i : Int) = some (decide (a.drop i = b.drop i))
  | 0, i, h => by
    unfold Pt.cartularyplain_Texts.l0
    rw [if_neg (by omega)]
    rw [List.drop_eq_nil_of_le (by omega), List.drop_eq_nil_of_le (by omega)]
    simp
  | d + 1, i, h => by
    have ha : i < a.length := by omega
    have hb : i < b.length := by omega
    unfold Pt.cartularyplain_Texts.l0
    rw [if_pos (by omega), if_pos (by omega), if_pos (by omega), if_pos (by omega), rd_at a i ha, rd_at b i hb, wrap_small _ (by omega) (by omega)]
    have ih := texts_l0 a b hl hs d (i + 1) (by omega)
    have da := List.drop_eq_getElem_cons ha
    have db := List.drop_eq_getElem_cons hb
    by_cases e : a[i] = b[i]
    · rw [if_pos (by rw [e])]
      rw [show ((i : Int) + 1) = ((i + 1 : Nat) : Int) from by omega, ih]
      exact congrArg some (decide_eq_decide.2 (by rw [da, db, e]; simp only [List.cons.injEq, true_and]))
    · rw [if_neg (fun q => e ((text_eq _ _).1 q))]
      exact congrArg some (decide_eq_false (by rw [da, db]; simp only [List.cons.injEq]; exact fun q => e q.1)).symm
theorem texts_f (a b : List ByteArray) (hs : a.length < 4611686018427387904) : ∃ k, Pt.cartularyplain_Texts.f k a b = some (decide (a = b)) := by
  refine ⟨a.length + 1, ?_⟩
  unfold Pt.cartularyplain_Texts.f
  by_cases h : a.length = b.length
  · rw [if_pos (by omega)]
    have := texts_l0 a b h hs a.length 0 (by omega)
    simpa using this
  · rw [if_neg (by omega)]
    have : a ≠ b := fun e => h (by rw [e])
    simp [this]
def sameRes (a b : Res) : Bool := decide (a.e = b.e ∧ a.d = b.d ∧ a.k = b.k ∧ a.l = b.l ∧ a.s = b.s ∧ a.n = b.n)
theorem sameRes_iff (a b : Res) : sameRes a b = true ↔ a = b := by
  cases a; cases b
  simp [sameRes]
section
variable {B : Nat} {w : World} {a b : Res} {A A' : Option Addr} {c c' : Nat}
theorem result_calls (ha : Names B w A a.n c) (hb : Names B w A' b.n c') : Calls Try.prog 12 #[vres a A c, vres b A' c'] w fun e w' => e = .returned (.bool (sameRes a b)) ∧ Below w.heap.size w w' := by
  obtain ⟨k, hk⟩ := texts_f a.n b.n (by have := ha.sized; omega)
  refine Pt.cartularyplain_Result.calls k a.e a.d a.k a.l a.s A c a.n b.e b.d b.k b.l b.s A' c' b.n _ w ha.reads ha.cap hb.reads hb.cap ?_
  unfold Pt.cartularyplain_Result.f sameRes
  rw [hk]
  by_cases h1 : a.e = b.e
  · rw [if_pos h1]
    by_cases h2 : a.d = b.d
    · rw [if_pos (by rw [h2])]
      by_cases h3 : a.k = b.k
      · rw [if_pos h3]
        by_cases h4 : a.l = b.l
        · rw [if_pos h4]
          by_cases h5 : a.s = b.s
          · rw [if_pos h5]; simp [h1, h2, h3, h4, h5]
          · rw [if_neg h5]; simp [h5]
        · rw [if_neg h4]; simp [h4]
      · rw [if_neg h3]; simp [h3]
    · rw [if_neg (fun q => h2 ((text_eq _ _).1 q))]; simp [h2]
  · rw [if_neg h1]; simp [h1]
end
abbrev robj (r : Res) (A : Option Addr) (c : Nat) : Obj := .cells #[.int .i64 r.e, .string r.d, .int .i64 r.k, .int .i64 r.l, .int .i64 r.s, .slice A r.n.length c] 29
def r7 : Res := ⟨0, ByteArray.empty, 0, 0, 7, []⟩
def m1 : T := [(5, ⟨2, false, zero⟩)]
def m2 : T := [(5, ⟨2, true, r7⟩)]
theorem sp1 : tBegin [] 5 2 = (m1, 0) := rfl
theorem sp2 : tAsk m1 5 2 = (2, zero, 0) := rfl
theorem sp3 : tDone m1 5 2 r7 = (m2, 0) := rfl
theorem sp4 : tAsk m2 5 2 = (3, r7, 0) := rfl
theorem sp5 : tAsk m2 5 1 = (4, zero, 0) := rfl
theorem sp6 : tAsk m2 5 3 = (1, zero, 0) := rfl
set_option maxHeartbeats 4000000 in
set_option maxRecDepth 100000 in
theorem speaks_calls (w : World) : Calls Try.prog 8 #[] w fun e w' => e = .returned (.bool true) ∧ Below w.heap.size w w' := by
  have hu := Try.underlying29
  go_enter Try.func8, Try.ntmps8
  go_wp2_with fail
  refine (new_calls w.heap.size w (Nat.le_refl _)).mono ?_
  rintro e w1 ⟨tb, mb, rfl, hT, hb, h1, h2⟩
  have B1 := Aside0.mk hb
  have T1 := Aside0.mk hT
  clear hT hb
  go_wp2_with fail
  refine (begin_calls (c := 5) (r := 2) T1.out B1.out.size).mono ?_
  rintro e w2 ⟨bs2, rfl, hT, hF, hp2⟩
  rw [sp1] at hT ⊢
  dsimp only at hT ⊢
  have hfp : ∀ k, fp tb mb [] k → w.heap.size ≤ k := by
    rintro k (rfl | rfl | ⟨c, hc⟩)
    · exact h1
    · exact h2
    · simp [mget] at hc
  have hfp2 : ∀ k, fp tb mb bs2 k → w.heap.size ≤ k := fun k hk => (hp2 k hk).elim (hfp k) (fun h => Nat.le_trans B1.out.size h)
  have F2 := Aside0.mk hfp2
  have B2 := Aside0.mk (hF.below B1.out hfp B1.out.size)
  have T2 := Aside0.mk hT
  clear hT hF hfp hfp2 hp2
  go_wp2_with fail
  refine (ask_calls (c := 5) (r := 2) T2.out B2.out.size).mono ?_
  rintro e w3 ⟨A3, c3, rfl, hn3, hb⟩
  rw [sp2] at hn3 ⊢
  dsimp only at hn3 ⊢
  unfold vres
  have T3 := Aside0.mk (T2.out.below (below_alloc hb (robj zero A3 c3)))
  have B3 := Aside0.mk (B2.out.trans ((below_alloc hb (robj zero A3 c3)).mono B2.out.size))
  clear hn3 hb
  go_wp2_with fail
  generalize hw : w3.alloc (robj zero A3 c3) = v3 at T3 B3 ⊢
  clear hw
  refine (done_calls (c := 5) (r := 2) (x := r7) (A := none) (cx := 0) T3.out B3.out.size (Names.nil _ _)).mono ?_
  rintro e w4 ⟨rfl, hT, hF⟩
  rw [sp3] at hT ⊢
  dsimp only at hT ⊢
  have B4 := Aside0.mk (hF.below B3.out F2.out B3.out.size)
  have T4 := Aside0.mk hT
  clear hT hF
  go_wp2_with fail
  refine (ask_calls (c := 5) (r := 2) T4.out B4.out.size).mono ?_
  rintro e w5 ⟨A5, c5, rfl, hn5, hb⟩
  rw [sp4] at hn5 ⊢
  dsimp only at hn5 ⊢
  unfold vres
  have T5 := Aside0.mk (T4.out.below (below_alloc hb (robj r7 A5 c5)))
  have B5 := Aside0.mk (B4.out.trans ((below_alloc hb (robj r7 A5 c5)).mono B4.out.size))
  have P5 := Aside0.mk (blk_new w5 (robj r7 A5 c5))
  clear hn5 hb
  go_wp2_with fail
  generalize hw : w5.alloc (robj r7 A5 c5) = v5 at T5 B5 P5 ⊢
  clear hw
  generalize w5.heap.size = b5 at P5 ⊢
  refine (ask_calls (c := 5) (r := 1) T5.out B5.out.size).mono ?_
  rintro e w6 ⟨A6, c6, rfl, hn6, hb⟩
  rw [sp5] at hn6 ⊢
  dsimp only at hn6 ⊢
  unfold vres
  have T6 := Aside0.mk (T5.out.below (below_alloc hb (robj zero A6 c6)))
  have B6 := Aside0.mk (B5.out.trans ((below_alloc hb (robj zero A6 c6)).mono B5.out.size))
  have P6 := Aside0.mk (blk_below P5.out (below_alloc hb (robj zero A6 c6)))
  clear hn6 hb P5
  go_wp2_with fail
  generalize hw : w6.alloc (robj zero A6 c6) = v6 at T6 B6 P6 ⊢
  clear hw
  refine (ask_calls (c := 5) (r := 3) T6.out B6.out.size).mono ?_
  rintro e w7 ⟨A7, c7, rfl, hn7, hb⟩
  rw [sp6] at hn7 ⊢
  dsimp only at hn7 ⊢
  unfold vres
  have B7 := Aside0.mk (B6.out.trans ((below_alloc hb (robj zero A7 c7)).mono B6.out.size))
  have P7 := blk_below P6.out (below_alloc hb (robj zero A7 c7))
  have c4 := (blk_cell P7 4).trans rfl
  clear hn7 hb P6 P7
  have hr : r7.s = 7 := rfl
  go_wp2_with fail
  go_ret
  exact ⟨rfl, B7.out⟩
end Go.Proofs.Ytjjbikpjkbdabaa.Tab
