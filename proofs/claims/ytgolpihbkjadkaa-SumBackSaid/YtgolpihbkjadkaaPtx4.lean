-- Written by a program of this session's.
import Derived.Test.YtgolpihbkjadkaaPtx0
import Derived.Test.YtgolpihbkjadkaaPtx1
import Derived.Test.YtgolpihbkjadkaaPtx2
import Derived.Test.YtgolpihbkjadkaaPtx3
namespace Go.Proofs.Ytgolpihbkjadkaa.Pt
open Go.RowKit Go.Proofs.Ytgolpihbkjadkaa.Given Go.Proofs.Ytgolpihbkjadkaa.Codec Go.Proofs.YtgolpihbkjadkaaW.PrintWords Go.Proofs.YtgolpihbkjadkaaW.PrintLast Go.Proofs.YtgolpihbkjadkaaW.PrintMore
attribute [local go_sem] max2_int min2_int max_two min_two max_three min_three max_four min_four   -- for this text's walks alone
set_option linter.unusedVariables false
set_option linter.unusedSimpArgs false

/-! ### cartularylaw03_SumBack: function 5 -/
def cartularylaw03_SumBack.j0 : Nat → ByteArray → ByteArray → Int → Bool → Option (Bool)
  | 0, _, _, _, _ => none
  | k + 1, x0, x5, x6, x26 => if x26 = true then (some false) else (if x6 = 0 then ((sum_Unblock.f k x5).bind fun bt175 => (if bt175.2 = 0 then (if bt175.1.toList = x0.toList then (if (x5.size : Int) = 128 then ((cartularylaw03_speaks.f k).bind fun t177 => (some t177)) else (some false)) else (some false)) else (some false))) else (if x6 = 2 then (if (x0.size : Int) > 122 then ((cartularylaw03_speaks.f k).bind fun t178 => (some t178)) else (some false)) else (some false)))
def cartularylaw03_SumBack.f (k : Nat) (a0 : ByteArray) : Option (Bool) := (sum_Seal.f k a0).bind fun t170 => ((sum_Open.f k t170).bind fun bt171 => ((sum_Block.f k a0).bind fun bt173 => (if bt171.2 = 0 then (cartularylaw03_SumBack.j0 k a0 bt173.1 bt173.2 (bt171.1.toList != a0.toList)) else (cartularylaw03_SumBack.j0 k a0 bt173.1 bt173.2 true))))
theorem cartularylaw03_SumBack.mono_l : ∀ k, (∀ y0 y1 y2 y3, LeO (cartularylaw03_SumBack.j0 k y0 y1 y2 y3) (cartularylaw03_SumBack.j0 (k + 1) y0 y1 y2 y3))
  | 0 => fun _ _ _ _ r h => by simp [cartularylaw03_SumBack.j0] at h
  | k + 1 => by
    have ih0 := cartularylaw03_SumBack.mono_l k
    · intro y0 y1 y2 y3
      unfold cartularylaw03_SumBack.j0
      repeat' first
      | (with_reducible exact ih0 _ _ _ _)
      | (with_reducible exact cartularylaw03_speaks.mono _)
      | (with_reducible exact sum_Block.mono _ _)
      | (with_reducible exact sum_Open.mono _ _)
      | (with_reducible exact sum_Seal.mono _ _)
      | (with_reducible exact sum_Unblock.mono _ _)
      | (with_reducible exact LeO.refl _)
      | (with_reducible exact LeO.none _)
      | (with_reducible refine LeO.ite ?_ ?_)
      | (with_reducible refine LeO.bind ?_ (fun _ => ?_))
      | exact ih0 _ _ _ _
      | exact cartularylaw03_speaks.mono _
      | exact sum_Block.mono _ _
      | exact sum_Open.mono _ _
      | exact sum_Seal.mono _ _
      | exact sum_Unblock.mono _ _
      | exact LeO.none _
      | refine LeO.ite ?_ ?_
      | refine LeO.bind ?_ (fun _ => ?_)
theorem cartularylaw03_SumBack.mono : ∀ a0 k, LeO (cartularylaw03_SumBack.f k a0) (cartularylaw03_SumBack.f (k + 1) a0) := by
  intro a0 k
  have ih0 := cartularylaw03_SumBack.mono_l k
  unfold cartularylaw03_SumBack.f
  repeat' first
      | (with_reducible exact ih0 _ _ _ _)
      | (with_reducible exact cartularylaw03_speaks.mono _)
      | (with_reducible exact sum_Block.mono _ _)
      | (with_reducible exact sum_Open.mono _ _)
      | (with_reducible exact sum_Seal.mono _ _)
      | (with_reducible exact sum_Unblock.mono _ _)
      | (with_reducible exact LeO.refl _)
      | (with_reducible exact LeO.none _)
      | (with_reducible refine LeO.ite ?_ ?_)
      | (with_reducible refine LeO.bind ?_ (fun _ => ?_))
      | exact ih0 _ _ _ _
      | exact cartularylaw03_speaks.mono _
      | exact sum_Block.mono _ _
      | exact sum_Open.mono _ _
      | exact sum_Seal.mono _ _
      | exact sum_Unblock.mono _ _
      | exact LeO.none _
      | refine LeO.ite ?_ ?_
      | refine LeO.bind ?_ (fun _ => ?_)
set_option maxHeartbeats 8000000 in
set_option maxRecDepth 100000 in
theorem cartularylaw03_SumBack.calls (k : Nat) (a0 : ByteArray) (r : Bool) (w : World) (h : cartularylaw03_SumBack.f k a0 = some r) :
    Calls Try.prog 5 #[.string a0] w fun e w' => e = .returned (.bool r) ∧ Below w.heap.size w w' := by
  have HB := Aside0.mk (Below.refl w.heap.size w)
  have H : ((sum_Seal.f k a0).bind fun t170 => ((sum_Open.f k t170).bind fun bt171 => ((sum_Block.f k a0).bind fun bt173 => (if bt171.2 = 0 then (cartularylaw03_SumBack.j0 k a0 bt173.1 bt173.2 (bt171.1.toList != a0.toList)) else (cartularylaw03_SumBack.j0 k a0 bt173.1 bt173.2 true))))) = some r := h
  clear h
  replace H := Option.bind_eq_some_iff.mp H
  obtain ⟨t170, A20, H⟩ := H
  replace H : ((sum_Open.f k t170).bind fun bt171 => ((sum_Block.f k a0).bind fun bt173 => (if bt171.2 = 0 then (cartularylaw03_SumBack.j0 k a0 bt173.1 bt173.2 (bt171.1.toList != a0.toList)) else (cartularylaw03_SumBack.j0 k a0 bt173.1 bt173.2 true)))) = some r := H
  have A2 := Aside0.mk A20
  clear A20
  replace H := Option.bind_eq_some_iff.mp H
  obtain ⟨⟨t171, t172⟩, A30, H⟩ := H
  replace H : ((sum_Block.f k a0).bind fun bt173 => (if t172 = 0 then (cartularylaw03_SumBack.j0 k a0 bt173.1 bt173.2 (t171.toList != a0.toList)) else (cartularylaw03_SumBack.j0 k a0 bt173.1 bt173.2 true))) = some r := H
  have A3 := Aside0.mk A30
  clear A30
  replace H := Option.bind_eq_some_iff.mp H
  obtain ⟨⟨t173, t174⟩, A40, H⟩ := H
  replace H : (if t172 = 0 then (cartularylaw03_SumBack.j0 k a0 t173 t174 (t171.toList != a0.toList)) else (cartularylaw03_SumBack.j0 k a0 t173 t174 true)) = some r := H
  have A4 := Aside0.mk A40
  clear A40
  have HC5 := Aside0.mk H
  clear H
  go_enter Try.func5, Try.ntmps5
  go_upto_region 3 with (first | ((with_reducible refine gate_callee (f := 12) rfl ?_); refine goesL_ (some 11) rfl rfl Try.func12 (by kernel_rfl) rfl #[.string a0] rfl (by (try simp only [List.map_toArray, List.map_cons, List.map_nil]); first | done | rfl | (simp only [List.length_drop, List.length_take]; rfl)) ?_; (with_reducible refine (sum_Seal.calls k a0 t170 _ A2.out).mono ?_); rintro e w6 ⟨rfl, hb⟩; refine ⟨_, rfl, ?_⟩; have n0_ := Aside0.mk (below_step (by repeat (first | (with_reducible first | exact HB.out | apply below_alloc | apply pw_below_drewN | apply below_drew1) | exact HB.out)) hb); clear HB; have HB := n0_; clear n0_; (try clear hb); (try clear hb2); (try clear hk); (try clear hi)) | ((with_reducible refine gate_callee (f := 8) rfl ?_); refine goesL_ (some 12) rfl rfl Try.func8 (by kernel_rfl) rfl #[.string t170] rfl (by (try simp only [List.map_toArray, List.map_cons, List.map_nil]); first | done | rfl | (simp only [List.length_drop, List.length_take]; rfl)) ?_; (with_reducible refine (sum_Open.calls k t170 t171 t172 _ A3.out).mono ?_); rintro e w7 ⟨rfl, hb⟩; refine ⟨_, rfl, ?_⟩; have n0_ := Aside0.mk (below_step (by repeat (first | (with_reducible first | exact HB.out | apply below_alloc | apply pw_below_drewN | apply below_drew1) | exact HB.out)) hb); clear HB; have HB := n0_; clear n0_; (try clear hb); (try clear hb2); (try clear hk); (try clear hi)) | ((with_reducible refine gate_callee (f := 15) rfl ?_); refine goesL_ (some 17) rfl rfl Try.func15 (by kernel_rfl) rfl #[.string a0] rfl (by (try simp only [List.map_toArray, List.map_cons, List.map_nil]); first | done | rfl | (simp only [List.length_drop, List.length_take]; rfl)) ?_; (with_reducible refine (sum_Block.calls k a0 t173 t174 _ A4.out).mono ?_); rintro e w8 ⟨rfl, hb⟩; refine ⟨_, rfl, ?_⟩; have n0_ := Aside0.mk (below_step (by repeat (first | (with_reducible first | exact HB.out | apply below_alloc | apply pw_below_drewN | apply below_drew1) | exact HB.out)) hb); clear HB; have HB := n0_; clear n0_; (try clear hb); (try clear hb2); (try clear hk); (try clear hi)))
  (try simp only [Act.put, List.setIfInBounds_toArray, List.set_cons_zero, List.set_cons_succ])
  go_cut [26] (fun v26 wc => ∃ (kq : Nat) (x26_4 : Bool), v26 = .bool x26_4 ∧ Aside0 (cartularylaw03_SumBack.j0 kq a0 t173 t174 x26_4 = some r) ∧ Aside0 (kq ≤ k) ∧ Aside0 (Below w.heap.size w wc))
  case first =>
    have H := HC5.out
    clear HC5
    by_cases c9 : t172 = 0
    · rw [if_pos c9] at H
      have c9b0 : (t172 == 0) = true := beq_iff_eq.mpr c9
      have c9b1 : (t172 != 0) = false := bne_eq_false_iff_eq.mpr c9
      clear c9
      (first | rw [c9b0] | (simp only [i64_w, i32_w]; rw [c9b0]) | skip)
      have H' := Aside0.mk H
      clear H
      go_wp2
      go_meet
      case rel => exact ⟨_, ((t171.toList != a0.toList)), (by first | rfl | (simp; done) | (simp [*]; done)), H', ⟨by first | omega | exact Nat.le_refl _⟩, ⟨by repeat (first | (with_reducible first | exact HB.out | apply below_alloc | apply pw_below_drewN | apply below_drew1) | exact HB.out)⟩⟩
    · rw [if_neg c9] at H
      have c9b0 : (t172 == 0) = false := beq_eq_false_iff_ne.mpr c9
      have c9b1 : (t172 != 0) = true := bne_iff_ne.mpr c9
      (first | rw [c9b0] | (simp only [i64_w, i32_w]; rw [c9b0]) | skip)
      have H' := Aside0.mk H
      clear H
      go_wp2
      go_meet
      case rel => exact ⟨_, (true), (by first | rfl | (simp; done) | (simp [*]; done)), H', ⟨by first | omega | exact Nat.le_refl _⟩, ⟨by repeat (first | (with_reducible first | exact HB.out | apply below_alloc | apply pw_below_drewN | apply below_drew1) | exact HB.out)⟩⟩
  case rest =>
    clear HC5
    try clear c1
    try clear p2
    try clear c5
    try clear c8
    try clear c9
    try clear c9b0
    try clear c9b1
    obtain ⟨kq, x26_4, rfl, HA, HJ4, HB⟩ := hcut
    cases kq with
    | zero => exact absurd HA.out (by simp [cartularylaw03_SumBack.j0])
    | succ kj4 =>
      have H := HA.out
      clear HA
      simp only [cartularylaw03_SumBack.j0] at H
      by_cases c10 : x26_4 = true
      · subst c10
        have H1 : (some false) = some r := by rw [if_pos rfl] at H; exact H
        clear H
        have H := H1
        clear H1
        obtain rfl := Option.some.inj H
        go_wp2
        go_ret
        exact ⟨by first | rfl | (simp [errW_none, errW_some] <;> rfl) | (simp [*, errW_none, errW_some] <;> rfl), by repeat (first | (with_reducible first | exact HB.out | apply below_alloc | apply pw_below_drewN | apply below_drew1) | exact HB.out)⟩
      · replace c10 := Bool.eq_false_iff.mpr c10
        subst c10
        have H1 : (if t174 = 0 then ((sum_Unblock.f kj4 t173).bind fun bt175 => (if bt175.2 = 0 then (if bt175.1.toList = a0.toList then (if (t173.size : Int) = 128 then ((cartularylaw03_speaks.f kj4).bind fun t177 => (some t177)) else (some false)) else (some false)) else (some false))) else (if t174 = 2 then (if (a0.size : Int) > 122 then ((cartularylaw03_speaks.f kj4).bind fun t178 => (some t178)) else (some false)) else (some false))) = some r := by rw [if_neg (show ¬ (false = true) by decide)] at H; exact H
        clear H
        have H := H1
        clear H1
        by_cases c11 : t174 = 0
        · rw [if_pos c11] at H
          have c11b0 : (t174 == 0) = true := beq_iff_eq.mpr c11
          have c11b1 : (t174 != 0) = false := bne_eq_false_iff_eq.mpr c11
          clear c11
          replace H := Option.bind_eq_some_iff.mp H
          obtain ⟨⟨t175, t176⟩, A120, H⟩ := H
          replace H : (if t176 = 0 then (if t175.toList = a0.toList then (if (t173.size : Int) = 128 then ((cartularylaw03_speaks.f kj4).bind fun t177 => (some t177)) else (some false)) else (some false)) else (some false)) = some r := H
          have A12 := Aside0.mk A120
          clear A120
          by_cases c13 : t176 = 0
          · rw [if_pos c13] at H
            have c13b0 : (t176 == 0) = true := beq_iff_eq.mpr c13
            have c13b1 : (t176 != 0) = false := bne_eq_false_iff_eq.mpr c13
            clear c13
            by_cases c14 : t175.toList = a0.toList
            · rw [if_pos c14] at H
              have c14b0 : (t175.toList == a0.toList) = true := beq_iff_eq.mpr c14
              have c14b1 : (t175.toList != a0.toList) = false := bne_eq_false_iff_eq.mpr c14
              clear c14
              by_cases c15 : (t173.size : Int) = 128
              · rw [if_pos c15] at H
                have c15b0 : ((t173.size : Int) == 128) = true := beq_iff_eq.mpr c15
                have c15b1 : ((t173.size : Int) != 128) = false := bne_eq_false_iff_eq.mpr c15
                clear c15
                replace H := Option.bind_eq_some_iff.mp H
                obtain ⟨t177, A160, H⟩ := H
                replace H : (some t177) = some r := H
                have A16 := Aside0.mk A160
                clear A160
                obtain rfl := Option.some.inj H
                go_wp2_with (first | ((with_reducible refine gate_callee (f := 17) rfl ?_); refine goesL_ (some 41) rfl rfl Try.func17 (by kernel_rfl) rfl #[.string t173] rfl (by (try simp only [List.map_toArray, List.map_cons, List.map_nil]); first | done | rfl | (simp only [List.length_drop, List.length_take]; rfl)) ?_; (with_reducible refine (sum_Unblock.calls kj4 t173 t175 t176 _ A12.out).mono ?_); rintro e w17 ⟨rfl, hb⟩; refine ⟨_, rfl, ?_⟩; have n0_ := Aside0.mk (below_step (by repeat (first | (with_reducible first | exact HB.out | apply below_alloc | apply pw_below_drewN | apply below_drew1) | exact HB.out)) hb); clear HB; have HB := n0_; clear n0_; (try clear hb); (try clear hb2); (try clear hk); (try clear hi)) | (go_at_call 14; (with_reducible refine (cartularylaw03_speaks.calls kj4  t177 _ A16.out).mono ?_); rintro e w18 ⟨rfl, hb⟩; have n0_ := Aside0.mk (below_step (by repeat (first | (with_reducible first | exact HB.out | apply below_alloc | apply pw_below_drewN | apply below_drew1) | exact HB.out)) hb); clear HB; have HB := n0_; clear n0_; (try clear hb); (try clear hb2); (try clear hk); (try clear hi)))
                go_ret
                exact ⟨by first | rfl | (simp [errW_none, errW_some] <;> rfl) | (simp [*, errW_none, errW_some] <;> rfl), by repeat (first | (with_reducible first | exact HB.out | apply below_alloc | apply pw_below_drewN | apply below_drew1) | exact HB.out)⟩
              · rw [if_neg c15] at H
                have c15b0 : ((t173.size : Int) == 128) = false := beq_eq_false_iff_ne.mpr c15
                have c15b1 : ((t173.size : Int) != 128) = true := bne_iff_ne.mpr c15
                obtain rfl := Option.some.inj H
                go_wp2_with (first | ((with_reducible refine gate_callee (f := 17) rfl ?_); refine goesL_ (some 41) rfl rfl Try.func17 (by kernel_rfl) rfl #[.string t173] rfl (by (try simp only [List.map_toArray, List.map_cons, List.map_nil]); first | done | rfl | (simp only [List.length_drop, List.length_take]; rfl)) ?_; (with_reducible refine (sum_Unblock.calls kj4 t173 t175 t176 _ A12.out).mono ?_); rintro e w19 ⟨rfl, hb⟩; refine ⟨_, rfl, ?_⟩; have n0_ := Aside0.mk (below_step (by repeat (first | (with_reducible first | exact HB.out | apply below_alloc | apply pw_below_drewN | apply below_drew1) | exact HB.out)) hb); clear HB; have HB := n0_; clear n0_; (try clear hb); (try clear hb2); (try clear hk); (try clear hi)))
                go_ret
                exact ⟨by first | rfl | (simp [errW_none, errW_some] <;> rfl) | (simp [*, errW_none, errW_some] <;> rfl), by repeat (first | (with_reducible first | exact HB.out | apply below_alloc | apply pw_below_drewN | apply below_drew1) | exact HB.out)⟩
            · rw [if_neg c14] at H
              have c14b0 : (t175.toList == a0.toList) = false := beq_eq_false_iff_ne.mpr c14
              have c14b1 : (t175.toList != a0.toList) = true := bne_iff_ne.mpr c14
              obtain rfl := Option.some.inj H
              go_wp2_with (first | ((with_reducible refine gate_callee (f := 17) rfl ?_); refine goesL_ (some 41) rfl rfl Try.func17 (by kernel_rfl) rfl #[.string t173] rfl (by (try simp only [List.map_toArray, List.map_cons, List.map_nil]); first | done | rfl | (simp only [List.length_drop, List.length_take]; rfl)) ?_; (with_reducible refine (sum_Unblock.calls kj4 t173 t175 t176 _ A12.out).mono ?_); rintro e w20 ⟨rfl, hb⟩; refine ⟨_, rfl, ?_⟩; have n0_ := Aside0.mk (below_step (by repeat (first | (with_reducible first | exact HB.out | apply below_alloc | apply pw_below_drewN | apply below_drew1) | exact HB.out)) hb); clear HB; have HB := n0_; clear n0_; (try clear hb); (try clear hb2); (try clear hk); (try clear hi)))
              go_ret
              exact ⟨by first | rfl | (simp [errW_none, errW_some] <;> rfl) | (simp [*, errW_none, errW_some] <;> rfl), by repeat (first | (with_reducible first | exact HB.out | apply below_alloc | apply pw_below_drewN | apply below_drew1) | exact HB.out)⟩
          · rw [if_neg c13] at H
            have c13b0 : (t176 == 0) = false := beq_eq_false_iff_ne.mpr c13
            have c13b1 : (t176 != 0) = true := bne_iff_ne.mpr c13
            obtain rfl := Option.some.inj H
            go_wp2_with (first | ((with_reducible refine gate_callee (f := 17) rfl ?_); refine goesL_ (some 41) rfl rfl Try.func17 (by kernel_rfl) rfl #[.string t173] rfl (by (try simp only [List.map_toArray, List.map_cons, List.map_nil]); first | done | rfl | (simp only [List.length_drop, List.length_take]; rfl)) ?_; (with_reducible refine (sum_Unblock.calls kj4 t173 t175 t176 _ A12.out).mono ?_); rintro e w21 ⟨rfl, hb⟩; refine ⟨_, rfl, ?_⟩; have n0_ := Aside0.mk (below_step (by repeat (first | (with_reducible first | exact HB.out | apply below_alloc | apply pw_below_drewN | apply below_drew1) | exact HB.out)) hb); clear HB; have HB := n0_; clear n0_; (try clear hb); (try clear hb2); (try clear hk); (try clear hi)))
            go_ret
            exact ⟨by first | rfl | (simp [errW_none, errW_some] <;> rfl) | (simp [*, errW_none, errW_some] <;> rfl), by repeat (first | (with_reducible first | exact HB.out | apply below_alloc | apply pw_below_drewN | apply below_drew1) | exact HB.out)⟩
        · rw [if_neg c11] at H
          have c11b0 : (t174 == 0) = false := beq_eq_false_iff_ne.mpr c11
          have c11b1 : (t174 != 0) = true := bne_iff_ne.mpr c11
          by_cases c22 : t174 = 2
          · rw [if_pos c22] at H
            have c22b0 : (t174 == 2) = true := beq_iff_eq.mpr c22
            have c22b1 : (t174 != 2) = false := bne_eq_false_iff_eq.mpr c22
            clear c22
            by_cases c23 : (a0.size : Int) > 122
            · rw [if_pos c23] at H
              have c23b0 : decide (122 < (a0.size : Int)) = true := decide_eq_true c23
              have c23b1 : decide (122 < a0.size) = true := decide_eq_true (by omega)
              clear c23
              replace H := Option.bind_eq_some_iff.mp H
              obtain ⟨t178, A240, H⟩ := H
              replace H : (some t178) = some r := H
              have A24 := Aside0.mk A240
              clear A240
              obtain rfl := Option.some.inj H
              go_wp2_with (first | (go_at_call 14; (with_reducible refine (cartularylaw03_speaks.calls kj4  t178 _ A24.out).mono ?_); rintro e w25 ⟨rfl, hb⟩; have n0_ := Aside0.mk (below_step (by repeat (first | (with_reducible first | exact HB.out | apply below_alloc | apply pw_below_drewN | apply below_drew1) | exact HB.out)) hb); clear HB; have HB := n0_; clear n0_; (try clear hb); (try clear hb2); (try clear hk); (try clear hi)))
              go_ret
              exact ⟨by first | rfl | (simp [errW_none, errW_some] <;> rfl) | (simp [*, errW_none, errW_some] <;> rfl), by repeat (first | (with_reducible first | exact HB.out | apply below_alloc | apply pw_below_drewN | apply below_drew1) | exact HB.out)⟩
            · rw [if_neg c23] at H
              have c23b0 : decide (122 < (a0.size : Int)) = false := decide_eq_false c23
              have c23b1 : decide (122 < a0.size) = false := decide_eq_false (by omega)
              clear c23
              obtain rfl := Option.some.inj H
              go_wp2
              go_ret
              exact ⟨by first | rfl | (simp [errW_none, errW_some] <;> rfl) | (simp [*, errW_none, errW_some] <;> rfl), by repeat (first | (with_reducible first | exact HB.out | apply below_alloc | apply pw_below_drewN | apply below_drew1) | exact HB.out)⟩
          · rw [if_neg c22] at H
            have c22b0 : (t174 == 2) = false := beq_eq_false_iff_ne.mpr c22
            have c22b1 : (t174 != 2) = true := bne_iff_ne.mpr c22
            obtain rfl := Option.some.inj H
            go_wp2
            go_ret
            exact ⟨by first | rfl | (simp [errW_none, errW_some] <;> rfl) | (simp [*, errW_none, errW_some] <;> rfl), by repeat (first | (with_reducible first | exact HB.out | apply below_alloc | apply pw_below_drewN | apply below_drew1) | exact HB.out)⟩

/-- THE ONE PURE STATEMENT of cartularylaw03_SumBack: yours. -/
def cartularylaw03_SumBack.Pure : Prop := ∀ (a0 : ByteArray), a0.size ≤ 140737488351232 → ∃ k, cartularylaw03_SumBack.f k a0 = some true
theorem cartularylaw03_SumBack.walk (P : cartularylaw03_SumBack.Pure) (a0 : ByteArray) (w : World) (w0 : a0.size ≤ 140737488351232) :
    Calls Try.prog 5 #[.string a0] w fun e w' => e = .returned (.bool true) ∧ Below w.heap.size w w' := by
  obtain ⟨k, h⟩ := P a0 w0
  refine (cartularylaw03_SumBack.calls k a0 true w h).mono ?_
  rintro e w' ⟨rfl, hd⟩
  exact ⟨rfl, hd⟩

end Go.Proofs.Ytgolpihbkjadkaa.Pt
