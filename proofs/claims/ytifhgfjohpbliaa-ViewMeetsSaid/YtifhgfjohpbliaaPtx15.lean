-- Written by a program of this session's.
import Derived.Test.YtifhgfjohpbliaaPtx0
import Derived.Test.YtifhgfjohpbliaaBest
import Derived.Test.YtifhgfjohpbliaaPtx2
import Derived.Test.YtifhgfjohpbliaaPtx9
namespace Go.Proofs.Ytifhgfjohpbliaa.Pt
open Go.RowKit Go.Proofs.Ytifhgfjohpbliaa.GivenV Go.Proofs.YtifhgfjohpbliaaW.PrintWords Go.Proofs.YtifhgfjohpbliaaW.PrintLast Go.Proofs.YtifhgfjohpbliaaW.PrintMore
attribute [local go_sem] max2_int min2_int max_two min_two max_three min_three max_four min_four   -- for this text's walks alone
set_option linter.unusedVariables false
set_option linter.unusedSimpArgs false

/-! ### cartularylaw21_ViewMeets: function 5 -/
mutual
def cartularylaw21_ViewMeets.l0 : Nat → Int → Int → Int → Int → Int → Int → Int → Int → Option (Bool)
  | 0, _, _, _, _, _, _, _, _ => none
  | k + 1, x0, x1, x2, x7, x9, x10, x11, x12 => if x12 < x0 then (if 0 ≤ (IntKind.u64.wrap (x12)) then (if (Go.bits .and .i64 (shr .i64 x1 (IntKind.u64.wrap (x12))) 1) = 1 then (cartularylaw21_ViewMeets.j1 k x0 x1 x2 x7 (wrap64 (x9 + 1)) x10 x11 x12 ((Go.bits .and .i64 (shr .i64 x1 (IntKind.u64.wrap (x12))) 1) == 1) ((Go.bits .and .i64 (shr .i64 x2 (IntKind.u64.wrap (x12))) 1) == 1)) else (cartularylaw21_ViewMeets.j1 k x0 x1 x2 x7 x9 x10 x11 x12 ((Go.bits .and .i64 (shr .i64 x1 (IntKind.u64.wrap (x12))) 1) == 1) ((Go.bits .and .i64 (shr .i64 x2 (IntKind.u64.wrap (x12))) 1) == 1))) else (none)) else (if x9 < x7 then ((cartularylaw21_speaks.f k).bind fun t163 => (some t163)) else (if x10 < x7 then ((cartularylaw21_speaks.f k).bind fun t164 => (some t164)) else (if x11 > 0 then ((cartularylaw21_speaks.f k).bind fun t165 => (some t165)) else (some false))))
def cartularylaw21_ViewMeets.j1 : Nat → Int → Int → Int → Int → Int → Int → Int → Int → Bool → Bool → Option (Bool)
  | 0, _, _, _, _, _, _, _, _, _, _ => none
  | k + 1, x0, x1, x2, x7, x9, x10, x11, x12, x13, x14 => if x14 = true then (if x13 = true then (cartularylaw21_ViewMeets.l0 k x0 x1 x2 x7 x9 (wrap64 (x10 + 1)) (wrap64 (x11 + 1)) (wrap64 (x12 + 1))) else (cartularylaw21_ViewMeets.l0 k x0 x1 x2 x7 x9 (wrap64 (x10 + 1)) x11 (wrap64 (x12 + 1)))) else (if x13 = true then (cartularylaw21_ViewMeets.l0 k x0 x1 x2 x7 x9 x10 x11 (wrap64 (x12 + 1))) else (cartularylaw21_ViewMeets.l0 k x0 x1 x2 x7 x9 x10 x11 (wrap64 (x12 + 1))))
end
def cartularylaw21_ViewMeets.f (k : Nat) (a0 : Int) (a1 : Int) (a2 : Int) : Option (Bool) := (view_Enough.f a0).bind fun bt160 => (if bt160.2 = 0 then (cartularylaw21_ViewMeets.l0 k a0 a1 a2 bt160.1 0 0 0 0) else (if bt160.1 = 0 then ((cartularylaw21_speaks.f k).bind fun t162 => (some t162)) else (some false)))
theorem cartularylaw21_ViewMeets.mono_l : ∀ k, (∀ y0 y1 y2 y3 y4 y5 y6 y7, LeO (cartularylaw21_ViewMeets.l0 k y0 y1 y2 y3 y4 y5 y6 y7) (cartularylaw21_ViewMeets.l0 (k + 1) y0 y1 y2 y3 y4 y5 y6 y7)) ∧ (∀ y0 y1 y2 y3 y4 y5 y6 y7 y8 y9, LeO (cartularylaw21_ViewMeets.j1 k y0 y1 y2 y3 y4 y5 y6 y7 y8 y9) (cartularylaw21_ViewMeets.j1 (k + 1) y0 y1 y2 y3 y4 y5 y6 y7 y8 y9))
  | 0 => ⟨fun _ _ _ _ _ _ _ _ r h => by simp [cartularylaw21_ViewMeets.l0] at h, fun _ _ _ _ _ _ _ _ _ _ r h => by simp [cartularylaw21_ViewMeets.j1] at h⟩
  | k + 1 => by
    obtain ⟨ih0, ih1⟩ := cartularylaw21_ViewMeets.mono_l k
    refine ⟨?_, ?_⟩
    · intro y0 y1 y2 y3 y4 y5 y6 y7
      unfold cartularylaw21_ViewMeets.l0
      repeat' first
      | (with_reducible exact ih0 _ _ _ _ _ _ _ _)
      | (with_reducible exact ih1 _ _ _ _ _ _ _ _ _ _)
      | (with_reducible exact cartularylaw21_speaks.mono _)
      | (with_reducible exact LeO.refl _)
      | (with_reducible exact LeO.none _)
      | (with_reducible refine LeO.ite ?_ ?_)
      | (with_reducible refine LeO.bind ?_ (fun _ => ?_))
      | exact ih0 _ _ _ _ _ _ _ _
      | exact ih1 _ _ _ _ _ _ _ _ _ _
      | exact cartularylaw21_speaks.mono _
      | exact LeO.none _
      | refine LeO.ite ?_ ?_
      | refine LeO.bind ?_ (fun _ => ?_)
    · intro y0 y1 y2 y3 y4 y5 y6 y7 y8 y9
      unfold cartularylaw21_ViewMeets.j1
      repeat' first
      | (with_reducible exact ih0 _ _ _ _ _ _ _ _)
      | (with_reducible exact ih1 _ _ _ _ _ _ _ _ _ _)
      | (with_reducible exact cartularylaw21_speaks.mono _)
      | (with_reducible exact LeO.refl _)
      | (with_reducible exact LeO.none _)
      | (with_reducible refine LeO.ite ?_ ?_)
      | (with_reducible refine LeO.bind ?_ (fun _ => ?_))
      | exact ih0 _ _ _ _ _ _ _ _
      | exact ih1 _ _ _ _ _ _ _ _ _ _
      | exact cartularylaw21_speaks.mono _
      | exact LeO.none _
      | refine LeO.ite ?_ ?_
      | refine LeO.bind ?_ (fun _ => ?_)
theorem cartularylaw21_ViewMeets.mono : ∀ a0 a1 a2 k, LeO (cartularylaw21_ViewMeets.f k a0 a1 a2) (cartularylaw21_ViewMeets.f (k + 1) a0 a1 a2) := by
  intro a0 a1 a2 k
  obtain ⟨ih0, ih1⟩ := cartularylaw21_ViewMeets.mono_l k
  unfold cartularylaw21_ViewMeets.f
  repeat' first
      | (with_reducible exact ih0 _ _ _ _ _ _ _ _)
      | (with_reducible exact ih1 _ _ _ _ _ _ _ _ _ _)
      | (with_reducible exact cartularylaw21_speaks.mono _)
      | (with_reducible exact LeO.refl _)
      | (with_reducible exact LeO.none _)
      | (with_reducible refine LeO.ite ?_ ?_)
      | (with_reducible refine LeO.bind ?_ (fun _ => ?_))
      | exact ih0 _ _ _ _ _ _ _ _
      | exact ih1 _ _ _ _ _ _ _ _ _ _
      | exact cartularylaw21_speaks.mono _
      | exact LeO.none _
      | refine LeO.ite ?_ ?_
      | refine LeO.bind ?_ (fun _ => ?_)
set_option maxHeartbeats 1000000 in
set_option maxRecDepth 100000 in
theorem cartularylaw21_ViewMeets.calls (k : Nat) (a0 : Int) (a1 : Int) (a2 : Int) (r : Bool) (w : World) (h : cartularylaw21_ViewMeets.f k a0 a1 a2 = some r) :
    Calls Try.prog 5 #[.int .i64 a0, .int .i64 a1, .int .i64 a2] w fun e w' => e = .returned (.bool r) ∧ Below w.heap.size w w' := by
  have HB := Aside0.mk (Below.refl w.heap.size w)
  have H : ((view_Enough.f a0).bind fun bt160 => (if bt160.2 = 0 then (cartularylaw21_ViewMeets.l0 k a0 a1 a2 bt160.1 0 0 0 0) else (if bt160.1 = 0 then ((cartularylaw21_speaks.f k).bind fun t162 => (some t162)) else (some false)))) = some r := h
  clear h
  replace H := Option.bind_eq_some_iff.mp H
  obtain ⟨⟨t160, t161⟩, A40, H⟩ := H
  replace H : (if t161 = 0 then (cartularylaw21_ViewMeets.l0 k a0 a1 a2 t160 0 0 0 0) else (if t160 = 0 then ((cartularylaw21_speaks.f k).bind fun t162 => (some t162)) else (some false))) = some r := H
  have A4 := Aside0.mk A40
  clear A40
  by_cases c5 : t161 = 0
  · rw [if_pos c5] at H
    have c5b0 : (t161 == 0) = true := beq_iff_eq.mpr c5
    have c5b1 : (t161 != 0) = false := bne_eq_false_iff_eq.mpr c5
    clear c5
    have H' := Aside0.mk H
    clear H
    go_enter Try.func5, Try.ntmps5
    go_wp2_with (first | ((with_reducible refine gate_callee (f := 9) rfl ?_); refine goesL_ (some 17) rfl rfl Try.func9 (by kernel_rfl) rfl #[.int .i64 a0] rfl (by (try simp only [List.map_toArray, List.map_cons, List.map_nil]); first | done | rfl | (simp only [List.length_drop, List.length_take]; rfl)) ?_; (with_reducible refine (view_Enough.calls a0 t160 t161 _ A4.out).mono ?_); rintro e w' ⟨rfl, ⟨nd, rfl⟩⟩; refine ⟨_, rfl, ?_⟩))
    go_loopg [9, 10, 11, 12] k (fun kq v9 v10 v11 v12 w' => ∃ (x9_1 : Int) (x10_1 : Int) (x11_1 : Int) (x12_1 : Int), v9 = .int .i64 x9_1 ∧ v10 = .int .i64 x10_1 ∧ v11 = .int .i64 x11_1 ∧ v12 = .int .i64 x12_1 ∧ Aside0 (cartularylaw21_ViewMeets.l0 kq a0 a1 a2 t160 x9_1 x10_1 x11_1 x12_1 = some r) ∧ Aside0 (kq ≤ k) ∧ Aside0 (Below w.heap.size w w'))
    case atStart => exact ⟨(0), (0), (0), (0), (by first | rfl | (simp; done) | (simp [*]; done)), (by first | rfl | (simp; done) | (simp [*]; done)), (by first | rfl | (simp; done) | (simp [*]; done)), (by first | rfl | (simp; done) | (simp [*]; done)), H', ⟨Nat.le_refl _⟩, ⟨by repeat (first | (with_reducible first | exact HB.out | apply below_alloc | apply pw_below_drewN | apply below_drew1) | exact HB.out)⟩⟩
    case round =>
      clear H'
      try clear p2
      try clear c5
      try clear c5b0
      try clear c5b1
      obtain ⟨x9_1, x10_1, x11_1, x12_1, rfl, rfl, rfl, rfl, HA, HK1, HB⟩ := hrel
      cases gk with
      | zero => exact absurd HA.out (by simp [cartularylaw21_ViewMeets.l0])
      | succ k1 =>
        have H := HA.out
        clear HA
        simp only [cartularylaw21_ViewMeets.l0] at H
        by_cases c6 : x12_1 < a0
        · rw [if_pos c6] at H
          have c6b0 : decide (x12_1 < a0) = true := decide_eq_true c6
          clear c6
          obtain ⟨ji7, hji7⟩ : ∃ j_ : Int, (IntKind.u64.wrap (x12_1)) = j_ := ⟨_, rfl⟩
          replace H : (if 0 ≤ (ji7) then (if (Go.bits .and .i64 (shr .i64 a1 (ji7)) 1) = 1 then (cartularylaw21_ViewMeets.j1 k1 a0 a1 a2 t160 (wrap64 (x9_1 + 1)) x10_1 x11_1 x12_1 ((Go.bits .and .i64 (shr .i64 a1 (ji7)) 1) == 1) ((Go.bits .and .i64 (shr .i64 a2 (ji7)) 1) == 1)) else (cartularylaw21_ViewMeets.j1 k1 a0 a1 a2 t160 x9_1 x10_1 x11_1 x12_1 ((Go.bits .and .i64 (shr .i64 a1 (ji7)) 1) == 1) ((Go.bits .and .i64 (shr .i64 a2 (ji7)) 1) == 1))) else (none)) = some r := by first | (rw [hji7] at H; exact H) | (simp only [hji7] at H ⊢; exact H)
          by_cases c8 : 0 ≤ (ji7)
          · rw [if_pos c8] at H
            have c8b0 := eq_true c8
            have c8b1 : decide (0 ≤ (ji7)) = true := decide_eq_true c8
            clear c8
            obtain ⟨ji9, hji9⟩ : ∃ j_ : Int, (shr .i64 a1 (ji7)) = j_ := ⟨_, rfl⟩
            replace H : (if (Go.bits .and .i64 (ji9) 1) = 1 then (cartularylaw21_ViewMeets.j1 k1 a0 a1 a2 t160 (wrap64 (x9_1 + 1)) x10_1 x11_1 x12_1 ((Go.bits .and .i64 (ji9) 1) == 1) ((Go.bits .and .i64 (shr .i64 a2 (ji7)) 1) == 1)) else (cartularylaw21_ViewMeets.j1 k1 a0 a1 a2 t160 x9_1 x10_1 x11_1 x12_1 ((Go.bits .and .i64 (ji9) 1) == 1) ((Go.bits .and .i64 (shr .i64 a2 (ji7)) 1) == 1))) = some r := by first | (rw [hji9] at H; exact H) | (simp only [hji9] at H ⊢; exact H)
            have hji9_ : (a1 / 2 ^ min (ji7).toNat 64) = ji9 := hji9
            have hji9z : (ji7) ≤ 64 → (a1 / 2 ^ (ji7).toNat) = ji9 := shr_small hji9
            have c10b0 := eq_true (of_decide_eq_true (by first | (with_reducible assumption) | assumption) : 0 ≤ (ji7))
            obtain ⟨ji11, hji11⟩ : ∃ j_ : Int, (shr .i64 a2 (ji7)) = j_ := ⟨_, rfl⟩
            replace H : (if (Go.bits .and .i64 (ji9) 1) = 1 then (cartularylaw21_ViewMeets.j1 k1 a0 a1 a2 t160 (wrap64 (x9_1 + 1)) x10_1 x11_1 x12_1 ((Go.bits .and .i64 (ji9) 1) == 1) ((Go.bits .and .i64 (ji11) 1) == 1)) else (cartularylaw21_ViewMeets.j1 k1 a0 a1 a2 t160 x9_1 x10_1 x11_1 x12_1 ((Go.bits .and .i64 (ji9) 1) == 1) ((Go.bits .and .i64 (ji11) 1) == 1))) = some r := by first | (rw [hji11] at H; exact H) | (simp only [hji11] at H ⊢; exact H)
            have hji11_ : (a2 / 2 ^ min (ji7).toNat 64) = ji11 := hji11
            have hji11z : (ji7) ≤ 64 → (a2 / 2 ^ (ji7).toNat) = ji11 := shr_small hji11
            have HC12 := Aside0.mk H
            clear H
            go_upto_if 44 with (fail)
            go_cut [9, 13] (fun v9 v13 wc => ∃ (kq : Nat) (x9_11 : Int), v9 = .int .i64 x9_11 ∧ v13 = .bool ((Go.bits .and .i64 (ji9) 1) == 1) ∧ Aside0 (cartularylaw21_ViewMeets.j1 kq a0 a1 a2 t160 x9_11 x10_1 x11_1 x12_1 ((Go.bits .and .i64 (ji9) 1) == 1) ((Go.bits .and .i64 (ji11) 1) == 1) = some r) ∧ Aside0 (kq ≤ k1) ∧ Aside0 (Below w.heap.size w wc))
            case first =>
              have H := HC12.out
              clear HC12
              by_cases c13 : (Go.bits .and .i64 (ji9) 1) = 1
              · rw [if_pos c13] at H
                have c13b0 : ((Go.bits .and .i64 (ji9) 1) == 1) = true := beq_iff_eq.mpr c13
                have c13b1 : ((Go.bits .and .i64 (ji9) 1) != 1) = false := bne_eq_false_iff_eq.mpr c13
                clear c13
                (first | rw [c13b0] | (simp only [i64_w, i32_w]; rw [c13b0]) | skip)
                have H' := Aside0.mk H
                clear H
                go_wp2
                go_meet
                case rel => exact ⟨_, (wrap64 (x9_1 + 1)), (by first | rfl | (simp; done) | (simp [*]; done)), (by first | rfl | (simp; done) | (simp [*]; done)), H', ⟨by have := HK1.out; first | omega | exact Nat.le_refl _⟩, ⟨by repeat (first | (with_reducible first | exact HB.out | apply below_alloc | apply pw_below_drewN | apply below_drew1) | exact HB.out)⟩⟩
              · rw [if_neg c13] at H
                have c13b0 : ((Go.bits .and .i64 (ji9) 1) == 1) = false := beq_eq_false_iff_ne.mpr c13
                have c13b1 : ((Go.bits .and .i64 (ji9) 1) != 1) = true := bne_iff_ne.mpr c13
                (first | rw [c13b0] | (simp only [i64_w, i32_w]; rw [c13b0]) | skip)
                have H' := Aside0.mk H
                clear H
                go_wp2
                go_meet
                case rel => exact ⟨_, (x9_1), (by first | rfl | (simp; done) | (simp [*]; done)), (by first | rfl | (simp; done) | (simp [*]; done)), H', ⟨by have := HK1.out; first | omega | exact Nat.le_refl _⟩, ⟨by repeat (first | (with_reducible first | exact HB.out | apply below_alloc | apply pw_below_drewN | apply below_drew1) | exact HB.out)⟩⟩
            case rest =>
              clear HC12
              try clear c1
              try clear p2
              try clear c5
              try clear c5b0
              try clear c5b1
              try clear c6
              try clear c6b0
              try clear p6
              try clear c8
              try clear c8b0
              try clear c8b1
              try clear c9
              try clear c10
              try clear c10b0
              try clear c13
              try clear c13b0
              try clear c13b1
              try clear p2
              obtain ⟨kq, x9_11, rfl, rfl, HA, HJ11, HB⟩ := hcut
              cases kq with
              | zero => exact absurd HA.out (by simp [cartularylaw21_ViewMeets.j1])
              | succ kj11 =>
                have H := HA.out
                clear HA
                simp only [cartularylaw21_ViewMeets.j1] at H
                by_cases c14 : ((Go.bits .and .i64 (ji11) 1) == 1) = true
                · rw [if_pos c14] at H
                  have c14b0 : ((Go.bits .and .i64 (ji11) 1) == 1) = true := c14
                  (try (have c14b1 : decide ((Go.bits .and .i64 (ji11) 1) = 1) = true := by simpa using c14))
                  (try (have c14b2 : ((Go.bits .and .i64 (ji11) 1) == 1) = true := by simpa using c14))
                  clear c14
                  by_cases c15 : ((Go.bits .and .i64 (ji9) 1) == 1) = true
                  · rw [if_pos c15] at H
                    have c15b0 : ((Go.bits .and .i64 (ji9) 1) == 1) = true := c15
                    (try (have c15b1 : decide ((Go.bits .and .i64 (ji9) 1) = 1) = true := by simpa using c15))
                    (try (have c15b2 : ((Go.bits .and .i64 (ji9) 1) == 1) = true := by simpa using c15))
                    clear c15
                    have H' := Aside0.mk H
                    clear H
                    go_wp2
                    go_roundg kj11
                    case measure => have := HK1.out; have := HJ11.out; omega
                    case rel => exact ⟨(x9_11), (wrap64 (x10_1 + 1)), (wrap64 (x11_1 + 1)), (wrap64 (x12_1 + 1)), (by first | rfl | (simp; done) | (simp [*]; done)), (by first | rfl | (simp; done) | (simp [*]; done)), (by first | rfl | (simp; done) | (simp [*]; done)), (by first | rfl | (simp; done) | (simp [*]; done)), H', ⟨by have := HK1.out; have := HJ11.out; omega⟩, ⟨by repeat (first | (with_reducible first | exact HB.out | apply below_alloc | apply pw_below_drewN | apply below_drew1) | exact HB.out)⟩⟩
                  · rw [if_neg c15] at H
                    have c15b0 : ((Go.bits .and .i64 (ji9) 1) == 1) = false := by simpa using c15
                    (try (have c15b1 : decide ((Go.bits .and .i64 (ji9) 1) = 1) = false := by simpa using c15))
                    (try (have c15b2 : ((Go.bits .and .i64 (ji9) 1) == 1) = false := by simpa using c15))
                    (try (have c15b3 : ¬ ((Go.bits .and .i64 (ji9) 1) = 1) := by simpa using c15))
                    clear c15
                    have H' := Aside0.mk H
                    clear H
                    go_wp2
                    go_roundg kj11
                    case measure => have := HK1.out; have := HJ11.out; omega
                    case rel => exact ⟨(x9_11), (wrap64 (x10_1 + 1)), (x11_1), (wrap64 (x12_1 + 1)), (by first | rfl | (simp; done) | (simp [*]; done)), (by first | rfl | (simp; done) | (simp [*]; done)), (by first | rfl | (simp; done) | (simp [*]; done)), (by first | rfl | (simp; done) | (simp [*]; done)), H', ⟨by have := HK1.out; have := HJ11.out; omega⟩, ⟨by repeat (first | (with_reducible first | exact HB.out | apply below_alloc | apply pw_below_drewN | apply below_drew1) | exact HB.out)⟩⟩
                · rw [if_neg c14] at H
                  have c14b0 : ((Go.bits .and .i64 (ji11) 1) == 1) = false := by simpa using c14
                  (try (have c14b1 : decide ((Go.bits .and .i64 (ji11) 1) = 1) = false := by simpa using c14))
                  (try (have c14b2 : ((Go.bits .and .i64 (ji11) 1) == 1) = false := by simpa using c14))
                  (try (have c14b3 : ¬ ((Go.bits .and .i64 (ji11) 1) = 1) := by simpa using c14))
                  clear c14
                  by_cases c16 : ((Go.bits .and .i64 (ji9) 1) == 1) = true
                  · rw [if_pos c16] at H
                    have c16b0 : ((Go.bits .and .i64 (ji9) 1) == 1) = true := c16
                    (try (have c16b1 : decide ((Go.bits .and .i64 (ji9) 1) = 1) = true := by simpa using c16))
                    (try (have c16b2 : ((Go.bits .and .i64 (ji9) 1) == 1) = true := by simpa using c16))
                    clear c16
                    have H' := Aside0.mk H
                    clear H
                    go_wp2
                    go_roundg kj11
                    case measure => have := HK1.out; have := HJ11.out; omega
                    case rel => exact ⟨(x9_11), (x10_1), (x11_1), (wrap64 (x12_1 + 1)), (by first | rfl | (simp; done) | (simp [*]; done)), (by first | rfl | (simp; done) | (simp [*]; done)), (by first | rfl | (simp; done) | (simp [*]; done)), (by first | rfl | (simp; done) | (simp [*]; done)), H', ⟨by have := HK1.out; have := HJ11.out; omega⟩, ⟨by repeat (first | (with_reducible first | exact HB.out | apply below_alloc | apply pw_below_drewN | apply below_drew1) | exact HB.out)⟩⟩
                  · rw [if_neg c16] at H
                    have c16b0 : ((Go.bits .and .i64 (ji9) 1) == 1) = false := by simpa using c16
                    (try (have c16b1 : decide ((Go.bits .and .i64 (ji9) 1) = 1) = false := by simpa using c16))
                    (try (have c16b2 : ((Go.bits .and .i64 (ji9) 1) == 1) = false := by simpa using c16))
                    (try (have c16b3 : ¬ ((Go.bits .and .i64 (ji9) 1) = 1) := by simpa using c16))
                    clear c16
                    have H' := Aside0.mk H
                    clear H
                    go_wp2
                    go_roundg kj11
                    case measure => have := HK1.out; have := HJ11.out; omega
                    case rel => exact ⟨(x9_11), (x10_1), (x11_1), (wrap64 (x12_1 + 1)), (by first | rfl | (simp; done) | (simp [*]; done)), (by first | rfl | (simp; done) | (simp [*]; done)), (by first | rfl | (simp; done) | (simp [*]; done)), (by first | rfl | (simp; done) | (simp [*]; done)), H', ⟨by have := HK1.out; have := HJ11.out; omega⟩, ⟨by repeat (first | (with_reducible first | exact HB.out | apply below_alloc | apply pw_below_drewN | apply below_drew1) | exact HB.out)⟩⟩
          · rw [if_neg c8] at H
            exact absurd H (by simp)
        · rw [if_neg c6] at H
          have c6b0 : decide (x12_1 < a0) = false := decide_eq_false c6
          clear c6
          by_cases c17 : x9_1 < t160
          · rw [if_pos c17] at H
            have c17b0 : decide (x9_1 < t160) = true := decide_eq_true c17
            clear c17
            replace H := Option.bind_eq_some_iff.mp H
            obtain ⟨t163, A180, H⟩ := H
            replace H : (some t163) = some r := H
            have A18 := Aside0.mk A180
            clear A180
            obtain rfl := Option.some.inj H
            go_wp2_with (first | (go_at_call 14; (with_reducible refine (cartularylaw21_speaks.calls k1  t163 _ A18.out).mono ?_); rintro e w19 ⟨rfl, hb⟩; have n0_ := Aside0.mk (below_step (by repeat (first | (with_reducible first | exact HB.out | apply below_alloc | apply pw_below_drewN | apply below_drew1) | exact HB.out)) hb); clear HB; have HB := n0_; clear n0_; (try clear hb); (try clear hb2); (try clear hk); (try clear hi)))
            go_ret
            exact ⟨by first | rfl | (simp [errW_none, errW_some] <;> rfl) | (simp [*, errW_none, errW_some] <;> rfl), by repeat (first | (with_reducible first | exact HB.out | apply below_alloc | apply pw_below_drewN | apply below_drew1) | exact HB.out)⟩
          · rw [if_neg c17] at H
            have c17b0 : decide (x9_1 < t160) = false := decide_eq_false c17
            clear c17
            by_cases c20 : x10_1 < t160
            · rw [if_pos c20] at H
              have c20b0 : decide (x10_1 < t160) = true := decide_eq_true c20
              clear c20
              replace H := Option.bind_eq_some_iff.mp H
              obtain ⟨t164, A210, H⟩ := H
              replace H : (some t164) = some r := H
              have A21 := Aside0.mk A210
              clear A210
              obtain rfl := Option.some.inj H
              go_wp2_with (first | (go_at_call 14; (with_reducible refine (cartularylaw21_speaks.calls k1  t164 _ A21.out).mono ?_); rintro e w22 ⟨rfl, hb⟩; have n0_ := Aside0.mk (below_step (by repeat (first | (with_reducible first | exact HB.out | apply below_alloc | apply pw_below_drewN | apply below_drew1) | exact HB.out)) hb); clear HB; have HB := n0_; clear n0_; (try clear hb); (try clear hb2); (try clear hk); (try clear hi)))
              go_ret
              exact ⟨by first | rfl | (simp [errW_none, errW_some] <;> rfl) | (simp [*, errW_none, errW_some] <;> rfl), by repeat (first | (with_reducible first | exact HB.out | apply below_alloc | apply pw_below_drewN | apply below_drew1) | exact HB.out)⟩
            · rw [if_neg c20] at H
              have c20b0 : decide (x10_1 < t160) = false := decide_eq_false c20
              clear c20
              by_cases c23 : x11_1 > 0
              · rw [if_pos c23] at H
                have c23b0 : decide (0 < x11_1) = true := decide_eq_true c23
                clear c23
                replace H := Option.bind_eq_some_iff.mp H
                obtain ⟨t165, A240, H⟩ := H
                replace H : (some t165) = some r := H
                have A24 := Aside0.mk A240
                clear A240
                obtain rfl := Option.some.inj H
                go_wp2_with (first | (go_at_call 14; (with_reducible refine (cartularylaw21_speaks.calls k1  t165 _ A24.out).mono ?_); rintro e w25 ⟨rfl, hb⟩; have n0_ := Aside0.mk (below_step (by repeat (first | (with_reducible first | exact HB.out | apply below_alloc | apply pw_below_drewN | apply below_drew1) | exact HB.out)) hb); clear HB; have HB := n0_; clear n0_; (try clear hb); (try clear hb2); (try clear hk); (try clear hi)))
                go_ret
                exact ⟨by first | rfl | (simp [errW_none, errW_some] <;> rfl) | (simp [*, errW_none, errW_some] <;> rfl), by repeat (first | (with_reducible first | exact HB.out | apply below_alloc | apply pw_below_drewN | apply below_drew1) | exact HB.out)⟩
              · rw [if_neg c23] at H
                have c23b0 : decide (0 < x11_1) = false := decide_eq_false c23
                clear c23
                obtain rfl := Option.some.inj H
                go_wp2
                go_ret
                exact ⟨by first | rfl | (simp [errW_none, errW_some] <;> rfl) | (simp [*, errW_none, errW_some] <;> rfl), by repeat (first | (with_reducible first | exact HB.out | apply below_alloc | apply pw_below_drewN | apply below_drew1) | exact HB.out)⟩
  · rw [if_neg c5] at H
    have c5b0 : (t161 == 0) = false := beq_eq_false_iff_ne.mpr c5
    have c5b1 : (t161 != 0) = true := bne_iff_ne.mpr c5
    by_cases c26 : t160 = 0
    · rw [if_pos c26] at H
      have c26b0 : (t160 == 0) = true := beq_iff_eq.mpr c26
      have c26b1 : (t160 != 0) = false := bne_eq_false_iff_eq.mpr c26
      clear c26
      replace H := Option.bind_eq_some_iff.mp H
      obtain ⟨t162, A270, H⟩ := H
      replace H : (some t162) = some r := H
      have A27 := Aside0.mk A270
      clear A270
      obtain rfl := Option.some.inj H
      go_enter Try.func5, Try.ntmps5
      go_wp2_with (first | ((with_reducible refine gate_callee (f := 9) rfl ?_); refine goesL_ (some 17) rfl rfl Try.func9 (by kernel_rfl) rfl #[.int .i64 a0] rfl (by (try simp only [List.map_toArray, List.map_cons, List.map_nil]); first | done | rfl | (simp only [List.length_drop, List.length_take]; rfl)) ?_; (with_reducible refine (view_Enough.calls a0 t160 t161 _ A4.out).mono ?_); rintro e w' ⟨rfl, ⟨nd, rfl⟩⟩; refine ⟨_, rfl, ?_⟩) | (go_at_call 14; (with_reducible refine (cartularylaw21_speaks.calls k  t162 _ A27.out).mono ?_); rintro e w28 ⟨rfl, hb⟩; have n0_ := Aside0.mk (below_step (by repeat (first | (with_reducible first | exact HB.out | apply below_alloc | apply pw_below_drewN | apply below_drew1) | exact HB.out)) hb); clear HB; have HB := n0_; clear n0_; (try clear hb); (try clear hb2); (try clear hk); (try clear hi)))
      go_ret
      exact ⟨by first | rfl | (simp [errW_none, errW_some] <;> rfl) | (simp [*, errW_none, errW_some] <;> rfl), by repeat (first | (with_reducible first | exact HB.out | apply below_alloc | apply pw_below_drewN | apply below_drew1) | exact HB.out)⟩
    · rw [if_neg c26] at H
      have c26b0 : (t160 == 0) = false := beq_eq_false_iff_ne.mpr c26
      have c26b1 : (t160 != 0) = true := bne_iff_ne.mpr c26
      obtain rfl := Option.some.inj H
      go_enter Try.func5, Try.ntmps5
      go_wp2_with (first | ((with_reducible refine gate_callee (f := 9) rfl ?_); refine goesL_ (some 17) rfl rfl Try.func9 (by kernel_rfl) rfl #[.int .i64 a0] rfl (by (try simp only [List.map_toArray, List.map_cons, List.map_nil]); first | done | rfl | (simp only [List.length_drop, List.length_take]; rfl)) ?_; (with_reducible refine (view_Enough.calls a0 t160 t161 _ A4.out).mono ?_); rintro e w' ⟨rfl, ⟨nd, rfl⟩⟩; refine ⟨_, rfl, ?_⟩))
      go_ret
      exact ⟨by first | rfl | (simp [errW_none, errW_some] <;> rfl) | (simp [*, errW_none, errW_some] <;> rfl), by repeat (first | (with_reducible first | exact HB.out | apply below_alloc | apply pw_below_drewN | apply below_drew1) | exact HB.out)⟩

/-- THE ONE PURE STATEMENT of cartularylaw21_ViewMeets: yours. -/
def cartularylaw21_ViewMeets.Pure : Prop := ∀ (a0 : Int) (a1 : Int) (a2 : Int), (Lit.int .i64 a0).wf = true → (Lit.int .i64 a1).wf = true → (Lit.int .i64 a2).wf = true → ∃ k, cartularylaw21_ViewMeets.f k a0 a1 a2 = some true
theorem cartularylaw21_ViewMeets.walk (P : cartularylaw21_ViewMeets.Pure) (a0 : Int) (a1 : Int) (a2 : Int) (w : World) (w0 : (Lit.int .i64 a0).wf = true) (w1 : (Lit.int .i64 a1).wf = true) (w2 : (Lit.int .i64 a2).wf = true) :
    Calls Try.prog 5 #[.int .i64 a0, .int .i64 a1, .int .i64 a2] w fun e w' => e = .returned (.bool true) ∧ Below w.heap.size w w' := by
  obtain ⟨k, h⟩ := P a0 a1 a2 w0 w1 w2
  refine (cartularylaw21_ViewMeets.calls k a0 a1 a2 true w h).mono ?_
  rintro e w' ⟨rfl, hd⟩
  exact ⟨rfl, hd⟩

end Go.Proofs.Ytifhgfjohpbliaa.Pt
