-- Written by a program of this session's.
import Derived.Test.YtifhgfjohpbliaaPtx0
import Derived.Test.YtifhgfjohpbliaaBest
import Derived.Test.YtifhgfjohpbliaaPtx2
import Derived.Test.YtifhgfjohpbliaaPtx4
import Derived.Test.YtifhgfjohpbliaaPtx5
import Derived.Test.YtifhgfjohpbliaaPtx6
import Derived.Test.YtifhgfjohpbliaaPtx7
import Derived.Test.YtifhgfjohpbliaaPtx9
namespace Go.Proofs.Ytifhgfjohpbliaa.Pt
open Go.RowKit Go.Proofs.Ytifhgfjohpbliaa.GivenV Go.Proofs.YtifhgfjohpbliaaW.PrintWords Go.Proofs.YtifhgfjohpbliaaW.PrintLast Go.Proofs.YtifhgfjohpbliaaW.PrintMore
attribute [local go_sem] max2_int min2_int max_two min_two max_three min_three max_four min_four   -- for this text's walks alone
set_option linter.unusedVariables false
set_option linter.unusedSimpArgs false

/-! ### cartularylaw21_ViewTurns: function 3 -/
mutual
def cartularylaw21_ViewTurns.j0 : Nat → Int → Int → Int → Int → Int → Int → Bool → Option (Bool)
  | 0, _, _, _, _, _, _, _ => none
  | k + 1, x0, x1, x7, x8, x9, x10, x47 => if x47 = true then (some false) else ((cartularyref21_Nodes.f x0).bind fun t131 => (if t131 = true then (if x1 < 0 then (cartularylaw21_ViewTurns.j1 k x0 x1 x7 x8 x9 x10 true) else (cartularylaw21_ViewTurns.j1 k x0 x1 x7 x8 x9 x10 (decide (x1 > 1099511627776)))) else (if x8 = 1 then (if x10 = 1 then (if x7 = 0 then (if x9 = 0 then ((cartularylaw21_speaks.f k).bind fun t132 => (some t132)) else (some false)) else (some false)) else (some false)) else (some false))))
def cartularylaw21_ViewTurns.j1 : Nat → Int → Int → Int → Int → Int → Int → Bool → Option (Bool)
  | 0, _, _, _, _, _, _, _ => none
  | k + 1, x0, x1, x7, x8, x9, x10, x73 => if x73 = true then (if x10 = 1 then (if x9 = 0 then (if (wrap64 (2 * x7)) = (wrap64 (x0 + 1)) then ((cartularylaw21_speaks.f k).bind fun t133 => (some t133)) else (some false)) else (some false)) else (some false)) else (if x8 = 0 then (if x10 = 0 then (if (wrap64 (2 * x7)) = (wrap64 (x0 + 1)) then (if x0 = 0 then (none) else (if x9 = (Int.tmod x1 x0) then ((cartularylaw21_speaks.f k).bind fun t134 => (some t134)) else (some false))) else (some false)) else (some false)) else (some false))
end
def cartularylaw21_ViewTurns.f (k : Nat) (a0 : Int) (a1 : Int) (a2 : Int) : Option (Bool) := (view_Enough.f a0).bind fun bt123 => ((view_Primary.f a0 a1).bind fun bt125 => ((view_Next.f k a0 a1 a2).bind fun bt127 => ((cartularyref21_Next.f k a0 a1 a2).bind fun bt129 => (if bt127.1 = bt129.1 then (cartularylaw21_ViewTurns.j0 k a0 a1 bt123.1 bt123.2 bt125.1 bt125.2 (bt127.2 != bt129.2)) else (cartularylaw21_ViewTurns.j0 k a0 a1 bt123.1 bt123.2 bt125.1 bt125.2 true)))))
theorem cartularylaw21_ViewTurns.mono_l : ∀ k, (∀ y0 y1 y2 y3 y4 y5 y6, LeO (cartularylaw21_ViewTurns.j0 k y0 y1 y2 y3 y4 y5 y6) (cartularylaw21_ViewTurns.j0 (k + 1) y0 y1 y2 y3 y4 y5 y6)) ∧ (∀ y0 y1 y2 y3 y4 y5 y6, LeO (cartularylaw21_ViewTurns.j1 k y0 y1 y2 y3 y4 y5 y6) (cartularylaw21_ViewTurns.j1 (k + 1) y0 y1 y2 y3 y4 y5 y6))
  | 0 => ⟨fun _ _ _ _ _ _ _ r h => by simp [cartularylaw21_ViewTurns.j0] at h, fun _ _ _ _ _ _ _ r h => by simp [cartularylaw21_ViewTurns.j1] at h⟩
  | k + 1 => by
    obtain ⟨ih0, ih1⟩ := cartularylaw21_ViewTurns.mono_l k
    refine ⟨?_, ?_⟩
    · intro y0 y1 y2 y3 y4 y5 y6
      unfold cartularylaw21_ViewTurns.j0
      repeat' first
      | (with_reducible exact ih0 _ _ _ _ _ _ _)
      | (with_reducible exact ih1 _ _ _ _ _ _ _)
      | (with_reducible exact cartularylaw21_speaks.mono _)
      | (with_reducible exact cartularyref21_Next.mono _ _ _ _)
      | (with_reducible exact view_Next.mono _ _ _ _)
      | (with_reducible exact LeO.refl _)
      | (with_reducible exact LeO.none _)
      | (with_reducible refine LeO.ite ?_ ?_)
      | (with_reducible refine LeO.bind ?_ (fun _ => ?_))
      | exact ih0 _ _ _ _ _ _ _
      | exact ih1 _ _ _ _ _ _ _
      | exact cartularylaw21_speaks.mono _
      | exact cartularyref21_Next.mono _ _ _ _
      | exact view_Next.mono _ _ _ _
      | exact LeO.none _
      | refine LeO.ite ?_ ?_
      | refine LeO.bind ?_ (fun _ => ?_)
    · intro y0 y1 y2 y3 y4 y5 y6
      unfold cartularylaw21_ViewTurns.j1
      repeat' first
      | (with_reducible exact ih0 _ _ _ _ _ _ _)
      | (with_reducible exact ih1 _ _ _ _ _ _ _)
      | (with_reducible exact cartularylaw21_speaks.mono _)
      | (with_reducible exact cartularyref21_Next.mono _ _ _ _)
      | (with_reducible exact view_Next.mono _ _ _ _)
      | (with_reducible exact LeO.refl _)
      | (with_reducible exact LeO.none _)
      | (with_reducible refine LeO.ite ?_ ?_)
      | (with_reducible refine LeO.bind ?_ (fun _ => ?_))
      | exact ih0 _ _ _ _ _ _ _
      | exact ih1 _ _ _ _ _ _ _
      | exact cartularylaw21_speaks.mono _
      | exact cartularyref21_Next.mono _ _ _ _
      | exact view_Next.mono _ _ _ _
      | exact LeO.none _
      | refine LeO.ite ?_ ?_
      | refine LeO.bind ?_ (fun _ => ?_)
theorem cartularylaw21_ViewTurns.mono : ∀ a0 a1 a2 k, LeO (cartularylaw21_ViewTurns.f k a0 a1 a2) (cartularylaw21_ViewTurns.f (k + 1) a0 a1 a2) := by
  intro a0 a1 a2 k
  obtain ⟨ih0, ih1⟩ := cartularylaw21_ViewTurns.mono_l k
  unfold cartularylaw21_ViewTurns.f
  repeat' first
      | (with_reducible exact ih0 _ _ _ _ _ _ _)
      | (with_reducible exact ih1 _ _ _ _ _ _ _)
      | (with_reducible exact cartularylaw21_speaks.mono _)
      | (with_reducible exact cartularyref21_Next.mono _ _ _ _)
      | (with_reducible exact view_Next.mono _ _ _ _)
      | (with_reducible exact LeO.refl _)
      | (with_reducible exact LeO.none _)
      | (with_reducible refine LeO.ite ?_ ?_)
      | (with_reducible refine LeO.bind ?_ (fun _ => ?_))
      | exact ih0 _ _ _ _ _ _ _
      | exact ih1 _ _ _ _ _ _ _
      | exact cartularylaw21_speaks.mono _
      | exact cartularyref21_Next.mono _ _ _ _
      | exact view_Next.mono _ _ _ _
      | exact LeO.none _
      | refine LeO.ite ?_ ?_
      | refine LeO.bind ?_ (fun _ => ?_)
set_option maxHeartbeats 1000000 in
set_option maxRecDepth 100000 in
theorem cartularylaw21_ViewTurns.calls (k : Nat) (a0 : Int) (a1 : Int) (a2 : Int) (r : Bool) (w : World) (h : cartularylaw21_ViewTurns.f k a0 a1 a2 = some r) :
    Calls Try.prog 3 #[.int .i64 a0, .int .i64 a1, .int .i64 a2] w fun e w' => e = .returned (.bool r) ∧ Below w.heap.size w w' := by
  have HB := Aside0.mk (Below.refl w.heap.size w)
  have H : ((view_Enough.f a0).bind fun bt123 => ((view_Primary.f a0 a1).bind fun bt125 => ((view_Next.f k a0 a1 a2).bind fun bt127 => ((cartularyref21_Next.f k a0 a1 a2).bind fun bt129 => (if bt127.1 = bt129.1 then (cartularylaw21_ViewTurns.j0 k a0 a1 bt123.1 bt123.2 bt125.1 bt125.2 (bt127.2 != bt129.2)) else (cartularylaw21_ViewTurns.j0 k a0 a1 bt123.1 bt123.2 bt125.1 bt125.2 true)))))) = some r := h
  clear h
  replace H := Option.bind_eq_some_iff.mp H
  obtain ⟨⟨t123, t124⟩, A40, H⟩ := H
  replace H : ((view_Primary.f a0 a1).bind fun bt125 => ((view_Next.f k a0 a1 a2).bind fun bt127 => ((cartularyref21_Next.f k a0 a1 a2).bind fun bt129 => (if bt127.1 = bt129.1 then (cartularylaw21_ViewTurns.j0 k a0 a1 t123 t124 bt125.1 bt125.2 (bt127.2 != bt129.2)) else (cartularylaw21_ViewTurns.j0 k a0 a1 t123 t124 bt125.1 bt125.2 true))))) = some r := H
  have A4 := Aside0.mk A40
  clear A40
  replace H := Option.bind_eq_some_iff.mp H
  obtain ⟨⟨t125, t126⟩, A50, H⟩ := H
  replace H : ((view_Next.f k a0 a1 a2).bind fun bt127 => ((cartularyref21_Next.f k a0 a1 a2).bind fun bt129 => (if bt127.1 = bt129.1 then (cartularylaw21_ViewTurns.j0 k a0 a1 t123 t124 t125 t126 (bt127.2 != bt129.2)) else (cartularylaw21_ViewTurns.j0 k a0 a1 t123 t124 t125 t126 true)))) = some r := H
  have A5 := Aside0.mk A50
  clear A50
  replace H := Option.bind_eq_some_iff.mp H
  obtain ⟨⟨t127, t128⟩, A60, H⟩ := H
  replace H : ((cartularyref21_Next.f k a0 a1 a2).bind fun bt129 => (if t127 = bt129.1 then (cartularylaw21_ViewTurns.j0 k a0 a1 t123 t124 t125 t126 (t128 != bt129.2)) else (cartularylaw21_ViewTurns.j0 k a0 a1 t123 t124 t125 t126 true))) = some r := H
  have A6 := Aside0.mk A60
  clear A60
  replace H := Option.bind_eq_some_iff.mp H
  obtain ⟨⟨t129, t130⟩, A70, H⟩ := H
  replace H : (if t127 = t129 then (cartularylaw21_ViewTurns.j0 k a0 a1 t123 t124 t125 t126 (t128 != t130)) else (cartularylaw21_ViewTurns.j0 k a0 a1 t123 t124 t125 t126 true)) = some r := H
  have A7 := Aside0.mk A70
  clear A70
  have HC8 := Aside0.mk H
  clear H
  go_enter Try.func3, Try.ntmps3
  go_upto_region 5 with (first | ((with_reducible refine gate_callee (f := 9) rfl ?_); refine goesL_ (some 17) rfl rfl Try.func9 (by kernel_rfl) rfl #[.int .i64 a0] rfl (by (try simp only [List.map_toArray, List.map_cons, List.map_nil]); first | done | rfl | (simp only [List.length_drop, List.length_take]; rfl)) ?_; (with_reducible refine (view_Enough.calls a0 t123 t124 _ A4.out).mono ?_); rintro e w' ⟨rfl, ⟨nd, rfl⟩⟩; refine ⟨_, rfl, ?_⟩) | ((with_reducible refine gate_callee (f := 10) rfl ?_); refine goesL_ (some 23) rfl rfl Try.func10 (by kernel_rfl) rfl #[.int .i64 a0, .int .i64 a1] rfl (by (try simp only [List.map_toArray, List.map_cons, List.map_nil]); first | done | rfl | (simp only [List.length_drop, List.length_take]; rfl)) ?_; (with_reducible refine (view_Primary.calls a0 a1 t125 t126 _ A5.out).mono ?_); rintro e w' ⟨rfl, ⟨nd, rfl⟩⟩; refine ⟨_, rfl, ?_⟩) | ((with_reducible refine gate_callee (f := 11) rfl ?_); refine goesL_ (some 30) rfl rfl Try.func11 (by kernel_rfl) rfl #[.int .i64 a0, .int .i64 a1, .int .i64 a2] rfl (by (try simp only [List.map_toArray, List.map_cons, List.map_nil]); first | done | rfl | (simp only [List.length_drop, List.length_take]; rfl)) ?_; (with_reducible refine (view_Next.calls k a0 a1 a2 t127 t128 _ A6.out).mono ?_); rintro e w' ⟨rfl, ⟨nd, rfl⟩⟩; refine ⟨_, rfl, ?_⟩) | ((with_reducible refine gate_callee (f := 12) rfl ?_); refine goesL_ (some 37) rfl rfl Try.func12 (by kernel_rfl) rfl #[.int .i64 a0, .int .i64 a1, .int .i64 a2] rfl (by (try simp only [List.map_toArray, List.map_cons, List.map_nil]); first | done | rfl | (simp only [List.length_drop, List.length_take]; rfl)) ?_; (with_reducible refine (cartularyref21_Next.calls k a0 a1 a2 t129 t130 _ A7.out).mono ?_); rintro e w' ⟨rfl, ⟨nd, rfl⟩⟩; refine ⟨_, rfl, ?_⟩))
  (try simp only [Act.put, List.setIfInBounds_toArray, List.set_cons_zero, List.set_cons_succ])
  go_cut [47] (fun v47 wc => ∃ (kq : Nat) (x47_7 : Bool), v47 = .bool x47_7 ∧ Aside0 (cartularylaw21_ViewTurns.j0 kq a0 a1 t123 t124 t125 t126 x47_7 = some r) ∧ Aside0 (kq ≤ k) ∧ Aside0 (Below w.heap.size w wc))
  case first =>
    have H := HC8.out
    clear HC8
    by_cases c9 : t127 = t129
    · rw [if_pos c9] at H
      have c9b0 : (t127 == t129) = true := beq_iff_eq.mpr c9
      have c9b1 : (t127 != t129) = false := bne_eq_false_iff_eq.mpr c9
      clear c9
      (first | rw [c9b0] | (simp only [i64_w, i32_w]; rw [c9b0]) | skip)
      have H' := Aside0.mk H
      clear H
      go_wp2
      go_meet
      case rel => exact ⟨_, ((t128 != t130)), (by first | rfl | (simp; done) | (simp [*]; done)), H', ⟨by first | omega | exact Nat.le_refl _⟩, ⟨by repeat (first | (with_reducible first | exact HB.out | apply below_alloc | apply pw_below_drewN | apply below_drew1) | exact HB.out)⟩⟩
    · rw [if_neg c9] at H
      have c9b0 : (t127 == t129) = false := beq_eq_false_iff_ne.mpr c9
      have c9b1 : (t127 != t129) = true := bne_iff_ne.mpr c9
      (first | rw [c9b0] | (simp only [i64_w, i32_w]; rw [c9b0]) | skip)
      have H' := Aside0.mk H
      clear H
      go_wp2
      go_meet
      case rel => exact ⟨_, (true), (by first | rfl | (simp; done) | (simp [*]; done)), H', ⟨by first | omega | exact Nat.le_refl _⟩, ⟨by repeat (first | (with_reducible first | exact HB.out | apply below_alloc | apply pw_below_drewN | apply below_drew1) | exact HB.out)⟩⟩
  case rest =>
    clear HC8
    try clear c1
    try clear p2
    try clear c3
    try clear c9
    try clear c9b0
    try clear c9b1
    obtain ⟨kq, x47_7, rfl, HA, HJ7, HB⟩ := hcut
    cases kq with
    | zero => exact absurd HA.out (by simp [cartularylaw21_ViewTurns.j0])
    | succ kj7 =>
      have H := HA.out
      clear HA
      simp only [cartularylaw21_ViewTurns.j0] at H
      by_cases c10 : x47_7 = true
      · subst c10
        have H1 : (some false) = some r := by rw [if_pos rfl] at H; exact H
        clear H
        have H := H1
        clear H1
        obtain rfl := Option.some.inj H
        go_wp2
        go_ret
        exact ⟨by first | rfl | (simp [errW_none, errW_some] <;> rfl) | (simp [*, errW_none, errW_some] <;> rfl), by repeat (first | (with_reducible first | exact HB.out | apply below_alloc | apply pw_below_drewN | apply below_drew1) | exact HB.out)⟩
      · replace c10 := Bool.eq_false_iff.mpr c10
        subst c10
        have H1 : ((cartularyref21_Nodes.f a0).bind fun t131 => (if t131 = true then (if a1 < 0 then (cartularylaw21_ViewTurns.j1 kj7 a0 a1 t123 t124 t125 t126 true) else (cartularylaw21_ViewTurns.j1 kj7 a0 a1 t123 t124 t125 t126 (decide (a1 > 1099511627776)))) else (if t124 = 1 then (if t126 = 1 then (if t123 = 0 then (if t125 = 0 then ((cartularylaw21_speaks.f kj7).bind fun t132 => (some t132)) else (some false)) else (some false)) else (some false)) else (some false)))) = some r := by rw [if_neg (show ¬ (false = true) by decide)] at H; exact H
        clear H
        have H := H1
        clear H1
        replace H := Option.bind_eq_some_iff.mp H
        obtain ⟨t131, A110, H⟩ := H
        replace H : (if t131 = true then (if a1 < 0 then (cartularylaw21_ViewTurns.j1 kj7 a0 a1 t123 t124 t125 t126 true) else (cartularylaw21_ViewTurns.j1 kj7 a0 a1 t123 t124 t125 t126 (decide (a1 > 1099511627776)))) else (if t124 = 1 then (if t126 = 1 then (if t123 = 0 then (if t125 = 0 then ((cartularylaw21_speaks.f kj7).bind fun t132 => (some t132)) else (some false)) else (some false)) else (some false)) else (some false))) = some r := H
        have A11 := Aside0.mk A110
        clear A110
        by_cases c12 : t131 = true
        · subst c12
          have H1 : (if a1 < 0 then (cartularylaw21_ViewTurns.j1 kj7 a0 a1 t123 t124 t125 t126 true) else (cartularylaw21_ViewTurns.j1 kj7 a0 a1 t123 t124 t125 t126 (decide (a1 > 1099511627776)))) = some r := by rw [if_pos rfl] at H; exact H
          clear H
          have H := H1
          clear H1
          have HC13 := Aside0.mk H
          clear H
          go_upto_region 9 with (first | ((with_reducible refine gate_callee (f := 13) rfl ?_); refine goesL_ (some 49) rfl rfl Try.func13 (by kernel_rfl) rfl #[.int .i64 a0] rfl (by (try simp only [List.map_toArray, List.map_cons, List.map_nil]); first | done | rfl | (simp only [List.length_drop, List.length_take]; rfl)) ?_; (with_reducible refine (cartularyref21_Nodes.calls a0 true _ A11.out).mono ?_); rintro e w' ⟨rfl, ⟨nd, rfl⟩⟩; refine ⟨_, rfl, ?_⟩))
          (try simp only [Act.put, List.setIfInBounds_toArray, List.set_cons_zero, List.set_cons_succ])
          go_cut [73] (fun v73 wc => ∃ (kq : Nat) (x73_12 : Bool), v73 = .bool x73_12 ∧ Aside0 (cartularylaw21_ViewTurns.j1 kq a0 a1 t123 t124 t125 t126 x73_12 = some r) ∧ Aside0 (kq ≤ kj7) ∧ Aside0 (Below w.heap.size w wc))
          case first =>
            have H := HC13.out
            clear HC13
            by_cases c14 : a1 < 0
            · rw [if_pos c14] at H
              have c14b0 : decide (a1 < 0) = true := decide_eq_true c14
              clear c14
              (first | rw [c14b0] | (simp only [i64_w, i32_w]; rw [c14b0]) | skip)
              have H' := Aside0.mk H
              clear H
              go_wp2
              go_meet
              case rel => exact ⟨_, (true), (by first | rfl | (simp; done) | (simp [*]; done)), H', ⟨by have := HJ7.out; first | omega | exact Nat.le_refl _⟩, ⟨by repeat (first | (with_reducible first | exact HB.out | apply below_alloc | apply pw_below_drewN | apply below_drew1) | exact HB.out)⟩⟩
            · rw [if_neg c14] at H
              have c14b0 : decide (a1 < 0) = false := decide_eq_false c14
              clear c14
              (first | rw [c14b0] | (simp only [i64_w, i32_w]; rw [c14b0]) | skip)
              have H' := Aside0.mk H
              clear H
              go_wp2
              go_meet
              case rel => exact ⟨_, (decide (a1 > 1099511627776)), (by first | rfl | (simp; done) | (simp [*]; done)), H', ⟨by have := HJ7.out; first | omega | exact Nat.le_refl _⟩, ⟨by repeat (first | (with_reducible first | exact HB.out | apply below_alloc | apply pw_below_drewN | apply below_drew1) | exact HB.out)⟩⟩
          case rest =>
            clear HC13
            try clear c1
            try clear p2
            try clear c3
            try clear c9
            try clear c9b0
            try clear c9b1
            try clear c10
            try clear c11
            try clear c12
            try clear c13
            try clear c14
            try clear c14b0
            try clear p2
            obtain ⟨kq, x73_12, rfl, HA, HJ12, HB⟩ := hcut
            cases kq with
            | zero => exact absurd HA.out (by simp [cartularylaw21_ViewTurns.j1])
            | succ kj12 =>
              have H := HA.out
              clear HA
              simp only [cartularylaw21_ViewTurns.j1] at H
              by_cases c15 : x73_12 = true
              · subst c15
                have H1 : (if t126 = 1 then (if t125 = 0 then (if (wrap64 (2 * t123)) = (wrap64 (a0 + 1)) then ((cartularylaw21_speaks.f kj12).bind fun t133 => (some t133)) else (some false)) else (some false)) else (some false)) = some r := by rw [if_pos rfl] at H; exact H
                clear H
                have H := H1
                clear H1
                by_cases c16 : t126 = 1
                · rw [if_pos c16] at H
                  have c16b0 : (t126 == 1) = true := beq_iff_eq.mpr c16
                  have c16b1 : (t126 != 1) = false := bne_eq_false_iff_eq.mpr c16
                  clear c16
                  by_cases c17 : t125 = 0
                  · rw [if_pos c17] at H
                    have c17b0 : (t125 == 0) = true := beq_iff_eq.mpr c17
                    have c17b1 : (t125 != 0) = false := bne_eq_false_iff_eq.mpr c17
                    clear c17
                    by_cases c18 : (wrap64 (2 * t123)) = (wrap64 (a0 + 1))
                    · rw [if_pos c18] at H
                      have c18b0 : ((wrap64 (2 * t123)) == (wrap64 (a0 + 1))) = true := beq_iff_eq.mpr c18
                      have c18b1 : ((wrap64 (2 * t123)) != (wrap64 (a0 + 1))) = false := bne_eq_false_iff_eq.mpr c18
                      clear c18
                      replace H := Option.bind_eq_some_iff.mp H
                      obtain ⟨t133, A190, H⟩ := H
                      replace H : (some t133) = some r := H
                      have A19 := Aside0.mk A190
                      clear A190
                      obtain rfl := Option.some.inj H
                      go_wp2_with (first | (go_at_call 14; (with_reducible refine (cartularylaw21_speaks.calls kj12  t133 _ A19.out).mono ?_); rintro e w20 ⟨rfl, hb⟩; have n0_ := Aside0.mk (below_step (by repeat (first | (with_reducible first | exact HB.out | apply below_alloc | apply pw_below_drewN | apply below_drew1) | exact HB.out)) hb); clear HB; have HB := n0_; clear n0_; (try clear hb); (try clear hb2); (try clear hk); (try clear hi)))
                      go_ret
                      exact ⟨by first | rfl | (simp [errW_none, errW_some] <;> rfl) | (simp [*, errW_none, errW_some] <;> rfl), by repeat (first | (with_reducible first | exact HB.out | apply below_alloc | apply pw_below_drewN | apply below_drew1) | exact HB.out)⟩
                    · rw [if_neg c18] at H
                      have c18b0 : ((wrap64 (2 * t123)) == (wrap64 (a0 + 1))) = false := beq_eq_false_iff_ne.mpr c18
                      have c18b1 : ((wrap64 (2 * t123)) != (wrap64 (a0 + 1))) = true := bne_iff_ne.mpr c18
                      obtain rfl := Option.some.inj H
                      go_wp2
                      go_ret
                      exact ⟨by first | rfl | (simp [errW_none, errW_some] <;> rfl) | (simp [*, errW_none, errW_some] <;> rfl), by repeat (first | (with_reducible first | exact HB.out | apply below_alloc | apply pw_below_drewN | apply below_drew1) | exact HB.out)⟩
                  · rw [if_neg c17] at H
                    have c17b0 : (t125 == 0) = false := beq_eq_false_iff_ne.mpr c17
                    have c17b1 : (t125 != 0) = true := bne_iff_ne.mpr c17
                    obtain rfl := Option.some.inj H
                    go_wp2
                    go_ret
                    exact ⟨by first | rfl | (simp [errW_none, errW_some] <;> rfl) | (simp [*, errW_none, errW_some] <;> rfl), by repeat (first | (with_reducible first | exact HB.out | apply below_alloc | apply pw_below_drewN | apply below_drew1) | exact HB.out)⟩
                · rw [if_neg c16] at H
                  have c16b0 : (t126 == 1) = false := beq_eq_false_iff_ne.mpr c16
                  have c16b1 : (t126 != 1) = true := bne_iff_ne.mpr c16
                  obtain rfl := Option.some.inj H
                  go_wp2
                  go_ret
                  exact ⟨by first | rfl | (simp [errW_none, errW_some] <;> rfl) | (simp [*, errW_none, errW_some] <;> rfl), by repeat (first | (with_reducible first | exact HB.out | apply below_alloc | apply pw_below_drewN | apply below_drew1) | exact HB.out)⟩
              · replace c15 := Bool.eq_false_iff.mpr c15
                subst c15
                have H1 : (if t124 = 0 then (if t126 = 0 then (if (wrap64 (2 * t123)) = (wrap64 (a0 + 1)) then (if a0 = 0 then (none) else (if t125 = (Int.tmod a1 a0) then ((cartularylaw21_speaks.f kj12).bind fun t134 => (some t134)) else (some false))) else (some false)) else (some false)) else (some false)) = some r := by rw [if_neg (show ¬ (false = true) by decide)] at H; exact H
                clear H
                have H := H1
                clear H1
                by_cases c21 : t124 = 0
                · rw [if_pos c21] at H
                  have c21b0 : (t124 == 0) = true := beq_iff_eq.mpr c21
                  have c21b1 : (t124 != 0) = false := bne_eq_false_iff_eq.mpr c21
                  clear c21
                  by_cases c22 : t126 = 0
                  · rw [if_pos c22] at H
                    have c22b0 : (t126 == 0) = true := beq_iff_eq.mpr c22
                    have c22b1 : (t126 != 0) = false := bne_eq_false_iff_eq.mpr c22
                    clear c22
                    by_cases c23 : (wrap64 (2 * t123)) = (wrap64 (a0 + 1))
                    · rw [if_pos c23] at H
                      have c23b0 : ((wrap64 (2 * t123)) == (wrap64 (a0 + 1))) = true := beq_iff_eq.mpr c23
                      have c23b1 : ((wrap64 (2 * t123)) != (wrap64 (a0 + 1))) = false := bne_eq_false_iff_eq.mpr c23
                      clear c23
                      by_cases c24 : a0 = 0
                      · rw [if_pos c24] at H
                        exact absurd H (by simp)
                      · rw [if_neg c24] at H
                        have c24b0 : (a0 == 0) = false := beq_eq_false_iff_ne.mpr c24
                        have c24b1 : (a0 != 0) = true := bne_iff_ne.mpr c24
                        by_cases c25 : t125 = (Int.tmod a1 a0)
                        · rw [if_pos c25] at H
                          have c25b0 : (t125 == (Int.tmod a1 a0)) = true := beq_iff_eq.mpr c25
                          have c25b1 : (t125 != (Int.tmod a1 a0)) = false := bne_eq_false_iff_eq.mpr c25
                          clear c25
                          replace H := Option.bind_eq_some_iff.mp H
                          obtain ⟨t134, A260, H⟩ := H
                          replace H : (some t134) = some r := H
                          have A26 := Aside0.mk A260
                          clear A260
                          obtain rfl := Option.some.inj H
                          go_wp2_with (first | (go_at_call 14; (with_reducible refine (cartularylaw21_speaks.calls kj12  t134 _ A26.out).mono ?_); rintro e w27 ⟨rfl, hb⟩; have n0_ := Aside0.mk (below_step (by repeat (first | (with_reducible first | exact HB.out | apply below_alloc | apply pw_below_drewN | apply below_drew1) | exact HB.out)) hb); clear HB; have HB := n0_; clear n0_; (try clear hb); (try clear hb2); (try clear hk); (try clear hi)))
                          go_ret
                          exact ⟨by first | rfl | (simp [errW_none, errW_some] <;> rfl) | (simp [*, errW_none, errW_some] <;> rfl), by repeat (first | (with_reducible first | exact HB.out | apply below_alloc | apply pw_below_drewN | apply below_drew1) | exact HB.out)⟩
                        · rw [if_neg c25] at H
                          have c25b0 : (t125 == (Int.tmod a1 a0)) = false := beq_eq_false_iff_ne.mpr c25
                          have c25b1 : (t125 != (Int.tmod a1 a0)) = true := bne_iff_ne.mpr c25
                          obtain rfl := Option.some.inj H
                          go_wp2
                          go_ret
                          exact ⟨by first | rfl | (simp [errW_none, errW_some] <;> rfl) | (simp [*, errW_none, errW_some] <;> rfl), by repeat (first | (with_reducible first | exact HB.out | apply below_alloc | apply pw_below_drewN | apply below_drew1) | exact HB.out)⟩
                    · rw [if_neg c23] at H
                      have c23b0 : ((wrap64 (2 * t123)) == (wrap64 (a0 + 1))) = false := beq_eq_false_iff_ne.mpr c23
                      have c23b1 : ((wrap64 (2 * t123)) != (wrap64 (a0 + 1))) = true := bne_iff_ne.mpr c23
                      obtain rfl := Option.some.inj H
                      go_wp2
                      go_ret
                      exact ⟨by first | rfl | (simp [errW_none, errW_some] <;> rfl) | (simp [*, errW_none, errW_some] <;> rfl), by repeat (first | (with_reducible first | exact HB.out | apply below_alloc | apply pw_below_drewN | apply below_drew1) | exact HB.out)⟩
                  · rw [if_neg c22] at H
                    have c22b0 : (t126 == 0) = false := beq_eq_false_iff_ne.mpr c22
                    have c22b1 : (t126 != 0) = true := bne_iff_ne.mpr c22
                    obtain rfl := Option.some.inj H
                    go_wp2
                    go_ret
                    exact ⟨by first | rfl | (simp [errW_none, errW_some] <;> rfl) | (simp [*, errW_none, errW_some] <;> rfl), by repeat (first | (with_reducible first | exact HB.out | apply below_alloc | apply pw_below_drewN | apply below_drew1) | exact HB.out)⟩
                · rw [if_neg c21] at H
                  have c21b0 : (t124 == 0) = false := beq_eq_false_iff_ne.mpr c21
                  have c21b1 : (t124 != 0) = true := bne_iff_ne.mpr c21
                  obtain rfl := Option.some.inj H
                  go_wp2
                  go_ret
                  exact ⟨by first | rfl | (simp [errW_none, errW_some] <;> rfl) | (simp [*, errW_none, errW_some] <;> rfl), by repeat (first | (with_reducible first | exact HB.out | apply below_alloc | apply pw_below_drewN | apply below_drew1) | exact HB.out)⟩
        · replace c12 := Bool.eq_false_iff.mpr c12
          subst c12
          have H1 : (if t124 = 1 then (if t126 = 1 then (if t123 = 0 then (if t125 = 0 then ((cartularylaw21_speaks.f kj7).bind fun t132 => (some t132)) else (some false)) else (some false)) else (some false)) else (some false)) = some r := by rw [if_neg (show ¬ (false = true) by decide)] at H; exact H
          clear H
          have H := H1
          clear H1
          by_cases c28 : t124 = 1
          · rw [if_pos c28] at H
            have c28b0 : (t124 == 1) = true := beq_iff_eq.mpr c28
            have c28b1 : (t124 != 1) = false := bne_eq_false_iff_eq.mpr c28
            clear c28
            by_cases c29 : t126 = 1
            · rw [if_pos c29] at H
              have c29b0 : (t126 == 1) = true := beq_iff_eq.mpr c29
              have c29b1 : (t126 != 1) = false := bne_eq_false_iff_eq.mpr c29
              clear c29
              by_cases c30 : t123 = 0
              · rw [if_pos c30] at H
                have c30b0 : (t123 == 0) = true := beq_iff_eq.mpr c30
                have c30b1 : (t123 != 0) = false := bne_eq_false_iff_eq.mpr c30
                clear c30
                by_cases c31 : t125 = 0
                · rw [if_pos c31] at H
                  have c31b0 : (t125 == 0) = true := beq_iff_eq.mpr c31
                  have c31b1 : (t125 != 0) = false := bne_eq_false_iff_eq.mpr c31
                  clear c31
                  replace H := Option.bind_eq_some_iff.mp H
                  obtain ⟨t132, A320, H⟩ := H
                  replace H : (some t132) = some r := H
                  have A32 := Aside0.mk A320
                  clear A320
                  obtain rfl := Option.some.inj H
                  go_wp2_with (first | ((with_reducible refine gate_callee (f := 13) rfl ?_); refine goesL_ (some 49) rfl rfl Try.func13 (by kernel_rfl) rfl #[.int .i64 a0] rfl (by (try simp only [List.map_toArray, List.map_cons, List.map_nil]); first | done | rfl | (simp only [List.length_drop, List.length_take]; rfl)) ?_; (with_reducible refine (cartularyref21_Nodes.calls a0 false _ A11.out).mono ?_); rintro e w' ⟨rfl, ⟨nd, rfl⟩⟩; refine ⟨_, rfl, ?_⟩) | (go_at_call 14; (with_reducible refine (cartularylaw21_speaks.calls kj7  t132 _ A32.out).mono ?_); rintro e w33 ⟨rfl, hb⟩; have n0_ := Aside0.mk (below_step (by repeat (first | (with_reducible first | exact HB.out | apply below_alloc | apply pw_below_drewN | apply below_drew1) | exact HB.out)) hb); clear HB; have HB := n0_; clear n0_; (try clear hb); (try clear hb2); (try clear hk); (try clear hi)))
                  go_ret
                  exact ⟨by first | rfl | (simp [errW_none, errW_some] <;> rfl) | (simp [*, errW_none, errW_some] <;> rfl), by repeat (first | (with_reducible first | exact HB.out | apply below_alloc | apply pw_below_drewN | apply below_drew1) | exact HB.out)⟩
                · rw [if_neg c31] at H
                  have c31b0 : (t125 == 0) = false := beq_eq_false_iff_ne.mpr c31
                  have c31b1 : (t125 != 0) = true := bne_iff_ne.mpr c31
                  obtain rfl := Option.some.inj H
                  go_wp2_with (first | ((with_reducible refine gate_callee (f := 13) rfl ?_); refine goesL_ (some 49) rfl rfl Try.func13 (by kernel_rfl) rfl #[.int .i64 a0] rfl (by (try simp only [List.map_toArray, List.map_cons, List.map_nil]); first | done | rfl | (simp only [List.length_drop, List.length_take]; rfl)) ?_; (with_reducible refine (cartularyref21_Nodes.calls a0 false _ A11.out).mono ?_); rintro e w' ⟨rfl, ⟨nd, rfl⟩⟩; refine ⟨_, rfl, ?_⟩))
                  go_ret
                  exact ⟨by first | rfl | (simp [errW_none, errW_some] <;> rfl) | (simp [*, errW_none, errW_some] <;> rfl), by repeat (first | (with_reducible first | exact HB.out | apply below_alloc | apply pw_below_drewN | apply below_drew1) | exact HB.out)⟩
              · rw [if_neg c30] at H
                have c30b0 : (t123 == 0) = false := beq_eq_false_iff_ne.mpr c30
                have c30b1 : (t123 != 0) = true := bne_iff_ne.mpr c30
                obtain rfl := Option.some.inj H
                go_wp2_with (first | ((with_reducible refine gate_callee (f := 13) rfl ?_); refine goesL_ (some 49) rfl rfl Try.func13 (by kernel_rfl) rfl #[.int .i64 a0] rfl (by (try simp only [List.map_toArray, List.map_cons, List.map_nil]); first | done | rfl | (simp only [List.length_drop, List.length_take]; rfl)) ?_; (with_reducible refine (cartularyref21_Nodes.calls a0 false _ A11.out).mono ?_); rintro e w' ⟨rfl, ⟨nd, rfl⟩⟩; refine ⟨_, rfl, ?_⟩))
                go_ret
                exact ⟨by first | rfl | (simp [errW_none, errW_some] <;> rfl) | (simp [*, errW_none, errW_some] <;> rfl), by repeat (first | (with_reducible first | exact HB.out | apply below_alloc | apply pw_below_drewN | apply below_drew1) | exact HB.out)⟩
            · rw [if_neg c29] at H
              have c29b0 : (t126 == 1) = false := beq_eq_false_iff_ne.mpr c29
              have c29b1 : (t126 != 1) = true := bne_iff_ne.mpr c29
              obtain rfl := Option.some.inj H
              go_wp2_with (first | ((with_reducible refine gate_callee (f := 13) rfl ?_); refine goesL_ (some 49) rfl rfl Try.func13 (by kernel_rfl) rfl #[.int .i64 a0] rfl (by (try simp only [List.map_toArray, List.map_cons, List.map_nil]); first | done | rfl | (simp only [List.length_drop, List.length_take]; rfl)) ?_; (with_reducible refine (cartularyref21_Nodes.calls a0 false _ A11.out).mono ?_); rintro e w' ⟨rfl, ⟨nd, rfl⟩⟩; refine ⟨_, rfl, ?_⟩))
              go_ret
              exact ⟨by first | rfl | (simp [errW_none, errW_some] <;> rfl) | (simp [*, errW_none, errW_some] <;> rfl), by repeat (first | (with_reducible first | exact HB.out | apply below_alloc | apply pw_below_drewN | apply below_drew1) | exact HB.out)⟩
          · rw [if_neg c28] at H
            have c28b0 : (t124 == 1) = false := beq_eq_false_iff_ne.mpr c28
            have c28b1 : (t124 != 1) = true := bne_iff_ne.mpr c28
            obtain rfl := Option.some.inj H
            go_wp2_with (first | ((with_reducible refine gate_callee (f := 13) rfl ?_); refine goesL_ (some 49) rfl rfl Try.func13 (by kernel_rfl) rfl #[.int .i64 a0] rfl (by (try simp only [List.map_toArray, List.map_cons, List.map_nil]); first | done | rfl | (simp only [List.length_drop, List.length_take]; rfl)) ?_; (with_reducible refine (cartularyref21_Nodes.calls a0 false _ A11.out).mono ?_); rintro e w' ⟨rfl, ⟨nd, rfl⟩⟩; refine ⟨_, rfl, ?_⟩))
            go_ret
            exact ⟨by first | rfl | (simp [errW_none, errW_some] <;> rfl) | (simp [*, errW_none, errW_some] <;> rfl), by repeat (first | (with_reducible first | exact HB.out | apply below_alloc | apply pw_below_drewN | apply below_drew1) | exact HB.out)⟩

/-- THE ONE PURE STATEMENT of cartularylaw21_ViewTurns: yours. -/
def cartularylaw21_ViewTurns.Pure : Prop := ∀ (a0 : Int) (a1 : Int) (a2 : Int), (Lit.int .i64 a0).wf = true → (Lit.int .i64 a1).wf = true → (Lit.int .i64 a2).wf = true → ∃ k, cartularylaw21_ViewTurns.f k a0 a1 a2 = some true
theorem cartularylaw21_ViewTurns.walk (P : cartularylaw21_ViewTurns.Pure) (a0 : Int) (a1 : Int) (a2 : Int) (w : World) (w0 : (Lit.int .i64 a0).wf = true) (w1 : (Lit.int .i64 a1).wf = true) (w2 : (Lit.int .i64 a2).wf = true) :
    Calls Try.prog 3 #[.int .i64 a0, .int .i64 a1, .int .i64 a2] w fun e w' => e = .returned (.bool true) ∧ Below w.heap.size w w' := by
  obtain ⟨k, h⟩ := P a0 a1 a2 w0 w1 w2
  refine (cartularylaw21_ViewTurns.calls k a0 a1 a2 true w h).mono ?_
  rintro e w' ⟨rfl, hd⟩
  exact ⟨rfl, hd⟩

end Go.Proofs.Ytifhgfjohpbliaa.Pt
