import Derived.Test.YtlmnfnkjbgnklaaWriter
set_option linter.unusedVariables false
set_option linter.unusedSimpArgs false
namespace Go.Proofs.Ytlmnfnkjbgnklaa.Given
open Go.RowKit Go.Proofs.YtlmnfnkjbgnklaaW.PrintWords Go.Proofs.YtlmnfnkjbgnklaaW.PrintLast Go.Proofs.YtlmnfnkjbgnklaaW.PrintMore Go.Proofs.Ytlmnfnkjbgnklaa.Codec
open Go.Proofs.Ytlmnfnkjbgnklaa.Spec (le)

theorem below_call {w w1 w2 : World} {B : Nat} (h : Below B w w1) (k : Below B w1 w2) : Below B w w2 := h.trans k

/-- A number's bytes, of a size that it fits. -/
def sum_fixed.f (a0 a1 : Int) : Option ByteArray :=
  if 0 ≤ a0 then (if a1 = 2 then (if a0 < 65536 then some (strOfNums (le a0 2)) else none) else if a1 = 4 then (if a0 < 4294967296 then some (strOfNums (le a0 4)) else none) else none) else none

set_option maxHeartbeats 800000 in
set_option maxRecDepth 100000 in
theorem fixed2 (a0 : Int) (w : World) (h0 : 0 ≤ a0) (h1 : a0 < 65536) :
    Calls Try.prog 51 #[.int .i64 a0, .int .i64 2] w fun e w' => e = .returned (.string (strOfNums (le a0 2))) ∧ Below w.heap.size w w' := by
  go_enter Try.func51, Try.ntmps51
  go_wp2_with fail
  refine (new_any _).mono ?_
  rintro e w1 ⟨g, rfl, hI, hB⟩
  have HI := Aside0.mk hI
  have HB := Aside0.mk hB
  clear hI hB
  go_wp2_with fail
  refine (fixed_2 a0 w.heap.size g [] w1 HI.out (by simp) h0 h1).mono ?_
  rintro e w2 ⟨rfl, hI2, hB2, _⟩
  have HI2 := Aside0.mk hI2
  have HB2 := Aside0.mk (HB.out.trans hB2)
  clear hI2 hB2 HI HB
  go_wp2_with fail
  refine (out_any _ g _ w2 HI2.out).mono ?_
  rintro e w3 ⟨rfl, rfl⟩
  go_wp2
  go_ret
  exact ⟨rfl, HB2.out⟩

set_option maxHeartbeats 800000 in
set_option maxRecDepth 100000 in
theorem fixed4 (a0 : Int) (w : World) (h0 : 0 ≤ a0) (h1 : a0 < 4294967296) :
    Calls Try.prog 51 #[.int .i64 a0, .int .i64 4] w fun e w' => e = .returned (.string (strOfNums (le a0 4))) ∧ Below w.heap.size w w' := by
  go_enter Try.func51, Try.ntmps51
  go_wp2_with fail
  refine (new_any _).mono ?_
  rintro e w1 ⟨g, rfl, hI, hB⟩
  have HI := Aside0.mk hI
  have HB := Aside0.mk hB
  clear hI hB
  go_wp2_with fail
  refine (fixed_4 a0 w.heap.size g [] w1 HI.out (by simp) h0 h1).mono ?_
  rintro e w2 ⟨rfl, hI2, hB2, _⟩
  have HI2 := Aside0.mk hI2
  have HB2 := Aside0.mk (HB.out.trans hB2)
  clear hI2 hB2 HI HB
  go_wp2_with fail
  refine (out_any _ g _ w2 HI2.out).mono ?_
  rintro e w3 ⟨rfl, rfl⟩
  go_wp2
  go_ret
  exact ⟨rfl, HB2.out⟩

theorem sum_fixed.calls (a0 a1 : Int) (r : ByteArray) (w : World) (h : sum_fixed.f a0 a1 = some r) :
    Calls Try.prog 51 #[.int .i64 a0, .int .i64 a1] w fun e w' => e = .returned (.string r) ∧ Below w.heap.size w w' := by
  unfold sum_fixed.f at h
  by_cases h0 : 0 ≤ a0
  · rw [if_pos h0] at h
    by_cases h2 : a1 = 2
    · rw [if_pos h2] at h
      by_cases hf : a0 < 65536
      · rw [if_pos hf] at h
        obtain rfl := Option.some.inj h
        subst h2
        exact fixed2 a0 w h0 hf
      · rw [if_neg hf] at h
        cases h
    · rw [if_neg h2] at h
      by_cases h4 : a1 = 4
      · rw [if_pos h4] at h
        by_cases hf : a0 < 4294967296
        · rw [if_pos hf] at h
          obtain rfl := Option.some.inj h
          subst h4
          exact fixed4 a0 w h0 hf
        · rw [if_neg hf] at h
          cases h
      · rw [if_neg h4] at h
        cases h
  · rw [if_neg h0] at h
    cases h
end Go.Proofs.Ytlmnfnkjbgnklaa.Given
