/- The document's device: Write. -/
import Derived.Test.YtobhnababkpcbaaRefDevR
set_option linter.unusedVariables false
set_option linter.unusedSimpArgs false
namespace Go.Proofs.Ytobhnababkpcbaa.Dev
open Go.RowKit Go.Proofs.YtobhnababkpcbaaW.PrintWords Go.Proofs.YtobhnababkpcbaaW.PrintLast Go.Proofs.YtobhnababkpcbaaW.PrintMore Go.Proofs.Ytobhnababkpcbaa.Maps Go.Proofs.Ytobhnababkpcbaa.DevS Go.Proofs.Ytobhnababkpcbaa.Given
section
variable {B eb : Nat} {v1 v2 : Value} {d : D} {w w' : World} {a : Int} {s : ByteArray}
set_option maxHeartbeats 1600000 in
set_option maxRecDepth 100000 in
theorem ref_write_form (r : Value) (w : World) (a : Int) (s : ByteArray) (hs : s.size ≤ 1048576) (h : ¬ formOk s) : Calls Try.prog 17 #[r, .int .i64 a, .string s] w fun e w' => e = .returned (.int .i64 4) ∧ Below w.heap.size w w' := by
  by_cases h1 : s.size = 0
  · have b1 := sz_eq h1
    clear h
    go_enter Try.func17, Try.ntmps17
    go_wp2_with fail
    go_ret
    exact ⟨rfl, Below.refl _ _⟩
  · have b1 := sz_ne h1
    have h2 : s.size % 128 ≠ 0 := fun e => h ⟨h1, e⟩
    have b2 : ((s.size : Int) % 128 != 0) = true := by
      have : (s.size : Int) % 128 ≠ 0 := by omega
      simpa using this
    clear h
    go_enter Try.func17, Try.ntmps17
    go_wp2_with fail
    go_ret
    exact ⟨rfl, Below.refl _ _⟩
set_option maxHeartbeats 1600000 in
set_option maxRecDepth 100000 in
theorem ref_write_place (h : RefIs B w eb v1 v2 d) (hs : s.size ≤ 1048576) (hf : formOk s) (hp : ¬ placeOk d.n a s) : Calls Try.prog 17 #[ptr eb, .int .i64 a, .string s] w fun e w' => e = .returned (.int .i64 6) ∧ Below w.heap.size w w' := by
  have hu := Try.underlying47
  have hup := Try.underlying38
  obtain ⟨A, c, rfl⟩ := own_slice h.row
  have c0 := h.c0
  have hnn := h.wf.1
  clear h
  unfold ptr
  have b0 := sz_ne hf.1
  have b1 : ((s.size : Int) % 128 != 0) = false := by
    have h2 := hf.2
    have : (s.size : Int) % 128 = 0 := by omega
    simpa using this
  have hz : s.size ≠ 0 := hf.1
  have hz2 : s.size % 128 = 0 := hf.2
  obtain ⟨m, hm⟩ : ∃ m : Nat, m = s.size / 128 := ⟨_, rfl⟩
  have HmI : Aside0 ((s.size : Int) / 128 = (m : Int)) := ⟨by omega⟩
  unfold placeOk at hp
  rw [← hm] at hp
  have hm1 : 1 ≤ m := by omega
  have hm2 : m ≤ 8192 := by omega
  clear hf hm hz hz2
  by_cases h1 : a < 0
  · have k1 : decide (a < 0) = true := decide_eq_true h1
    clear hp
    go_enter Try.func17, Try.ntmps17
    go_wp2_with fail
    go_ret
    exact ⟨rfl, Below.refl _ _⟩
  · have k1 : decide (a < 0) = false := decide_eq_false h1
    by_cases h2 : a ≥ (d.n : Int)
    · have k2 : decide (a ≥ (d.n : Int)) = true := decide_eq_true h2
      clear hp
      go_enter Try.func17, Try.ntmps17
      go_wp2_with fail
      go_ret
      exact ⟨rfl, Below.refl _ _⟩
    · have k2 : decide (a ≥ (d.n : Int)) = false := decide_eq_false h2
      have w1 : IntKind.i64.wrap ((d.n : Int) - a) = (d.n : Int) - a := IntWalk.i64_in _ (by omega)
      have k3 : decide ((m : Int) > (d.n : Int) - a) = true := decide_eq_true (by omega)
      have k4 : decide ((s.size : Int) / 128 > (d.n : Int) - a) = true := by rw [HmI.out]; exact k3
      clear hp
      go_enter Try.func17, Try.ntmps17
      go_wp2_with fail
      go_ret
      exact ⟨rfl, Below.refl _ _⟩
end
end Go.Proofs.Ytobhnababkpcbaa.Dev
