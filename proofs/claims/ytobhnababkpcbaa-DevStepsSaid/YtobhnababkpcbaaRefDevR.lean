/- The document's device: Lasts. -/
import Derived.Test.YtobhnababkpcbaaRefDev
set_option linter.unusedVariables false
set_option linter.unusedSimpArgs false
namespace Go.Proofs.Ytobhnababkpcbaa.Dev
open Go.RowKit Go.Proofs.YtobhnababkpcbaaW.PrintWords Go.Proofs.YtobhnababkpcbaaW.PrintLast Go.Proofs.YtobhnababkpcbaaW.PrintMore Go.Proofs.Ytobhnababkpcbaa.Maps Go.Proofs.Ytobhnababkpcbaa.DevS Go.Proofs.Ytobhnababkpcbaa.Given
section
variable {B eb : Nat} {v1 v2 : Value} {d : D} {w w' : World}
set_option maxHeartbeats 1600000 in
set_option maxRecDepth 100000 in
theorem ref_lasts (h : RefIs B w eb v1 v2 d) (hn : 1 ≤ d.n) (a : Int) : Calls Try.prog 27 #[ptr eb, .int .i64 a] w fun e w' => e = .returned (.tuple #[.string (dLasts d a).1, .int .i64 (dLasts d a).2]) ∧ Below w.heap.size w w' := by
  have hu := Try.underlying47
  have hup := Try.underlying38
  obtain ⟨A, c, rfl⟩ := own_slice h.row
  have c0 := h.c0
  have H := Aside0.mk h
  clear h
  have hnn := H.out.wf.1
  unfold ptr
  by_cases h1 : a < 0
  · have b1 : decide (a < 0) = true := decide_eq_true h1
    have e : dLasts d a = (⟨#[]⟩, 6) := if_neg (fun hh => by have := hh.1; omega)
    rw [e]
    go_enter Try.func27, Try.ntmps27
    go_wp2_with fail
    go_ret2
    exact ⟨rfl, Below.refl _ _⟩
  · have b1 : decide (a < 0) = false := decide_eq_false h1
    by_cases h2 : a ≥ (d.n : Int)
    · have b2 : decide (a ≥ (d.n : Int)) = true := decide_eq_true h2
      have e : dLasts d a = (⟨#[]⟩, 6) := if_neg (fun hh => by have := hh.2; omega)
      rw [e]
      go_enter Try.func27, Try.ntmps27
      go_wp2_with fail
      go_ret2
      exact ⟨rfl, Below.refl _ _⟩
    · obtain ⟨k, rfl⟩ : ∃ k : Nat, a = k := ⟨a.toNat, by omega⟩
      have b2 : decide ((k : Int) ≥ (d.n : Int)) = false := decide_eq_false h2
      have b2' : decide (d.n ≤ k) = false := decide_eq_false (by omega)
      have hk : k < d.n := by omega
      have e : dLasts d (k : Int) = (DevS.look d.la k, 0) := if_pos ⟨by omega, by omega⟩
      rw [e]
      obtain ⟨g, rfl⟩ : ∃ g, A = some ⟨g, 0, none⟩ := by
        rcases H.out.row.2 with ⟨h1, h2⟩ | ⟨g, cap, cur, h1, _⟩
        · simp at h1
          omega
        · simp at h1
          exact ⟨g, h1.1⟩
      have ec := (World.ownsRow.cellAt H.out.row k (by omega)).trans (lv_at d k hk)
      have km := zeros_make
      have kc := zeros_alloc
      rcases size_ne_look d.la H.out.full k with ⟨s1, s2, s3⟩ | ⟨s, s1, s2, s3, s4⟩
      · rw [s2] at ec
        rw [s3]
        clear s1 s2 s3 e h1 h2
        go_enter Try.func27, Try.ntmps27
        go_wp2_with fail
        go_ret2
        exact ⟨rfl, by first | exact below_alloc (below_drew1 (Below.refl _ _)) _ | exact below_alloc (Below.refl _ _) _⟩
      · rw [s3] at ec
        rw [s4]
        have hb := sz_ne s2
        clear s1 s2 s3 s4 e h1 h2
        go_enter Try.func27, Try.ntmps27
        go_wp2_with fail
        go_ret2
        exact ⟨rfl, Below.refl _ _⟩
end
end Go.Proofs.Ytobhnababkpcbaa.Dev
