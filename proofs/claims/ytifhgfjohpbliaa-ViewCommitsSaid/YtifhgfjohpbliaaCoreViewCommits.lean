/- Of every list of numbers and every list of offers: ViewCommits answers true, and what was in memory stays. -/
import Derived.Test.YtifhgfjohpbliaaViewCommits0
import Derived.Test.YtifhgfjohpbliaaOpen
set_option linter.unusedVariables false
set_option linter.unusedSimpArgs false
namespace Go.Proofs.Ytifhgfjohpbliaa.Core
open Go.RowKit Go.Proofs.Ytifhgfjohpbliaa.Pt Go.Proofs.YtifhgfjohpbliaaW.PrintWords Go.Proofs.YtifhgfjohpbliaaW.PrintLast Go.Proofs.YtifhgfjohpbliaaW.PrintMore Go.Proofs.Ytifhgfjohpbliaa.GivenV Go.Proofs.Ytifhgfjohpbliaa.Vs Go.Proofs.Ytifhgfjohpbliaa.Open

theorem opens_ints : Opens Try.prog 32 (Kd.slice 3 (Kd.int .i64)) (fun l => l.length * 8 ≤ 140737488351232) :=
  Opens.mono (opens_slice Try.underlying32 (opens_int Try.underlying3) (by kernel_rfl) (by_ := 8) (by kernel_rfl)) (fun x h => h.1)
theorem opens_offer : Opens Try.prog 38 k38 (fun _ => True) :=
  Opens.mono (opens_iso _ (fun x => ⟨x.1, x.2.1, x.2.2⟩) (fun _ => rfl) (opens_struct Try.underlying38 rfl (opensF_cons (opens_int Try.underlying3) (by kernel_rfl) (opensF_cons (opens_int Try.underlying3) (by kernel_rfl) (opensF_one (opens_int Try.underlying3) (by kernel_rfl)) rfl) rfl) (by kernel_rfl))) (fun _ _ => trivial)
theorem opens_offers : Opens Try.prog 33 (Kd.slice 38 k38) (fun l => l.length * 24 ≤ 140737488351232) :=
  Opens.mono (opens_slice Try.underlying33 opens_offer (by kernel_rfl) (by_ := 24) (by kernel_rfl)) (fun x h => h.1)
theorem ViewCommits (W : World) (A0 : Option Addr) (n0 c0 : Nat) (l0 : List Int) (h0 : (Kd.slice 3 (Kd.int .i64)).K W l0 [.slice A0 n0 c0]) (g0 : l0.length * 8 ≤ 140737488351232)
    (A1 : Option Addr) (n1 c1 : Nat) (l1 : List Off) (h1 : (Kd.slice 38 k38).K W l1 [.slice A1 n1 c1]) (g1 : l1.length * 24 ≤ 140737488351232) :
    Calls Try.prog 4 #[.slice A0 n0 c0, .slice A1 n1 c1] W fun e W' => e = .returned (.bool true) ∧ Below W.heap.size W W' := by
  obtain ⟨A0', c0', he, hc0, hC0⟩ := h0
  obtain ⟨rfl, rfl, rfl⟩ : A0 = A0' ∧ n0 = l0.length ∧ c0 = c0' := by simpa using he
  obtain ⟨A1', c1', he, hc1, hC1⟩ := h1
  obtain ⟨rfl, rfl, rfl⟩ : A1 = A1' ∧ n1 = l1.length ∧ c1 = c1' := by simpa using he
  obtain ⟨k, hk⟩ := (commits_ev l0 l1 (by omega)).rounds
  exact cartularylaw21_ViewCommits.calls k A0 c0 l0 A1 c1 l1 true W hC0 hc0 hC1 hc1 hk
end Go.Proofs.Ytifhgfjohpbliaa.Core
