/- Steps of devices: how a list of steps lies in memory. -/
import Derived.Test.YtobhnababkpcbaaDevS
import Derived.Test.YtobhnababkpcbaaOpen
set_option linter.unusedVariables false
set_option linter.unusedSimpArgs false
namespace Go.Proofs.Ytobhnababkpcbaa.Dev
open Go.RowKit Go.Proofs.YtobhnababkpcbaaW.PrintWords Go.Proofs.YtobhnababkpcbaaW.PrintLast Go.Proofs.YtobhnababkpcbaaW.PrintMore Go.Proofs.Ytobhnababkpcbaa.Maps Go.Proofs.Ytobhnababkpcbaa.DevS Go.Proofs.Ytobhnababkpcbaa.Given Go.Proofs.Ytobhnababkpcbaa.Open

theorem cell_sub (w : World) (ad : Addr) (m j : Nat) (hj : j ≠ 0) : w.cell? ⟨(ad.add m).block, (ad.add m).off + j, none⟩ = w.cell? (ad.add (m + j)) := by
  have h1 : (ad.add m).block = ad.block := by unfold Addr.add; split <;> rfl
  have h2 : (ad.add m).off = ad.off + m := by
    unfold Addr.add
    split
    · rename_i h; have h' : m = 0 := by simpa using h
      rw [h', Nat.add_zero]
    · rfl
  have h3 : ad.add (m + j) = ⟨ad.block, ad.off + (m + j), none⟩ := by
    unfold Addr.add
    split
    · rename_i h; have h' : m + j = 0 := by simpa using h
      omega
    · rfl
  rw [h1, h2, h3, Nat.add_assoc]
structure Step where
  kind : Int
  at_ : Int
  many : Int
  odd : Int
  torn : Int
  c : Int
  picks : List Bool
def stepK : Kd Step := Kd.iso (Kd.pair (Kd.int .i64) (Kd.pair (Kd.int .i64) (Kd.pair (Kd.int .i64) (Kd.pair (Kd.int .i64) (Kd.pair (Kd.int .i64) (Kd.pair (Kd.int .u8) (Kd.slice 4 Kd.bool))))))) (fun s => (s.kind, s.at_, s.many, s.odd, s.torn, s.c, s.picks))
def goodStep (s : Step) : Prop := s.picks.length ≤ 140737488351232 ∧ (Lit.int .u8 s.c).wf = true ∧ (Lit.int .i64 s.at_).wf = true ∧ (Lit.int .i64 s.many).wf = true ∧ (Lit.int .i64 s.odd).wf = true ∧ (Lit.int .i64 s.torn).wf = true
theorem opens_step : Opens Try.prog 30 stepK goodStep := by
  refine Opens.mono (opens_iso _ (fun x => ⟨x.1, x.2.1, x.2.2.1, x.2.2.2.1, x.2.2.2.2.1, x.2.2.2.2.2.1, x.2.2.2.2.2.2⟩) (fun _ => rfl) (opens_struct Try.underlying30 rfl (opensF_cons (opens_int Try.underlying3) (by kernel_rfl) (opensF_cons (opens_int Try.underlying3) (by kernel_rfl) (opensF_cons (opens_int Try.underlying3) (by kernel_rfl) (opensF_cons (opens_int Try.underlying3) (by kernel_rfl) (opensF_cons (opens_int Try.underlying3) (by kernel_rfl) (opensF_cons (opens_int Try.underlying5) (by kernel_rfl) (opensF_one (opens_slice Try.underlying23 (opens_bool Try.underlying4) (by kernel_rfl) (by_ := 1) (by kernel_rfl)) (by kernel_rfl)) rfl) rfl) rfl) rfl) rfl) rfl) (by kernel_rfl))) (fun x h => ⟨by have h1 : x.picks.length * 1 ≤ 140737488351232 := h.2.2.2.2.2.2.1; omega, h.2.2.2.2.2.1, h.2.1, h.2.2.1, h.2.2.2.1, h.2.2.2.2.1⟩)
theorem opens_steps : Opens Try.prog 22 (Kd.slice 30 stepK) (fun l => ∀ s ∈ l, goodStep s) :=
  Opens.mono (opens_slice Try.underlying22 opens_step (by kernel_rfl) rfl) (fun x h => h.2)
def sobj (s : Step) (A : Option Addr) (c : Nat) : Array Value := #[.int .i64 s.kind, .int .i64 s.at_, .int .i64 s.many, .int .i64 s.odd, .int .i64 s.torn, .int .u8 s.c, .slice A s.picks.length c]
theorem step_at {W : World} {A : Option Addr} {l : List Step} (h : Kd.C stepK W A l.length l) (i : Nat) (hi : i < l.length) :
    ∃ ad A' c', A = some ad ∧ (∀ j u, (sobj l[i] A' c')[j]? = some u → W.cell? (ad.add (i * 7 + j)) = some u) ∧ Kd.C Kd.bool W A' l[i].picks.length l[i].picks ∧ l[i].picks.length ≤ c' := by
  obtain ⟨ad, hA, hc⟩ := h.2.2 (by omega)
  obtain ⟨c, hl, hk, hcell⟩ := hc i l[i] (List.getElem?_eq_getElem hi)
  obtain ⟨_, _, rfl, rfl, _, _, rfl, rfl, _, _, rfl, rfl, _, _, rfl, rfl, _, _, rfl, rfl, _, _, rfl, rfl, A', c', rfl, hcap, hC⟩ := hk
  exact ⟨ad, A', c', hA, fun j u hu => hcell j u (by simpa [sobj] using hu), hC, hcap⟩
theorem picks_of {w : World} {A : Option Addr} {l : List Bool} (h : Kd.C Kd.bool w A l.length l) : Picks w A l ∧ ∀ ad, A = some ad → l ≠ [] → ad.block < w.heap.size := by
  have key : ∀ i (hi : i < l.length), ∃ ad, A = some ad ∧ w.cell? (ad.add i) = some (.bool l[i]) := by
    intro i hi
    obtain ⟨ad, hA, hc⟩ := h.2.2 (by omega)
    obtain ⟨c, hl, hk, hcell⟩ := hc i l[i] (List.getElem?_eq_getElem hi)
    have hk' : c = [.bool l[i]] := hk
    subst hk'
    have := hcell 0 _ rfl
    refine ⟨ad, hA, ?_⟩
    rw [show i * Kd.bool.sz + 0 = i from by rw [show Kd.bool.sz = 1 from rfl]; omega] at this
    exact this
  refine ⟨key, fun ad hA hne => ?_⟩
  obtain ⟨ad', hA', hc⟩ := key 0 (List.length_pos_iff.2 hne)
  rw [hA] at hA'
  obtain rfl := Option.some.inj hA'
  have hb : (ad.add 0).block = ad.block := by unfold Addr.add; split <;> rfl
  unfold World.cell? at hc
  rw [hb] at hc
  rcases Nat.lt_or_ge ad.block w.heap.size with h1 | h1
  · exact h1
  · rw [Array.getElem?_eq_none h1] at hc
    simp at hc
/-- The seven cells of a step, in a later world. -/
theorem step_cells {W wr : World} {ad : Addr} {i : Nat} {s : Step} {A' : Option Addr} {c' : Nat} (hcell : ∀ j u, (sobj s A' c')[j]? = some u → W.cell? (ad.add (i * 7 + j)) = some u) (hBW : Below W.heap.size W wr) :
    wr.cell? (ad.add (i * 7)) = some (.int .i64 s.kind) ∧ wr.cell? ⟨(ad.add (i * 7)).block, (ad.add (i * 7)).off + 1, none⟩ = some (.int .i64 s.at_) ∧ wr.cell? ⟨(ad.add (i * 7)).block, (ad.add (i * 7)).off + 2, none⟩ = some (.int .i64 s.many) ∧
    wr.cell? ⟨(ad.add (i * 7)).block, (ad.add (i * 7)).off + 3, none⟩ = some (.int .i64 s.odd) ∧ wr.cell? ⟨(ad.add (i * 7)).block, (ad.add (i * 7)).off + 4, none⟩ = some (.int .i64 s.torn) ∧ wr.cell? ⟨(ad.add (i * 7)).block, (ad.add (i * 7)).off + 5, none⟩ = some (.int .u8 s.c) ∧
    wr.cell? ⟨(ad.add (i * 7)).block, (ad.add (i * 7)).off + 6, none⟩ = some (.slice A' s.picks.length c') := by
  have hold : ∀ j u, (sobj s A' c')[j]? = some u → wr.cell? (ad.add (i * 7 + j)) = some u := fun j u hu => by
    have hW := hcell j u hu
    rw [← hW]
    exact World.cell?_of_block (hBW.block _ (World.block_lt_of_cell? W _ hW))
  have hx := cell_sub wr ad (i * 7)
  exact ⟨hold 0 _ rfl, (hx 1 (by decide)).trans (hold 1 _ rfl), (hx 2 (by decide)).trans (hold 2 _ rfl), (hx 3 (by decide)).trans (hold 3 _ rfl), (hx 4 (by decide)).trans (hold 4 _ rfl), (hx 5 (by decide)).trans (hold 5 _ rfl), (hx 6 (by decide)).trans (hold 6 _ rfl)⟩
end Go.Proofs.Ytobhnababkpcbaa.Dev
