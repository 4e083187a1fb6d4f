/- Messages and steps as the laws take them. -/
import Derived.Test.YtmledapichlhdaaBagV
import Derived.Test.YtmledapichlhdaaOpen
set_option linter.unusedVariables false
set_option linter.unusedSimpArgs false
namespace Go.Proofs.Ytmledapichlhdaa.Bag
open Go.RowKit Go.Proofs.YtmledapichlhdaaW.PrintWords Go.Proofs.YtmledapichlhdaaW.PrintLast Go.Proofs.YtmledapichlhdaaW.PrintMore Go.Proofs.Ytmledapichlhdaa.Maps Go.Proofs.Ytmledapichlhdaa.BagS Go.Proofs.Ytmledapichlhdaa.Open
theorem cell_sub (w : World) (ad : Addr) (m j : Nat) (hj : j ≠ 0) : w.cell? ⟨(ad.add m).block, (ad.add m).off + j, none⟩ = w.cell? (ad.add (m + j)) := by
  have h1 : (ad.add m).block = ad.block := by unfold Addr.add; split <;> rfl
  have h2 : (ad.add m).off = ad.off + m := by
    unfold Addr.add
    split
    · rename_i h; have h' : m = 0 := by simpa using h
      rw [h', Nat.add_zero]
    · rfl
  have h3 : ad.add (m + j) = ⟨ad.block, ad.off + (m + j), none⟩ := by
    unfold Addr.add
    split
    · rename_i h; have h' : m + j = 0 := by simpa using h
      omega
    · rfl
  rw [h1, h2, h3, Nat.add_assoc]
def msgK : Kd Msg := Kd.pair (Kd.int .i64) (Kd.pair (Kd.int .i64) Kd.string)
theorem opens_msg : Opens Try.prog 30 msgK (fun _ => True) :=
  Opens.mono (opens_struct Try.underlying30 rfl (opensF_cons (opens_int Try.underlying3) (by kernel_rfl) (opensF_cons (opens_int Try.underlying3) (by kernel_rfl) (opensF_one (opens_string Try.underlying9) (by kernel_rfl)) rfl) rfl) (by kernel_rfl)) (fun _ _ => trivial)
theorem opens_messages : Opens Try.prog 22 (Kd.slice 30 msgK) (fun _ => True) :=
  Opens.mono (opens_slice Try.underlying22 opens_msg (by kernel_rfl) rfl) (fun x h => trivial)
structure Step where
  kind : Int
  i : Int
  m : Msg
def stepK : Kd Step := Kd.iso (Kd.pair (Kd.int .i64) (Kd.pair (Kd.int .i64) msgK)) (fun s => (s.kind, s.i, s.m))
theorem opens_step : Opens Try.prog 40 stepK (fun _ => True) :=
  Opens.mono (opens_iso _ (fun x => ⟨x.1, x.2.1, x.2.2⟩) (fun _ => rfl) (opens_struct Try.underlying40 rfl (opensF_cons (opens_int Try.underlying3) (by kernel_rfl) (opensF_cons (opens_int Try.underlying3) (by kernel_rfl) (opensF_one opens_msg (by kernel_rfl)) rfl) rfl) (by kernel_rfl))) (fun _ _ => trivial)
theorem opens_steps : Opens Try.prog 35 (Kd.slice 40 stepK) (fun _ => True) :=
  Opens.mono (opens_slice Try.underlying35 opens_step (by kernel_rfl) rfl) (fun x h => trivial)
def scells (s : Step) : Array Value := #[.int .i64 s.kind, .int .i64 s.i, .int .i64 s.m.1, .int .i64 s.m.2.1, .string s.m.2.2]
/-- Elder cells stay. -/
theorem old_cell {W W' : World} (hB : Below W.heap.size W W') {p : Addr} {u : Value} (h : W.cell? p = some u) : W'.cell? p = some u := by
  rw [← h]
  exact World.cell?_of_block (hB.block _ (World.block_lt_of_cell? W _ h))
theorem msg_at {W : World} {A : Option Addr} {l : List Msg} (h : Kd.C msgK W A l.length l) {i : Nat} {x : Msg} (hx : l[i]? = some x) :
    ∃ ad, A = some ad ∧ ∀ W', Below W.heap.size W W' → W'.cell? (ad.add (i * 3)) = some (.int .i64 x.1) ∧ W'.cell? ⟨(ad.add (i * 3)).block, (ad.add (i * 3)).off + 1, none⟩ = some (.int .i64 x.2.1) ∧ W'.cell? ⟨(ad.add (i * 3)).block, (ad.add (i * 3)).off + 2, none⟩ = some (.string x.2.2) := by
  have hi : i < l.length := (List.getElem?_eq_some_iff.1 hx).1
  obtain ⟨ad, hA, hc⟩ := h.2.2 (by omega)
  obtain ⟨c, hl, hk, hcell⟩ := hc i x hx
  obtain ⟨_, _, rfl, rfl, _, _, rfl, rfl, rfl⟩ := hk
  refine ⟨ad, hA, fun W' hB => ⟨old_cell hB (hcell 0 _ rfl), ?_, ?_⟩⟩
  · rw [cell_sub W' ad (i * 3) 1 (by decide)]; exact old_cell hB (hcell 1 _ rfl)
  · rw [cell_sub W' ad (i * 3) 2 (by decide)]; exact old_cell hB (hcell 2 _ rfl)
theorem step_at {W : World} {A : Option Addr} {l : List Step} (h : Kd.C stepK W A l.length l) {i : Nat} {s : Step} (hx : l[i]? = some s) :
    ∃ ad, A = some ad ∧ ∀ W', Below W.heap.size W W' → W'.cell? (ad.add (i * 5)) = some (.int .i64 s.kind) ∧ W'.cell? ⟨(ad.add (i * 5)).block, (ad.add (i * 5)).off + 1, none⟩ = some (.int .i64 s.i) ∧ W'.cell? ⟨(ad.add (i * 5)).block, (ad.add (i * 5)).off + 2, none⟩ = some (.int .i64 s.m.1) ∧ W'.cell? ⟨(ad.add (i * 5)).block, (ad.add (i * 5)).off + 3, none⟩ = some (.int .i64 s.m.2.1) ∧ W'.cell? ⟨(ad.add (i * 5)).block, (ad.add (i * 5)).off + 4, none⟩ = some (.string s.m.2.2) := by
  have hi : i < l.length := (List.getElem?_eq_some_iff.1 hx).1
  obtain ⟨ad, hA, hc⟩ := h.2.2 (by omega)
  obtain ⟨c, hl, hk, hcell⟩ := hc i s hx
  obtain ⟨_, _, rfl, rfl, _, _, rfl, rfl, _, _, rfl, rfl, _, _, rfl, rfl, rfl⟩ := hk
  refine ⟨ad, hA, fun W' hB => ⟨old_cell hB (hcell 0 _ rfl), ?_, ?_, ?_, ?_⟩⟩
  · rw [cell_sub W' ad (i * 5) 1 (by decide)]; exact old_cell hB (hcell 1 _ rfl)
  · rw [cell_sub W' ad (i * 5) 2 (by decide)]; exact old_cell hB (hcell 2 _ rfl)
  · rw [cell_sub W' ad (i * 5) 3 (by decide)]; exact old_cell hB (hcell 3 _ rfl)
  · rw [cell_sub W' ad (i * 5) 4 (by decide)]; exact old_cell hB (hcell 4 _ rfl)
end Go.Proofs.Ytmledapichlhdaa.Bag
