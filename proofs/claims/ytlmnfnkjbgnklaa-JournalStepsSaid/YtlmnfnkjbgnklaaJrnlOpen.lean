/- Steps of journals, as they lie in memory. -/
import Derived.Test.YtlmnfnkjbgnklaaJrnlK
import Derived.Test.YtlmnfnkjbgnklaaOpen
set_option linter.unusedVariables false
set_option linter.unusedSimpArgs false
namespace Go.Proofs.Ytlmnfnkjbgnklaa.Jrnl
open Go.RowKit Go.Proofs.YtlmnfnkjbgnklaaW.PrintWords Go.Proofs.YtlmnfnkjbgnklaaW.PrintLast Go.Proofs.YtlmnfnkjbgnklaaW.PrintMore Go.Proofs.Ytlmnfnkjbgnklaa.TxnS Go.Proofs.Ytlmnfnkjbgnklaa.Txn Go.Proofs.Ytlmnfnkjbgnklaa.JS Go.Proofs.Ytlmnfnkjbgnklaa.Run Go.Proofs.Ytlmnfnkjbgnklaa.Open
theorem cell_sub (w : World) (ad : Addr) (m j : Nat) (hj : j ≠ 0) : w.cell? ⟨(ad.add m).block, (ad.add m).off + j, none⟩ = w.cell? (ad.add (m + j)) := by
  have h1 : (ad.add m).block = ad.block := by unfold Addr.add; split <;> rfl
  have h2 : (ad.add m).off = ad.off + m := by
    unfold Addr.add
    split
    · rename_i h; have h' : m = 0 := by simpa using h
      rw [h', Nat.add_zero]
    · rfl
  have h3 : ad.add (m + j) = ⟨ad.block, ad.off + (m + j), none⟩ := by
    unfold Addr.add
    split
    · rename_i h; have h' : m + j = 0 := by simpa using h
      omega
    · rfl
  rw [h1, h2, h3, Nat.add_assoc]
def chK : Kd Ch := Kd.pair (Kd.int .i64) Kd.string
def goodCh (c : Ch) : Prop := (Lit.int .i64 c.1).wf = true ∧ c.2.size ≤ 140737488351232
theorem opens_ch : Opens Try.prog 69 chK goodCh :=
  opens_struct Try.underlying69 rfl (opensF_cons (opens_int Try.underlying3) (by kernel_rfl) (opensF_one (opens_string Try.underlying9) (by kernel_rfl)) rfl) (by kernel_rfl)
def goodL (l : List Ch) : Prop := l.length ≤ 140737488351232 ∧ ∀ c ∈ l, goodCh c
theorem opens_changes : Opens Try.prog 31 (Kd.slice 69 chK) goodL :=
  Opens.mono (opens_slice Try.underlying31 opens_ch (by kernel_rfl) (by_ := 24) (by kernel_rfl)) (fun x h => ⟨by have h1 : x.length * 24 ≤ 140737488351232 := h.1; omega, h.2⟩)
theorem chs_of {W : World} {A : Option Addr} {n cp : Nat} {l : List Ch} (h : (Kd.slice 69 chK).K W l [.slice A n cp]) : n = l.length ∧ Chs W A l := by
  obtain ⟨A1, c1, he, hcc, hC⟩ := h
  obtain ⟨rfl, rfl, rfl⟩ : A = A1 ∧ n = l.length ∧ cp = c1 := by simpa using he
  refine ⟨rfl, fun i hi => ?_⟩
  obtain ⟨ad, hA, hc⟩ := hC.2.2 (by omega)
  obtain ⟨c, hl, hk, hcell⟩ := hc i l[i] (List.getElem?_eq_getElem hi)
  obtain ⟨_, _, rfl, rfl, rfl⟩ := hk
  refine ⟨ad, hA, ?_, ?_⟩
  · exact hcell 0 _ rfl
  · rw [cell_sub W ad _ 1 (by decide)]
    exact hcell 1 _ rfl
structure Stp where
  kind : Int
  k : Int
  l : List Ch
def stpK : Kd Stp := Kd.iso (Kd.pair (Kd.int .i64) (Kd.pair (Kd.int .i64) (Kd.slice 69 chK))) (fun s => (s.kind, s.k, s.l))
def goodS (s : Stp) : Prop := (Lit.int .i64 s.k).wf = true ∧ goodL s.l
theorem opens_stp : Opens Try.prog 33 stpK goodS := by
  refine Opens.mono (opens_iso _ (fun x => ⟨x.1, x.2.1, x.2.2⟩) (fun _ => rfl) (opens_struct Try.underlying33 rfl (opensF_cons (opens_int Try.underlying3) (by kernel_rfl) (opensF_cons (opens_int Try.underlying3) (by kernel_rfl) (opensF_one opens_changes (by kernel_rfl)) rfl) rfl) (by kernel_rfl))) (fun x h => ⟨h.2.1, h.2.2⟩)
theorem opens_steps : Opens Try.prog 22 (Kd.slice 33 stpK) (fun l => ∀ s ∈ l, goodS s) :=
  Opens.mono (opens_slice Try.underlying22 opens_stp (by kernel_rfl) rfl) (fun x h => h.2)
def sobj (s : Stp) (A : Option Addr) (c : Nat) : Array Value := #[.int .i64 s.kind, .int .i64 s.k, .slice A s.l.length c]
/-- Steps in memory. -/
def Stps (w : World) (A : Option Addr) (l : List Stp) : Prop := ∀ i (h : i < l.length), ∃ ad A' c', A = some ad ∧ (∀ j u, (sobj l[i] A' c')[j]? = some u → w.cell? (ad.add (i * 3 + j)) = some u) ∧ Chs w A' l[i].l
theorem Stps.below {w w' : World} {A : Option Addr} {l : List Stp} (h : Stps w A l) (hb : Below w.heap.size w w') : Stps w' A l := by
  intro i hi
  obtain ⟨ad, A', c', e, hc, hl⟩ := h i hi
  refine ⟨ad, A', c', e, fun j u hu => ?_, hl.below hb⟩
  have := hc j u hu
  exact (World.cell?_of_block (hb.block _ (World.block_lt_of_cell? w _ this))).trans this
theorem stps_of {W : World} {A : Option Addr} {n cp : Nat} {l : List Stp} (h : (Kd.slice 33 stpK).K W l [.slice A n cp]) : n = l.length ∧ Stps W A l := by
  obtain ⟨A1, c1, he, hcc, hC⟩ := h
  obtain ⟨rfl, rfl, rfl⟩ : A = A1 ∧ n = l.length ∧ cp = c1 := by simpa using he
  refine ⟨rfl, fun i hi => ?_⟩
  obtain ⟨ad, hA, hc⟩ := hC.2.2 (by omega)
  obtain ⟨c, hl, hk, hcell⟩ := hc i l[i] (List.getElem?_eq_getElem hi)
  obtain ⟨_, _, rfl, rfl, _, _, rfl, rfl, hk3⟩ := hk
  have hk4 := hk3
  obtain ⟨A', c', rfl, hcap, hC'⟩ := hk3
  exact ⟨ad, A', c', hA, fun j u hu => hcell j u (by simpa [sobj] using hu), (chs_of hk4).2⟩
theorem stp_cells {w : World} {ad : Addr} {i : Nat} {s : Stp} {A' : Option Addr} {c' : Nat} (h : ∀ j u, (sobj s A' c')[j]? = some u → w.cell? (ad.add (i * 3 + j)) = some u) :
    w.cell? (ad.add (i * 3)) = some (.int .i64 s.kind) ∧ w.cell? ⟨(ad.add (i * 3)).block, (ad.add (i * 3)).off + 1, none⟩ = some (.int .i64 s.k) ∧ w.cell? ⟨(ad.add (i * 3)).block, (ad.add (i * 3)).off + 2, none⟩ = some (.slice A' s.l.length c') := by
  refine ⟨h 0 _ rfl, ?_, ?_⟩
  · rw [cell_sub w ad _ 1 (by decide)]; exact h 1 _ rfl
  · rw [cell_sub w ad _ 2 (by decide)]; exact h 2 _ rfl
end Go.Proofs.Ytlmnfnkjbgnklaa.Jrnl
