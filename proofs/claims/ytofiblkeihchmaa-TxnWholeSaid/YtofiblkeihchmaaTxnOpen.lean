/- Changes and texts that came in. -/
import Derived.Test.YtofiblkeihchmaaTxnS
import Derived.Test.YtofiblkeihchmaaOpen
set_option linter.unusedVariables false
set_option linter.unusedSimpArgs false
namespace Go.Proofs.Ytofiblkeihchmaa.Txn
open Go.RowKit Go.Proofs.YtofiblkeihchmaaW.PrintWords Go.Proofs.YtofiblkeihchmaaW.PrintLast Go.Proofs.YtofiblkeihchmaaW.PrintMore Go.Proofs.Ytofiblkeihchmaa.TxnS Go.Proofs.Ytofiblkeihchmaa.Open
def chK : Kd Ch := Kd.pair (Kd.int .i64) Kd.string
def goodCh (c : Ch) : Prop := (Lit.int .i64 c.1).wf = true ∧ c.2.size ≤ 140737488351232
theorem opens_ch : Opens Try.prog 39 chK goodCh :=
  opens_struct Try.underlying39 rfl (opensF_cons (opens_int Try.underlying3) (by kernel_rfl) (opensF_one (opens_string Try.underlying9) (by kernel_rfl)) rfl) (by kernel_rfl)
def goodL (l : List Ch) : Prop := l.length ≤ 140737488351232 ∧ ∀ c ∈ l, goodCh c
def goodT (l : List ByteArray) : Prop := l.length ≤ 8796093021952 ∧ ∀ s ∈ l, s.size ≤ 140737488351232
theorem opens_changes : Opens Try.prog 22 (Kd.slice 39 chK) goodL :=
  Opens.mono (opens_slice Try.underlying22 opens_ch (by kernel_rfl) (by_ := 24) (by kernel_rfl)) (fun x h => ⟨by have h1 : x.length * 24 ≤ 140737488351232 := h.1; omega, h.2⟩)
theorem opens_texts : Opens Try.prog 32 (Kd.slice 9 Kd.string) goodT :=
  Opens.mono (opens_slice Try.underlying32 (opens_string Try.underlying9) (by kernel_rfl) (by_ := 16) (by kernel_rfl)) (fun x h => ⟨by have h1 : x.length * 16 ≤ 140737488351232 := h.1; omega, h.2⟩)
theorem chs_of {W : World} {A : Option Addr} {n cp : Nat} {l : List Ch} (h : (Kd.slice 39 chK).K W l [.slice A n cp]) : n = l.length ∧ Chs W A l := by
  obtain ⟨A1, c1, he, hcc, hC⟩ := h
  obtain ⟨rfl, rfl, rfl⟩ : A = A1 ∧ n = l.length ∧ cp = c1 := by simpa using he
  refine ⟨rfl, fun i hi => ?_⟩
  obtain ⟨ad, hA, hc⟩ := hC.2.2 (by omega)
  obtain ⟨c, hl, hk, hcell⟩ := hc i l[i] (List.getElem?_eq_getElem hi)
  obtain ⟨_, _, rfl, rfl, rfl⟩ := hk
  refine ⟨ad, hA, ?_, ?_⟩
  · exact hcell 0 _ rfl
  · rw [cell_sub W ad _ 1 (by decide)]
    exact hcell 1 _ rfl
theorem strs_of {W : World} {A : Option Addr} {n cp : Nat} {l : List ByteArray} (h : (Kd.slice 9 Kd.string).K W l [.slice A n cp]) : n = l.length ∧ Strs W A l := by
  obtain ⟨A1, c1, he, hcc, hC⟩ := h
  obtain ⟨rfl, rfl, rfl⟩ : A = A1 ∧ n = l.length ∧ cp = c1 := by simpa using he
  refine ⟨rfl, fun i hi => ?_⟩
  obtain ⟨ad, hA, hc⟩ := hC.2.2 (by omega)
  obtain ⟨c, hl, hk, hcell⟩ := hc i l[i] (List.getElem?_eq_getElem hi)
  have hk' : c = [.string l[i]] := hk
  subst hk'
  refine ⟨ad, hA, ?_⟩
  have := hcell 0 _ rfl
  rw [show i * Kd.string.sz + 0 = i from by rw [show Kd.string.sz = 1 from rfl]; omega] at this
  exact this
end Go.Proofs.Ytofiblkeihchmaa.Txn
