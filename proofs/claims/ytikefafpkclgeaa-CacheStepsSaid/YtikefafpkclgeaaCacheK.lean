/- Steps as the laws take them. -/
import Derived.Test.YtikefafpkclgeaaCacheV
import Derived.Test.YtikefafpkclgeaaOpen
set_option linter.unusedVariables false
set_option linter.unusedSimpArgs false
namespace Go.Proofs.Ytikefafpkclgeaa.Cache
open Go.RowKit Go.Proofs.YtikefafpkclgeaaW.PrintWords Go.Proofs.YtikefafpkclgeaaW.PrintLast Go.Proofs.YtikefafpkclgeaaW.PrintMore Go.Proofs.Ytikefafpkclgeaa.Maps Go.Proofs.Ytikefafpkclgeaa.CacheS Go.Proofs.Ytikefafpkclgeaa.Open
theorem cell_sub (w : World) (ad : Addr) (m j : Nat) (hj : j ≠ 0) : w.cell? ⟨(ad.add m).block, (ad.add m).off + j, none⟩ = w.cell? (ad.add (m + j)) := by
  have h1 : (ad.add m).block = ad.block := by unfold Addr.add; split <;> rfl
  have h2 : (ad.add m).off = ad.off + m := by
    unfold Addr.add
    split
    · rename_i h; have h' : m = 0 := by simpa using h
      rw [h', Nat.add_zero]
    · rfl
  have h3 : ad.add (m + j) = ⟨ad.block, ad.off + (m + j), none⟩ := by
    unfold Addr.add
    split
    · rename_i h; have h' : m + j = 0 := by simpa using h
      omega
    · rfl
  rw [h1, h2, h3, Nat.add_assoc]
structure Step where
  kind : Int
  k : Int
  d : ByteArray
def stepK : Kd Step := Kd.iso (Kd.pair (Kd.int .i64) (Kd.pair (Kd.int .i64) Kd.string)) (fun s => (s.kind, s.k, s.d))
theorem opens_step : Opens Try.prog 30 stepK (fun _ => True) :=
  Opens.mono (opens_iso _ (fun x => ⟨x.1, x.2.1, x.2.2⟩) (fun _ => rfl) (opens_struct Try.underlying30 rfl (opensF_cons (opens_int Try.underlying3) (by kernel_rfl) (opensF_cons (opens_int Try.underlying3) (by kernel_rfl) (opensF_one (opens_string Try.underlying9) (by kernel_rfl)) rfl) rfl) (by kernel_rfl))) (fun _ _ => trivial)
theorem opens_steps : Opens Try.prog 22 (Kd.slice 30 stepK) (fun _ => True) :=
  Opens.mono (opens_slice Try.underlying22 opens_step (by kernel_rfl) rfl) (fun x h => trivial)
theorem step_at {W : World} {A : Option Addr} {l : List Step} (h : Kd.C stepK W A l.length l) {i : Nat} {s : Step} (hx : l[i]? = some s) :
    ∃ ad, A = some ad ∧ ∀ W', Below W.heap.size W W' → W'.cell? (ad.add (i * 3)) = some (.int .i64 s.kind) ∧ W'.cell? ⟨(ad.add (i * 3)).block, (ad.add (i * 3)).off + 1, none⟩ = some (.int .i64 s.k) ∧ W'.cell? ⟨(ad.add (i * 3)).block, (ad.add (i * 3)).off + 2, none⟩ = some (.string s.d) := by
  have hi : i < l.length := (List.getElem?_eq_some_iff.1 hx).1
  obtain ⟨ad, hA, hc⟩ := h.2.2 (by omega)
  obtain ⟨c, hl, hk, hcell⟩ := hc i s hx
  obtain ⟨_, _, rfl, rfl, _, _, rfl, rfl, rfl⟩ := hk
  refine ⟨ad, hA, fun W' hB => ⟨old_cell hB (hcell 0 _ rfl), ?_, ?_⟩⟩
  · rw [cell_sub W' ad (i * 3) 1 (by decide)]; exact old_cell hB (hcell 1 _ rfl)
  · rw [cell_sub W' ad (i * 3) 2 (by decide)]; exact old_cell hB (hcell 2 _ rfl)
def scells (s : Step) : Array Value := #[.int .i64 s.kind, .int .i64 s.k, .string s.d]
end Go.Proofs.Ytikefafpkclgeaa.Cache
