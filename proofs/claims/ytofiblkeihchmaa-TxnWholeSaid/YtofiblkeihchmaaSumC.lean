
/- The contracts of the functions of sums, in the words of SumSpec: what each answers of a text of at most 2^50 bytes. -/
import Derived.Test.YtofiblkeihchmaaSumLaws
set_option linter.unusedVariables false
set_option linter.unusedSimpArgs false
namespace Go.Proofs.Ytofiblkeihchmaa.C
open Go.RowKit Go.Proofs.YtofiblkeihchmaaW.PrintWords Go.Proofs.YtofiblkeihchmaaW.PrintLast Go.Proofs.Ytofiblkeihchmaa.Spec Go.Proofs.Ytofiblkeihchmaa.Ev

def lim {α : Type} (s : ByteArray) (r : α) : Option α := if s.size ≤ 1125899906842624 then some r else none
theorem lim_some {α : Type} {s : ByteArray} {r r' : α} (h : lim s r = some r') : s.size ≤ 1125899906842624 ∧ r = r' := by
  unfold lim at h
  by_cases hs : s.size ≤ 1125899906842624
  · rw [if_pos hs] at h
    exact ⟨hs, Option.some.inj h⟩
  · rw [if_neg hs] at h
    cases h
theorem lim_ok {α : Type} {s : ByteArray} (r : α) (h : s.size ≤ 1125899906842624) : lim s r = some r := if_pos h

def sum_Of.f (s : ByteArray) : Option Int := lim s (crc s : Int)
def sum_Seal.f (s : ByteArray) : Option ByteArray := lim s (sealS s)
def sum_Open.f (s : ByteArray) : Option (ByteArray × Int) := lim s (openS s)
def sum_Block.f (s : ByteArray) : Option (ByteArray × Int) := lim s (blockS s)
def sum_Unblock.f (s : ByteArray) : Option (ByteArray × Int) := lim s (unblockS s)
theorem sum_Of.calls (a0 : ByteArray) (r : Int) (w : World) (h : sum_Of.f a0 = some r) :
    Calls Try.prog 29 #[.string a0] w fun e w' => e = .returned (.int .i64 r) ∧ Drawn0 w w' := by
  obtain ⟨hs, rfl⟩ := lim_some h
  obtain ⟨k, hk⟩ := (of_ev a0 (by omega)).rounds
  exact Ps.sum_Of.calls k a0 _ w hk
theorem sum_Block.calls (a0 : ByteArray) (r1 : ByteArray) (r2 : Int) (w : World) (h : sum_Block.f a0 = some (r1, r2)) :
    Calls Try.prog 31 #[.string a0] w fun e w' => e = .returned (.tuple #[.string r1, .int .i64 r2]) ∧ Below w.heap.size w w' := by
  obtain ⟨hs, h2⟩ := lim_some h
  obtain ⟨k, hk⟩ := (block_ev a0 hs).rounds
  exact Ps.sum_Block.calls k a0 r1 r2 w (by rw [hk, h2])
theorem sum_Seal.calls (a0 : ByteArray) (r : ByteArray) (w : World) (h : sum_Seal.f a0 = some r) : Calls Try.prog 44 #[.string a0] w fun e w' => e = .returned (.string r) ∧ Below w.heap.size w w' := by obtain ⟨hs, rfl⟩ := lim_some h; obtain ⟨k, hk⟩ := (seal_ev a0 hs).rounds; exact Ps.sum_Seal.calls k a0 _ w hk
theorem sum_Open.calls (a0 : ByteArray) (r1 : ByteArray) (r2 : Int) (w : World) (h : sum_Open.f a0 = some (r1, r2)) :
    Calls Try.prog 46 #[.string a0] w fun e w' => e = .returned (.tuple #[.string r1, .int .i64 r2]) ∧ Below w.heap.size w w' := by
  obtain ⟨hs, h2⟩ := lim_some h
  obtain ⟨k, hk⟩ := (open_ev a0 hs).rounds
  exact Ps.sum_Open.calls k a0 r1 r2 w (by rw [hk, h2])
theorem sum_Unblock.calls (a0 : ByteArray) (r1 : ByteArray) (r2 : Int) (w : World) (h : sum_Unblock.f a0 = some (r1, r2)) :
    Calls Try.prog 33 #[.string a0] w fun e w' => e = .returned (.tuple #[.string r1, .int .i64 r2]) ∧ Below w.heap.size w w' := by
  obtain ⟨hs, h2⟩ := lim_some h
  obtain ⟨k, hk⟩ := (unblock_ev a0 hs).rounds
  exact Ps.sum_Unblock.calls k a0 r1 r2 w (by rw [hk, h2])

end Go.Proofs.Ytofiblkeihchmaa.C
