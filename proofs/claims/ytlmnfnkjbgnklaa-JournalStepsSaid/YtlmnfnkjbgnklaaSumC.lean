/- The contracts of the functions of sums, in the words of SumSpec: what each answers of a text of at most 2^50 bytes. -/
import Derived.Test.YtlmnfnkjbgnklaaSumLaws
set_option linter.unusedVariables false
set_option linter.unusedSimpArgs false
namespace Go.Proofs.Ytlmnfnkjbgnklaa.C
open Go.RowKit Go.Proofs.YtlmnfnkjbgnklaaW.PrintWords Go.Proofs.YtlmnfnkjbgnklaaW.PrintLast Go.Proofs.Ytlmnfnkjbgnklaa.Spec Go.Proofs.Ytlmnfnkjbgnklaa.Ev

def lim {α : Type} (s : ByteArray) (r : α) : Option α := if s.size ≤ 1125899906842624 then some r else none
theorem lim_some {α : Type} {s : ByteArray} {r r' : α} (h : lim s r = some r') : s.size ≤ 1125899906842624 ∧ r = r' := by
  unfold lim at h
  by_cases hs : s.size ≤ 1125899906842624
  · rw [if_pos hs] at h
    exact ⟨hs, Option.some.inj h⟩
  · rw [if_neg hs] at h
    cases h
theorem lim_ok {α : Type} {s : ByteArray} (r : α) (h : s.size ≤ 1125899906842624) : lim s r = some r := if_pos h

def sum_Of.f (s : ByteArray) : Option Int := lim s (crc s : Int)
def sum_Seal.f (s : ByteArray) : Option ByteArray := lim s (sealS s)
def sum_Open.f (s : ByteArray) : Option (ByteArray × Int) := lim s (openS s)
def sum_Block.f (s : ByteArray) : Option (ByteArray × Int) := lim s (blockS s)
def sum_Unblock.f (s : ByteArray) : Option (ByteArray × Int) := lim s (unblockS s)
theorem sum_Of.calls (a0 : ByteArray) (r : Int) (w : World) (h : sum_Of.f a0 = some r) :
    Calls Try.prog 62 #[.string a0] w fun e w' => e = .returned (.int .i64 r) ∧ Drawn0 w w' := by
  obtain ⟨hs, rfl⟩ := lim_some h
  obtain ⟨k, hk⟩ := (of_ev a0 (by omega)).rounds
  exact Ps.sum_Of.calls k a0 _ w hk
theorem sum_Block.calls (a0 : ByteArray) (r1 : ByteArray) (r2 : Int) (w : World) (h : sum_Block.f a0 = some (r1, r2)) :
    Calls Try.prog 37 #[.string a0] w fun e w' => e = .returned (.tuple #[.string r1, .int .i64 r2]) ∧ Below w.heap.size w w' := by
  obtain ⟨hs, h2⟩ := lim_some h
  obtain ⟨k, hk⟩ := (block_ev a0 hs).rounds
  exact Ps.sum_Block.calls k a0 r1 r2 w (by rw [hk, h2])
theorem sum_Seal.calls (a0 : ByteArray) (r : ByteArray) (w : World) (h : sum_Seal.f a0 = some r) : Calls Try.prog 50 #[.string a0] w fun e w' => e = .returned (.string r) ∧ Below w.heap.size w w' := by obtain ⟨hs, rfl⟩ := lim_some h; obtain ⟨k, hk⟩ := (seal_ev a0 hs).rounds; exact Ps.sum_Seal.calls k a0 _ w hk
theorem sum_Open.calls (a0 : ByteArray) (r1 : ByteArray) (r2 : Int) (w : World) (h : sum_Open.f a0 = some (r1, r2)) :
    Calls Try.prog 64 #[.string a0] w fun e w' => e = .returned (.tuple #[.string r1, .int .i64 r2]) ∧ Below w.heap.size w w' := by
  obtain ⟨hs, h2⟩ := lim_some h
  obtain ⟨k, hk⟩ := (open_ev a0 hs).rounds
  exact Ps.sum_Open.calls k a0 r1 r2 w (by rw [hk, h2])
theorem sum_Unblock.calls (a0 : ByteArray) (r1 : ByteArray) (r2 : Int) (w : World) (h : sum_Unblock.f a0 = some (r1, r2)) :
    Calls Try.prog 54 #[.string a0] w fun e w' => e = .returned (.tuple #[.string r1, .int .i64 r2]) ∧ Below w.heap.size w w' := by
  obtain ⟨hs, h2⟩ := lim_some h
  obtain ⟨k, hk⟩ := (unblock_ev a0 hs).rounds
  exact Ps.sum_Unblock.calls k a0 r1 r2 w (by rw [hk, h2])

def cartularyref03_Block.f (s : ByteArray) : Option (ByteArray × Int) := lim s (blockS s)
def cartularyref03_Unblock.f (s : ByteArray) : Option (ByteArray × Int) := lim s (unblockS s)
theorem cartularyref03_Block.calls (a0 : ByteArray) (r1 : ByteArray) (r2 : Int) (w : World) (h : cartularyref03_Block.f a0 = some (r1, r2)) :
    Calls Try.prog 39 #[.string a0] w fun e w' => e = .returned (.tuple #[.string r1, .int .i64 r2]) ∧ Below w.heap.size w w' := by
  obtain ⟨hs, h2⟩ := lim_some h
  obtain ⟨k, hk⟩ := (rblock_ev a0 hs).rounds
  exact Ps.cartularyref03_Block.calls k a0 r1 r2 w (by rw [hk, h2])
theorem cartularyref03_Unblock.calls (a0 : ByteArray) (r1 : ByteArray) (r2 : Int) (w : World) (h : cartularyref03_Unblock.f a0 = some (r1, r2)) :
    Calls Try.prog 43 #[.string a0] w fun e w' => e = .returned (.tuple #[.string r1, .int .i64 r2]) ∧ Below w.heap.size w w' := by
  obtain ⟨hs, h2⟩ := lim_some h
  obtain ⟨k, hk⟩ := (runblock_ev a0 hs).rounds
  exact Ps.cartularyref03_Unblock.calls k a0 r1 r2 w (by rw [hk, h2])
def cartularyref02_Fixed.f (n s : Int) : Option ByteArray := if 0 ≤ n then (if n ≤ 9223372036854775807 then (if 0 ≤ s then (if s ≤ 8 then some (strOfNums (le n s.toNat)) else none) else none) else none) else none
theorem rf_some {n s : Int} {r : ByteArray} (h : cartularyref02_Fixed.f n s = some r) : 0 ≤ n ∧ n ≤ 9223372036854775807 ∧ (∃ m : Nat, s = m ∧ m ≤ 8 ∧ r = strOfNums (le n m)) := by
  unfold cartularyref02_Fixed.f at h
  repeat' split at h
  · rename_i h1 h2 h3 h4
    exact ⟨h1, h2, s.toNat, by omega, by omega, (Option.some.inj h).symm⟩
  all_goals cases h
theorem cartularyref02_Fixed.calls (a0 a1 : Int) (r : ByteArray) (w : World) (h : cartularyref02_Fixed.f a0 a1 = some r) :
    Calls Try.prog 40 #[.int .i64 a0, .int .i64 a1] w fun e w' => e = .returned (.string r) ∧ Below w.heap.size w w' := by
  obtain ⟨h1, h2, m, rfl, h4, rfl⟩ := rf_some h
  obtain ⟨k, hk⟩ := (rfixed_ev a0 h1 h2 m h4).rounds
  exact Ps.cartularyref02_Fixed.calls k a0 m _ w hk
end Go.Proofs.Ytlmnfnkjbgnklaa.C
