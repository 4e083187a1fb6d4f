/- The laws of sums as statements over bytes: what is sealed is opened; the small case that each law asks first. The contracts of the functions of sums, in the words of SumSpec: what each answers of a text of at most 2^50 bytes. -/
import Derived.Test.YtlmnfnkjbgnklaaSumEv
import Derived.KernelRfl
section
/- The laws of sums as statements over bytes: what is sealed is opened; the small case that each law asks first. -/
set_option linter.unusedVariables false
namespace Go.Proofs.Ytlmnfnkjbgnklaa.Ev
open Go.RowKit Go.Proofs.YtlmnfnkjbgnklaaW.PrintWords Go.Proofs.YtlmnfnkjbgnklaaW.PrintLast Go.Proofs.Ytlmnfnkjbgnklaa.Ps Go.Proofs.Ytlmnfnkjbgnklaa.Spec Go.Proofs.Ytlmnfnkjbgnklaa.Given

theorem open_seal (s : ByteArray) : openS (sealS s) = (s, 0) := by
  unfold openS
  have hs := sealS_size s
  have he : (sealS s).extract 0 ((sealS s).size - 4) = s := by
    apply data_inj
    rw [Go.Lib.extract_data, hs]
    unfold sealS
    rw [ByteArray.data_append, Array.toList_append]
    simp only [List.drop_zero, Nat.sub_zero, Nat.add_sub_cancel]
    rw [List.take_append_of_le_length (by rw [Array.length_toList]; exact Nat.le_refl _), List.take_of_length_le (by rw [Array.length_toList]; exact Nat.le_refl _)]
  rw [if_neg (by omega), he, if_pos rfl]

theorem byte_cast (n i : Nat) : ((n : Int) / 2 ^ (8 * i) % 256) = ((n / 2 ^ (8 * i) % 256 : Nat) : Int) := by
  rw [Int.natCast_emod, Int.natCast_ediv, Int.natCast_pow]
  rfl
theorem num_le : ∀ (k : Nat) (n : Nat), n < 2 ^ (8 * k) → num ((strOfNums (le n k)).data.toList) = n
  | k, n, h => by
    rw [strOfNums_data]
    induction k generalizing n with
    | zero => simp [le, num]; omega
    | succ k ih =>
      rw [le_succ, List.map_append, List.map_cons, List.map_nil, num_snoc, List.length_map, le_length]
      have hp : 0 < 2 ^ (8 * k) := Nat.pow_pos (by decide)
      have h1 : num (List.map (fun n => UInt8.ofNat n.toNat) (le (n : Int) k)) = n % 2 ^ (8 * k) := by
        have e : le (n : Int) k = le ((n % 2 ^ (8 * k) : Nat) : Int) k := by
          unfold le
          apply List.map_congr_left
          intro i hi
          have hik : i < k := List.mem_range.mp hi
          have hsplit : 2 ^ (8 * k) = 2 ^ (8 * i) * (256 * 2 ^ (8 * (k - i - 1))) := by
            rw [show (256 : Nat) = 2 ^ 8 from rfl, ← Nat.pow_add, ← Nat.pow_add]
            congr 1
            omega
          have hn : ((n / 2 ^ (8 * i)) % 256 : Nat) = (n % 2 ^ (8 * k) / 2 ^ (8 * i)) % 256 := by
            rw [hsplit, Nat.mod_mul_right_div_self, Nat.mod_mul_right_mod]
          show ((n : Int) / 2 ^ (8 * i) % 256) = (((n % 2 ^ (8 * k) : Nat) : Int) / 2 ^ (8 * i) % 256)
          rw [byte_cast, byte_cast, hn]
        rw [e]
        exact ih _ (Nat.mod_lt _ hp)
      have h2 : (UInt8.ofNat ((n : Int) / 2 ^ (8 * k) % 256).toNat).toNat = n / 2 ^ (8 * k) := by
        have hlt : n / 2 ^ (8 * k) < 256 := by
          rw [Nat.div_lt_iff_lt_mul hp]
          have : 2 ^ (8 * (k + 1)) = 256 * 2 ^ (8 * k) := by rw [show 8 * (k + 1) = 8 + 8 * k from by omega, Nat.pow_add]
          omega
        have e : ((n : Int) / 2 ^ (8 * k) % 256).toNat = n / 2 ^ (8 * k) % 256 := by
          rw [byte_cast, Int.toNat_natCast]
        rw [e, Nat.mod_eq_of_lt hlt]
        rw [UInt8.toNat_ofNat']
        exact Nat.mod_eq_of_lt hlt
      rw [h1, h2]
      have := Nat.mod_add_div n (2 ^ (8 * k))
      rw [Nat.mul_comm (n / 2 ^ (8 * k))]
      exact this

theorem drop_app (a b : List UInt8) (n : Nat) (h : a.length = n) : (a ++ b).drop n = b := by subst h; exact List.drop_left
theorem take_app (a b : List UInt8) (n : Nat) (h : a.length = n) : (a ++ b).take n = a := by subst h; exact List.take_left

/-- There and back: what was laid in a block is taken out. -/
theorem unblock_block (s : ByteArray) (h : s.size ≤ 122) : unblockS (blockS s).1 = (s, 0) := by
  have hsz := blockS_size s h
  have hb : (blockS s).1 = sealS (strOfNums (le s.size 2) ++ s ++ zeros (122 - s.size)) := by unfold blockS; rw [if_neg (by omega)]
  have h2 : (strOfNums (le (s.size : Int) 2)).data.toList.length = 2 := by rw [strOfNums_data, List.length_map, le_length]
  have hd : (blockS s).1.data.toList = (strOfNums (le s.size 2)).data.toList ++ (s.data.toList ++ ((zeros (122 - s.size)).data.toList ++ (strOfNums (le (crc (strOfNums (le s.size 2) ++ s ++ zeros (122 - s.size))) 4)).data.toList)) := by
    rw [hb]
    unfold sealS
    simp only [ByteArray.data_append, Array.toList_append, List.append_assoc]
  have hl : low2 (blockS s).1 = s.size := by
    unfold low2
    rw [hd, take_app _ _ 2 h2]
    exact num_le 2 s.size (by omega)
  have he : (blockS s).1.extract 2 (2 + s.size) = s := by
    apply data_inj
    rw [Go.Lib.extract_data, hd, drop_app _ _ 2 h2, Nat.add_sub_cancel_left, take_app _ _ s.size (by rw [Array.length_toList]; rfl)]
  have ho : (openS (blockS s).1).2 = 0 := by rw [hb, open_seal]
  unfold unblockS
  rw [if_neg (by omega), if_neg (by omega), hl, if_neg (by omega), he, if_pos rfl]

/-- The small case: a block of two letters, the sum of nine digits. -/
theorem crc_digits : crc (⟨#[49, 50, 51, 52, 53, 54, 55, 56, 57]⟩ : ByteArray) = 3808858755 := by kernel_rfl
end Go.Proofs.Ytlmnfnkjbgnklaa.Ev
end

section
/- The contracts of the functions of sums, in the words of SumSpec: what each answers of a text of at most 2^50 bytes. -/
set_option linter.unusedVariables false
set_option linter.unusedSimpArgs false
namespace Go.Proofs.Ytlmnfnkjbgnklaa.C
open Go.RowKit Go.Proofs.YtlmnfnkjbgnklaaW.PrintWords Go.Proofs.YtlmnfnkjbgnklaaW.PrintLast Go.Proofs.Ytlmnfnkjbgnklaa.Spec Go.Proofs.Ytlmnfnkjbgnklaa.Ev

def lim {α : Type} (s : ByteArray) (r : α) : Option α := if s.size ≤ 1125899906842624 then some r else none
theorem lim_some {α : Type} {s : ByteArray} {r r' : α} (h : lim s r = some r') : s.size ≤ 1125899906842624 ∧ r = r' := by
  unfold lim at h
  by_cases hs : s.size ≤ 1125899906842624
  · rw [if_pos hs] at h
    exact ⟨hs, Option.some.inj h⟩
  · rw [if_neg hs] at h
    cases h
theorem lim_ok {α : Type} {s : ByteArray} (r : α) (h : s.size ≤ 1125899906842624) : lim s r = some r := if_pos h

def sum_Of.f (s : ByteArray) : Option Int := lim s (crc s : Int)
def sum_Seal.f (s : ByteArray) : Option ByteArray := lim s (sealS s)
def sum_Open.f (s : ByteArray) : Option (ByteArray × Int) := lim s (openS s)
def sum_Block.f (s : ByteArray) : Option (ByteArray × Int) := lim s (blockS s)
def sum_Unblock.f (s : ByteArray) : Option (ByteArray × Int) := lim s (unblockS s)
theorem sum_Of.calls (a0 : ByteArray) (r : Int) (w : World) (h : sum_Of.f a0 = some r) :
    Calls Try.prog 62 #[.string a0] w fun e w' => e = .returned (.int .i64 r) ∧ Drawn0 w w' := by
  obtain ⟨hs, rfl⟩ := lim_some h
  obtain ⟨k, hk⟩ := (of_ev a0 (by omega)).rounds
  exact Ps.sum_Of.calls k a0 _ w hk
theorem sum_Block.calls (a0 : ByteArray) (r1 : ByteArray) (r2 : Int) (w : World) (h : sum_Block.f a0 = some (r1, r2)) :
    Calls Try.prog 37 #[.string a0] w fun e w' => e = .returned (.tuple #[.string r1, .int .i64 r2]) ∧ Below w.heap.size w w' := by
  obtain ⟨hs, h2⟩ := lim_some h
  obtain ⟨k, hk⟩ := (block_ev a0 hs).rounds
  exact Ps.sum_Block.calls k a0 r1 r2 w (by rw [hk, h2])
theorem sum_Seal.calls (a0 : ByteArray) (r : ByteArray) (w : World) (h : sum_Seal.f a0 = some r) : Calls Try.prog 50 #[.string a0] w fun e w' => e = .returned (.string r) ∧ Below w.heap.size w w' := by obtain ⟨hs, rfl⟩ := lim_some h; obtain ⟨k, hk⟩ := (seal_ev a0 hs).rounds; exact Ps.sum_Seal.calls k a0 _ w hk
theorem sum_Open.calls (a0 : ByteArray) (r1 : ByteArray) (r2 : Int) (w : World) (h : sum_Open.f a0 = some (r1, r2)) :
    Calls Try.prog 64 #[.string a0] w fun e w' => e = .returned (.tuple #[.string r1, .int .i64 r2]) ∧ Below w.heap.size w w' := by
  obtain ⟨hs, h2⟩ := lim_some h
  obtain ⟨k, hk⟩ := (open_ev a0 hs).rounds
  exact Ps.sum_Open.calls k a0 r1 r2 w (by rw [hk, h2])
theorem sum_Unblock.calls (a0 : ByteArray) (r1 : ByteArray) (r2 : Int) (w : World) (h : sum_Unblock.f a0 = some (r1, r2)) :
    Calls Try.prog 54 #[.string a0] w fun e w' => e = .returned (.tuple #[.string r1, .int .i64 r2]) ∧ Below w.heap.size w w' := by
  obtain ⟨hs, h2⟩ := lim_some h
  obtain ⟨k, hk⟩ := (unblock_ev a0 hs).rounds
  exact Ps.sum_Unblock.calls k a0 r1 r2 w (by rw [hk, h2])

def cartularyref03_Block.f (s : ByteArray) : Option (ByteArray × Int) := lim s (blockS s)
def cartularyref03_Unblock.f (s : ByteArray) : Option (ByteArray × Int) := lim s (unblockS s)
theorem cartularyref03_Block.calls (a0 : ByteArray) (r1 : ByteArray) (r2 : Int) (w : World) (h : cartularyref03_Block.f a0 = some (r1, r2)) :
    Calls Try.prog 39 #[.string a0] w fun e w' => e = .returned (.tuple #[.string r1, .int .i64 r2]) ∧ Below w.heap.size w w' := by
  obtain ⟨hs, h2⟩ := lim_some h
  obtain ⟨k, hk⟩ := (rblock_ev a0 hs).rounds
  exact Ps.cartularyref03_Block.calls k a0 r1 r2 w (by rw [hk, h2])
theorem cartularyref03_Unblock.calls (a0 : ByteArray) (r1 : ByteArray) (r2 : Int) (w : World) (h : cartularyref03_Unblock.f a0 = some (r1, r2)) :
    Calls Try.prog 43 #[.string a0] w fun e w' => e = .returned (.tuple #[.string r1, .int .i64 r2]) ∧ Below w.heap.size w w' := by
  obtain ⟨hs, h2⟩ := lim_some h
  obtain ⟨k, hk⟩ := (runblock_ev a0 hs).rounds
  exact Ps.cartularyref03_Unblock.calls k a0 r1 r2 w (by rw [hk, h2])
def cartularyref02_Fixed.f (n s : Int) : Option ByteArray := if 0 ≤ n then (if n ≤ 9223372036854775807 then (if 0 ≤ s then (if s ≤ 8 then some (strOfNums (le n s.toNat)) else none) else none) else none) else none
theorem rf_some {n s : Int} {r : ByteArray} (h : cartularyref02_Fixed.f n s = some r) : 0 ≤ n ∧ n ≤ 9223372036854775807 ∧ (∃ m : Nat, s = m ∧ m ≤ 8 ∧ r = strOfNums (le n m)) := by
  unfold cartularyref02_Fixed.f at h
  repeat' split at h
  · rename_i h1 h2 h3 h4
    exact ⟨h1, h2, s.toNat, by omega, by omega, (Option.some.inj h).symm⟩
  all_goals cases h
theorem cartularyref02_Fixed.calls (a0 a1 : Int) (r : ByteArray) (w : World) (h : cartularyref02_Fixed.f a0 a1 = some r) :
    Calls Try.prog 40 #[.int .i64 a0, .int .i64 a1] w fun e w' => e = .returned (.string r) ∧ Below w.heap.size w w' := by
  obtain ⟨h1, h2, m, rfl, h4, rfl⟩ := rf_some h
  obtain ⟨k, hk⟩ := (rfixed_ev a0 h1 h2 m h4).rounds
  exact Ps.cartularyref02_Fixed.calls k a0 m _ w hk
end Go.Proofs.Ytlmnfnkjbgnklaa.C
end
