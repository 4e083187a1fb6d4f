/- What sums, sealed texts and blocks are: plain functions on bytes, no program in sight. -/
import Derived.Test.YtlmnfnkjbgnklaaWMore
import Derived.Laws.BitsAllLaws
import Derived.Lib.Strings
set_option linter.unusedVariables false
set_option linter.unusedSimpArgs false
namespace Go.Proofs.Ytlmnfnkjbgnklaa.Spec
open Go.RowKit Go.Proofs.YtlmnfnkjbgnklaaW.PrintWords

def st (c : Nat) : Nat := if c % 2 = 1 then (c / 2) ^^^ 2197175160 else c / 2
def stN : Nat → Nat → Nat
  | 0, c => c
  | n + 1, c => stN n (st c)
def crcFold : Nat → List UInt8 → Nat
  | c, [] => c
  | c, b :: bs => crcFold (stN 8 (c ^^^ b.toNat)) bs
def crc (s : ByteArray) : Nat := crcFold 4294967295 s.data.toList ^^^ 4294967295

theorem xor_lt32 {a b : Nat} (ha : a < 4294967296) (hb : b < 4294967296) : a ^^^ b < 4294967296 := Nat.xor_lt_two_pow (n := 32) ha hb
theorem st_lt {c : Nat} (h : c < 4294967296) : st c < 4294967296 := by
  unfold st
  split
  · exact xor_lt32 (by omega) (by omega)
  · omega
theorem stN_lt : ∀ (n : Nat) {c : Nat}, c < 4294967296 → stN n c < 4294967296
  | 0, _, h => h
  | n + 1, _, h => stN_lt n (st_lt h)
theorem crcFold_lt : ∀ (l : List UInt8) {c : Nat}, c < 4294967296 → crcFold c l < 4294967296
  | [], _, h => h
  | b :: bs, _, h => crcFold_lt bs (stN_lt 8 (xor_lt32 h (by have := b.toNat_lt; omega)))
theorem crc_lt (s : ByteArray) : crc s < 4294967296 := xor_lt32 (crcFold_lt _ (by omega)) (by omega)

theorem i64_xor_nat (a b : Nat) (ha : a < 9223372036854775808) (hb : b < 9223372036854775808) : Go.bits .xor .i64 (a : Int) (b : Int) = ((a ^^^ b : Nat) : Int) := by
  have hx : a ^^^ b < 2 ^ 63 := Nat.xor_lt_two_pow (by omega) (by omega)
  show IntKind.i64.wrap ((BitVec.ofInt 64 (a : Int) ^^^ BitVec.ofInt 64 (b : Int)).toNat : Int) = _
  rw [BitVec.toNat_xor, ofInt_u64 a (by omega), ofInt_u64 b (by omega), IntKind.wrap_i64]
  omega
theorem i64_or_nat (a b : Nat) (ha : a < 9223372036854775808) (hb : b < 9223372036854775808) : Go.bits .or .i64 (a : Int) (b : Int) = ((a ||| b : Nat) : Int) := by
  have hx : a ||| b < 2 ^ 63 := Nat.or_lt_two_pow (by omega) (by omega)
  show IntKind.i64.wrap ((BitVec.ofInt 64 (a : Int) ||| BitVec.ofInt 64 (b : Int)).toNat : Int) = _
  rw [BitVec.toNat_or, ofInt_u64 a (by omega), ofInt_u64 b (by omega), IntKind.wrap_i64]
  omega

/-- One bit, as the program has it. -/
theorem st_u32 (c : Nat) (h : c < 4294967296) : Go.bits .xor .u32 ((c : Int) / 2) (Go.bits .and .u32 2197175160 ((-(Go.bits .and .u32 (c : Int) 1)) % 4294967296)) = (st c : Int) := by
  have h1 : Go.bits .and .u32 (c : Int) 1 = ((c % 2 : Nat) : Int) := by
    have := u32_and_nat c 1 h (by omega)
    rw [nat_mask1] at this
    exact this
  have hd : ((c : Int) / 2) = ((c / 2 : Nat) : Int) := by omega
  rw [h1, hd]
  unfold st
  rcases Nat.mod_two_eq_zero_or_one c with h0 | h0
  · rw [h0, if_neg (by omega)]
    have : Go.bits .and .u32 2197175160 ((-((0 : Nat) : Int)) % 4294967296) = ((0 : Nat) : Int) := by decide
    rw [this, u32_xor_nat _ _ (by omega) (by omega), Nat.xor_zero]
  · rw [h0, if_pos rfl]
    have : Go.bits .and .u32 2197175160 ((-((1 : Nat) : Int)) % 4294967296) = ((2197175160 : Nat) : Int) := by decide
    rw [this, u32_xor_nat _ _ (by omega) (by omega)]

theorem wrap_id {n : Int} (h0 : -9223372036854775808 ≤ n) (h1 : n ≤ 9223372036854775807) : wrap64 n = n := by unfold wrap64; omega

/-- A byte of a text. -/
theorem bt_nat (s : ByteArray) (i : Nat) (h : i < s.size) : bt s (i : Int) = ((s[i]'h).toNat : Int) := (bt_at s i h).symm
theorem drop_cons (s : ByteArray) (i : Nat) (h : i < s.size) : s.data.toList.drop i = (s[i]'h) :: s.data.toList.drop (i + 1) := by
  have h' : i < s.data.toList.length := by rw [Array.length_toList]; exact h
  rw [List.drop_eq_getElem_cons h']
  rfl

theorem toList_eq_iff (a b : ByteArray) : a.toList = b.toList ↔ a = b := by
  constructor
  · intro h
    rw [Go.Lib.toList_data, Go.Lib.toList_data] at h
    exact ByteArray.ext (Array.toList_inj.mp h)
  · intro h
    rw [h]
theorem data_inj {a b : ByteArray} (h : a.data.toList = b.data.toList) : a = b := ByteArray.ext (Array.toList_inj.mp h)
theorem split_at (s : ByteArray) (n : Nat) (h : n ≤ s.size) : s.extract 0 n ++ s.extract n s.size = s := by
  apply data_inj
  rw [ByteArray.data_append, Array.toList_append, Go.Lib.extract_data, Go.Lib.extract_data]
  simp only [List.drop_zero, Nat.sub_zero]
  rw [List.take_of_length_le (l := List.drop n _) (by rw [List.length_drop, Array.length_toList]; exact Nat.le_refl _), List.take_append_drop]
theorem append_inj {a b c d : ByteArray} (h : a ++ b = c ++ d) (hs : a.size = c.size) : a = c ∧ b = d := by
  have h1 := congrArg (fun x => x.data.toList) h
  simp only [ByteArray.data_append, Array.toList_append] at h1
  have := List.append_inj h1 (by rw [Array.length_toList, Array.length_toList]; exact hs)
  exact ⟨data_inj this.1, data_inj this.2⟩
theorem size_eq (s : ByteArray) : s.size = s.data.toList.length := by rw [Array.length_toList]; rfl
theorem strOfNums_append (a b : List Int) : strOfNums a ++ strOfNums b = strOfNums (a ++ b) := by
  apply data_inj
  rw [ByteArray.data_append, Array.toList_append, strOfNums_data, strOfNums_data, strOfNums_data, List.map_append]

/-- A number's bytes, lowest first. -/
def le (n : Int) (s : Nat) : List Int := (List.range s).map fun i => (n / 2 ^ (8 * i)) % 256

def sealS (s : ByteArray) : ByteArray := s ++ strOfNums (le (crc s) 4)
def openS (s : ByteArray) : ByteArray × Int :=
  if s.size < 4 then (⟨#[]⟩, 20) else if sealS (s.extract 0 (s.size - 4)) = s then (s.extract 0 (s.size - 4), 0) else (⟨#[]⟩, 30)
theorem le_length (n : Int) (k : Nat) : (le n k).length = k := by simp [le]
theorem sealS_size (s : ByteArray) : (sealS s).size = s.size + 4 := by rw [sealS, ByteArray.size_append, strOfNums_size, le_length]
def zeros (n : Nat) : ByteArray := strOfNums (List.replicate n 0)
def blockS (s : ByteArray) : ByteArray × Int :=
  if 122 < s.size then (⟨#[]⟩, 2) else (sealS (strOfNums (le s.size 2) ++ s ++ zeros (122 - s.size)), 0)
theorem zeros_size (n : Nat) : (zeros n).size = n := by rw [zeros, strOfNums_size, List.length_replicate]
theorem blockS_size (s : ByteArray) (h : s.size ≤ 122) : (blockS s).1.size = 128 := by
  unfold blockS
  rw [if_neg (by omega)]
  simp only [sealS_size, ByteArray.size_append, strOfNums_size, le_length, zeros_size]
  omega
/-- The number that bytes make, lowest first. -/
def num : List UInt8 → Nat
  | [] => 0
  | b :: bs => b.toNat + 256 * num bs
theorem num_lt : ∀ l : List UInt8, num l < 2 ^ (8 * l.length)
  | [] => by simp [num]
  | b :: bs => by
    have h1 := num_lt bs
    have h2 := b.toNat_lt
    have h3 : 2 ^ (8 * (b :: bs).length) = 256 * 2 ^ (8 * bs.length) := by
      rw [List.length_cons, show 8 * (bs.length + 1) = 8 + 8 * bs.length from by omega, Nat.pow_add]
    rw [h3, num]
    omega
theorem num_snoc (l : List UInt8) (b : UInt8) : num (l ++ [b]) = num l + b.toNat * 2 ^ (8 * l.length) := by
  induction l with
  | nil => simp [num]
  | cons a l ih =>
    rw [List.cons_append, num, ih, num, List.length_cons, show 8 * (l.length + 1) = 8 + 8 * l.length from by omega, Nat.pow_add]
    rw [Nat.mul_add, ← Nat.add_assoc, show b.toNat * (2 ^ 8 * 2 ^ (8 * l.length)) = 256 * (b.toNat * 2 ^ (8 * l.length)) from by rw [Nat.mul_left_comm]]
theorem take_snoc (s : ByteArray) (i : Nat) (h : i < s.size) : s.data.toList.take (i + 1) = s.data.toList.take i ++ [s[i]'h] := by
  have h' : i < s.data.toList.length := by rw [Array.length_toList]; exact h
  rw [List.take_succ_eq_append_getElem h']
  rfl
/-- One byte more, as the program's reader has it. -/
theorem or_step (x i b : Nat) (hi : i ≤ 7) (hx : x < 2 ^ (8 * i)) (hb : b < 256) :
    Go.bits .or .i64 (wrap64 (x : Int)) (IntKind.i64.wrap ((b : Int) * 2 ^ (8 * i))) = wrap64 ((x + b * 2 ^ (8 * i) : Nat) : Int) := by
  have hp : 2 ^ (8 * i) ≤ 2 ^ 56 := Nat.pow_le_pow_right (by omega) (by omega)
  have hbp : b * 2 ^ (8 * i) < 18446744073709551616 := Nat.lt_of_le_of_lt (Nat.mul_le_mul (show b ≤ 255 by omega) hp) (by omega)
  have h1 : (BitVec.ofInt 64 (wrap64 (x : Int))).toNat = x := by
    rw [show wrap64 (x : Int) = (x : Int) from wrap_id (by omega) (by omega)]
    exact ofInt_u64 x (by omega)
  have h2 : (BitVec.ofInt 64 (IntKind.i64.wrap ((b : Int) * 2 ^ (8 * i)))).toNat = b * 2 ^ (8 * i) := by
    rw [IntKind.wrap_i64, BitVec.toNat_ofInt]
    have : ((b : Int) * 2 ^ (8 * i)) = ((b * 2 ^ (8 * i) : Nat) : Int) := by simp
    rw [this]
    omega
  show IntKind.i64.wrap ((BitVec.ofInt 64 (wrap64 (x : Int)) ||| BitVec.ofInt 64 (IntKind.i64.wrap ((b : Int) * 2 ^ (8 * i)))).toNat : Int) = _
  rw [BitVec.toNat_or, h1, h2, Nat.or_comm, nat_join (8 * i) (b * 2 ^ (8 * i)) x (Nat.mul_mod_left _ _) hx, Nat.add_comm, IntKind.wrap_i64]
  unfold wrap64
  exact Eq.refl _

/-- The number that the first two bytes make. -/
def low2 (b : ByteArray) : Nat := num (b.data.toList.take 2)
def unblockS (b : ByteArray) : ByteArray × Int :=
  if b.size ≠ 128 then (⟨#[]⟩, 4) else if (openS b).2 ≠ 0 then (⟨#[]⟩, (openS b).2) else if 122 < low2 b then (⟨#[]⟩, 4) else if (blockS (b.extract 2 (2 + low2 b))).1 = b then (b.extract 2 (2 + low2 b), 0) else (⟨#[]⟩, 4)

end Go.Proofs.Ytlmnfnkjbgnklaa.Spec
