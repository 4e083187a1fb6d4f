/- The sum is linear: of texts that are xored, and what it says of a text of which some bits in a row were turned. -/
import Derived.Test.YtgolpihbkjadkaaSumLaws
set_option linter.unusedVariables false
set_option linter.unusedSimpArgs false
namespace Go.Proofs.Ytgolpihbkjadkaa.Spec
open Go.RowKit Go.Proofs.YtgolpihbkjadkaaW.PrintWords

theorem div2_xor (a b : Nat) : (a ^^^ b) / 2 = a / 2 ^^^ b / 2 := by
  have h := Nat.shiftRight_xor_distrib (a := a) (b := b) (i := 1)
  simpa [Nat.shiftRight_eq_div_pow] using h
theorem mod2_xor (a b : Nat) : (a ^^^ b) % 2 = (a % 2 + b % 2) % 2 := by
  have h := Nat.xor_mod_two_pow (a := a) (b := b) (n := 1)
  simp only [Nat.pow_one] at h
  rw [h]
  rcases Nat.mod_two_eq_zero_or_one a with h1 | h1 <;> rcases Nat.mod_two_eq_zero_or_one b with h2 | h2 <;> rw [h1, h2] <;> rfl
theorem xor4 (a b p : Nat) : (a ^^^ p) ^^^ (b ^^^ p) = a ^^^ b := by
  rw [Nat.xor_comm b p, ← Nat.xor_assoc, Nat.xor_assoc a p p, Nat.xor_self, Nat.xor_zero]
theorem st_xor (a b : Nat) : st (a ^^^ b) = st a ^^^ st b := by
  unfold st
  have hm := mod2_xor a b
  rcases Nat.mod_two_eq_zero_or_one a with h1 | h1 <;> rcases Nat.mod_two_eq_zero_or_one b with h2 | h2 <;> rw [h1, h2] at hm <;> rw [div2_xor]
  · rw [if_neg (by omega), if_neg (by omega), if_neg (by omega)]
  · rw [if_pos (by omega), if_neg (by omega), if_pos h2, Nat.xor_assoc]
  · rw [if_pos (by omega), if_pos h1, if_neg (by omega), Nat.xor_assoc, Nat.xor_assoc, Nat.xor_comm (b / 2)]
  · rw [if_neg (by omega), if_pos h1, if_pos h2, xor4]
theorem stN_xor : ∀ (n a b : Nat), stN n (a ^^^ b) = stN n a ^^^ stN n b
  | 0, _, _ => rfl
  | n + 1, a, b => by simp only [stN]; rw [st_xor, stN_xor n]
theorem stN_zero : ∀ n, stN n 0 = 0
  | 0 => rfl
  | n + 1 => by simp only [stN]; exact stN_zero n
theorem st_even (a : Nat) : st (2 * a) = a := by unfold st; rw [if_neg (by omega)]; omega
theorem stN_shift : ∀ (n a : Nat), stN n (2 ^ n * a) = a
  | 0, a => by simp [stN]
  | n + 1, a => by
    simp only [stN]
    rw [Nat.pow_succ, Nat.mul_comm (2 ^ n) 2, Nat.mul_assoc, st_even]
    exact stN_shift n a
theorem stN_add : ∀ (n m a : Nat), stN (n + m) a = stN m (stN n a)
  | 0, m, a => by rw [Nat.zero_add]; rfl
  | n + 1, m, a => by rw [Nat.succ_add]; simp only [stN]; exact stN_add n m (st a)
theorem st_inj {a : Nat} (ha : a < 4294967296) (h : st a = 0) : a = 0 := by
  unfold st at h
  by_cases h1 : a % 2 = 1
  · rw [if_pos h1] at h
    have h2 : a / 2 = 2197175160 := by
      have h3 : (a / 2 ^^^ 2197175160) ^^^ 2197175160 = 2197175160 := by rw [h, Nat.zero_xor]
      rwa [Nat.xor_assoc, Nat.xor_self, Nat.xor_zero] at h3
    omega
  · rw [if_neg h1] at h
    omega
theorem stN_inj : ∀ (n : Nat) {a : Nat}, a < 4294967296 → stN n a = 0 → a = 0
  | 0, _, _, h => h
  | n + 1, _, ha, h => st_inj ha (stN_inj n (st_lt ha) h)
theorem stN_cancel (n : Nat) {a b : Nat} (ha : a < 4294967296) (hb : b < 4294967296) (h : stN n a = stN n b) : a = b := by
  have h1 : stN n (a ^^^ b) = 0 := by rw [stN_xor, h, Nat.xor_self]
  have h2 := stN_inj n (xor_lt32 ha hb) h1
  have h3 : (a ^^^ b) ^^^ b = b := by rw [h2, Nat.zero_xor]
  rwa [Nat.xor_assoc, Nat.xor_self, Nat.xor_zero] at h3
/-- One byte ahead of a number. -/
theorem byte_join (b n : Nat) (hb : b < 256) : b + 256 * n = b ^^^ (2 ^ 8 * n) := by
  have h := nat_join 8 (2 ^ 8 * n) b (Nat.mul_mod_right _ _) (by omega)
  apply Nat.eq_of_testBit_eq
  intro i
  have e : b + 256 * n = 2 ^ 8 * n ||| b := by rw [h]; omega
  rw [e, Nat.testBit_or, Nat.testBit_xor, Nat.testBit_two_pow_mul]
  by_cases hi : 8 ≤ i
  · have : b.testBit i = false := Nat.testBit_lt_two_pow (Nat.lt_of_lt_of_le hb (by have := Nat.pow_le_pow_right (n := 2) (by omega) hi; omega))
    simp [this]
  · simp [hi]
theorem fold_nil (c : Nat) : crcFold c [] = c := rfl
theorem fold_cons (c : Nat) (b : UInt8) (l : List UInt8) : crcFold c (b :: l) = crcFold (stN 8 (c ^^^ b.toNat)) l := rfl
/-- THE SUM OF BYTES, AS ONE NUMBER. -/
theorem crcFold_num : ∀ (l : List UInt8) (c : Nat), crcFold c l = stN (8 * l.length) (c ^^^ num l)
  | [], c => by rw [fold_nil, num, Nat.xor_zero]; rfl
  | b :: l, c => by
    rw [fold_cons, crcFold_num l, num, byte_join _ _ b.toNat_lt, ← Nat.xor_assoc, List.length_cons, show 8 * (l.length + 1) = 8 + 8 * l.length from by omega, stN_add, stN_xor 8 (c ^^^ b.toNat) (2 ^ 8 * num l), stN_shift]
theorem num_inj : ∀ (l m : List UInt8), l.length = m.length → num l = num m → l = m
  | [], [], _, _ => rfl
  | [], _ :: _, h, _ => by simp at h
  | _ :: _, [], h, _ => by simp at h
  | a :: l, b :: m, h, e => by
    simp only [num] at e
    have ha := a.toNat_lt
    have hb := b.toNat_lt
    have h1 : a.toNat = b.toNat := by omega
    have h2 : num l = num m := by omega
    rw [UInt8.toNat_inj.1 h1, num_inj l m (by simpa using h) h2]
def res : Nat := stN 32 4294967295
/-- A text is sealed just where its sum, with what it was sealed with, is one number. -/
theorem sealed_iff (y : ByteArray) (h : 4 ≤ y.size) : sealS (y.extract 0 (y.size - 4)) = y ↔ crcFold 4294967295 y.data.toList = res := by
  have hsp := split_at y (y.size - 4) (by omega)
  have hp : (y.extract 0 (y.size - 4)).size = y.size - 4 := by rw [ByteArray.size_extract]; omega
  have hq : (y.extract (y.size - 4) y.size).size = 4 := by rw [ByteArray.size_extract]; omega
  generalize y.extract 0 (y.size - 4) = p at hsp hp ⊢
  generalize y.extract (y.size - 4) y.size = q at hsp hq
  have hql : q.data.toList.length = 4 := by rw [← size_eq]; exact hq
  have hc : crcFold 4294967295 y.data.toList = stN 32 (crcFold 4294967295 p.data.toList ^^^ num q.data.toList) := by
    have fold_app : ∀ (a b : List UInt8) (c : Nat), crcFold c (a ++ b) = crcFold (crcFold c a) b := by
      intro a
      induction a with
      | nil => intro b c; rfl
      | cons x a ih => intro b c; rw [List.cons_append, fold_cons, fold_cons, ih]
    rw [← hsp, ByteArray.data_append, Array.toList_append, fold_app, crcFold_num q.data.toList, hql]
  have hn := num_lt q.data.toList
  rw [hql] at hn
  have hlt := crcFold_lt p.data.toList (c := 4294967295) (by omega)
  have key : sealS p = y ↔ num q.data.toList = crc p := by
    have hs : (strOfNums (le (crc p) 4)).size = 4 := by rw [strOfNums_size, le_length]
    constructor
    · intro e
      unfold sealS at e
      rw [← hsp] at e
      have := (append_inj e (by rfl)).2
      rw [← this]
      exact Ev.num_le 4 (crc p) (by have := crc_lt p; omega)
    · intro e
      have : q = strOfNums (le (crc p) 4) := by
        apply data_inj
        refine num_inj _ _ (by rw [hql, ← size_eq, hs]) ?_
        rw [e]
        exact (Ev.num_le 4 (crc p) (by have := crc_lt p; omega)).symm
      unfold sealS
      rw [← this, hsp]
  rw [key, hc]
  unfold res crc
  constructor
  · intro e
    rw [e, ← Nat.xor_assoc, Nat.xor_self, Nat.zero_xor]
  · intro e
    have h1 := stN_cancel 32 (xor_lt32 hlt (by omega)) (by omega) e
    have h2 : crcFold 4294967295 p.data.toList ^^^ (crcFold 4294967295 p.data.toList ^^^ num q.data.toList) = crcFold 4294967295 p.data.toList ^^^ 4294967295 := by rw [h1]
    rwa [← Nat.xor_assoc, Nat.xor_self, Nat.zero_xor] at h2
/-- WHAT WAS TURNED IS FOUND. -/
theorem turned_not {t y : ByteArray} {p k : Nat} (ht : crcFold 4294967295 t.data.toList = res) (hs : y.size = t.size) (hn : num y.data.toList = num t.data.toList ^^^ (2 ^ k * p)) (hp : 0 < p) (hp2 : p < 4294967296) (hk : k + 32 ≤ 8 * t.size) (h4 : 4 ≤ t.size) : openS y = (⟨#[]⟩, 30) := by
  unfold openS
  rw [if_neg (by omega)]
  refine if_neg (fun e => ?_)
  have h := (sealed_iff y (by omega)).1 e
  rw [crcFold_num] at h ht
  have hl : y.data.toList.length = t.data.toList.length := by rw [← size_eq, ← size_eq]; exact hs
  rw [hl, hn, ← Nat.xor_assoc, stN_xor, ht] at h
  have h0 : stN (8 * t.data.toList.length) (2 ^ k * p) = 0 := by
    have h3 : res ^^^ (res ^^^ stN (8 * t.data.toList.length) (2 ^ k * p)) = res ^^^ res := by rw [h]
    rwa [← Nat.xor_assoc, Nat.xor_self, Nat.zero_xor] at h3
  have hz : t.data.toList.length = t.size := (size_eq t).symm
  rw [show 8 * t.data.toList.length = k + (8 * t.size - k) from by omega, stN_add, stN_shift] at h0
  have := stN_inj _ hp2 h0
  omega
/-- THE SUM IS MIXED AS THE BYTES ARE. -/
theorem mixed_sum (x a b c : ByteArray) (ha : a.size = x.size) (hb : b.size = x.size) (hc : c.size = x.size) (hn : num x.data.toList = num a.data.toList ^^^ num b.data.toList ^^^ num c.data.toList) : crc x = crc a ^^^ crc b ^^^ crc c := by
  unfold crc
  rw [crcFold_num, crcFold_num, crcFold_num, crcFold_num, ← size_eq, ← size_eq, ← size_eq, ← size_eq, ha, hb, hc, hn]
  simp only [stN_xor]
  generalize stN (8 * x.size) 4294967295 = f
  generalize stN (8 * x.size) (num a.data.toList) = p
  generalize stN (8 * x.size) (num b.data.toList) = q
  generalize stN (8 * x.size) (num c.data.toList) = r
  apply Nat.eq_of_testBit_eq
  intro i
  simp only [Nat.testBit_xor]
  cases f.testBit i <;> cases p.testBit i <;> cases q.testBit i <;> cases r.testBit i <;> cases Nat.testBit 4294967295 i <;> rfl
end Go.Proofs.Ytgolpihbkjadkaa.Spec
