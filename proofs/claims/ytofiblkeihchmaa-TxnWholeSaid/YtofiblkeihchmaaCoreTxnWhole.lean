/- The walk of the law TxnWhole. -/
import Derived.Test.YtofiblkeihchmaaSumLaws
import Derived.Test.YtofiblkeihchmaaSumC
import Derived.Lib.ConvBytes
import Derived.Laws.BytesArg
import Derived.Test.YtofiblkeihchmaaTxnBk
import Derived.Test.YtofiblkeihchmaaTxnOpen
section
/- The sum is linear: of texts that are xored, and what it says of a text of which some bits in a row were turned. -/
set_option linter.unusedVariables false
set_option linter.unusedSimpArgs false
namespace Go.Proofs.Ytofiblkeihchmaa.Spec
open Go.RowKit Go.Proofs.YtofiblkeihchmaaW.PrintWords

theorem div2_xor (a b : Nat) : (a ^^^ b) / 2 = a / 2 ^^^ b / 2 := by
  have h := Nat.shiftRight_xor_distrib (a := a) (b := b) (i := 1)
  simpa [Nat.shiftRight_eq_div_pow] using h
theorem mod2_xor (a b : Nat) : (a ^^^ b) % 2 = (a % 2 + b % 2) % 2 := by
  have h := Nat.xor_mod_two_pow (a := a) (b := b) (n := 1)
  simp only [Nat.pow_one] at h
  rw [h]
  rcases Nat.mod_two_eq_zero_or_one a with h1 | h1 <;> rcases Nat.mod_two_eq_zero_or_one b with h2 | h2 <;> rw [h1, h2] <;> rfl
theorem xor4 (a b p : Nat) : (a ^^^ p) ^^^ (b ^^^ p) = a ^^^ b := by
  rw [Nat.xor_comm b p, ← Nat.xor_assoc, Nat.xor_assoc a p p, Nat.xor_self, Nat.xor_zero]
theorem st_xor (a b : Nat) : st (a ^^^ b) = st a ^^^ st b := by
  unfold st
  have hm := mod2_xor a b
  rcases Nat.mod_two_eq_zero_or_one a with h1 | h1 <;> rcases Nat.mod_two_eq_zero_or_one b with h2 | h2 <;> rw [h1, h2] at hm <;> rw [div2_xor]
  · rw [if_neg (by omega), if_neg (by omega), if_neg (by omega)]
  · rw [if_pos (by omega), if_neg (by omega), if_pos h2, Nat.xor_assoc]
  · rw [if_pos (by omega), if_pos h1, if_neg (by omega), Nat.xor_assoc, Nat.xor_assoc, Nat.xor_comm (b / 2)]
  · rw [if_neg (by omega), if_pos h1, if_pos h2, xor4]
theorem stN_xor : ∀ (n a b : Nat), stN n (a ^^^ b) = stN n a ^^^ stN n b
  | 0, _, _ => rfl
  | n + 1, a, b => by simp only [stN]; rw [st_xor, stN_xor n]
theorem stN_zero : ∀ n, stN n 0 = 0
  | 0 => rfl
  | n + 1 => by simp only [stN]; exact stN_zero n
theorem st_even (a : Nat) : st (2 * a) = a := by unfold st; rw [if_neg (by omega)]; omega
theorem stN_shift : ∀ (n a : Nat), stN n (2 ^ n * a) = a
  | 0, a => by simp [stN]
  | n + 1, a => by
    simp only [stN]
    rw [Nat.pow_succ, Nat.mul_comm (2 ^ n) 2, Nat.mul_assoc, st_even]
    exact stN_shift n a
theorem stN_add : ∀ (n m a : Nat), stN (n + m) a = stN m (stN n a)
  | 0, m, a => by rw [Nat.zero_add]; rfl
  | n + 1, m, a => by rw [Nat.succ_add]; simp only [stN]; exact stN_add n m (st a)
theorem st_inj {a : Nat} (ha : a < 4294967296) (h : st a = 0) : a = 0 := by
  unfold st at h
  by_cases h1 : a % 2 = 1
  · rw [if_pos h1] at h
    have h2 : a / 2 = 2197175160 := by
      have h3 : (a / 2 ^^^ 2197175160) ^^^ 2197175160 = 2197175160 := by rw [h, Nat.zero_xor]
      rwa [Nat.xor_assoc, Nat.xor_self, Nat.xor_zero] at h3
    omega
  · rw [if_neg h1] at h
    omega
theorem stN_inj : ∀ (n : Nat) {a : Nat}, a < 4294967296 → stN n a = 0 → a = 0
  | 0, _, _, h => h
  | n + 1, _, ha, h => st_inj ha (stN_inj n (st_lt ha) h)
theorem stN_cancel (n : Nat) {a b : Nat} (ha : a < 4294967296) (hb : b < 4294967296) (h : stN n a = stN n b) : a = b := by
  have h1 : stN n (a ^^^ b) = 0 := by rw [stN_xor, h, Nat.xor_self]
  have h2 := stN_inj n (xor_lt32 ha hb) h1
  have h3 : (a ^^^ b) ^^^ b = b := by rw [h2, Nat.zero_xor]
  rwa [Nat.xor_assoc, Nat.xor_self, Nat.xor_zero] at h3
/-- One byte ahead of a number. -/
theorem byte_join (b n : Nat) (hb : b < 256) : b + 256 * n = b ^^^ (2 ^ 8 * n) := by
  have h := nat_join 8 (2 ^ 8 * n) b (Nat.mul_mod_right _ _) (by omega)
  apply Nat.eq_of_testBit_eq
  intro i
  have e : b + 256 * n = 2 ^ 8 * n ||| b := by rw [h]; omega
  rw [e, Nat.testBit_or, Nat.testBit_xor, Nat.testBit_two_pow_mul]
  by_cases hi : 8 ≤ i
  · have : b.testBit i = false := Nat.testBit_lt_two_pow (Nat.lt_of_lt_of_le hb (by have := Nat.pow_le_pow_right (n := 2) (by omega) hi; omega))
    simp [this]
  · simp [hi]
theorem fold_nil (c : Nat) : crcFold c [] = c := rfl
theorem fold_cons (c : Nat) (b : UInt8) (l : List UInt8) : crcFold c (b :: l) = crcFold (stN 8 (c ^^^ b.toNat)) l := rfl
/-- THE SUM OF BYTES, AS ONE NUMBER. -/
theorem crcFold_num : ∀ (l : List UInt8) (c : Nat), crcFold c l = stN (8 * l.length) (c ^^^ num l)
  | [], c => by rw [fold_nil, num, Nat.xor_zero]; rfl
  | b :: l, c => by
    rw [fold_cons, crcFold_num l, num, byte_join _ _ b.toNat_lt, ← Nat.xor_assoc, List.length_cons, show 8 * (l.length + 1) = 8 + 8 * l.length from by omega, stN_add, stN_xor 8 (c ^^^ b.toNat) (2 ^ 8 * num l), stN_shift]
theorem num_inj : ∀ (l m : List UInt8), l.length = m.length → num l = num m → l = m
  | [], [], _, _ => rfl
  | [], _ :: _, h, _ => by simp at h
  | _ :: _, [], h, _ => by simp at h
  | a :: l, b :: m, h, e => by
    simp only [num] at e
    have ha := a.toNat_lt
    have hb := b.toNat_lt
    have h1 : a.toNat = b.toNat := by omega
    have h2 : num l = num m := by omega
    rw [UInt8.toNat_inj.1 h1, num_inj l m (by simpa using h) h2]
def res : Nat := stN 32 4294967295
/-- A text is sealed just where its sum, with what it was sealed with, is one number. -/
theorem sealed_iff (y : ByteArray) (h : 4 ≤ y.size) : sealS (y.extract 0 (y.size - 4)) = y ↔ crcFold 4294967295 y.data.toList = res := by
  have hsp := split_at y (y.size - 4) (by omega)
  have hp : (y.extract 0 (y.size - 4)).size = y.size - 4 := by rw [ByteArray.size_extract]; omega
  have hq : (y.extract (y.size - 4) y.size).size = 4 := by rw [ByteArray.size_extract]; omega
  generalize y.extract 0 (y.size - 4) = p at hsp hp ⊢
  generalize y.extract (y.size - 4) y.size = q at hsp hq
  have hql : q.data.toList.length = 4 := by rw [← size_eq]; exact hq
  have hc : crcFold 4294967295 y.data.toList = stN 32 (crcFold 4294967295 p.data.toList ^^^ num q.data.toList) := by
    have fold_app : ∀ (a b : List UInt8) (c : Nat), crcFold c (a ++ b) = crcFold (crcFold c a) b := by
      intro a
      induction a with
      | nil => intro b c; rfl
      | cons x a ih => intro b c; rw [List.cons_append, fold_cons, fold_cons, ih]
    rw [← hsp, ByteArray.data_append, Array.toList_append, fold_app, crcFold_num q.data.toList, hql]
  have hn := num_lt q.data.toList
  rw [hql] at hn
  have hlt := crcFold_lt p.data.toList (c := 4294967295) (by omega)
  have key : sealS p = y ↔ num q.data.toList = crc p := by
    have hs : (strOfNums (le (crc p) 4)).size = 4 := by rw [strOfNums_size, le_length]
    constructor
    · intro e
      unfold sealS at e
      rw [← hsp] at e
      have := (append_inj e (by rfl)).2
      rw [← this]
      exact Ev.num_le 4 (crc p) (by have := crc_lt p; omega)
    · intro e
      have : q = strOfNums (le (crc p) 4) := by
        apply data_inj
        refine num_inj _ _ (by rw [hql, ← size_eq, hs]) ?_
        rw [e]
        exact (Ev.num_le 4 (crc p) (by have := crc_lt p; omega)).symm
      unfold sealS
      rw [← this, hsp]
  rw [key, hc]
  unfold res crc
  constructor
  · intro e
    rw [e, ← Nat.xor_assoc, Nat.xor_self, Nat.zero_xor]
  · intro e
    have h1 := stN_cancel 32 (xor_lt32 hlt (by omega)) (by omega) e
    have h2 : crcFold 4294967295 p.data.toList ^^^ (crcFold 4294967295 p.data.toList ^^^ num q.data.toList) = crcFold 4294967295 p.data.toList ^^^ 4294967295 := by rw [h1]
    rwa [← Nat.xor_assoc, Nat.xor_self, Nat.zero_xor] at h2
/-- WHAT WAS TURNED IS FOUND. -/
theorem turned_not {t y : ByteArray} {p k : Nat} (ht : crcFold 4294967295 t.data.toList = res) (hs : y.size = t.size) (hn : num y.data.toList = num t.data.toList ^^^ (2 ^ k * p)) (hp : 0 < p) (hp2 : p < 4294967296) (hk : k + 32 ≤ 8 * t.size) (h4 : 4 ≤ t.size) : openS y = (⟨#[]⟩, 30) := by
  unfold openS
  rw [if_neg (by omega)]
  refine if_neg (fun e => ?_)
  have h := (sealed_iff y (by omega)).1 e
  rw [crcFold_num] at h ht
  have hl : y.data.toList.length = t.data.toList.length := by rw [← size_eq, ← size_eq]; exact hs
  rw [hl, hn, ← Nat.xor_assoc, stN_xor, ht] at h
  have h0 : stN (8 * t.data.toList.length) (2 ^ k * p) = 0 := by
    have h3 : res ^^^ (res ^^^ stN (8 * t.data.toList.length) (2 ^ k * p)) = res ^^^ res := by rw [h]
    rwa [← Nat.xor_assoc, Nat.xor_self, Nat.zero_xor] at h3
  have hz : t.data.toList.length = t.size := (size_eq t).symm
  rw [show 8 * t.data.toList.length = k + (8 * t.size - k) from by omega, stN_add, stN_shift] at h0
  have := stN_inj _ hp2 h0
  omega
/-- THE SUM IS MIXED AS THE BYTES ARE. -/
theorem mixed_sum (x a b c : ByteArray) (ha : a.size = x.size) (hb : b.size = x.size) (hc : c.size = x.size) (hn : num x.data.toList = num a.data.toList ^^^ num b.data.toList ^^^ num c.data.toList) : crc x = crc a ^^^ crc b ^^^ crc c := by
  unfold crc
  rw [crcFold_num, crcFold_num, crcFold_num, crcFold_num, ← size_eq, ← size_eq, ← size_eq, ← size_eq, ha, hb, hc, hn]
  simp only [stN_xor]
  generalize stN (8 * x.size) 4294967295 = f
  generalize stN (8 * x.size) (num a.data.toList) = p
  generalize stN (8 * x.size) (num b.data.toList) = q
  generalize stN (8 * x.size) (num c.data.toList) = r
  apply Nat.eq_of_testBit_eq
  intro i
  simp only [Nat.testBit_xor]
  cases f.testBit i <;> cases p.testBit i <;> cases q.testBit i <;> cases r.testBit i <;> cases Nat.testBit 4294967295 i <;> rfl
end Go.Proofs.Ytofiblkeihchmaa.Spec
end

section
/- A row of bytes, as a number; one bit of it turned. -/
set_option linter.unusedVariables false
set_option linter.unusedSimpArgs false
namespace Go.Proofs.Ytofiblkeihchmaa.Row
open Go.RowKit Go.Proofs.YtofiblkeihchmaaW.PrintWords Go.Proofs.YtofiblkeihchmaaW.PrintLast Go.Proofs.YtofiblkeihchmaaW.PrintMore Go.Proofs.Ytofiblkeihchmaa.Spec
/-- The row of bytes at block g: the number X, byte by byte. -/
def Rw (w : World) (g n : Nat) (X : Nat) : Prop := ∃ C m, w.heap[g]? = some (.cells C 5 (m, m + 1)) ∧ n ≤ m ∧ ∀ j, j < n → C[j]? = some (.int .u8 ((X / 2 ^ (8 * j) % 256 : Nat) : Int))
theorem Rw.cell {w : World} {g n X j : Nat} (h : Rw w g n X) (hj : j < n) : w.cell? ⟨g, j, none⟩ = some (.int .u8 ((X / 2 ^ (8 * j) % 256 : Nat) : Int)) := by
  obtain ⟨C, m, hg, hm, hc⟩ := h
  unfold World.cell?
  rw [hg]
  exact hc j hj
theorem Rw.froz {w : World} {g n X j : Nat} (h : Rw w g n X) (hj : j < n) : w.frozen? ⟨g, j, none⟩ = false := by
  obtain ⟨C, m, hg, hm, hc⟩ := h
  unfold World.frozen?
  rw [hg]
  simp
  omega


theorem mul_xor (k a b : Nat) : 2 ^ k * (a ^^^ b) = 2 ^ k * a ^^^ 2 ^ k * b := by
  apply Nat.eq_of_testBit_eq
  intro i
  simp only [Nat.testBit_two_pow_mul, Nat.testBit_xor]
  cases decide (i ≥ k) <;> simp
theorem mod_next (P i : Nat) (h : P / 2 ^ i % 2 = 1) : P % 2 ^ (i + 1) = P % 2 ^ i ^^^ 2 ^ i := by
  have hb : P.testBit i = true := by rw [Nat.testBit_eq_decide_div_mod_eq]; simpa using h
  apply Nat.eq_of_testBit_eq
  intro j
  rw [Nat.testBit_mod_two_pow, Nat.testBit_xor, Nat.testBit_mod_two_pow, Nat.testBit_two_pow]
  rcases Nat.lt_trichotomy j i with h1 | rfl | h1
  · rw [decide_eq_true (show j < i + 1 by omega), decide_eq_true h1, decide_eq_false (show ¬ i = j by omega)]
    simp
  · rw [decide_eq_true (show j < j + 1 by omega), decide_eq_false (show ¬ j < j by omega), hb]
    simp
  · rw [decide_eq_false (show ¬ j < i + 1 by omega), decide_eq_false (show ¬ j < i by omega), decide_eq_false (show ¬ i = j by omega)]
    simp
theorem mod_same (P i : Nat) (h : P / 2 ^ i % 2 = 0) : P % 2 ^ (i + 1) = P % 2 ^ i := by
  rw [Nat.pow_succ, Nat.mod_mul, h]; omega
theorem byte_hit (X m : Nat) : (X ^^^ 2 ^ m) / 2 ^ (8 * (m / 8)) % 256 = (X / 2 ^ (8 * (m / 8)) % 256) ^^^ (2 ^ (m % 8)) := by
  rw [show (256 : Nat) = 2 ^ 8 from rfl]
  apply Nat.eq_of_testBit_eq
  intro t
  simp only [Nat.testBit_mod_two_pow, Nat.testBit_div_two_pow, Nat.testBit_xor, Nat.testBit_two_pow]
  by_cases h : t < 8
  · simp only [h, decide_true, Bool.true_and]
    congr 1
    exact decide_eq_decide.2 (by omega)
  · have : ¬ m % 8 = t := by omega
    simp [h, this]
theorem byte_miss (X m j : Nat) (hj : j ≠ m / 8) : (X ^^^ 2 ^ m) / 2 ^ (8 * j) % 256 = X / 2 ^ (8 * j) % 256 := by
  rw [show (256 : Nat) = 2 ^ 8 from rfl]
  apply Nat.eq_of_testBit_eq
  intro t
  simp only [Nat.testBit_mod_two_pow, Nat.testBit_div_two_pow, Nat.testBit_xor, Nat.testBit_two_pow]
  by_cases h : t < 8
  · have : ¬ m = t + 8 * j := by omega
    simp [this]
  · simp [h]
theorem row_set {w : World} {g : Nat} {t : TypeId} {cs : Array Value} {fr : Nat × Nat} (h : w.heap[g]? = some (.cells cs t fr)) (i : Nat) (u : Value) : (w.setCell ⟨g, i, none⟩ u).heap[g]? = some (.cells (cs.setIfInBounds i u) t fr) := by
  simp [World.setCell, Array.getElem?_modify, h]
theorem num_byte : ∀ (l : List UInt8) (j : Nat), j < l.length → num l / 2 ^ (8 * j) % 256 = (l.getD j 0).toNat
  | [], j, h => by simp at h
  | b :: l, 0, _ => by
    have := b.toNat_lt
    rw [num, Nat.mul_zero, Nat.pow_zero, Nat.div_one]
    show _ = b.toNat
    omega
  | b :: l, j + 1, h => by
    have hb := b.toNat_lt
    rw [num, show 8 * (j + 1) = 8 + 8 * j from by omega, Nat.pow_add, ← Nat.div_div_eq_div_mul, show (b.toNat + 256 * num l) / 2 ^ 8 = num l from by omega, num_byte l j (by simpa using h)]
    rfl
theorem le_get (n : Int) (k j : Nat) (h : j < k) : (le n k).getD j 0 = n / 2 ^ (8 * j) % 256 := by
  unfold le
  simp [h]
theorem Rw.hit {w : World} {g n X m : Nat} (h : Rw w g n X) (hm : m / 8 < n) :
    Rw (w.setCell ⟨g, m / 8, none⟩ (.int .u8 (Go.bits .xor .u8 ((X : Int) / 2 ^ (8 * (m / 8)) % 256) (2 ^ (m % 8) % 256)))) g n (X ^^^ 2 ^ m) := by
  obtain ⟨C, r, hg, hr, hc⟩ := h
  have e : Go.bits .xor .u8 ((X : Int) / 2 ^ (8 * (m / 8)) % 256) (2 ^ (m % 8) % 256) = (((X ^^^ 2 ^ m) / 2 ^ (8 * (m / 8)) % 256 : Nat) : Int) := by
    have hp : 2 ^ (m % 8) ≤ 128 := Nat.le_trans (Nat.pow_le_pow_right (n := 2) (by omega) (show m % 8 ≤ 7 by omega)) (by decide)
    have e1 : ((2 : Int) ^ (m % 8) % 256) = ((2 ^ (m % 8) : Nat) : Int) := by
      rw [show ((2 : Int) ^ (m % 8)) = ((2 ^ (m % 8) : Nat) : Int) from by simp]
      generalize 2 ^ (m % 8) = z at hp
      omega
    have e2 : ((X : Int) / 2 ^ (8 * (m / 8)) % 256) = ((X / 2 ^ (8 * (m / 8)) % 256 : Nat) : Int) := by simp
    rw [e1, e2, u8_xor_nat _ _ (by omega) (by omega), byte_hit]
  rw [e]
  refine ⟨_, r, row_set hg (m / 8) _, hr, fun j hj => ?_⟩
  by_cases h2 : j = m / 8
  · subst h2
    have := hc (m / 8) hm
    have hs := (Array.getElem?_eq_some_iff.1 this).1
    simp [Array.getElem?_setIfInBounds, hs]
  · rw [Array.getElem?_setIfInBounds_ne (by omega), hc j hj, byte_miss X m j h2]
theorem Rw.start (w : World) (s : ByteArray) : Rw (Lib.bytesWorld w 5 s) w.heap.size s.size (num s.data.toList) := by
  refine ⟨_, _, Lib.bytesWorld_at_new w _ s, by show s.size ≤ (s.data.map (fun b => Value.int .u8 b.toNat) ++ Array.replicate (grownCap w s.size 0 5 - s.size) (Value.int .u8 0)).size; rw [Array.size_append, Array.size_map]; exact Nat.le_add_right _ _, fun j hj => ?_⟩
  have h2 := Lib.bytesWorld_cell w 5 s j hj
  unfold World.cell? at h2
  rw [Lib.bytesWorld_at_new] at h2
  have h3 : (Lib.bytesCells w 5 s)[j]? = some (.int .u8 (s.data.toList.getD j 0).toNat) := h2
  rw [h3, num_byte _ _ (by rw [← size_eq]; exact hj)]
theorem bytes_below (w : World) (s : ByteArray) : Below w.heap.size w (Lib.bytesWorld w 5 s) := by
  refine ⟨?_, ?_, ?_, by rw [Lib.bytesWorld_size]; omega, fun k hk => Lib.bytesWorld_at_old w _ s k hk⟩ <;> (unfold Lib.bytesWorld World.freeze; simp [World.alloc, World.drew, -World.alloc_eq, -World.drew_eq])
theorem Rw.back (w : World) (g n X : Nat) (c : Nat) (h : Rw w g n X) : (convert 41 9 (.slice (some ⟨g, 0, none⟩) n c)).run Try.prog w = .ok (.string (strOfNums (le (X : Int) n))) w := by
  refine run_convert_bytes_arg w 41 5 Try.underlying41 Try.underlying5 g 0 n c _ (le_length _ _) (fun i hi => ?_) 9 Try.underlying9
  rw [Nat.zero_add, h.cell hi, le_get _ _ _ hi]
  simp
end Go.Proofs.Ytofiblkeihchmaa.Row
end

section
/- A transaction of which a bit is turned, or the last block left out: plain laws. -/
set_option linter.unusedVariables false
set_option linter.unusedSimpArgs false
namespace Go.Proofs.Ytofiblkeihchmaa.TxnS
open Go.RowKit Go.Proofs.YtofiblkeihchmaaW.PrintWords Go.Proofs.Ytofiblkeihchmaa.Spec Go.Proofs.Ytofiblkeihchmaa.C
def flipT (s : ByteArray) (m : Nat) : ByteArray := strOfNums (le ((num s.data.toList ^^^ 2 ^ m : Nat) : Int) s.size)
theorem flipT_size (s : ByteArray) (m : Nat) : (flipT s m).size = s.size := by unfold flipT; rw [strOfNums_size, le_length]
theorem flipT_num (s : ByteArray) (m : Nat) (h : m < 8 * s.size) : num (flipT s m).data.toList = num s.data.toList ^^^ 2 ^ m := by
  have h1 := num_lt s.data.toList
  rw [← size_eq] at h1
  have h2 : 2 ^ m < 2 ^ (8 * s.size) := Nat.pow_lt_pow_right (by omega) h
  exact Go.Proofs.Ytofiblkeihchmaa.Ev.num_le s.size _ (Nat.xor_lt_two_pow h1 h2)
theorem seal_res (p : ByteArray) : crcFold 4294967295 (sealS p).data.toList = res := by
  have h4 : 4 ≤ (sealS p).size := by rw [sealS_size]; omega
  refine (sealed_iff (sealS p) h4).1 ?_
  have e : (sealS p).extract 0 ((sealS p).size - 4) = p := by
    rw [sealS_size, show p.size + 4 - 4 = p.size by omega]
    exact extract_pre0 p _
  rw [e]
theorem fold_app : ∀ (a b : List UInt8) (c : Nat), crcFold c (a ++ b) = crcFold (crcFold c a) b
  | [], _, _ => rfl
  | x :: a, b, c => by rw [List.cons_append, fold_cons, fold_cons, fold_app a b]
theorem fold_inj : ∀ (b : List UInt8) {c c' : Nat}, c < 4294967296 → c' < 4294967296 → crcFold c b = crcFold c' b → c = c'
  | [], _, _, _, _, h => h
  | x :: b, c, c', h1, h2, h => by
    rw [fold_cons, fold_cons] at h
    have hx : x.toNat < 4294967296 := by have := x.toNat_lt; omega
    have h3 := stN_cancel 8 (xor_lt32 h1 hx) (xor_lt32 h2 hx) (fold_inj b (stN_lt 8 (xor_lt32 h1 hx)) (stN_lt 8 (xor_lt32 h2 hx)) h)
    have h4 : c ^^^ x.toNat ^^^ x.toNat = c' ^^^ x.toNat ^^^ x.toNat := by rw [h3]
    rwa [Nat.xor_assoc, Nat.xor_self, Nat.xor_zero, Nat.xor_assoc, Nat.xor_self, Nat.xor_zero] at h4
theorem fold_flip (c : Nat) (s : ByteArray) (m : Nat) (h : m < 8 * s.size) : crcFold c s.data.toList ≠ crcFold c (flipT s m).data.toList := by
  intro e
  rw [crcFold_num, crcFold_num, ← size_eq, ← size_eq, flipT_size, flipT_num s m h, ← Nat.xor_assoc, stN_xor (8 * s.size) (c ^^^ num s.data.toList) (2 ^ m)] at e
  generalize stN (8 * s.size) (c ^^^ num s.data.toList) = z at e
  have h0 : stN (8 * s.size) (2 ^ m) = 0 := by
    have h3 : z ^^^ (z ^^^ stN (8 * s.size) (2 ^ m)) = z ^^^ z := by rw [← e]
    rwa [← Nat.xor_assoc, Nat.xor_self, Nat.zero_xor] at h3
  rw [show 8 * s.size = m + (8 * s.size - m) from by omega, stN_add, show (2 : Nat) ^ m = 2 ^ m * 1 from (Nat.mul_one _).symm, stN_shift] at h0
  have := stN_inj _ (by omega : (1 : Nat) < 4294967296) h0
  omega
theorem crc_flip (P s Q : ByteArray) (m : Nat) (h : m < 8 * s.size) : crc (P ++ (s ++ Q)) ≠ crc (P ++ (flipT s m ++ Q)) := by
  intro e
  unfold crc at e
  have e2 : crcFold 4294967295 (P ++ (s ++ Q)).data.toList = crcFold 4294967295 (P ++ (flipT s m ++ Q)).data.toList := by
    have h4 : ∀ a b : Nat, a ^^^ 4294967295 = b ^^^ 4294967295 → a = b := fun a b hh => by
      have : a ^^^ 4294967295 ^^^ 4294967295 = b ^^^ 4294967295 ^^^ 4294967295 := by rw [hh]
      rwa [Nat.xor_assoc, Nat.xor_self, Nat.xor_zero, Nat.xor_assoc, Nat.xor_self, Nat.xor_zero] at this
    exact h4 _ _ e
  simp only [ByteArray.data_append, Array.toList_append, fold_app] at e2
  have hp : crcFold 4294967295 P.data.toList < 4294967296 := crcFold_lt _ (by omega)
  exact fold_flip _ s m h (fold_inj _ (crcFold_lt _ hp) (crcFold_lt _ hp) e2)
theorem dataL_split (l1 l2 : List Ch) (c : Ch) : dataL (l1 ++ c :: l2) = dataL l1 ++ (c.2 ++ dataL l2) := by
  induction l1 with
  | nil => show c.2 ++ dataL l2 = ByteArray.empty ++ _; rw [ByteArray.empty_append]
  | cons d l1 ih => rw [List.cons_append, dataL, ih, dataL, ByteArray.append_assoc]
/-- One block less. -/
theorem dec_less {seq : Int} {l : List Ch} (h0 : 1 ≤ seq) (h1 : seq ≤ 1099511627776) (hr : right l) : decS ((blocksL seq l).take l.length) = (0, [], 0, 20) := by
  cases l with
  | nil => rfl
  | cons c l =>
    have hb := head_back h0 h1 hr
    show decS (headS seq (c :: l) :: ((c :: l).map Prod.snd).take l.length) = _
    rw [dec_cons, hb]
    dsimp only
    rw [if_neg (by simp), if_pos]
    rw [List.length_cons, List.length_take, List.length_map, blank_length, List.length_cons]
    omega
/-- A bit of the head. -/
theorem dec_head {seq : Int} {l : List Ch} (hl : l.length ≤ 48) (m : Nat) (hm : m < 1024) (r : List ByteArray) : decS (flipT (headS seq l) m :: r) = (0, [], 0, 4) := by
  have hsz : (headS seq l).size = 128 := blockS_size _ (by rw [headT_size]; omega)
  obtain ⟨p, hp⟩ : ∃ p, headS seq l = sealS p := by
    unfold headS blockS
    rw [if_neg (by rw [headT_size]; omega)]
    exact ⟨_, rfl⟩
  have ho : openS (flipT (headS seq l) m) = (⟨#[]⟩, 30) := by
    have hn := flipT_num (headS seq l) m (by rw [hsz]; omega)
    obtain ⟨q, hq⟩ : ∃ q : Nat, q = 992 := ⟨_, rfl⟩
    by_cases hk : m ≤ q
    · exact turned_not (t := headS seq l) (y := flipT (headS seq l) m) (p := 1) (k := m) (by rw [hp]; exact seal_res p) (flipT_size _ _) (by rw [hn, Nat.mul_one]) (by omega) (by omega) (by rw [hsz]; omega) (by rw [hsz]; omega)
    · have hpow : 2 ^ (m - q) < 4294967296 := Nat.lt_of_le_of_lt (Nat.pow_le_pow_right (by omega) (show m - q ≤ 31 by omega)) (by decide)
      exact turned_not (t := headS seq l) (y := flipT (headS seq l) m) (p := 2 ^ (m - q)) (k := q) (by rw [hp]; exact seal_res p) (flipT_size _ _) (by rw [hn, ← Nat.pow_add, show q + (m - q) = m by omega]) (Nat.pow_pos (by omega)) hpow (by rw [hsz]; omega) (by rw [hsz]; omega)
  have hu : (unblockS (flipT (headS seq l) m)).2 ≠ 0 := by
    unfold unblockS
    rw [if_neg (by rw [flipT_size, hsz]; simp), ho, if_pos (by simp)]
    simp
  have hh : headedS (flipT (headS seq l) m) = (0, [], false) := by unfold headedS; rw [if_pos (.inl hu)]
  rw [dec_cons, hh]
  rfl
theorem head_ne {seq : Int} {l l' : List Ch} (hl : l.length ≤ 48) (hlen : l'.length = l.length) (hn : numsL l' = numsL l) (hc : crc (dataL l) ≠ crc (dataL l')) : headS seq l ≠ headS seq l' := by
  intro e
  have h1 := Go.Proofs.Ytofiblkeihchmaa.Ev.unblock_block (headT seq l) (by rw [headT_size]; omega)
  have h2 := Go.Proofs.Ytofiblkeihchmaa.Ev.unblock_block (headT seq l') (by rw [headT_size]; omega)
  unfold headS at e
  rw [e, h2] at h1
  have e2 : headT seq l' = headT seq l := congrArg Prod.fst h1
  unfold headT headN at e2
  rw [hn, hlen] at e2
  generalize le seq 8 ++ le (l.length : Int) 1 ++ numsL l = A at e2
  have e3 := (append_inj e2 rfl).2
  rw [← strOfNums_append A (le (crc (dataL l')) 4), ← strOfNums_append A (le (crc (dataL l)) 4)] at e3
  have e4 := (append_inj e3 rfl).2
  have n1 := Go.Proofs.Ytofiblkeihchmaa.Ev.num_le 4 (crc (dataL l)) (by have := crc_lt (dataL l); omega)
  have n2 := Go.Proofs.Ytofiblkeihchmaa.Ev.num_le 4 (crc (dataL l')) (by have := crc_lt (dataL l'); omega)
  rw [e4, n1] at n2
  exact hc n2
/-- A bit of a block behind the head. -/
theorem dec_data {seq : Int} {l : List Ch} (h0 : 1 ≤ seq) (h1 : seq ≤ 1099511627776) (hr : right l) (j : Nat) (hj : j < l.length) (m : Nat) (hm : m < 1024) :
    decS (headS seq l :: (l.map Prod.snd).set j (flipT (l[j]).2 m)) = (0, [], 0, 4) := by
  have hb := head_back h0 h1 hr
  have hsz := ((right_fits hr).2 _ (List.getElem_mem hj)).2.2
  obtain ⟨l', hl'⟩ : ∃ l', l' = l.take j ++ ((l[j]).1, flipT (l[j]).2 m) :: l.drop (j + 1) := ⟨_, rfl⟩
  have hl : l = l.take j ++ l[j] :: l.drop (j + 1) := by rw [← List.drop_eq_getElem_cons hj, List.take_append_drop]
  have hlen : l'.length = l.length := by rw [hl', List.length_append, List.length_take, List.length_cons, List.length_drop]; omega
  have hnums : numsL l' = numsL l := by
    rw [hl']
    conv => rhs; rw [hl]
    unfold numsL
    simp only [List.flatMap_append, List.flatMap_cons]
  have hcrc : crc (dataL l) ≠ crc (dataL l') := by
    rw [hl', dataL_split]
    conv => lhs; rw [hl]
    rw [dataL_split]
    exact crc_flip _ _ _ m (by rw [hsz]; omega)
  have hnew : newL (headS seq l :: (l.map Prod.snd).set j (flipT (l[j]).2 m)) (blank l) = l' := by
    apply List.ext_getElem?
    intro i
    rw [newL_get, List.getElem?_cons_succ]
    unfold blank
    rw [List.getElem?_map, hl']
    by_cases hi : i < l.length
    · rw [List.getElem?_eq_getElem hi]
      rcases Nat.lt_trichotomy i j with h | h | h
      · rw [List.getElem?_set_ne (by omega), List.getElem?_map, List.getElem?_eq_getElem hi, List.getElem?_append_left (by rw [List.length_take]; omega), List.getElem?_take, if_pos h, List.getElem?_eq_getElem hi]
        rfl
      · subst h
        rw [List.getElem?_set_self (by simpa using hi), List.getElem?_append_right (by rw [List.length_take]; omega), List.length_take, show i - min i l.length = 0 by omega]
        rfl
      · rw [List.getElem?_set_ne (by omega), List.getElem?_map, List.getElem?_eq_getElem hi, List.getElem?_append_right (by rw [List.length_take]; omega), List.length_take, show i - min j l.length = (i - j - 1) + 1 by omega, List.getElem?_cons_succ, List.getElem?_drop, show j + 1 + (i - j - 1) = i by omega, List.getElem?_eq_getElem hi]
        rfl
    · rw [List.getElem?_eq_none (show l.length ≤ i by omega)]
      have := hlen
      rw [hl'] at this
      have e5 : (l.take j ++ ((l[j]).1, flipT (l[j]).2 m) :: l.drop (j + 1))[i]? = none := List.getElem?_eq_none (by rw [this]; omega)
      rw [e5]
      rfl
  rw [dec_cons, hb]
  dsimp only
  rw [hnew, if_neg (by simp), if_neg (by rw [List.length_cons, List.length_set, List.length_map, blank_length]; omega), if_pos (.inr (head_ne hr.2 hlen hnums hcrc))]
end Go.Proofs.Ytofiblkeihchmaa.TxnS
end

section
/- The walk of the law TxnWhole. -/
set_option linter.unusedVariables false
set_option linter.unusedSimpArgs false
namespace Go.Proofs.Ytofiblkeihchmaa.Core
open Go.RowKit Go.Proofs.YtofiblkeihchmaaW.PrintWords Go.Proofs.YtofiblkeihchmaaW.PrintLast Go.Proofs.YtofiblkeihchmaaW.PrintMore Go.Proofs.Ytofiblkeihchmaa.TxnS Go.Proofs.Ytofiblkeihchmaa.Txn Go.Proofs.Ytofiblkeihchmaa.Row Go.Proofs.Ytofiblkeihchmaa.Spec
set_option maxHeartbeats 6400000 in
set_option maxRecDepth 100000 in
theorem txnWhole_no (W : World) (seq k : Int) (r : Value) (e0 : Int) (he : e0 ≠ 0) (h : Calls Try.prog 14 #[.int .i64 seq, r] W fun e w' => e = .returned (.tuple #[.slice none 0 0, .int .i64 e0]) ∧ Below W.heap.size W w') :
    Calls Try.prog 6 #[.int .i64 seq, r, .int .i64 k] W fun e W' => e = .returned (.bool true) ∧ Below W.heap.size W W' := by
  have HE := Aside0.mk h
  have HS := Aside0.mk speaks_calls
  have he2 : (e0 != 0) = true := by simp [he]
  clear h he
  go_enter Try.func6, Try.ntmps6
  go_wp2_with fail
  refine HE.out.mono ?_
  rintro e w1 ⟨rfl, hB⟩
  have B1 := Aside0.mk hB
  clear hB HE
  go_wp2_with fail
  refine (HS.out _).mono ?_
  rintro e w8 ⟨rfl, hB⟩
  have B8 := Aside0.mk (B1.out.trans (hB.mono B1.out.size))
  clear hB
  go_wp2_with fail
  go_ret
  exact ⟨rfl, B8.out⟩
theorem Rw_below {w w' : World} {g n X : Nat} (h : Rw w g n X) (hb : Below w.heap.size w w') : Rw w' g n X := by
  obtain ⟨C, m, hg, hm, hc⟩ := h
  exact ⟨C, m, (hb.block g (blk_lt hg)).trans hg, hm, hc⟩
theorem Rw_lt {w : World} {g n X : Nat} (h : Rw w g n X) : g < w.heap.size := by
  obtain ⟨C, m, hg, hm, hc⟩ := h
  exact blk_lt hg
theorem flipT_rw (s : ByteArray) (m : Nat) (h : s.size = 128) : strOfNums (le ((num s.data.toList ^^^ 2 ^ m : Nat) : Int) 128) = flipT s m := by
  unfold flipT; rw [h]
theorem strs_take {w : World} {A : Option Addr} {l : List ByteArray} (h : Strs w A l) (n : Nat) : Strs w A (l.take n) := by
  intro i hi
  have hi2 : i < l.length := by rw [List.length_take] at hi; omega
  obtain ⟨ad, e, h1⟩ := h i hi2
  exact ⟨ad, e, by rw [List.getElem_take]; exact h1⟩
set_option maxHeartbeats 6400000 in
set_option maxRecDepth 100000 in
theorem txnWhole_yes (W : World) (seq : Int) (l : List Ch) (A : Option Addr) (c1 : Nat) (kk : Int) (hkk : -9223372036854775808 ≤ kk ∧ kk ≤ 9223372036854775807) (ha : Chs W A l) (h0 : 1 ≤ seq) (h1 : seq ≤ 1099511627776) (hr : right l) :
    Calls Try.prog 6 #[.int .i64 seq, .slice A l.length c1, .int .i64 kk] W fun e W' => e = .returned (.bool true) ∧ Below W.heap.size W W' := by
  have HE := Aside0.mk (enc_yes seq l A c1 W ha h0 h1 hr)
  have HS := Aside0.mk speaks_calls
  have hll : l.length ≤ 48 := hr.2
  obtain ⟨N, hN⟩ : ∃ N, N = l.length + 1 := ⟨_, rfl⟩
  have hbl : (blocksL seq l).length = N := by rw [hN]; simp [blocksL]
  have HLess : Aside0 (decS ((blocksL seq l).take (N - 1)) = (0, [], 0, 20)) := ⟨by rw [hN]; exact dec_less h0 h1 hr⟩
  have HSz : Aside0 (∀ b ∈ blocksL seq l, b.size = 128) := ⟨by
    intro b hb
    rcases List.mem_cons.1 hb with rfl | hb
    · exact blockS_size _ (by rw [headT_size]; omega)
    · obtain ⟨c, hc, rfl⟩ := List.mem_map.1 hb
      exact ((right_fits hr).2 c hc).2.2⟩
  have HOth : Aside0 (∀ (k m : Nat) (hk : k < (blocksL seq l).length), m < 1024 → decS ((blocksL seq l).set k (flipT (blocksL seq l)[k] m)) = (0, [], 0, 4)) := ⟨by
    intro k m hk hm
    cases k with
    | zero => exact dec_head hr.2 m hm _
    | succ j =>
      have hj : j < l.length := by rw [hbl] at hk; omega
      have e : (blocksL seq l)[j + 1] = (l[j]).2 := by simp [blocksL]
      rw [e]
      exact dec_data h0 h1 hr j hj m hm⟩
  have hN1 : 1 ≤ N := by omega
  have hN2 : N ≤ 49 := by omega
  clear ha hr hN
  rw [hbl] at HE
  generalize blocksL seq l = bl at HE HLess HSz HOth hbl
  have HBL := Aside0.mk hbl
  clear hbl
  obtain ⟨an, han⟩ : ∃ an : Nat, an = kk.toNat := ⟨_, rfl⟩
  have HAn := Aside0.mk han
  have han2 : an ≤ 9223372036854775807 := by omega
  clear han
  go_enter Try.func6, Try.ntmps6
  go_wp2_with fail
  refine HE.out.mono ?_
  rintro e w1 ⟨v1, rfl, hr, hB⟩
  obtain ⟨X, cx, rfl⟩ := own_slice hr
  have X1 := Aside0.mk (own_strs hr HBL.out.symm)
  have B1 := Aside0.mk hB
  have hcx : N ≤ cx := by
    rcases hr.2 with ⟨h1, h2⟩ | ⟨g, cap, cur, h1, _, _, h2, _⟩
    · omega
    · simp at h1; omega
  clear hr hB HE
  obtain ⟨xad, rfl⟩ : ∃ xad, X = some xad := by
    obtain ⟨xad, e, _⟩ := X1.out 0 (by rw [HBL.out]; omega)
    exact ⟨xad, e⟩
  have hnz : ((N : Int) == 0) = false := by simp; omega
  go_upto_if 43 with fail
  go_cut [2] (fun v2 wc => v2 = .int .i64 (an : Int) ∧ wc = w1)
  case first =>
    rcases Bool.eq_false_or_eq_true (decide (kk < 0)) with b1 | b1
    · rw [b1]
      go_wp2
      go_meet
      case rel => exact ⟨by rw [HAn.out]; simp at b1; rw [show kk.toNat = 0 by omega]; rfl, rfl⟩
    · rw [b1]
      go_wp2
      go_meet
      case rel => exact ⟨by rw [HAn.out]; simp at b1; rw [show ((kk.toNat : Nat) : Int) = kk by omega], rfl⟩
  case rest =>
    obtain ⟨rfl, rfl⟩ := hcut
    have er : (an : Int) % (N : Int) = ((an % N : Nat) : Int) := rfl
    have eq1 : (an : Int) / (N : Int) = ((an / N : Nat) : Int) := rfl
    have hq : an / N ≤ an := Nat.div_le_self an N
    have hk : an % N < N := Nat.mod_lt an (by omega)
    generalize an % N = k at er hk
    generalize an / N = q at eq1 hq
    have eq2 : (q : Int) % 1024 = ((q % 1024 : Nat) : Int) := rfl
    have hm : q % 1024 < 1024 := Nat.mod_lt _ (by omega)
    generalize q % 1024 = m at eq2 hm
    have es : ((N : Int) - 1) = ((N - 1 : Nat) : Int) := by omega
    have hm8 : m / 8 < 128 := by omega
    have eq3 : wrap64 ((m : Int) / 8) = ((m / 8 : Nat) : Int) := by rw [show (m : Int) / 8 = ((m / 8 : Nat) : Int) from rfl, wrap_id (by omega) (by omega)]
    have hkb : k < bl.length := by rw [HBL.out]; exact hk
    obtain ⟨ad2, e2, cx0⟩ := X1.out k hkb
    obtain rfl := Option.some.inj e2
    clear e2
    have hsz : (bl[k]).size = 128 := HSz.out _ (List.getElem_mem hkb)
    have HF := Aside0.mk (HOth.out k m hkb hm)
    generalize hs : bl[k] = s at cx0 hsz HF
    have HS0 : Aside0 (bl[k]? = some s) := ⟨by rw [List.getElem?_eq_getElem hkb, hs]⟩
    clear hs HOth
    have kc := fun W => Lib.run_convert_string_bytes (P := Try.prog) W 9 41 5 s Try.underlying9 Try.underlying41 Try.underlying5
    go_upto_region 10 with fail
    simp only [er, eq2]
    clear er eq1 eq2 es
    have HN := Aside0.mk (And.intro hN1 hN2)
    have HK := Aside0.mk hk
    clear hkk hq han2 hcx hnz hll hN1 hN2 hk hkb
    have hR := Rw.start wc s
    have hB0 := bytes_below wc s
    rw [hsz] at hR
    obtain ⟨gb, hgb⟩ : ∃ gb, gb = wc.heap.size := ⟨_, rfl⟩
    have HGb := Aside0.mk hgb
    rw [← hgb] at hR ⊢
    generalize Lib.bytesWorld wc 5 s = wb at hR hB0 ⊢
    generalize grownCap wc 128 0 5 = cb
    clear kc cx0
    have HRb := Aside0.mk hR
    have HBb := Aside0.mk hB0
    clear hR hB0 hgb
    have k1 := HRb.out.cell (j := m / 8) hm8
    have k2 := HRb.out.froz (j := m / 8) hm8
    go_upto_region 13 with fail
    have hR2 := HRb.out.hit hm8
    have hB2 := HBb.out.setCell (p := ⟨gb, m / 8, none⟩) (by rw [HGb.out]; exact Nat.le_refl _) (.int .u8 (Go.bits .xor .u8 ((num s.data.toList : Int) / 2 ^ (8 * (m / 8)) % 256) (2 ^ (m % 8) % 256)))
    generalize wb.setCell ⟨gb, m / 8, none⟩ (.int .u8 (Go.bits .xor .u8 ((num s.data.toList : Int) / 2 ^ (8 * (m / 8)) % 256) (2 ^ (m % 8) % 256))) = w2 at hR2 hB2 ⊢
    clear k1 k2 eq3 HRb HBb
    have hfl := flipT_rw s m hsz
    generalize num s.data.toList ^^^ 2 ^ m = X2 at hR2 hfl
    have hfs : (flipT s m).size = 128 := by rw [flipT_size, hsz]
    generalize flipT s m = fs at hfl HF hfs
    have HFs := Aside0.mk hfs
    have HFl := Aside0.mk hfl
    have R2 := Aside0.mk hR2
    have B2 := Aside0.mk hB2
    have HGl := Aside0.mk (Rw_lt hR2)
    have hol : (bl.set k fs).length = N := by rw [List.length_set, HBL.out]
    have hoi : ∀ i (hi : i < N), (bl.set k fs)[i]? = if i = k then some fs else bl[i]? := fun i hi => by
      rw [List.getElem?_set]
      by_cases h : k = i
      · subst h; simp [HBL.out, hi]
      · rw [if_neg h, if_neg (by omega)]
    have hosz : ∀ b ∈ bl.set k fs, b.size ≤ 1125899906842624 := fun b hb => by
      rcases List.mem_or_eq_of_mem_set hb with h | rfl
      · have := HSz.out _ h; omega
      · omega
    generalize bl.set k fs = ol at HF hol hoi hosz
    have HOl := Aside0.mk hol
    have HOi := Aside0.mk hoi
    have HOs := Aside0.mk hosz
    clear hR2 hB2 hfl hfs hol hoi hosz hsz hm hm8
    have hN49 : N ≤ 49 := HN.out.2
    go_wp2_with fail
    go_loopw [13, 82] (fun v13 v82 wr => ∃ i : Nat, i ≤ N ∧ v82 = .int .i64 (i : Int) ∧ Aside0 (wr.ownsRow w2.heap.size 9 1 v13 (tv (ol.take i)).length (tv (ol.take i))) ∧ Aside0 (Below w2.heap.size w2 wr)) (fun _ x _ => N - (intOf x).toNat)
    case atStart => exact ⟨0, by omega, rfl, ⟨own_nil _ _ _ _⟩, ⟨Below.refl _ _⟩⟩
    case round =>
      obtain ⟨i, hi, rfl, HR, HBr⟩ := hrel
      by_cases hlt : i < N
      · obtain ⟨ad2, e2, cx0⟩ := ((X1.out.below B2.out).below HBr.out) i (by rw [HBL.out]; exact hlt)
        obtain rfl := Option.some.inj e2
        clear e2
        obtain ⟨o, ho⟩ : ∃ o, ol[i]? = some o := ⟨_, List.getElem?_eq_getElem (by rw [HOl.out]; exact hlt)⟩
        have ht : tv (ol.take (i + 1)) = tv (ol.take i) ++ [.string o] := by
          unfold tv
          rw [List.take_add_one, ho, List.map_append]
          rfl
        have HT := Aside0.mk ht
        have ho2 := HOi.out i hlt
        rw [ho] at ho2
        have HO2 : Aside0 (o = if i = k then fs else bl[i]'(by rw [HBL.out]; exact hlt)) := ⟨by
          by_cases hik : i = k
          · rw [if_pos hik] at ho2 ⊢
            exact Option.some.inj ho2
          · rw [if_neg hik] at ho2 ⊢
            rw [List.getElem?_eq_getElem (by rw [HBL.out]; exact hlt)] at ho2
            exact Option.some.inj ho2⟩
        generalize bl[i]'(by rw [HBL.out]; exact hlt) = bi at cx0 HO2
        clear ht ho ho2
        have kb := Rw.back wr gb 128 X2 cb (Rw_below R2.out HBr.out)
        rw [HFl.out] at kb
        have KB := Aside0.mk kb
        clear kb
        have hml : ((tv (ol.take i)).length + 1) * 16 ≤ 140737488355328 := by simp only [tv, List.length_map, List.length_take]; omega
        have HML := Aside0.mk hml
        clear hml
        go_upto_if 89 with fail
        go_cut [15] (fun v15 wx => v15 = .string o ∧ wx = wr)
        case first =>
          by_cases hik : i = k
          · have hb : ((i : Int) == (k : Int)) = true := by simp [hik]
            rw [hb]
            have kb := KB.out
            go_wp2
            go_meet
            case rel => exact ⟨by rw [HO2.out, if_pos hik], rfl⟩
          · have hb : ((i : Int) == (k : Int)) = false := by simp; omega
            rw [hb]
            go_wp2
            go_meet
            case rel => exact ⟨by rw [HO2.out, if_neg hik], rfl⟩
        case rest =>
          obtain ⟨rfl, rfl⟩ := hcut
          have hml := HML.out
          go_at_K
          have R1 := HR.out
          go_wp2_with (at_builtin; refine print_append w2.heap.size rfl (.tmp 92) (.tmp 94) 32 9 (.string ⟨#[]⟩) 16 rfl Try.underlying32 infoS rfl (by decide) _ _ (.string o) rfl rfl rfl R1 HBr.out HBr.out.size hml ?_; intro v6 w6 hr6 hb6 _ _; have R6 := Aside0.mk hr6; have B6 := Aside0.mk hb6; clear hr6 hb6)
          go_roundw
          case rel => exact ⟨i + 1, by omega, by simp, ⟨by rw [HT.out]; simpa using R6.out⟩, B6⟩
          case measure => simp [intOf]; omega
      · obtain rfl : i = N := by omega
        have hR := HR.out
        rw [show ol.take i = ol from List.take_of_length_le (by rw [HOl.out]; omega), show (tv ol).length = i from by rw [tv, List.length_map, HOl.out]] at hR
        obtain ⟨Z, cz, rfl⟩ := own_slice hR
        have Z1 := Aside0.mk (own_strs hR HOl.out.symm)
        have hle : (bl.take (i - 1)).length = i - 1 := by rw [List.length_take, HBL.out]; omega
        have HD := Aside0.mk (decode_calls (bl.take (i - 1)) (some xad) cx wr (strs_take ((X1.out.below B2.out).below HBr.out) _) (fun b hb => by have := HSz.out b (List.mem_of_mem_take hb); omega) (by omega))
        rw [HLess.out, hle] at HD
        have HD2 : Aside0 (∀ W, Below wr.heap.size wr W → Calls Try.prog 15 #[.slice Z i cz] W fun e w' => ∃ v, e = .returned (.tuple #[.int .i64 0, v, .int .i64 0, .int .i64 4]) ∧ w'.ownsRow W.heap.size 39 2 v 0 (cv []) ∧ Below W.heap.size W w') := ⟨fun W hb => by
          have h := decode_calls ol Z cz W (Z1.out.below hb) HOs.out (by rw [HOl.out]; omega)
          rw [HF.out, HOl.out] at h
          exact h⟩
        have B3 := Aside0.mk (B1.out.trans ((B2.out.mono B1.out.size).trans (HBr.out.mono (Nat.le_trans B1.out.size B2.out.size))))
        clear hR hle
        go_wp2_with fail
        refine HD.out.mono ?_
        rintro e w4 ⟨v4, rfl, hr, hB⟩
        obtain ⟨Y1, y1, rfl⟩ := own_slice hr
        have B4 := Aside0.mk (B3.out.trans (hB.mono B3.out.size))
        have HD3 := Aside0.mk (HD2.out _ hB)
        clear hr hB HD HD2
        go_wp2_with fail
        refine HD3.out.mono ?_
        rintro e w5 ⟨v5, rfl, hr, hB⟩
        obtain ⟨Y2, y2, rfl⟩ := own_slice hr
        have B5 := Aside0.mk (B4.out.trans (hB.mono B4.out.size))
        clear hr hB HD3
        go_wp2_with fail
        refine (HS.out _).mono ?_
        rintro e w8 ⟨rfl, hB⟩
        have B8 := Aside0.mk (B5.out.trans (hB.mono B5.out.size))
        clear hB
        go_wp2_with fail
        go_ret
        exact ⟨rfl, B8.out⟩
theorem TxnWhole (W : World) (seq : Int) (hw : (Lit.int .i64 seq).wf = true) (A : Option Addr) (n c1 : Nat) (l : List Ch) (h1 : (Kd.slice 39 chK).K W l [.slice A n c1]) (g1 : goodL l) (k : Int) (hw2 : (Lit.int .i64 k).wf = true) :
    Calls Try.prog 6 #[.int .i64 seq, .slice A n c1, .int .i64 k] W fun e W' => e = .returned (.bool true) ∧ Below W.heap.size W W' := by
  obtain ⟨rfl, ha⟩ := chs_of h1
  by_cases hs : seq < 1 ∨ 1099511627776 < seq
  · exact txnWhole_no W seq k _ 1 (by decide) (enc_no1 seq _ W hs)
  · by_cases hr : right l
    · exact txnWhole_yes W seq l A c1 k (by simp [Lit.wf, IntKind.min, IntKind.max, IntKind.signed, IntKind.bits] at hw2; omega) ha (by omega) (by omega) hr
    · exact txnWhole_no W seq k _ 70 (by decide) (enc_no2 seq l A c1 W ha (by have := g1.1; omega) (by omega) (by omega) hr)
end Go.Proofs.Ytofiblkeihchmaa.Core
end
