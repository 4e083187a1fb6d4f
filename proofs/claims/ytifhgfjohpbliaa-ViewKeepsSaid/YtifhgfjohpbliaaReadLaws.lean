/- What is read back: laws of numbers, of what is cut off, of blocks. -/
import Derived.Test.YtifhgfjohpbliaaSumSpec
import Derived.Test.YtifhgfjohpbliaaPsx
import Derived.KernelRfl
section
/- What the program's and the references' functions of sums come to. -/
set_option linter.unusedVariables false
namespace Go.Proofs.Ytifhgfjohpbliaa.Ev
open Go.RowKit Go.Proofs.YtifhgfjohpbliaaW.PrintWords Go.Proofs.YtifhgfjohpbliaaW.PrintLast Go.Proofs.Ytifhgfjohpbliaa.Ps Go.Proofs.Ytifhgfjohpbliaa.Spec Go.Proofs.Ytifhgfjohpbliaa.Given

/-! The sum -/
theorem of_l1 (s : ByteArray) (n : Int) (i : Int) (r : Int) : ∀ (d j c : Nat), j + d = 8 → c < 4294967296 →
    Ev (fun k => sum_Of.l0 k s (stN d c : Nat) n (wrap64 (i + 1))) r → Ev (fun k => sum_Of.l1 k s (c : Nat) n i (j : Nat)) r
  | 0, j, c, hj, hc, h => Ev.step (fun k => by simp only [sum_Of.l1]; rw [if_neg (by omega)]; rfl) h
  | d + 1, j, c, hj, hc, h => by
    have ih := of_l1 s n i r d (j + 1) (st c) (by omega) (st_lt hc) h
    refine Ev.step (fun k => ?_) ih
    simp only [sum_Of.l1]
    rw [if_pos (by omega), st_u32 c hc, wrap_id (by omega) (by omega)]
    rfl

theorem of_l0 (s : ByteArray) (hs : s.size ≤ 9223372036854775806) : ∀ (d i c : Nat), i + d = s.size → c < 4294967296 →
    Ev (fun k => sum_Of.l0 k s (c : Nat) (s.size : Int) (i : Nat)) ((crcFold c (s.data.toList.drop i) ^^^ 4294967295 : Nat) : Int)
  | 0, i, c, hi, hc => by
    refine Ev.step (f := fun _ => some _) (fun k => ?_) (Ev.now _)
    simp only [sum_Of.l0]
    have hl : s.data.toList.drop i = [] := List.drop_eq_nil_of_le (by rw [Array.length_toList]; show s.size ≤ i; omega)
    rw [if_neg (by omega), hl]
    have := u32_xor_nat 4294967295 c (by omega) hc
    have hx := xor_lt32 (a := 4294967295) (b := c) (by omega) hc
    show some (wrap64 (Go.bits .xor .u32 ((4294967295 : Nat) : Int) (c : Int))) = _
    rw [this, wrap_id (by omega) (by omega), Nat.xor_comm]
    rfl
  | d + 1, i, c, hi, hc => by
    have hlt : i < s.size := by omega
    have hb := (s[i]'hlt).toNat_lt
    have hx : c ^^^ (s[i]'hlt).toNat < 4294967296 := xor_lt32 hc (by omega)
    have ih := of_l0 s hs d (i + 1) (stN 8 (c ^^^ (s[i]'hlt).toNat)) (by omega) (stN_lt 8 hx)
    refine Ev.step (f := fun k => sum_Of.l1 k s (Go.bits .xor .u32 (c : Nat) ((bt s (i : Nat)) % 4294967296)) (s.size : Int) (i : Nat) 0) (fun k => ?_) ?_
    · simp only [sum_Of.l0]
      rw [if_pos (by omega), if_pos (by omega), if_pos (by omega)]
    · have e : Go.bits .xor .u32 (c : Nat) ((bt s (i : Nat)) % 4294967296) = ((c ^^^ (s[i]'hlt).toNat : Nat) : Int) := by
        rw [bt_nat s i hlt, show (((s[i]'hlt).toNat : Int) % 4294967296) = ((s[i]'hlt).toNat : Int) from by omega]
        exact u32_xor_nat _ _ hc (by omega)
      rw [drop_cons s i hlt]
      simp only [e]
      refine of_l1 s _ _ _ 8 0 _ rfl hx ?_
      rw [wrap_id (by omega) (by omega)]
      exact ih

theorem of_ev (s : ByteArray) (hs : s.size ≤ 9223372036854775806) : Ev (fun k => sum_Of.f k s) (crc s : Int) := by
  have := of_l0 s hs s.size 0 4294967295 (by omega) (by omega)
  exact this

theorem rof_l1 (s : ByteArray) (i : Int) (r : Int) : ∀ (d j c : Nat), j + d = 8 → c < 4294967296 →
    Ev (fun k => cartularyref03_Of.l0 k s (stN d c : Nat) (wrap64 (i + 1))) r → Ev (fun k => cartularyref03_Of.l1 k s (c : Nat) i (j : Nat)) r
  | 0, j, c, hj, hc, h => Ev.step (fun k => by simp only [cartularyref03_Of.l1]; rw [if_neg (by omega)]; rfl) h
  | d + 1, j, c, hj, hc, h => by
    have ih := rof_l1 s i r d (j + 1) (st c) (by omega) (st_lt hc) h
    refine Ev.step (fun k => ?_) ih
    simp only [cartularyref03_Of.l1]
    rw [if_pos (by omega)]
    have h2 : Int.tdiv (c : Int) 2 = ((c / 2 : Nat) : Int) := by rw [Int.tdiv_eq_ediv_of_nonneg (by omega)]; omega
    have hm : Int.tmod (c : Int) 2 = ((c % 2 : Nat) : Int) := by rw [Int.tmod_eq_emod_of_nonneg (by omega)]; omega
    have hw : wrap64 (Int.tdiv (c : Int) 2) = ((c / 2 : Nat) : Int) := by rw [h2]; exact wrap_id (by omega) (by omega)
    have hj' : wrap64 ((j : Int) + 1) = ((j + 1 : Nat) : Int) := wrap_id (by omega) (by omega)
    rw [hm, hw, hj']
    unfold st
    rcases Nat.mod_two_eq_zero_or_one c with h0 | h0
    · rw [h0, if_neg (by omega), if_neg (by omega)]
    · rw [h0, if_pos (by rfl), if_pos rfl]
      have := i64_xor_nat (c / 2) 2197175160 (by omega) (by omega)
      rw [show (2197175160 : Int) = ((2197175160 : Nat) : Int) from rfl, this]

theorem rof_l0 (s : ByteArray) (hs : s.size ≤ 9223372036854775806) : ∀ (d i c : Nat), i + d = s.size → c < 4294967296 →
    Ev (fun k => cartularyref03_Of.l0 k s (c : Nat) (i : Nat)) ((crcFold c (s.data.toList.drop i) ^^^ 4294967295 : Nat) : Int)
  | 0, i, c, hi, hc => by
    refine Ev.step (f := fun _ => some _) (fun k => ?_) (Ev.now _)
    simp only [cartularyref03_Of.l0]
    have hl : s.data.toList.drop i = [] := List.drop_eq_nil_of_le (by rw [Array.length_toList]; show s.size ≤ i; omega)
    rw [if_neg (by omega), hl]
    have := i64_xor_nat c 4294967295 (by omega) (by omega)
    show some (Go.bits .xor .i64 (c : Int) ((4294967295 : Nat) : Int)) = _
    rw [this]
    rfl
  | d + 1, i, c, hi, hc => by
    have hlt : i < s.size := by omega
    have hb := (s[i]'hlt).toNat_lt
    have hx : c ^^^ (s[i]'hlt).toNat < 4294967296 := xor_lt32 hc (by omega)
    have ih := rof_l0 s hs d (i + 1) (stN 8 (c ^^^ (s[i]'hlt).toNat)) (by omega) (stN_lt 8 hx)
    refine Ev.step (f := fun k => cartularyref03_Of.l1 k s (Go.bits .xor .i64 (c : Nat) (wrap64 (bt s (i : Nat)))) (i : Nat) 0) (fun k => ?_) ?_
    · simp only [cartularyref03_Of.l0]
      rw [if_pos (by omega), if_pos (by omega)]
    · have e : Go.bits .xor .i64 (c : Nat) (wrap64 (bt s (i : Nat))) = ((c ^^^ (s[i]'hlt).toNat : Nat) : Int) := by
        rw [bt_nat s i hlt, wrap_id (by omega) (by omega)]
        exact i64_xor_nat _ _ (by omega) (by omega)
      rw [drop_cons s i hlt]
      simp only [e]
      refine rof_l1 s _ _ 8 0 _ rfl hx ?_
      rw [wrap_id (by omega) (by omega)]
      exact ih

theorem rof_ev (s : ByteArray) (hs : s.size ≤ 9223372036854775806) : Ev (fun k => cartularyref03_Of.f k s) (crc s : Int) := by
  have := rof_l0 s hs s.size 0 4294967295 (by omega) (by omega)
  exact this

/-! A number's bytes -/
theorem le_succ (n : Int) (k : Nat) : le n (k + 1) = le n k ++ [n / 2 ^ (8 * k) % 256] := by
  unfold le
  rw [List.range_succ, List.map_append]
  rfl

theorem rfixed_l0 (n : Int) (h0 : 0 ≤ n) (h1 : n ≤ 9223372036854775807) (s : Nat) (hs : s ≤ 8) : ∀ (d i : Nat), i + d = s →
    Ev (fun k => cartularyref02_Fixed.l0 k (n / 2 ^ (8 * i)) (s : Nat) (le n i) (i : Nat)) (strOfNums (le n s))
  | 0, i, hi => by
    refine Ev.step (f := fun _ => some _) (fun k => ?_) (Ev.now _)
    simp only [cartularyref02_Fixed.l0]
    rw [if_neg (by omega)]
    obtain rfl : i = s := by omega
    rfl
  | d + 1, i, hi => by
    have ih := rfixed_l0 n h0 h1 s hs d (i + 1) (by omega)
    refine Ev.step (fun k => ?_) ih
    simp only [cartularyref02_Fixed.l0]
    have hn : 0 ≤ n / 2 ^ (8 * i) := Int.ediv_nonneg h0 (by have : (0 : Int) < 2 ^ (8 * i) := Int.pow_pos (by decide); omega)
    have hle : n / 2 ^ (8 * i) ≤ n := Int.ediv_le_self _ h0
    have e1 : wrap64 (Int.tdiv (n / 2 ^ (8 * i)) 256) = n / 2 ^ (8 * (i + 1)) := by
      rw [Int.tdiv_eq_ediv_of_nonneg hn, Int.ediv_ediv_of_nonneg (by have : (0 : Int) < 2 ^ (8 * i) := Int.pow_pos (by decide); omega), show (2 : Int) ^ (8 * i) * 256 = 2 ^ (8 * (i + 1)) from by rw [show 8 * (i + 1) = 8 * i + 8 from by omega, Int.pow_add]; rfl]
      have a : 0 ≤ n / 2 ^ (8 * (i + 1)) := Int.ediv_nonneg h0 (by have : (0 : Int) < 2 ^ (8 * (i + 1)) := Int.pow_pos (by decide); omega)
      have b : n / 2 ^ (8 * (i + 1)) ≤ n := Int.ediv_le_self _ h0
      exact wrap_id (by omega) (by omega)
    have e2 : Int.tmod (n / 2 ^ (8 * i)) 256 % 256 = n / 2 ^ (8 * i) % 256 := by
      rw [Int.tmod_eq_emod_of_nonneg hn]; omega
    rw [if_pos (by omega), if_pos (by rw [le_length]; omega), e1, e2, wrap_id (by omega) (by omega), le_succ]
    rfl

theorem rfixed_ev (n : Int) (h0 : 0 ≤ n) (h1 : n ≤ 9223372036854775807) (s : Nat) (hs : s ≤ 8) : Ev (fun k => cartularyref02_Fixed.f k n (s : Nat)) (strOfNums (le n s)) := by
  have := rfixed_l0 n h0 h1 s hs s 0 (by omega)
  simpa [cartularyref02_Fixed.f, le] using this

theorem fixed4 (c : Nat) (h : c < 4294967296) : sum_fixed.f (c : Int) 4 = some (strOfNums (le c 4)) := by
  unfold sum_fixed.f
  rw [if_pos (by omega), if_neg (by omega), if_pos rfl, if_pos (by omega)]
theorem fixed2 (c : Nat) (h : c < 65536) : sum_fixed.f (c : Int) 2 = some (strOfNums (le c 2)) := by
  unfold sum_fixed.f
  rw [if_pos (by omega), if_pos rfl, if_pos (by omega)]

theorem Ev.same {α : Type} {g f : Nat → Option α} {r : α} (h : ∀ k, g k = f k) (k : Ev f r) : Ev g r := Ev.congr h k
theorem Ev.none_bind {α β : Type} {g : Nat → Option α} {a : α} (h : Ev g a) {f : Nat → α → Option β} {r : β} (k : Ev (fun n => f n a) r) : Ev (fun n => (g n).bind fun x => f n x) r := Ev.bind h k

theorem Ev.pos {α : Type} {c : Prop} [Decidable c] {g f : Nat → Option α} {r : α} (hc : c) (h : Ev g r) : Ev (fun k => if c then g k else f k) r := by
  simpa only [if_pos hc] using h
theorem Ev.neg {α : Type} {c : Prop} [Decidable c] {g f : Nat → Option α} {r : α} (hc : ¬ c) (h : Ev f r) : Ev (fun k => if c then g k else f k) r := by
  simpa only [if_neg hc] using h

/-! Sealed texts -/
theorem seal_ev (s : ByteArray) (hs : s.size ≤ 1125899906842624) : Ev (fun k => sum_Seal.f k s) (sealS s) := by
  unfold sum_Seal.f
  refine Ev.bind (of_ev s (by omega)) ?_
  simp only [fixed4 _ (crc_lt s), Option.bind_some]
  exact Ev.pos (by rw [strOfNums_size, le_length]; omega) (Ev.now _)
theorem rseal_ev (s : ByteArray) (hs : s.size ≤ 1125899906842624) : Ev (fun k => cartularyref03_Seal.f k s) (sealS s) := by
  unfold cartularyref03_Seal.f
  refine Ev.bind (rof_ev s (by omega)) ?_
  have hc := crc_lt s
  refine Ev.bind (rfixed_ev (crc s) (by omega) (by omega) 4 (by omega)) ?_
  exact Ev.pos (by rw [strOfNums_size, le_length]; omega) (Ev.now _)

theorem tail_iff (s : ByteArray) (h : 4 ≤ s.size) : (s.extract (s.size - 4) s.size).toList = (strOfNums (le (crc (s.extract 0 (s.size - 4))) 4)).toList ↔ sealS (s.extract 0 (s.size - 4)) = s := by
  rw [toList_eq_iff]
  have e := split_at s (s.size - 4) (by omega)
  unfold sealS
  constructor
  · intro h1
    rw [← h1]
    exact e
  · intro h1
    have h2 := append_inj (e.trans h1.symm) rfl
    exact h2.2

theorem open_ev (s : ByteArray) (hs : s.size ≤ 1125899906842624) : Ev (fun k => sum_Open.f k s) (openS s) := by
  unfold sum_Open.f openS
  have hw : wrap64 ((s.size : Int) - 4) = (s.size : Int) - 4 := wrap_id (by omega) (by omega)
  rw [hw]
  by_cases h4 : s.size < 4
  · rw [if_pos h4]
    exact Ev.pos (by omega) (Ev.now _)
  · have hn : ((s.size : Int) - 4).toNat = s.size - 4 := by omega
    rw [if_neg h4, hn]
    refine Ev.neg (by omega) (Ev.pos (by omega) (Ev.pos (by omega) ?_))
    refine Ev.bind (of_ev _ (by rw [ByteArray.size_extract]; omega)) ?_
    simp only [fixed4 _ (crc_lt _), Option.bind_some]
    by_cases hq : sealS (s.extract 0 (s.size - 4)) = s
    · rw [if_pos hq]
      exact Ev.pos ((tail_iff s (by omega)).2 hq) (Ev.now _)
    · rw [if_neg hq]
      exact Ev.neg (fun h => hq ((tail_iff s (by omega)).1 h)) (Ev.now _)
theorem ropen_ev (s : ByteArray) (hs : s.size ≤ 1125899906842624) : Ev (fun k => cartularyref03_Open.f k s) (openS s) := by
  unfold cartularyref03_Open.f openS
  have hw : wrap64 ((s.size : Int) - 4) = (s.size : Int) - 4 := wrap_id (by omega) (by omega)
  rw [hw]
  by_cases h4 : s.size < 4
  · rw [if_pos h4]
    exact Ev.pos (by omega) (Ev.now _)
  · have hn : ((s.size : Int) - 4).toNat = s.size - 4 := by omega
    rw [if_neg h4, hn]
    refine Ev.neg (by omega) (Ev.pos (by omega) (Ev.pos (by omega) ?_))
    refine Ev.bind (rseal_ev _ (by rw [ByteArray.size_extract]; omega)) ?_
    by_cases hq : sealS (s.extract 0 (s.size - 4)) = s
    · rw [if_pos hq]
      exact Ev.pos ((toList_eq_iff _ _).2 hq) (Ev.now _)
    · rw [if_neg hq]
      exact Ev.neg (fun h => hq ((toList_eq_iff _ _).1 h)) (Ev.now _)

/-! Blocks -/
theorem block_ev (s : ByteArray) (hs : s.size ≤ 1125899906842624) : Ev (fun k => sum_Block.f k s) (blockS s) := by
  unfold sum_Block.f blockS
  have hw : wrap64 (122 - (s.size : Int)) = 122 - (s.size : Int) := wrap_id (by omega) (by omega)
  rw [hw]
  by_cases h : 122 < s.size
  · rw [if_pos h]
    exact Ev.pos (by omega) (Ev.now _)
  · have hn : (122 - (s.size : Int)).toNat = 122 - s.size := by omega
    have hz : (strOfNums (le (s.size : Int) 2)).size = 2 := by rw [strOfNums_size, le_length]
    rw [if_neg h]
    refine Ev.neg (by omega) ?_
    simp only [fixed2 s.size (by omega), Option.bind_some, hn]
    have hz2 : (strOfNums (List.replicate (122 - s.size) 0)).size = 122 - s.size := by rw [strOfNums_size, List.length_replicate]
    refine Ev.pos (by omega) (Ev.pos (by omega) (Ev.pos (by omega) (Ev.pos (by omega) ?_)))
    refine Ev.bind (seal_ev _ (by rw [ByteArray.size_append, ByteArray.size_append]; omega)) ?_
    exact Ev.now _

theorem zeros_succ (n : Nat) : zeros n ++ (⟨#[0]⟩ : ByteArray) = zeros (n + 1) := by
  apply data_inj
  unfold zeros
  rw [ByteArray.data_append, Array.toList_append, strOfNums_data, strOfNums_data, List.replicate_succ', List.map_append]
  rfl
theorem rzeros_l0 (n : Nat) (hn : n ≤ 122) : ∀ (d i : Nat), i + d = n → Ev (fun k => cartularyref03_Zeros.l0 k (n : Nat) (zeros i) (i : Nat)) (zeros n)
  | 0, i, hi => by
    refine Ev.step (f := fun _ => some _) (fun k => ?_) (Ev.now _)
    simp only [cartularyref03_Zeros.l0]
    rw [if_neg (by omega)]
    obtain rfl : i = n := by omega
    rfl
  | d + 1, i, hi => by
    refine Ev.step (fun k => ?_) (rzeros_l0 n hn d (i + 1) (by omega))
    simp only [cartularyref03_Zeros.l0]
    rw [if_pos (by omega), if_pos (by rw [zeros_size]; omega), zeros_succ, wrap_id (by omega) (by omega)]
    rfl
theorem rblock_ev (s : ByteArray) (hs : s.size ≤ 1125899906842624) : Ev (fun k => cartularyref03_Block.f k s) (blockS s) := by
  unfold cartularyref03_Block.f blockS
  by_cases h : 122 < s.size
  · rw [if_pos h]
    exact Ev.pos (by omega) (Ev.now _)
  · have hn : (122 - (s.size : Int)) = ((122 - s.size : Nat) : Int) := by omega
    have hz : (strOfNums (le (s.size : Int) 2)).size = 2 := by rw [strOfNums_size, le_length]
    rw [if_neg h, hn]
    refine Ev.neg (by omega) ?_
    refine Ev.bind (rfixed_ev _ (by omega) (by omega) 2 (by omega)) ?_
    refine Ev.pos (by omega) ?_
    refine Ev.bind (a := zeros (122 - s.size)) (rzeros_l0 (122 - s.size) (by omega) (122 - s.size) 0 (by omega)) ?_
    refine Ev.pos (by rw [zeros_size]; omega) ?_
    refine Ev.bind (rseal_ev _ (by rw [ByteArray.size_append, ByteArray.size_append, zeros_size]; omega)) ?_
    exact Ev.now _

/-! The reader -/
theorem reader_l0 (s : ByteArray) (e : Int) (x1 : Int) (n : Nat) (hn : n ≤ 8) (hs : n ≤ s.size) (hx1 : x1 = (n : Nat)) (hN : num (s.data.toList.take n) < 9223372036854775808) : ∀ (d i : Nat), i + d = n →
    Ev (fun k => codec_Reader_Fixed.l0 k x1 (wrap64 (num (s.data.toList.take i) : Nat)) (n : Nat) (i : Nat) s e) ((num (s.data.toList.take n) : Int), 0, s.extract n s.size, e)
  | 0, i, hi => by
    obtain rfl : i = n := by omega
    refine Ev.step (f := fun _ => some _) (fun k => ?_) (Ev.now _)
    simp only [codec_Reader_Fixed.l0]
    have hw : wrap64 (num (s.data.toList.take i) : Nat) = (num (s.data.toList.take i) : Int) := wrap_id (by omega) (by omega)
    subst hx1
    rw [if_neg (by omega), hw, if_neg (by omega), if_pos (by omega), if_pos (by omega)]
    rfl
  | d + 1, i, hi => by
    have hlt : i < s.size := by omega
    have hb := (s[i]'hlt).toNat_lt
    refine Ev.step (fun k => ?_) (reader_l0 s e x1 n hn hs hx1 hN d (i + 1) (by omega))
    simp only [codec_Reader_Fixed.l0]
    have h8 : wrap64 (8 * (i : Int)) = ((8 * i : Nat) : Int) := by rw [wrap_id (by omega) (by omega)]; omega
    have hbt : wrap64 (bt s (i : Nat)) = ((s[i]'hlt).toNat : Int) := by rw [bt_nat s i hlt]; exact wrap_id (by omega) (by omega)
    have hl : (s.data.toList.take i).length = i := by rw [List.length_take, Array.length_toList]; exact Nat.min_eq_left (show i ≤ s.size by omega)
    have hx := num_lt (s.data.toList.take i)
    rw [hl] at hx
    have ho := or_step (num (s.data.toList.take i)) i (s[i]'hlt).toNat (by omega) hx (by omega)
    rw [if_pos (by omega), if_pos (by omega), if_pos (by omega), h8, if_pos (by omega), hbt, wrap_id (n := (i : Int) + 1) (by omega) (by omega), take_snoc s i hlt, num_snoc, hl, ← ho]
    unfold shl
    rw [Int.toNat_natCast, Nat.min_eq_left (show 8 * i ≤ IntKind.i64.bits from by show 8 * i ≤ 64; omega)]
    rfl
theorem reader_ev (s : ByteArray) (n : Nat) (hn : n = 1 ∨ n = 2 ∨ n = 4 ∨ n = 8) (hs : n ≤ s.size) (hN : num (s.data.toList.take n) < 9223372036854775808) :
    Ev (fun k => codec_Reader_Fixed.f k s 0 (n : Nat)) ((num (s.data.toList.take n) : Int), 0, s.extract n s.size, 0) := by
  unfold codec_Reader_Fixed.f
  have hz : codec_sized.f (n : Nat) = some true := by
    rcases hn with rfl | rfl | rfl | rfl <;> rfl
  simp only [hz, Option.bind_some, codec_Reader_failed.f]
  refine Ev.pos trivial (Ev.pos trivial (Ev.neg (by omega) ?_))
  have := reader_l0 s 0 _ n (by omega) hs rfl hN n 0 (by omega)
  rw [show wrap64 ((num (s.data.toList.take 0) : Nat) : Int) = 0 from by rw [List.take_zero]; exact wrap_id (n := 0) (by omega) (by omega)] at this
  exact this

theorem low2_lt (b : ByteArray) : low2 b < 65536 := by
  have h := num_lt (b.data.toList.take 2)
  have : (b.data.toList.take 2).length ≤ 2 := by rw [List.length_take]; omega
  have h2 : 2 ^ (8 * (b.data.toList.take 2).length) ≤ 2 ^ 16 := Nat.pow_le_pow_right (by omega) (by omega)
  unfold low2
  omega
theorem low2_pre (b : ByteArray) (n : Nat) (h : 2 ≤ n) : low2 (b.extract 0 n) = low2 b := by
  unfold low2
  rw [Go.Lib.extract_data]
  simp only [List.drop_zero, Nat.sub_zero]
  rw [List.take_take, Nat.min_eq_left h]
theorem extract_pre (b : ByteArray) (n j : Nat) (h : j ≤ n) (h2 : 2 ≤ j) : (b.extract 0 n).extract 2 j = b.extract 2 j := by
  apply data_inj
  rw [Go.Lib.extract_data, Go.Lib.extract_data, Go.Lib.extract_data]
  simp only [List.drop_zero, Nat.sub_zero]
  rw [List.drop_take, List.take_take, Nat.min_eq_left (by omega)]
theorem open_pre (b : ByteArray) (hb : b.size = 128) (h : (openS b).2 = 0) : (openS b).1 = b.extract 0 124 := by
  unfold openS at h ⊢
  rw [if_neg (by omega)] at h ⊢
  by_cases hq : sealS (b.extract 0 (b.size - 4)) = b
  · rw [if_pos hq, hb]
  · rw [if_neg hq] at h
    cases h

theorem unblock_ev (b : ByteArray) (hs : b.size ≤ 1125899906842624) : Ev (fun k => sum_Unblock.f k b) (unblockS b) := by
  unfold sum_Unblock.f unblockS
  by_cases h : b.size = 128
  · rw [if_neg (by omega)]
    refine Ev.pos (by omega) ?_
    refine Ev.bind (open_ev b hs) ?_
    by_cases h0 : (openS b).2 = 0
    · have hp := open_pre b h h0
      have hsz : (b.extract 0 124).size = 124 := by rw [ByteArray.size_extract]; omega
      have hlow := low2_pre b 124 (by omega)
      have hlt := low2_lt b
      have hr := reader_ev (b.extract 0 124) 2 (by omega) (by omega) (by have := low2_lt (b.extract 0 124); unfold low2 at this; omega)
      have hnum : num ((b.extract 0 124).data.toList.take 2) = low2 b := hlow
      rw [hnum] at hr
      rw [if_neg (by omega)]
      refine Ev.pos h0 ?_
      simp only [hp, hsz, codec_Of.f, Option.bind_some]
      refine Ev.bind hr ?_
      have hw : wrap64 (((124 : Nat) : Int) - 2) = 122 := wrap_id (n := 122) (by omega) (by omega)
      have hw2 : wrap64 (2 + (low2 b : Int)) = ((2 + low2 b : Nat) : Int) := by rw [wrap_id (by omega) (by omega)]; omega
      simp only [hw, hw2, Int.toNat_natCast]
      by_cases hl : 122 < low2 b
      · rw [if_pos hl]
        exact Ev.pos (by omega) (Ev.now _)
      · rw [if_neg hl]
        refine Ev.neg (by omega) (Ev.pos (by omega) (Ev.pos (by omega) ?_))
        rw [extract_pre b 124 (2 + low2 b) (by omega) (by omega)]
        refine Ev.bind (block_ev _ (by rw [ByteArray.size_extract]; omega)) ?_
        by_cases hq : (blockS (b.extract 2 (2 + low2 b))).1 = b
        · rw [if_pos hq]
          exact Ev.pos ((toList_eq_iff _ _).2 hq) (Ev.now _)
        · rw [if_neg hq]
          exact Ev.neg (fun h => hq ((toList_eq_iff _ _).1 h)) (Ev.now _)
    · rw [if_pos h0]
      exact Ev.neg h0 (Ev.now _)
  · rw [if_pos h]
    exact Ev.neg (by omega) (Ev.now _)

theorem low2_bytes (b : ByteArray) (h : 2 ≤ b.size) : wrap64 (wrap64 (bt b 0) + wrap64 (256 * wrap64 (bt b 1))) = (low2 b : Int) := by
  have e0 : bt b 0 = ((b[0]'(by omega)).toNat : Int) := bt_nat b 0 (by omega)
  have e1 : bt b 1 = ((b[1]'(by omega)).toNat : Int) := bt_nat b 1 (by omega)
  have l0 := (b[0]'(by omega)).toNat_lt
  have l1 := (b[1]'(by omega)).toNat_lt
  have hl : low2 b = (b[0]'(by omega)).toNat + 256 * (b[1]'(by omega)).toNat := by
    unfold low2
    rw [take_snoc b 1 (by omega), take_snoc b 0 (by omega)]
    simp only [List.take_zero, List.nil_append, List.cons_append, num]
    omega
  rw [e0, e1, hl, wrap_id (n := ((b[1]'(by omega)).toNat : Int)) (by omega) (by omega), wrap_id (n := ((b[0]'(by omega)).toNat : Int)) (by omega) (by omega)]
  unfold wrap64
  omega

theorem runblock_ev (b : ByteArray) (hs : b.size ≤ 1125899906842624) : Ev (fun k => cartularyref03_Unblock.f k b) (unblockS b) := by
  unfold cartularyref03_Unblock.f unblockS
  by_cases h : b.size = 128
  · rw [if_neg (by omega)]
    refine Ev.pos (by omega) ?_
    refine Ev.bind (ropen_ev b hs) ?_
    by_cases h0 : (openS b).2 = 0
    · have hlt := low2_lt b
      rw [if_neg (by omega)]
      refine Ev.pos h0 (Ev.pos (by omega) (Ev.pos (by omega) ?_))
      have hw2 : wrap64 (2 + (low2 b : Int)) = ((2 + low2 b : Nat) : Int) := by rw [wrap_id (by omega) (by omega)]; omega
      simp only [low2_bytes b (by omega), hw2, Int.toNat_natCast]
      by_cases hl : 122 < low2 b
      · rw [if_pos hl]
        exact Ev.pos (by omega) (Ev.now _)
      · rw [if_neg hl]
        refine Ev.neg (by omega) (Ev.pos (by omega) (Ev.pos (by omega) ?_))
        refine Ev.bind (rblock_ev _ (by rw [ByteArray.size_extract]; omega)) ?_
        by_cases hq : (blockS (b.extract 2 (2 + low2 b))).1 = b
        · rw [if_pos hq]
          exact Ev.pos ((toList_eq_iff _ _).2 hq) (Ev.now _)
        · rw [if_neg hq]
          exact Ev.neg (fun h => hq ((toList_eq_iff _ _).1 h)) (Ev.now _)
    · rw [if_pos h0]
      exact Ev.neg h0 (Ev.now _)
  · rw [if_pos h]
    exact Ev.neg (by omega) (Ev.now _)
end Go.Proofs.Ytifhgfjohpbliaa.Ev
end

section
/- The laws of sums as statements over bytes: what is sealed is opened; the small case that each law asks first. -/
set_option linter.unusedVariables false
namespace Go.Proofs.Ytifhgfjohpbliaa.Ev
open Go.RowKit Go.Proofs.YtifhgfjohpbliaaW.PrintWords Go.Proofs.YtifhgfjohpbliaaW.PrintLast Go.Proofs.Ytifhgfjohpbliaa.Ps Go.Proofs.Ytifhgfjohpbliaa.Spec Go.Proofs.Ytifhgfjohpbliaa.Given

theorem open_seal (s : ByteArray) : openS (sealS s) = (s, 0) := by
  unfold openS
  have hs := sealS_size s
  have he : (sealS s).extract 0 ((sealS s).size - 4) = s := by
    apply data_inj
    rw [Go.Lib.extract_data, hs]
    unfold sealS
    rw [ByteArray.data_append, Array.toList_append]
    simp only [List.drop_zero, Nat.sub_zero, Nat.add_sub_cancel]
    rw [List.take_append_of_le_length (by rw [Array.length_toList]; exact Nat.le_refl _), List.take_of_length_le (by rw [Array.length_toList]; exact Nat.le_refl _)]
  rw [if_neg (by omega), he, if_pos rfl]

theorem byte_cast (n i : Nat) : ((n : Int) / 2 ^ (8 * i) % 256) = ((n / 2 ^ (8 * i) % 256 : Nat) : Int) := by
  rw [Int.natCast_emod, Int.natCast_ediv, Int.natCast_pow]
  rfl
theorem num_le : ∀ (k : Nat) (n : Nat), n < 2 ^ (8 * k) → num ((strOfNums (le n k)).data.toList) = n
  | k, n, h => by
    rw [strOfNums_data]
    induction k generalizing n with
    | zero => simp [le, num]; omega
    | succ k ih =>
      rw [le_succ, List.map_append, List.map_cons, List.map_nil, num_snoc, List.length_map, le_length]
      have hp : 0 < 2 ^ (8 * k) := Nat.pow_pos (by decide)
      have h1 : num (List.map (fun n => UInt8.ofNat n.toNat) (le (n : Int) k)) = n % 2 ^ (8 * k) := by
        have e : le (n : Int) k = le ((n % 2 ^ (8 * k) : Nat) : Int) k := by
          unfold le
          apply List.map_congr_left
          intro i hi
          have hik : i < k := List.mem_range.mp hi
          have hsplit : 2 ^ (8 * k) = 2 ^ (8 * i) * (256 * 2 ^ (8 * (k - i - 1))) := by
            rw [show (256 : Nat) = 2 ^ 8 from rfl, ← Nat.pow_add, ← Nat.pow_add]
            congr 1
            omega
          have hn : ((n / 2 ^ (8 * i)) % 256 : Nat) = (n % 2 ^ (8 * k) / 2 ^ (8 * i)) % 256 := by
            rw [hsplit, Nat.mod_mul_right_div_self, Nat.mod_mul_right_mod]
          show ((n : Int) / 2 ^ (8 * i) % 256) = (((n % 2 ^ (8 * k) : Nat) : Int) / 2 ^ (8 * i) % 256)
          rw [byte_cast, byte_cast, hn]
        rw [e]
        exact ih _ (Nat.mod_lt _ hp)
      have h2 : (UInt8.ofNat ((n : Int) / 2 ^ (8 * k) % 256).toNat).toNat = n / 2 ^ (8 * k) := by
        have hlt : n / 2 ^ (8 * k) < 256 := by
          rw [Nat.div_lt_iff_lt_mul hp]
          have : 2 ^ (8 * (k + 1)) = 256 * 2 ^ (8 * k) := by rw [show 8 * (k + 1) = 8 + 8 * k from by omega, Nat.pow_add]
          omega
        have e : ((n : Int) / 2 ^ (8 * k) % 256).toNat = n / 2 ^ (8 * k) % 256 := by
          rw [byte_cast, Int.toNat_natCast]
        rw [e, Nat.mod_eq_of_lt hlt]
        rw [UInt8.toNat_ofNat']
        exact Nat.mod_eq_of_lt hlt
      rw [h1, h2]
      have := Nat.mod_add_div n (2 ^ (8 * k))
      rw [Nat.mul_comm (n / 2 ^ (8 * k))]
      exact this

theorem drop_app (a b : List UInt8) (n : Nat) (h : a.length = n) : (a ++ b).drop n = b := by subst h; exact List.drop_left
theorem take_app (a b : List UInt8) (n : Nat) (h : a.length = n) : (a ++ b).take n = a := by subst h; exact List.take_left

/-- There and back: what was laid in a block is taken out. -/
theorem unblock_block (s : ByteArray) (h : s.size ≤ 122) : unblockS (blockS s).1 = (s, 0) := by
  have hsz := blockS_size s h
  have hb : (blockS s).1 = sealS (strOfNums (le s.size 2) ++ s ++ zeros (122 - s.size)) := by unfold blockS; rw [if_neg (by omega)]
  have h2 : (strOfNums (le (s.size : Int) 2)).data.toList.length = 2 := by rw [strOfNums_data, List.length_map, le_length]
  have hd : (blockS s).1.data.toList = (strOfNums (le s.size 2)).data.toList ++ (s.data.toList ++ ((zeros (122 - s.size)).data.toList ++ (strOfNums (le (crc (strOfNums (le s.size 2) ++ s ++ zeros (122 - s.size))) 4)).data.toList)) := by
    rw [hb]
    unfold sealS
    simp only [ByteArray.data_append, Array.toList_append, List.append_assoc]
  have hl : low2 (blockS s).1 = s.size := by
    unfold low2
    rw [hd, take_app _ _ 2 h2]
    exact num_le 2 s.size (by omega)
  have he : (blockS s).1.extract 2 (2 + s.size) = s := by
    apply data_inj
    rw [Go.Lib.extract_data, hd, drop_app _ _ 2 h2, Nat.add_sub_cancel_left, take_app _ _ s.size (by rw [Array.length_toList]; rfl)]
  have ho : (openS (blockS s).1).2 = 0 := by rw [hb, open_seal]
  unfold unblockS
  rw [if_neg (by omega), if_neg (by omega), hl, if_neg (by omega), he, if_pos rfl]

/-- The small case: a block of two letters, the sum of nine digits. -/
theorem crc_digits : crc (⟨#[49, 50, 51, 52, 53, 54, 55, 56, 57]⟩ : ByteArray) = 3808858755 := by kernel_rfl
end Go.Proofs.Ytifhgfjohpbliaa.Ev
end

section
/- The contracts of the functions of sums, in the words of SumSpec: what each answers of a text of at most 2^50 bytes. -/
set_option linter.unusedVariables false
set_option linter.unusedSimpArgs false
namespace Go.Proofs.Ytifhgfjohpbliaa.C
open Go.RowKit Go.Proofs.YtifhgfjohpbliaaW.PrintWords Go.Proofs.YtifhgfjohpbliaaW.PrintLast Go.Proofs.Ytifhgfjohpbliaa.Spec Go.Proofs.Ytifhgfjohpbliaa.Ev

def lim {α : Type} (s : ByteArray) (r : α) : Option α := if s.size ≤ 1125899906842624 then some r else none
theorem lim_some {α : Type} {s : ByteArray} {r r' : α} (h : lim s r = some r') : s.size ≤ 1125899906842624 ∧ r = r' := by
  unfold lim at h
  by_cases hs : s.size ≤ 1125899906842624
  · rw [if_pos hs] at h
    exact ⟨hs, Option.some.inj h⟩
  · rw [if_neg hs] at h
    cases h
theorem lim_ok {α : Type} {s : ByteArray} (r : α) (h : s.size ≤ 1125899906842624) : lim s r = some r := if_pos h

def sum_Of.f (s : ByteArray) : Option Int := lim s (crc s : Int)
def sum_Seal.f (s : ByteArray) : Option ByteArray := lim s (sealS s)
def sum_Open.f (s : ByteArray) : Option (ByteArray × Int) := lim s (openS s)
def sum_Block.f (s : ByteArray) : Option (ByteArray × Int) := lim s (blockS s)
def sum_Unblock.f (s : ByteArray) : Option (ByteArray × Int) := lim s (unblockS s)
theorem sum_Of.calls (a0 : ByteArray) (r : Int) (w : World) (h : sum_Of.f a0 = some r) :
    Calls Try.prog 68 #[.string a0] w fun e w' => e = .returned (.int .i64 r) ∧ Drawn0 w w' := by
  obtain ⟨hs, rfl⟩ := lim_some h
  obtain ⟨k, hk⟩ := (of_ev a0 (by omega)).rounds
  exact Ps.sum_Of.calls k a0 _ w hk
theorem sum_Block.calls (a0 : ByteArray) (r1 : ByteArray) (r2 : Int) (w : World) (h : sum_Block.f a0 = some (r1, r2)) :
    Calls Try.prog 38 #[.string a0] w fun e w' => e = .returned (.tuple #[.string r1, .int .i64 r2]) ∧ Below w.heap.size w w' := by
  obtain ⟨hs, h2⟩ := lim_some h
  obtain ⟨k, hk⟩ := (block_ev a0 hs).rounds
  exact Ps.sum_Block.calls k a0 r1 r2 w (by rw [hk, h2])
theorem sum_Seal.calls (a0 : ByteArray) (r : ByteArray) (w : World) (h : sum_Seal.f a0 = some r) : Calls Try.prog 55 #[.string a0] w fun e w' => e = .returned (.string r) ∧ Below w.heap.size w w' := by obtain ⟨hs, rfl⟩ := lim_some h; obtain ⟨k, hk⟩ := (seal_ev a0 hs).rounds; exact Ps.sum_Seal.calls k a0 _ w hk
theorem sum_Open.calls (a0 : ByteArray) (r1 : ByteArray) (r2 : Int) (w : World) (h : sum_Open.f a0 = some (r1, r2)) :
    Calls Try.prog 59 #[.string a0] w fun e w' => e = .returned (.tuple #[.string r1, .int .i64 r2]) ∧ Below w.heap.size w w' := by
  obtain ⟨hs, h2⟩ := lim_some h
  obtain ⟨k, hk⟩ := (open_ev a0 hs).rounds
  exact Ps.sum_Open.calls k a0 r1 r2 w (by rw [hk, h2])
theorem sum_Unblock.calls (a0 : ByteArray) (r1 : ByteArray) (r2 : Int) (w : World) (h : sum_Unblock.f a0 = some (r1, r2)) :
    Calls Try.prog 42 #[.string a0] w fun e w' => e = .returned (.tuple #[.string r1, .int .i64 r2]) ∧ Below w.heap.size w w' := by
  obtain ⟨hs, h2⟩ := lim_some h
  obtain ⟨k, hk⟩ := (unblock_ev a0 hs).rounds
  exact Ps.sum_Unblock.calls k a0 r1 r2 w (by rw [hk, h2])

def cartularyref03_Block.f (s : ByteArray) : Option (ByteArray × Int) := lim s (blockS s)
def cartularyref03_Unblock.f (s : ByteArray) : Option (ByteArray × Int) := lim s (unblockS s)
theorem cartularyref03_Block.calls (a0 : ByteArray) (r1 : ByteArray) (r2 : Int) (w : World) (h : cartularyref03_Block.f a0 = some (r1, r2)) :
    Calls Try.prog 40 #[.string a0] w fun e w' => e = .returned (.tuple #[.string r1, .int .i64 r2]) ∧ Below w.heap.size w w' := by
  obtain ⟨hs, h2⟩ := lim_some h
  obtain ⟨k, hk⟩ := (rblock_ev a0 hs).rounds
  exact Ps.cartularyref03_Block.calls k a0 r1 r2 w (by rw [hk, h2])
theorem cartularyref03_Unblock.calls (a0 : ByteArray) (r1 : ByteArray) (r2 : Int) (w : World) (h : cartularyref03_Unblock.f a0 = some (r1, r2)) :
    Calls Try.prog 47 #[.string a0] w fun e w' => e = .returned (.tuple #[.string r1, .int .i64 r2]) ∧ Below w.heap.size w w' := by
  obtain ⟨hs, h2⟩ := lim_some h
  obtain ⟨k, hk⟩ := (runblock_ev a0 hs).rounds
  exact Ps.cartularyref03_Unblock.calls k a0 r1 r2 w (by rw [hk, h2])
def cartularyref02_Fixed.f (n s : Int) : Option ByteArray := if 0 ≤ n then (if n ≤ 9223372036854775807 then (if 0 ≤ s then (if s ≤ 8 then some (strOfNums (le n s.toNat)) else none) else none) else none) else none
theorem rf_some {n s : Int} {r : ByteArray} (h : cartularyref02_Fixed.f n s = some r) : 0 ≤ n ∧ n ≤ 9223372036854775807 ∧ (∃ m : Nat, s = m ∧ m ≤ 8 ∧ r = strOfNums (le n m)) := by
  unfold cartularyref02_Fixed.f at h
  repeat' split at h
  · rename_i h1 h2 h3 h4
    exact ⟨h1, h2, s.toNat, by omega, by omega, (Option.some.inj h).symm⟩
  all_goals cases h
theorem cartularyref02_Fixed.calls (a0 a1 : Int) (r : ByteArray) (w : World) (h : cartularyref02_Fixed.f a0 a1 = some r) :
    Calls Try.prog 41 #[.int .i64 a0, .int .i64 a1] w fun e w' => e = .returned (.string r) ∧ Below w.heap.size w w' := by
  obtain ⟨h1, h2, m, rfl, h4, rfl⟩ := rf_some h
  obtain ⟨k, hk⟩ := (rfixed_ev a0 h1 h2 m h4).rounds
  exact Ps.cartularyref02_Fixed.calls k a0 m _ w hk
end Go.Proofs.Ytifhgfjohpbliaa.C
end

section
/- The reader's contracts: what a number of a size reads as, of whatever bytes and in whatever state. -/
set_option linter.unusedVariables false
set_option linter.unusedSimpArgs false
namespace Go.Proofs.Ytifhgfjohpbliaa.C
open Go.RowKit Go.Proofs.YtifhgfjohpbliaaW.PrintWords Go.Proofs.YtifhgfjohpbliaaW.PrintLast Go.Proofs.Ytifhgfjohpbliaa.Spec Go.Proofs.Ytifhgfjohpbliaa.Ev

/-- What is read: the number, the error, what is left, the reader's error. -/
def readS (s : ByteArray) (e : Int) (n : Nat) : Int × Int × ByteArray × Int :=
  if e ≠ 0 then (0, e, s, e) else if s.size < n then (0, 20, s, 20) else if 9223372036854775808 ≤ num (s.data.toList.take n) then (0, 4, s, 4) else ((num (s.data.toList.take n) : Int), 0, s.extract n s.size, 0)

theorem reader_l0_neg (s : ByteArray) (x1 : Int) (hs : 8 ≤ s.size) (hN : 9223372036854775808 ≤ num (s.data.toList.take 8)) : ∀ (d i : Nat), i + d = 8 →
    Ev (fun k => Ps.codec_Reader_Fixed.l0 k x1 (wrap64 (num (s.data.toList.take i) : Nat)) 8 (i : Nat) s 0) (0, 4, s, 4)
  | 0, i, hi => by
    obtain rfl : i = 8 := by omega
    refine Ev.step (f := fun _ => some _) (fun k => ?_) (Ev.now _)
    simp only [Ps.codec_Reader_Fixed.l0]
    have hx := num_lt (s.data.toList.take 8)
    have hl : (s.data.toList.take 8).length = 8 := by rw [List.length_take, Array.length_toList]; exact Nat.min_eq_left hs
    rw [hl] at hx
    have hneg : wrap64 ((num (s.data.toList.take 8) : Nat) : Int) < 0 := by unfold wrap64; omega
    rw [if_neg (by omega), if_pos hneg]
    rfl
  | d + 1, i, hi => by
    have hlt : i < s.size := by omega
    have hb := (s[i]'hlt).toNat_lt
    refine Ev.step (fun k => ?_) (reader_l0_neg s x1 hs hN d (i + 1) (by omega))
    simp only [Ps.codec_Reader_Fixed.l0]
    have h8 : wrap64 (8 * (i : Int)) = ((8 * i : Nat) : Int) := by rw [wrap_id (by omega) (by omega)]; omega
    have hbt : wrap64 (bt s (i : Nat)) = ((s[i]'hlt).toNat : Int) := by rw [bt_nat s i hlt]; exact wrap_id (by omega) (by omega)
    have hl : (s.data.toList.take i).length = i := by rw [List.length_take, Array.length_toList]; exact Nat.min_eq_left (show i ≤ s.size by omega)
    have hx := num_lt (s.data.toList.take i)
    rw [hl] at hx
    have ho := or_step (num (s.data.toList.take i)) i (s[i]'hlt).toNat (by omega) hx (by omega)
    rw [if_pos (by omega), if_pos (by omega), if_pos (by omega), h8, if_pos (by omega), hbt, wrap_id (n := (i : Int) + 1) (by omega) (by omega), take_snoc s i hlt, num_snoc, hl, ← ho]
    unfold shl
    rw [Int.toNat_natCast, Nat.min_eq_left (show 8 * i ≤ IntKind.i64.bits from by show 8 * i ≤ 64; omega)]
    rfl

theorem readS_ev (s : ByteArray) (e : Int) (n : Nat) (hn : n = 1 ∨ n = 2 ∨ n = 4 ∨ n = 8) : Ev (fun k => Ps.codec_Reader_Fixed.f k s e (n : Nat)) (readS s e n) := by
  by_cases he : e = 0
  · subst he
    by_cases hs : s.size < n
    · unfold Ps.codec_Reader_Fixed.f readS
      have hz : Ps.codec_sized.f (n : Nat) = some true := by rcases hn with rfl | rfl | rfl | rfl <;> rfl
      rw [if_neg (by simp), if_pos hs]
      simp only [hz, Option.bind_some, Ps.codec_Reader_failed.f, Ps.codec_Reader_fail.f]
      exact Ev.pos trivial (Ev.pos trivial (Ev.pos (by omega) (Ev.now _)))
    · by_cases hN : num (s.data.toList.take n) < 9223372036854775808
      · have := reader_ev s n hn (by omega) hN
        unfold readS
        rw [if_neg (by simp), if_neg hs, if_neg (by omega)]
        exact this
      · have hl : (s.data.toList.take n).length = n := by rw [List.length_take, Array.length_toList]; exact Nat.min_eq_left (show n ≤ s.size by omega)
        have hx := num_lt (s.data.toList.take n)
        rw [hl] at hx
        have h8 : n = 8 := by
          rcases hn with rfl | rfl | rfl | rfl <;> omega
        subst h8
        unfold Ps.codec_Reader_Fixed.f readS
        have hz : Ps.codec_sized.f ((8 : Nat) : Int) = some true := rfl
        rw [if_neg (by simp), if_neg hs, if_pos (by omega)]
        simp only [hz, Option.bind_some, Ps.codec_Reader_failed.f]
        refine Ev.pos trivial (Ev.pos trivial (Ev.neg (by omega) ?_))
        have := reader_l0_neg s ((8 : Nat) : Int) (by omega) (by omega) 8 0 (by omega)
        rw [show wrap64 ((num (s.data.toList.take 0) : Nat) : Int) = 0 from by rw [List.take_zero]; exact wrap_id (n := 0) (by omega) (by omega)] at this
        exact this
  · unfold Ps.codec_Reader_Fixed.f readS
    have hz : Ps.codec_sized.f (n : Nat) = some true := by rcases hn with rfl | rfl | rfl | rfl <;> rfl
    rw [if_pos he]
    simp only [hz, Option.bind_some, Ps.codec_Reader_failed.f]
    exact Ev.pos trivial (Ev.neg he (Ev.now _))

theorem read_calls (g : Nat) (s : ByteArray) (e : Int) (n : Nat) (hn : n = 1 ∨ n = 2 ∨ n = 4 ∨ n = 8) (w0 w : World) (hI : Ps.IsS93 w0 w g s e) (hB : Below w0.heap.size w0 w) :
    Calls Try.prog 45 #[.pointer (some ⟨g, 0, none⟩), .int .i64 (n : Nat)] w fun e' w' => e' = .returned (.tuple #[.int .i64 (readS s e n).1, .int .i64 (readS s e n).2.1]) ∧ Ps.IsS93 w0 w' g (readS s e n).2.2.1 (readS s e n).2.2.2 ∧ Below w0.heap.size w0 w' ∧ KeepBut w w' g none := by
  obtain ⟨k, hk⟩ := (readS_ev s e n hn).rounds
  exact Ps.codec_Reader_Fixed.calls k g s e n _ _ _ _ w0 w hI hB hk

def endS (s : ByteArray) (e : Int) : Int := if e ≠ 0 then e else if s.size = 0 then 0 else 4
theorem size_zero (s : ByteArray) : s.toList = [] ↔ s.size = 0 := by
  rw [Go.Lib.toList_data, ← List.length_eq_zero_iff, Array.length_toList]
  rfl
theorem end_calls (g : Nat) (s : ByteArray) (e : Int) (w0 w : World) (hI : Ps.IsS93 w0 w g s e) (hB : Below w0.heap.size w0 w) :
    Calls Try.prog 46 #[.pointer (some ⟨g, 0, none⟩)] w fun e' w' => e' = .returned (.int .i64 (endS s e)) ∧ Ps.IsS93 w0 w' g s e ∧ Below w0.heap.size w0 w' ∧ KeepBut w w' g none := by
  refine Ps.codec_Reader_End.calls g s e _ _ _ w0 w hI hB ?_
  unfold Ps.codec_Reader_End.f endS
  have hz := size_zero s
  by_cases he : e = 0
  · by_cases hs : s.size = 0
    · simp [he, hs, hz]
    · simp [he, hs, hz]
  · simp [he]
end Go.Proofs.Ytifhgfjohpbliaa.C
end

section
/- What is read back: laws of numbers, of what is cut off, of blocks. -/
set_option linter.unusedVariables false
set_option linter.unusedSimpArgs false
namespace Go.Proofs.Ytifhgfjohpbliaa.C
open Go.RowKit Go.Proofs.YtifhgfjohpbliaaW.PrintWords Go.Proofs.YtifhgfjohpbliaaW.PrintLast Go.Proofs.Ytifhgfjohpbliaa.Spec Go.Proofs.Ytifhgfjohpbliaa.Ev

def cutS (s p : ByteArray) : ByteArray × Bool := if p.size ≤ s.size ∧ s.extract 0 p.size = p then (s.extract p.size s.size, true) else (s, false)
theorem cut_f (s p : ByteArray) : Ps.strings_CutPrefix.f s p = some (cutS s p) := by
  unfold Ps.strings_CutPrefix.f Ps.stringslite_CutPrefix.f Ps.stringslite_HasPrefix.f cutS
  by_cases h : p.size ≤ s.size
  · rw [if_pos (by omega), if_pos (by omega), if_pos (by omega), Int.toNat_natCast]
    simp only [Option.bind_some]
    by_cases hq : s.extract 0 p.size = p
    · have e : ((s.extract 0 p.size).toList == p.toList) = true := by rw [hq]; simp
      rw [e, if_pos rfl, if_pos (by omega), if_pos (by omega), if_pos ⟨h, hq⟩]
      rfl
    · have e : ((s.extract 0 p.size).toList == p.toList) = false := by
        rw [beq_eq_false_iff_ne]
        exact fun h => hq ((toList_eq_iff _ _).1 h)
      rw [e, if_neg (by simp), if_neg (fun h => hq h.2)]
      rfl
  · have h2 : ¬ (p.size ≤ s.size ∧ s.extract 0 p.size = p) := fun h' => h h'.1
    rw [if_neg (show ¬ (s.size : Int) ≥ (p.size : Int) by omega), if_neg h2]
    rfl
theorem extract_app (a b : ByteArray) : (a ++ b).extract a.size (a ++ b).size = b := by
  apply data_inj
  rw [Go.Lib.extract_data, ByteArray.data_append, Array.toList_append, Ev.drop_app _ _ _ (by rw [Array.length_toList]; rfl), List.take_of_length_le]
  rw [ByteArray.size_append, Array.length_toList]
  show b.size ≤ _
  omega
theorem extract_pre0 (a b : ByteArray) : (a ++ b).extract 0 a.size = a := by
  apply data_inj
  rw [Go.Lib.extract_data, ByteArray.data_append, Array.toList_append]
  simp only [List.drop_zero, Nat.sub_zero]
  rw [Ev.take_app _ _ _ (by rw [Array.length_toList]; rfl)]
theorem readS_le (n k : Nat) (r : ByteArray) (h : n < 2 ^ (8 * k)) (h2 : n < 9223372036854775808) : readS (strOfNums (le n k) ++ r) 0 k = ((n : Int), 0, r, 0) := by
  have hs : (strOfNums (le (n : Int) k)).size = k := by rw [strOfNums_size, le_length]
  have hn : num ((strOfNums (le (n : Int) k) ++ r).data.toList.take k) = n := by
    rw [ByteArray.data_append, Array.toList_append, Ev.take_app _ _ k (by rw [Array.length_toList]; exact hs)]
    exact Ev.num_le k n h
  have he := extract_app (strOfNums (le (n : Int) k)) r
  rw [hs] at he
  unfold readS
  rw [if_neg (by simp), if_neg (by rw [ByteArray.size_append]; omega), hn, if_neg (by omega), he]
theorem readS_ok {s : ByteArray} {e : Int} {n : Nat} (h : (readS s e n).2.2.2 = 0) : e = 0 ∧ n ≤ s.size ∧ readS s e n = ((num (s.data.toList.take n) : Int), 0, s.extract n s.size, 0) := by
  unfold readS at h ⊢
  by_cases he : e ≠ 0
  · rw [if_pos he] at h
    exact absurd h he
  · rw [if_neg he] at h ⊢
    by_cases hs : s.size < n
    · rw [if_pos hs] at h
      cases h
    · rw [if_neg hs] at h ⊢
      by_cases hN : 9223372036854775808 ≤ num (s.data.toList.take n)
      · rw [if_pos hN] at h
        cases h
      · rw [if_neg hN]
        exact ⟨by simpa using he, by omega, rfl⟩
theorem le_num : ∀ l : List UInt8, (strOfNums (le (num l : Int) l.length)).data.toList = l
  | [] => rfl
  | b :: l => by
    have ih := le_num l
    have hb := b.toNat_lt
    rw [strOfNums_data] at ih ⊢
    have e : le (num (b :: l) : Int) (b :: l).length = (b.toNat : Int) :: le (num l : Int) l.length := by
      unfold le
      rw [List.length_cons, List.range_succ_eq_map, List.map_cons, List.map_map]
      congr 1
      · rw [Ev.byte_cast, num]
        simp
      · apply List.map_congr_left
        intro i _
        show ((num (b :: l) : Nat) : Int) / 2 ^ (8 * (i + 1)) % 256 = _
        rw [Ev.byte_cast, Ev.byte_cast]
        congr 2
        rw [num, show 8 * (i + 1) = 8 + 8 * i from by omega, Nat.pow_add, ← Nat.div_div_eq_div_mul]
        congr 1
        omega
    rw [e, List.map_cons, ih]
    congr 1
    rw [Int.toNat_natCast]
    exact UInt8.ofNat_toNat
theorem cut_self (p r : ByteArray) : cutS (p ++ r) p = (r, true) := by
  unfold cutS
  rw [if_pos ⟨by rw [ByteArray.size_append]; omega, extract_pre0 p r⟩, extract_app]
theorem cut_says {s p r : ByteArray} (h : cutS s p = (r, true)) : s = p ++ r := by
  unfold cutS at h
  by_cases hc : p.size ≤ s.size ∧ s.extract 0 p.size = p
  · rw [if_pos hc] at h
    have h1 := (Prod.mk.inj h).1
    have := split_at s p.size hc.1
    rw [hc.2, h1] at this
    exact this.symm
  · rw [if_neg hc] at h
    cases (Prod.mk.inj h).2
theorem block_inj {s t x : ByteArray} (hs : (blockS s).1 = x) (h : s.size ≤ 122) (ht : unblockS x = (t, 0)) : s = t := by
  rw [← hs, Ev.unblock_block s h] at ht
  exact (Prod.mk.inj ht).1
theorem unblock_says {x t : ByteArray} (h : unblockS x = (t, 0)) : (blockS t).1 = x ∧ t.size ≤ 122 := by
  unfold unblockS at h
  by_cases h1 : x.size ≠ 128
  · rw [if_pos h1] at h
    cases (Prod.mk.inj h).2
  · rw [if_neg h1] at h
    by_cases h2 : (openS x).2 ≠ 0
    · rw [if_pos h2] at h
      exact absurd (Prod.mk.inj h).2 h2
    · rw [if_neg h2] at h
      by_cases h3 : 122 < low2 x
      · rw [if_pos h3] at h
        cases (Prod.mk.inj h).2
      · rw [if_neg h3] at h
        by_cases h4 : (blockS (x.extract 2 (2 + low2 x))).1 = x
        · rw [if_pos h4] at h
          have := (Prod.mk.inj h).1
          rw [← this]
          exact ⟨h4, by rw [ByteArray.size_extract]; omega⟩
        · rw [if_neg h4] at h
          cases (Prod.mk.inj h).2

end Go.Proofs.Ytifhgfjohpbliaa.C
end
