/- What the program's and the references' functions of sums come to. -/
import Derived.Test.YtlmnfnkjbgnklaaSumSpec
import Derived.Test.YtlmnfnkjbgnklaaPsx
set_option linter.unusedVariables false
namespace Go.Proofs.Ytlmnfnkjbgnklaa.Ev
open Go.RowKit Go.Proofs.YtlmnfnkjbgnklaaW.PrintWords Go.Proofs.YtlmnfnkjbgnklaaW.PrintLast Go.Proofs.Ytlmnfnkjbgnklaa.Ps Go.Proofs.Ytlmnfnkjbgnklaa.Spec Go.Proofs.Ytlmnfnkjbgnklaa.Given

/-! The sum -/
theorem of_l1 (s : ByteArray) (n : Int) (i : Int) (r : Int) : ∀ (d j c : Nat), j + d = 8 → c < 4294967296 →
    Ev (fun k => sum_Of.l0 k s (stN d c : Nat) n (wrap64 (i + 1))) r → Ev (fun k => sum_Of.l1 k s (c : Nat) n i (j : Nat)) r
  | 0, j, c, hj, hc, h => Ev.step (fun k => by simp only [sum_Of.l1]; rw [if_neg (by omega)]; rfl) h
  | d + 1, j, c, hj, hc, h => by
    have ih := of_l1 s n i r d (j + 1) (st c) (by omega) (st_lt hc) h
    refine Ev.step (fun k => ?_) ih
    simp only [sum_Of.l1]
    rw [if_pos (by omega), st_u32 c hc, wrap_id (by omega) (by omega)]
    rfl

theorem of_l0 (s : ByteArray) (hs : s.size ≤ 9223372036854775806) : ∀ (d i c : Nat), i + d = s.size → c < 4294967296 →
    Ev (fun k => sum_Of.l0 k s (c : Nat) (s.size : Int) (i : Nat)) ((crcFold c (s.data.toList.drop i) ^^^ 4294967295 : Nat) : Int)
  | 0, i, c, hi, hc => by
    refine Ev.step (f := fun _ => some _) (fun k => ?_) (Ev.now _)
    simp only [sum_Of.l0]
    have hl : s.data.toList.drop i = [] := List.drop_eq_nil_of_le (by rw [Array.length_toList]; show s.size ≤ i; omega)
    rw [if_neg (by omega), hl]
    have := u32_xor_nat 4294967295 c (by omega) hc
    have hx := xor_lt32 (a := 4294967295) (b := c) (by omega) hc
    show some (wrap64 (Go.bits .xor .u32 ((4294967295 : Nat) : Int) (c : Int))) = _
    rw [this, wrap_id (by omega) (by omega), Nat.xor_comm]
    rfl
  | d + 1, i, c, hi, hc => by
    have hlt : i < s.size := by omega
    have hb := (s[i]'hlt).toNat_lt
    have hx : c ^^^ (s[i]'hlt).toNat < 4294967296 := xor_lt32 hc (by omega)
    have ih := of_l0 s hs d (i + 1) (stN 8 (c ^^^ (s[i]'hlt).toNat)) (by omega) (stN_lt 8 hx)
    refine Ev.step (f := fun k => sum_Of.l1 k s (Go.bits .xor .u32 (c : Nat) ((bt s (i : Nat)) % 4294967296)) (s.size : Int) (i : Nat) 0) (fun k => ?_) ?_
    · simp only [sum_Of.l0]
      rw [if_pos (by omega), if_pos (by omega), if_pos (by omega)]
    · have e : Go.bits .xor .u32 (c : Nat) ((bt s (i : Nat)) % 4294967296) = ((c ^^^ (s[i]'hlt).toNat : Nat) : Int) := by
        rw [bt_nat s i hlt, show (((s[i]'hlt).toNat : Int) % 4294967296) = ((s[i]'hlt).toNat : Int) from by omega]
        exact u32_xor_nat _ _ hc (by omega)
      rw [drop_cons s i hlt]
      simp only [e]
      refine of_l1 s _ _ _ 8 0 _ rfl hx ?_
      rw [wrap_id (by omega) (by omega)]
      exact ih

theorem of_ev (s : ByteArray) (hs : s.size ≤ 9223372036854775806) : Ev (fun k => sum_Of.f k s) (crc s : Int) := by
  have := of_l0 s hs s.size 0 4294967295 (by omega) (by omega)
  exact this

theorem rof_l1 (s : ByteArray) (i : Int) (r : Int) : ∀ (d j c : Nat), j + d = 8 → c < 4294967296 →
    Ev (fun k => cartularyref03_Of.l0 k s (stN d c : Nat) (wrap64 (i + 1))) r → Ev (fun k => cartularyref03_Of.l1 k s (c : Nat) i (j : Nat)) r
  | 0, j, c, hj, hc, h => Ev.step (fun k => by simp only [cartularyref03_Of.l1]; rw [if_neg (by omega)]; rfl) h
  | d + 1, j, c, hj, hc, h => by
    have ih := rof_l1 s i r d (j + 1) (st c) (by omega) (st_lt hc) h
    refine Ev.step (fun k => ?_) ih
    simp only [cartularyref03_Of.l1]
    rw [if_pos (by omega)]
    have h2 : Int.tdiv (c : Int) 2 = ((c / 2 : Nat) : Int) := by rw [Int.tdiv_eq_ediv_of_nonneg (by omega)]; omega
    have hm : Int.tmod (c : Int) 2 = ((c % 2 : Nat) : Int) := by rw [Int.tmod_eq_emod_of_nonneg (by omega)]; omega
    have hw : wrap64 (Int.tdiv (c : Int) 2) = ((c / 2 : Nat) : Int) := by rw [h2]; exact wrap_id (by omega) (by omega)
    have hj' : wrap64 ((j : Int) + 1) = ((j + 1 : Nat) : Int) := wrap_id (by omega) (by omega)
    rw [hm, hw, hj']
    unfold st
    rcases Nat.mod_two_eq_zero_or_one c with h0 | h0
    · rw [h0, if_neg (by omega), if_neg (by omega)]
    · rw [h0, if_pos (by rfl), if_pos rfl]
      have := i64_xor_nat (c / 2) 2197175160 (by omega) (by omega)
      rw [show (2197175160 : Int) = ((2197175160 : Nat) : Int) from rfl, this]

theorem rof_l0 (s : ByteArray) (hs : s.size ≤ 9223372036854775806) : ∀ (d i c : Nat), i + d = s.size → c < 4294967296 →
    Ev (fun k => cartularyref03_Of.l0 k s (c : Nat) (i : Nat)) ((crcFold c (s.data.toList.drop i) ^^^ 4294967295 : Nat) : Int)
  | 0, i, c, hi, hc => by
    refine Ev.step (f := fun _ => some _) (fun k => ?_) (Ev.now _)
    simp only [cartularyref03_Of.l0]
    have hl : s.data.toList.drop i = [] := List.drop_eq_nil_of_le (by rw [Array.length_toList]; show s.size ≤ i; omega)
    rw [if_neg (by omega), hl]
    have := i64_xor_nat c 4294967295 (by omega) (by omega)
    show some (Go.bits .xor .i64 (c : Int) ((4294967295 : Nat) : Int)) = _
    rw [this]
    rfl
  | d + 1, i, c, hi, hc => by
    have hlt : i < s.size := by omega
    have hb := (s[i]'hlt).toNat_lt
    have hx : c ^^^ (s[i]'hlt).toNat < 4294967296 := xor_lt32 hc (by omega)
    have ih := rof_l0 s hs d (i + 1) (stN 8 (c ^^^ (s[i]'hlt).toNat)) (by omega) (stN_lt 8 hx)
    refine Ev.step (f := fun k => cartularyref03_Of.l1 k s (Go.bits .xor .i64 (c : Nat) (wrap64 (bt s (i : Nat)))) (i : Nat) 0) (fun k => ?_) ?_
    · simp only [cartularyref03_Of.l0]
      rw [if_pos (by omega), if_pos (by omega)]
    · have e : Go.bits .xor .i64 (c : Nat) (wrap64 (bt s (i : Nat))) = ((c ^^^ (s[i]'hlt).toNat : Nat) : Int) := by
        rw [bt_nat s i hlt, wrap_id (by omega) (by omega)]
        exact i64_xor_nat _ _ (by omega) (by omega)
      rw [drop_cons s i hlt]
      simp only [e]
      refine rof_l1 s _ _ 8 0 _ rfl hx ?_
      rw [wrap_id (by omega) (by omega)]
      exact ih

theorem rof_ev (s : ByteArray) (hs : s.size ≤ 9223372036854775806) : Ev (fun k => cartularyref03_Of.f k s) (crc s : Int) := by
  have := rof_l0 s hs s.size 0 4294967295 (by omega) (by omega)
  exact this

/-! A number's bytes -/
theorem le_succ (n : Int) (k : Nat) : le n (k + 1) = le n k ++ [n / 2 ^ (8 * k) % 256] := by
  unfold le
  rw [List.range_succ, List.map_append]
  rfl

theorem rfixed_l0 (n : Int) (h0 : 0 ≤ n) (h1 : n ≤ 9223372036854775807) (s : Nat) (hs : s ≤ 8) : ∀ (d i : Nat), i + d = s →
    Ev (fun k => cartularyref02_Fixed.l0 k (n / 2 ^ (8 * i)) (s : Nat) (le n i) (i : Nat)) (strOfNums (le n s))
  | 0, i, hi => by
    refine Ev.step (f := fun _ => some _) (fun k => ?_) (Ev.now _)
    simp only [cartularyref02_Fixed.l0]
    rw [if_neg (by omega)]
    obtain rfl : i = s := by omega
    rfl
  | d + 1, i, hi => by
    have ih := rfixed_l0 n h0 h1 s hs d (i + 1) (by omega)
    refine Ev.step (fun k => ?_) ih
    simp only [cartularyref02_Fixed.l0]
    have hn : 0 ≤ n / 2 ^ (8 * i) := Int.ediv_nonneg h0 (by have : (0 : Int) < 2 ^ (8 * i) := Int.pow_pos (by decide); omega)
    have hle : n / 2 ^ (8 * i) ≤ n := Int.ediv_le_self _ h0
    have e1 : wrap64 (Int.tdiv (n / 2 ^ (8 * i)) 256) = n / 2 ^ (8 * (i + 1)) := by
      rw [Int.tdiv_eq_ediv_of_nonneg hn, Int.ediv_ediv_of_nonneg (by have : (0 : Int) < 2 ^ (8 * i) := Int.pow_pos (by decide); omega), show (2 : Int) ^ (8 * i) * 256 = 2 ^ (8 * (i + 1)) from by rw [show 8 * (i + 1) = 8 * i + 8 from by omega, Int.pow_add]; rfl]
      have a : 0 ≤ n / 2 ^ (8 * (i + 1)) := Int.ediv_nonneg h0 (by have : (0 : Int) < 2 ^ (8 * (i + 1)) := Int.pow_pos (by decide); omega)
      have b : n / 2 ^ (8 * (i + 1)) ≤ n := Int.ediv_le_self _ h0
      exact wrap_id (by omega) (by omega)
    have e2 : Int.tmod (n / 2 ^ (8 * i)) 256 % 256 = n / 2 ^ (8 * i) % 256 := by
      rw [Int.tmod_eq_emod_of_nonneg hn]; omega
    rw [if_pos (by omega), if_pos (by rw [le_length]; omega), e1, e2, wrap_id (by omega) (by omega), le_succ]
    rfl

theorem rfixed_ev (n : Int) (h0 : 0 ≤ n) (h1 : n ≤ 9223372036854775807) (s : Nat) (hs : s ≤ 8) : Ev (fun k => cartularyref02_Fixed.f k n (s : Nat)) (strOfNums (le n s)) := by
  have := rfixed_l0 n h0 h1 s hs s 0 (by omega)
  simpa [cartularyref02_Fixed.f, le] using this

theorem fixed4 (c : Nat) (h : c < 4294967296) : sum_fixed.f (c : Int) 4 = some (strOfNums (le c 4)) := by
  unfold sum_fixed.f
  rw [if_pos (by omega), if_neg (by omega), if_pos rfl, if_pos (by omega)]
theorem fixed2 (c : Nat) (h : c < 65536) : sum_fixed.f (c : Int) 2 = some (strOfNums (le c 2)) := by
  unfold sum_fixed.f
  rw [if_pos (by omega), if_pos rfl, if_pos (by omega)]

theorem Ev.same {α : Type} {g f : Nat → Option α} {r : α} (h : ∀ k, g k = f k) (k : Ev f r) : Ev g r := Ev.congr h k
theorem Ev.none_bind {α β : Type} {g : Nat → Option α} {a : α} (h : Ev g a) {f : Nat → α → Option β} {r : β} (k : Ev (fun n => f n a) r) : Ev (fun n => (g n).bind fun x => f n x) r := Ev.bind h k

theorem Ev.pos {α : Type} {c : Prop} [Decidable c] {g f : Nat → Option α} {r : α} (hc : c) (h : Ev g r) : Ev (fun k => if c then g k else f k) r := by
  simpa only [if_pos hc] using h
theorem Ev.neg {α : Type} {c : Prop} [Decidable c] {g f : Nat → Option α} {r : α} (hc : ¬ c) (h : Ev f r) : Ev (fun k => if c then g k else f k) r := by
  simpa only [if_neg hc] using h

/-! Sealed texts -/
theorem seal_ev (s : ByteArray) (hs : s.size ≤ 1125899906842624) : Ev (fun k => sum_Seal.f k s) (sealS s) := by
  unfold sum_Seal.f
  refine Ev.bind (of_ev s (by omega)) ?_
  simp only [fixed4 _ (crc_lt s), Option.bind_some]
  exact Ev.pos (by rw [strOfNums_size, le_length]; omega) (Ev.now _)
theorem rseal_ev (s : ByteArray) (hs : s.size ≤ 1125899906842624) : Ev (fun k => cartularyref03_Seal.f k s) (sealS s) := by
  unfold cartularyref03_Seal.f
  refine Ev.bind (rof_ev s (by omega)) ?_
  have hc := crc_lt s
  refine Ev.bind (rfixed_ev (crc s) (by omega) (by omega) 4 (by omega)) ?_
  exact Ev.pos (by rw [strOfNums_size, le_length]; omega) (Ev.now _)

theorem tail_iff (s : ByteArray) (h : 4 ≤ s.size) : (s.extract (s.size - 4) s.size).toList = (strOfNums (le (crc (s.extract 0 (s.size - 4))) 4)).toList ↔ sealS (s.extract 0 (s.size - 4)) = s := by
  rw [toList_eq_iff]
  have e := split_at s (s.size - 4) (by omega)
  unfold sealS
  constructor
  · intro h1
    rw [← h1]
    exact e
  · intro h1
    have h2 := append_inj (e.trans h1.symm) rfl
    exact h2.2

theorem open_ev (s : ByteArray) (hs : s.size ≤ 1125899906842624) : Ev (fun k => sum_Open.f k s) (openS s) := by
  unfold sum_Open.f openS
  have hw : wrap64 ((s.size : Int) - 4) = (s.size : Int) - 4 := wrap_id (by omega) (by omega)
  rw [hw]
  by_cases h4 : s.size < 4
  · rw [if_pos h4]
    exact Ev.pos (by omega) (Ev.now _)
  · have hn : ((s.size : Int) - 4).toNat = s.size - 4 := by omega
    rw [if_neg h4, hn]
    refine Ev.neg (by omega) (Ev.pos (by omega) (Ev.pos (by omega) ?_))
    refine Ev.bind (of_ev _ (by rw [ByteArray.size_extract]; omega)) ?_
    simp only [fixed4 _ (crc_lt _), Option.bind_some]
    by_cases hq : sealS (s.extract 0 (s.size - 4)) = s
    · rw [if_pos hq]
      exact Ev.pos ((tail_iff s (by omega)).2 hq) (Ev.now _)
    · rw [if_neg hq]
      exact Ev.neg (fun h => hq ((tail_iff s (by omega)).1 h)) (Ev.now _)
theorem ropen_ev (s : ByteArray) (hs : s.size ≤ 1125899906842624) : Ev (fun k => cartularyref03_Open.f k s) (openS s) := by
  unfold cartularyref03_Open.f openS
  have hw : wrap64 ((s.size : Int) - 4) = (s.size : Int) - 4 := wrap_id (by omega) (by omega)
  rw [hw]
  by_cases h4 : s.size < 4
  · rw [if_pos h4]
    exact Ev.pos (by omega) (Ev.now _)
  · have hn : ((s.size : Int) - 4).toNat = s.size - 4 := by omega
    rw [if_neg h4, hn]
    refine Ev.neg (by omega) (Ev.pos (by omega) (Ev.pos (by omega) ?_))
    refine Ev.bind (rseal_ev _ (by rw [ByteArray.size_extract]; omega)) ?_
    by_cases hq : sealS (s.extract 0 (s.size - 4)) = s
    · rw [if_pos hq]
      exact Ev.pos ((toList_eq_iff _ _).2 hq) (Ev.now _)
    · rw [if_neg hq]
      exact Ev.neg (fun h => hq ((toList_eq_iff _ _).1 h)) (Ev.now _)

/-! Blocks -/
theorem block_ev (s : ByteArray) (hs : s.size ≤ 1125899906842624) : Ev (fun k => sum_Block.f k s) (blockS s) := by
  unfold sum_Block.f blockS
  have hw : wrap64 (122 - (s.size : Int)) = 122 - (s.size : Int) := wrap_id (by omega) (by omega)
  rw [hw]
  by_cases h : 122 < s.size
  · rw [if_pos h]
    exact Ev.pos (by omega) (Ev.now _)
  · have hn : (122 - (s.size : Int)).toNat = 122 - s.size := by omega
    have hz : (strOfNums (le (s.size : Int) 2)).size = 2 := by rw [strOfNums_size, le_length]
    rw [if_neg h]
    refine Ev.neg (by omega) ?_
    simp only [fixed2 s.size (by omega), Option.bind_some, hn]
    have hz2 : (strOfNums (List.replicate (122 - s.size) 0)).size = 122 - s.size := by rw [strOfNums_size, List.length_replicate]
    refine Ev.pos (by omega) (Ev.pos (by omega) (Ev.pos (by omega) (Ev.pos (by omega) ?_)))
    refine Ev.bind (seal_ev _ (by rw [ByteArray.size_append, ByteArray.size_append]; omega)) ?_
    exact Ev.now _

theorem zeros_succ (n : Nat) : zeros n ++ (⟨#[0]⟩ : ByteArray) = zeros (n + 1) := by
  apply data_inj
  unfold zeros
  rw [ByteArray.data_append, Array.toList_append, strOfNums_data, strOfNums_data, List.replicate_succ', List.map_append]
  rfl
theorem rzeros_l0 (n : Nat) (hn : n ≤ 122) : ∀ (d i : Nat), i + d = n → Ev (fun k => cartularyref03_Zeros.l0 k (n : Nat) (zeros i) (i : Nat)) (zeros n)
  | 0, i, hi => by
    refine Ev.step (f := fun _ => some _) (fun k => ?_) (Ev.now _)
    simp only [cartularyref03_Zeros.l0]
    rw [if_neg (by omega)]
    obtain rfl : i = n := by omega
    rfl
  | d + 1, i, hi => by
    refine Ev.step (fun k => ?_) (rzeros_l0 n hn d (i + 1) (by omega))
    simp only [cartularyref03_Zeros.l0]
    rw [if_pos (by omega), if_pos (by rw [zeros_size]; omega), zeros_succ, wrap_id (by omega) (by omega)]
    rfl
theorem rblock_ev (s : ByteArray) (hs : s.size ≤ 1125899906842624) : Ev (fun k => cartularyref03_Block.f k s) (blockS s) := by
  unfold cartularyref03_Block.f blockS
  by_cases h : 122 < s.size
  · rw [if_pos h]
    exact Ev.pos (by omega) (Ev.now _)
  · have hn : (122 - (s.size : Int)) = ((122 - s.size : Nat) : Int) := by omega
    have hz : (strOfNums (le (s.size : Int) 2)).size = 2 := by rw [strOfNums_size, le_length]
    rw [if_neg h, hn]
    refine Ev.neg (by omega) ?_
    refine Ev.bind (rfixed_ev _ (by omega) (by omega) 2 (by omega)) ?_
    refine Ev.pos (by omega) ?_
    refine Ev.bind (a := zeros (122 - s.size)) (rzeros_l0 (122 - s.size) (by omega) (122 - s.size) 0 (by omega)) ?_
    refine Ev.pos (by rw [zeros_size]; omega) ?_
    refine Ev.bind (rseal_ev _ (by rw [ByteArray.size_append, ByteArray.size_append, zeros_size]; omega)) ?_
    exact Ev.now _

/-! The reader -/
theorem reader_l0 (s : ByteArray) (e : Int) (x1 : Int) (n : Nat) (hn : n ≤ 8) (hs : n ≤ s.size) (hx1 : x1 = (n : Nat)) (hN : num (s.data.toList.take n) < 9223372036854775808) : ∀ (d i : Nat), i + d = n →
    Ev (fun k => codec_Reader_Fixed.l0 k x1 (wrap64 (num (s.data.toList.take i) : Nat)) (n : Nat) (i : Nat) s e) ((num (s.data.toList.take n) : Int), 0, s.extract n s.size, e)
  | 0, i, hi => by
    obtain rfl : i = n := by omega
    refine Ev.step (f := fun _ => some _) (fun k => ?_) (Ev.now _)
    simp only [codec_Reader_Fixed.l0]
    have hw : wrap64 (num (s.data.toList.take i) : Nat) = (num (s.data.toList.take i) : Int) := wrap_id (by omega) (by omega)
    subst hx1
    rw [if_neg (by omega), hw, if_neg (by omega), if_pos (by omega), if_pos (by omega)]
    rfl
  | d + 1, i, hi => by
    have hlt : i < s.size := by omega
    have hb := (s[i]'hlt).toNat_lt
    refine Ev.step (fun k => ?_) (reader_l0 s e x1 n hn hs hx1 hN d (i + 1) (by omega))
    simp only [codec_Reader_Fixed.l0]
    have h8 : wrap64 (8 * (i : Int)) = ((8 * i : Nat) : Int) := by rw [wrap_id (by omega) (by omega)]; omega
    have hbt : wrap64 (bt s (i : Nat)) = ((s[i]'hlt).toNat : Int) := by rw [bt_nat s i hlt]; exact wrap_id (by omega) (by omega)
    have hl : (s.data.toList.take i).length = i := by rw [List.length_take, Array.length_toList]; exact Nat.min_eq_left (show i ≤ s.size by omega)
    have hx := num_lt (s.data.toList.take i)
    rw [hl] at hx
    have ho := or_step (num (s.data.toList.take i)) i (s[i]'hlt).toNat (by omega) hx (by omega)
    rw [if_pos (by omega), if_pos (by omega), if_pos (by omega), h8, if_pos (by omega), hbt, wrap_id (n := (i : Int) + 1) (by omega) (by omega), take_snoc s i hlt, num_snoc, hl, ← ho]
    unfold shl
    rw [Int.toNat_natCast, Nat.min_eq_left (show 8 * i ≤ IntKind.i64.bits from by show 8 * i ≤ 64; omega)]
    rfl
theorem reader_ev (s : ByteArray) (n : Nat) (hn : n = 1 ∨ n = 2 ∨ n = 4 ∨ n = 8) (hs : n ≤ s.size) (hN : num (s.data.toList.take n) < 9223372036854775808) :
    Ev (fun k => codec_Reader_Fixed.f k s 0 (n : Nat)) ((num (s.data.toList.take n) : Int), 0, s.extract n s.size, 0) := by
  unfold codec_Reader_Fixed.f
  have hz : codec_sized.f (n : Nat) = some true := by
    rcases hn with rfl | rfl | rfl | rfl <;> rfl
  simp only [hz, Option.bind_some, codec_Reader_failed.f]
  refine Ev.pos trivial (Ev.pos trivial (Ev.neg (by omega) ?_))
  have := reader_l0 s 0 _ n (by omega) hs rfl hN n 0 (by omega)
  rw [show wrap64 ((num (s.data.toList.take 0) : Nat) : Int) = 0 from by rw [List.take_zero]; exact wrap_id (n := 0) (by omega) (by omega)] at this
  exact this

theorem low2_lt (b : ByteArray) : low2 b < 65536 := by
  have h := num_lt (b.data.toList.take 2)
  have : (b.data.toList.take 2).length ≤ 2 := by rw [List.length_take]; omega
  have h2 : 2 ^ (8 * (b.data.toList.take 2).length) ≤ 2 ^ 16 := Nat.pow_le_pow_right (by omega) (by omega)
  unfold low2
  omega
theorem low2_pre (b : ByteArray) (n : Nat) (h : 2 ≤ n) : low2 (b.extract 0 n) = low2 b := by
  unfold low2
  rw [Go.Lib.extract_data]
  simp only [List.drop_zero, Nat.sub_zero]
  rw [List.take_take, Nat.min_eq_left h]
theorem extract_pre (b : ByteArray) (n j : Nat) (h : j ≤ n) (h2 : 2 ≤ j) : (b.extract 0 n).extract 2 j = b.extract 2 j := by
  apply data_inj
  rw [Go.Lib.extract_data, Go.Lib.extract_data, Go.Lib.extract_data]
  simp only [List.drop_zero, Nat.sub_zero]
  rw [List.drop_take, List.take_take, Nat.min_eq_left (by omega)]
theorem open_pre (b : ByteArray) (hb : b.size = 128) (h : (openS b).2 = 0) : (openS b).1 = b.extract 0 124 := by
  unfold openS at h ⊢
  rw [if_neg (by omega)] at h ⊢
  by_cases hq : sealS (b.extract 0 (b.size - 4)) = b
  · rw [if_pos hq, hb]
  · rw [if_neg hq] at h
    cases h

theorem unblock_ev (b : ByteArray) (hs : b.size ≤ 1125899906842624) : Ev (fun k => sum_Unblock.f k b) (unblockS b) := by
  unfold sum_Unblock.f unblockS
  by_cases h : b.size = 128
  · rw [if_neg (by omega)]
    refine Ev.pos (by omega) ?_
    refine Ev.bind (open_ev b hs) ?_
    by_cases h0 : (openS b).2 = 0
    · have hp := open_pre b h h0
      have hsz : (b.extract 0 124).size = 124 := by rw [ByteArray.size_extract]; omega
      have hlow := low2_pre b 124 (by omega)
      have hlt := low2_lt b
      have hr := reader_ev (b.extract 0 124) 2 (by omega) (by omega) (by have := low2_lt (b.extract 0 124); unfold low2 at this; omega)
      have hnum : num ((b.extract 0 124).data.toList.take 2) = low2 b := hlow
      rw [hnum] at hr
      rw [if_neg (by omega)]
      refine Ev.pos h0 ?_
      simp only [hp, hsz, codec_Of.f, Option.bind_some]
      refine Ev.bind hr ?_
      have hw : wrap64 (((124 : Nat) : Int) - 2) = 122 := wrap_id (n := 122) (by omega) (by omega)
      have hw2 : wrap64 (2 + (low2 b : Int)) = ((2 + low2 b : Nat) : Int) := by rw [wrap_id (by omega) (by omega)]; omega
      simp only [hw, hw2, Int.toNat_natCast]
      by_cases hl : 122 < low2 b
      · rw [if_pos hl]
        exact Ev.pos (by omega) (Ev.now _)
      · rw [if_neg hl]
        refine Ev.neg (by omega) (Ev.pos (by omega) (Ev.pos (by omega) ?_))
        rw [extract_pre b 124 (2 + low2 b) (by omega) (by omega)]
        refine Ev.bind (block_ev _ (by rw [ByteArray.size_extract]; omega)) ?_
        by_cases hq : (blockS (b.extract 2 (2 + low2 b))).1 = b
        · rw [if_pos hq]
          exact Ev.pos ((toList_eq_iff _ _).2 hq) (Ev.now _)
        · rw [if_neg hq]
          exact Ev.neg (fun h => hq ((toList_eq_iff _ _).1 h)) (Ev.now _)
    · rw [if_pos h0]
      exact Ev.neg h0 (Ev.now _)
  · rw [if_pos h]
    exact Ev.neg (by omega) (Ev.now _)

theorem low2_bytes (b : ByteArray) (h : 2 ≤ b.size) : wrap64 (wrap64 (bt b 0) + wrap64 (256 * wrap64 (bt b 1))) = (low2 b : Int) := by
  have e0 : bt b 0 = ((b[0]'(by omega)).toNat : Int) := bt_nat b 0 (by omega)
  have e1 : bt b 1 = ((b[1]'(by omega)).toNat : Int) := bt_nat b 1 (by omega)
  have l0 := (b[0]'(by omega)).toNat_lt
  have l1 := (b[1]'(by omega)).toNat_lt
  have hl : low2 b = (b[0]'(by omega)).toNat + 256 * (b[1]'(by omega)).toNat := by
    unfold low2
    rw [take_snoc b 1 (by omega), take_snoc b 0 (by omega)]
    simp only [List.take_zero, List.nil_append, List.cons_append, num]
    omega
  rw [e0, e1, hl, wrap_id (n := ((b[1]'(by omega)).toNat : Int)) (by omega) (by omega), wrap_id (n := ((b[0]'(by omega)).toNat : Int)) (by omega) (by omega)]
  unfold wrap64
  omega

theorem runblock_ev (b : ByteArray) (hs : b.size ≤ 1125899906842624) : Ev (fun k => cartularyref03_Unblock.f k b) (unblockS b) := by
  unfold cartularyref03_Unblock.f unblockS
  by_cases h : b.size = 128
  · rw [if_neg (by omega)]
    refine Ev.pos (by omega) ?_
    refine Ev.bind (ropen_ev b hs) ?_
    by_cases h0 : (openS b).2 = 0
    · have hlt := low2_lt b
      rw [if_neg (by omega)]
      refine Ev.pos h0 (Ev.pos (by omega) (Ev.pos (by omega) ?_))
      have hw2 : wrap64 (2 + (low2 b : Int)) = ((2 + low2 b : Nat) : Int) := by rw [wrap_id (by omega) (by omega)]; omega
      simp only [low2_bytes b (by omega), hw2, Int.toNat_natCast]
      by_cases hl : 122 < low2 b
      · rw [if_pos hl]
        exact Ev.pos (by omega) (Ev.now _)
      · rw [if_neg hl]
        refine Ev.neg (by omega) (Ev.pos (by omega) (Ev.pos (by omega) ?_))
        refine Ev.bind (rblock_ev _ (by rw [ByteArray.size_extract]; omega)) ?_
        by_cases hq : (blockS (b.extract 2 (2 + low2 b))).1 = b
        · rw [if_pos hq]
          exact Ev.pos ((toList_eq_iff _ _).2 hq) (Ev.now _)
        · rw [if_neg hq]
          exact Ev.neg (fun h => hq ((toList_eq_iff _ _).1 h)) (Ev.now _)
    · rw [if_pos h0]
      exact Ev.neg h0 (Ev.now _)
  · rw [if_pos h]
    exact Ev.neg (by omega) (Ev.now _)
end Go.Proofs.Ytlmnfnkjbgnklaa.Ev
