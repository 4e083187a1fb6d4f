/- The document's reader: a number of a size, of whatever bytes and in whatever state: it reads as the program's does. The document's Decode: what a head says, byte by byte. Plain. The document's Decode. -/
import Derived.Test.YtlmnfnkjbgnklaaReadLaws
import Derived.Test.YtlmnfnkjbgnklaaPrx
import Derived.Test.YtlmnfnkjbgnklaaTxnBk
import Derived.Test.YtlmnfnkjbgnklaaRefE
section
/- The document's reader: a number of a size, of whatever bytes and in whatever state: it reads as the program's does. -/
set_option linter.unusedVariables false
set_option linter.unusedSimpArgs false
namespace Go.Proofs.Ytlmnfnkjbgnklaa.C
open Go.RowKit Go.Proofs.YtlmnfnkjbgnklaaW.PrintWords Go.Proofs.YtlmnfnkjbgnklaaW.PrintLast Go.Proofs.Ytlmnfnkjbgnklaa.Spec Go.Proofs.Ytlmnfnkjbgnklaa.Ev

theorem num_drop (s : ByteArray) (n i : Nat) (hn : n ≤ s.size) (hi : i < n) : num ((s.data.toList.take n).drop i) = (s[i]'(by omega)).toNat + 256 * num ((s.data.toList.take n).drop (i + 1)) := by
  have h : i < (s.data.toList.take n).length := by
    have := size_eq s
    rw [List.length_take]; omega
  rw [List.drop_eq_getElem_cons h, List.getElem_take]
  rfl
theorem rread_l0 (s : ByteArray) (e : Int) (n : Nat) (hn : n ≤ s.size) (h8 : n ≤ 8) (hN : num (s.data.toList.take n) < 9223372036854775808) : ∀ (i : Nat), i ≤ n →
    Ev (fun k => Pr.cartularyref02_Reader_Fixed.l0 k n (num ((s.data.toList.take n).drop i)) ((i : Int) - 1) s e) ((num (s.data.toList.take n) : Int), 0, s.extract n s.size, e)
  | 0, _ => by
    refine Ev.step (f := fun k => some ((num (s.data.toList.take n) : Int), 0, s.extract n s.size, e)) (fun k => ?_) (Ev.now _)
    simp only [Pr.cartularyref02_Reader_Fixed.l0]
    rw [if_neg (by omega), if_pos (by omega), if_pos (by omega)]
    rfl
  | i + 1, hi => by
    have ih := rread_l0 s e n hn h8 hN i (by omega)
    have hd := num_drop s n i hn (by omega)
    have hle : num ((s.data.toList.take n).drop i) < 9223372036854775808 := by
      have g : ∀ (l : List UInt8) (j : Nat), num (l.drop j) ≤ num l := by
        intro l
        induction l with
        | nil => intro j; simp
        | cons b l ih => intro j; cases j with
          | zero => exact Nat.le_refl _
          | succ j => rw [List.drop_succ_cons, num]; have := ih j; omega
      exact Nat.lt_of_le_of_lt (g _ _) hN
    have hb := (s[i]'(by omega)).toNat_lt
    have e2 : (num ((s.data.toList.take n).drop (i + 1)) : Int) * 256 + ((s[i]'(by omega)).toNat : Int) = (num ((s.data.toList.take n).drop i) : Int) := by omega
    refine Ev.step (f := fun k => Pr.cartularyref02_Reader_Fixed.l0 k n (num ((s.data.toList.take n).drop i)) ((i : Int) - 1) s e) (fun k => ?_) ih
    simp only [Pr.cartularyref02_Reader_Fixed.l0]
    rw [if_pos (by omega), if_pos (by omega), if_pos (by omega), show ((i + 1 : Nat) : Int) - 1 = (i : Int) from by omega, bt_nat s i (by omega), wrap_id (n := (i : Int) - 1) (by omega) (by omega), wrap_id (n := ((s[i]'(by omega)).toNat : Int)) (by omega) (by omega), wrap_id (n := (num ((s.data.toList.take n).drop (i + 1)) : Int) * 256) (by omega) (by omega), wrap_id (by omega) (by omega), e2]
theorem rread_ev (s : ByteArray) (e : Int) (n : Nat) (hn : n = 1 ∨ n = 2 ∨ n = 4 ∨ n = 8) : Ev (fun k => Pr.cartularyref02_Reader_Fixed.f k s e (n : Nat)) (readS s e n) := by
  have hz : Pr.cartularyref02_Sized.f (n : Nat) = some true := by
    unfold Pr.cartularyref02_Sized.f
    rcases hn with rfl | rfl | rfl | rfl <;> rfl
  unfold Pr.cartularyref02_Reader_Fixed.f readS
  rw [hz]
  simp only [Option.bind_some]
  refine Ev.pos (by first | rfl | trivial) ?_
  by_cases he : e = 0
  · rw [if_neg (by simp [he])]
    refine Ev.pos he ?_
    by_cases hs : s.size < n
    · rw [if_pos hs]
      exact Ev.pos (by omega) (Ev.now _)
    · rw [if_neg hs]
      refine Ev.neg (by omega) ?_
      have ok : num (s.data.toList.take n) < 9223372036854775808 → Ev (fun k => Pr.cartularyref02_Reader_Fixed.j0 k (n : Nat) false s e) ((num (s.data.toList.take n) : Int), 0, s.extract n s.size, 0) := fun hN => by
        have h := rread_l0 s e n (by omega) (by omega) hN n (Nat.le_refl _)
        rw [List.drop_of_length_le (by rw [List.length_take]; omega), he] at h
        refine Ev.step (f := fun k => Pr.cartularyref02_Reader_Fixed.l0 k n 0 ((n : Int) - 1) s e) (fun k => ?_) (by rw [he]; exact h)
        simp only [Pr.cartularyref02_Reader_Fixed.j0]
        rw [if_neg (by simp), wrap_id (n := (n : Int) - 1) (by omega) (by omega)]
      by_cases h8 : n = 8
      · subst h8
        refine Ev.pos (by first | rfl | trivial) (Ev.pos (by omega) ?_)
        have h7 : 7 < s.size := by omega
        have hsn := take_snoc s 7 h7
        have hb := (s[7]'h7).toNat_lt
        have hn8 : num (s.data.toList.take 8) = num (s.data.toList.take 7) + (s[7]'h7).toNat * 72057594037927936 := by
          rw [show (8 : Nat) = 7 + 1 from rfl, hsn, num_snoc, List.length_take, show min 7 s.data.toList.length = 7 from by have := size_eq s; omega]
        have hl := num_lt (s.data.toList.take 7)
        rw [List.length_take, show min 7 s.data.toList.length = 7 from by have := size_eq s; omega] at hl
        rw [show (7 : Int) = ((7 : Nat) : Int) from rfl, bt_nat s 7 h7]
        by_cases h127 : (s[7]'h7).toNat > 127
        · rw [if_pos (by omega), decide_eq_true (by omega)]
          refine Ev.step (f := fun k => some (0, 4, s, 4)) (fun k => ?_) (Ev.now _)
          simp only [Pr.cartularyref02_Reader_Fixed.j0]
          exact if_pos trivial
        · rw [if_neg (by omega), decide_eq_false (by omega)]
          exact ok (by omega)
      · have hl := num_lt (s.data.toList.take n)
        have hlen : (s.data.toList.take n).length ≤ 7 := by rw [List.length_take]; omega
        have hp : 2 ^ (8 * (s.data.toList.take n).length) ≤ 2 ^ 56 := Nat.pow_le_pow_right (by omega) (by omega)
        rw [if_neg (by omega)]
        exact Ev.neg (by omega) (ok (by omega))
  · rw [if_pos he]
    exact Ev.neg he (Ev.now _)
theorem rread_calls (g : Nat) (s : ByteArray) (e : Int) (n : Nat) (hn : n = 1 ∨ n = 2 ∨ n = 4 ∨ n = 8) (w0 w : World) (hI : Pr.IsS95 w0 w g s e) (hB : Below w0.heap.size w0 w) :
    Calls Try.prog 44 #[.pointer (some ⟨g, 0, none⟩), .int .i64 (n : Nat)] w fun e' w' => e' = .returned (.tuple #[.int .i64 (readS s e n).1, .int .i64 (readS s e n).2.1]) ∧ Pr.IsS95 w0 w' g (readS s e n).2.2.1 (readS s e n).2.2.2 ∧ Below w0.heap.size w0 w' ∧ KeepBut w w' g none := by
  obtain ⟨k, hk⟩ := (rread_ev s e n hn).rounds
  exact Pr.cartularyref02_Reader_Fixed.calls k g s e n _ _ _ _ w0 w hI hB hk
end Go.Proofs.Ytlmnfnkjbgnklaa.C
end

section
/- The document's Decode: what a head says, byte by byte. Plain. -/
set_option linter.unusedVariables false
set_option linter.unusedSimpArgs false
namespace Go.Proofs.Ytlmnfnkjbgnklaa.TxnS
open Go.RowKit Go.Proofs.YtlmnfnkjbgnklaaW.PrintWords Go.Proofs.Ytlmnfnkjbgnklaa.Spec Go.Proofs.Ytlmnfnkjbgnklaa.C
/-- A byte of a text. -/
def bN (s : ByteArray) (i : Nat) : Nat := (s.data.toList.getD i 0).toNat
theorem bN_lt (s : ByteArray) (i : Nat) : bN s i < 256 := UInt8.toNat_lt _
theorem bN_at (s : ByteArray) (i : Nat) (h : i < s.size) : bN s i = (s[i]'h).toNat := by
  unfold bN
  have h' : i < s.data.toList.length := by rw [Array.length_toList]; exact h
  rw [List.getD_eq_getElem?_getD, List.getElem?_eq_getElem h']
  rfl
theorem bN_extract (s : ByteArray) (a i : Nat) (h : a + i < s.size) : bN (s.extract a s.size) i = bN s (a + i) := by
  unfold bN
  congr 1
  rw [Go.Lib.extract_data, List.getD_eq_getElem?_getD, List.getD_eq_getElem?_getD]
  congr 1
  rw [List.getElem?_take_of_lt (by omega), List.getElem?_drop]
theorem readS_go (s : ByteArray) (n : Nat) (h : n ≤ s.size) (h2 : num (s.data.toList.take n) < 9223372036854775808) : readS s 0 n = ((num (s.data.toList.take n) : Int), 0, s.extract n s.size, 0) := by
  unfold readS
  rw [if_neg (by simp), if_neg (by omega), if_neg (by omega)]
theorem take1 (s : ByteArray) (h : 1 ≤ s.size) : num (s.data.toList.take 1) = bN s 0 := by
  have h0 : 0 < s.data.toList.length := by rw [Array.length_toList]; exact h
  obtain ⟨b, t, e⟩ : ∃ b t, s.data.toList = b :: t := by
    cases hc : s.data.toList with
    | nil => rw [hc] at h0; simp at h0
    | cons b t => exact ⟨b, t, rfl⟩
  unfold bN
  rw [e]
  simp [num]
theorem take2 (s : ByteArray) (h : 2 ≤ s.size) : num (s.data.toList.take 2) = bN s 0 + 256 * bN s 1 := by
  have h0 : 1 < s.data.toList.length := by rw [Array.length_toList]; exact h
  obtain ⟨b, c, t, e⟩ : ∃ b c t, s.data.toList = b :: c :: t := by
    cases hc : s.data.toList with
    | nil => rw [hc] at h0; simp at h0
    | cons b t => cases t with
      | nil => rw [hc] at h0; simp at h0
      | cons c t => exact ⟨b, c, t, rfl⟩
  unfold bN
  rw [e]
  simp [num]
theorem ext_size (s : ByteArray) (a : Nat) : (s.extract a s.size).size = s.size - a := by rw [ByteArray.size_extract]; omega
theorem ext_ext (s : ByteArray) (a b : Nat) : (s.extract a s.size).extract b (s.extract a s.size).size = s.extract (a + b) s.size := by
  apply data_inj
  rw [Go.Lib.extract_data, Go.Lib.extract_data, Go.Lib.extract_data, ext_size]
  have hl : s.data.toList.length = s.size := (size_eq s).symm
  rw [List.take_of_length_le (l := s.data.toList.drop a) (by rw [List.length_drop]; omega), List.drop_drop, List.take_of_length_le (by rw [List.length_drop]; omega), List.take_of_length_le (by rw [List.length_drop]; omega)]
/-- The numbers of so many changes, from a text's head on. -/
def numsB (s : ByteArray) (z : ByteArray) (k : Nat) : List Ch := (List.range k).map fun i => (((bN s (2 * i) + 256 * bN s (2 * i + 1) : Nat) : Int), z)
theorem numsB_len (s z : ByteArray) (k : Nat) : (numsB s z k).length = k := by simp [numsB]
theorem numsB_succ (s z : ByteArray) (k : Nat) : numsB s z (k + 1) = numsB s z k ++ [(((bN s (2 * k) + 256 * bN s (2 * k + 1) : Nat) : Int), z)] := by simp [numsB, List.range_succ]
theorem rdL_go (r : ByteArray) : ∀ k, 2 * k ≤ r.size → rdL r 0 k = (numsB r zb k, r.extract (2 * k) r.size, 0)
  | 0, _ => by
    rw [rdL]
    have : r.extract (2 * 0) r.size = r := by
      apply data_inj
      rw [Go.Lib.extract_data]
      simp only [Nat.mul_zero, List.drop_zero, Nat.sub_zero]
      exact List.take_of_length_le (by rw [Array.length_toList]; exact Nat.le_refl _)
    rw [this]
    rfl
  | k + 1, h => by
    have ih := rdL_go r k (by omega)
    have hs := ext_size r (2 * k)
    have h2 := take2 (r.extract (2 * k) r.size) (by omega)
    rw [bN_extract r (2 * k) 0 (by omega), bN_extract r (2 * k) 1 (by omega)] at h2
    have hb1 := bN_lt r (2 * k + 0)
    have hb2 := bN_lt r (2 * k + 1)
    have hg := readS_go (r.extract (2 * k) r.size) 2 (by omega) (by omega)
    rw [rdL, ih]
    dsimp only
    rw [hg, h2, ext_ext, numsB_succ]
    rfl
theorem rdL_err (r : ByteArray) (e : Int) : ∀ k, (rdL r e k).2.2 = 0 → e = 0 ∧ 2 * k ≤ r.size
  | 0, h => ⟨h, by omega⟩
  | k + 1, h => by
    have h1 := readS_ok (s := (rdL r e k).2.1) (e := (rdL r e k).2.2) (n := 2) h
    obtain ⟨h2, h3, _⟩ := h1
    obtain ⟨rfl, h4⟩ := rdL_err r e k h2
    rw [rdL_go r k h4] at h3
    dsimp only at h3
    rw [ext_size] at h3
    exact ⟨rfl, by omega⟩
/-- Is a head's text one, but for its numbers? -/
structure HOk (s : ByteArray) : Prop where
  n14 : 14 ≤ s.size
  tee : bN s 0 = 84
  sz : s.size = 14 + 2 * bN s 9
  rd : (readS (s.extract 1 s.size) 0 8).2.1 = 0
  s1 : 1 ≤ (readS (s.extract 1 s.size) 0 8).1
  s2 : (readS (s.extract 1 s.size) 0 8).1 ≤ 1099511627776
def hseq (s : ByteArray) : Int := (readS (s.extract 1 s.size) 0 8).1
def hnums (s z : ByteArray) : List Ch := numsB (s.extract 10 s.size) z (bN s 9)
def incrL : Int → List Ch → Prop
  | _, [] => True
  | a, c :: l => a < c.1 ∧ c.1 < 1024 ∧ incrL c.1 l
theorem incr_right (z : ByteArray) (hz : z.size = 128) : ∀ (a : Int) (l : List Ch), (∀ c ∈ l, c.2 = z) → (incrL a l ↔ rightL a l)
  | _, [], _ => Iff.rfl
  | a, c :: l, h => by
    have ih := incr_right z hz c.1 l (fun x hx => h x (List.mem_cons_of_mem _ hx))
    have hc := h c (List.mem_cons_self ..)
    constructor
    · rintro ⟨h1, h2, h3⟩; exact ⟨h1, h2, by rw [hc]; exact hz, ih.1 h3⟩
    · rintro ⟨h1, h2, _, h3⟩; exact ⟨h1, h2, ih.2 h3⟩
theorem incr_fst : ∀ (a : Int) (l m : List Ch), l.map Prod.fst = m.map Prod.fst → (incrL a l ↔ incrL a m)
  | _, [], [], _ => Iff.rfl
  | _, [], _ :: _, h => by simp at h
  | _, _ :: _, [], h => by simp at h
  | a, c :: l, d :: m, h => by
    simp only [List.map_cons, List.cons.injEq] at h
    have ih := incr_fst c.1 l m h.2
    unfold incrL
    rw [ih, h.1]
theorem numsB_fst (s z y : ByteArray) (k : Nat) : (numsB s z k).map Prod.fst = (numsB s y k).map Prod.fst := by simp [numsB]
theorem numsB_z (s z : ByteArray) (k : Nat) : ∀ c ∈ numsB s z k, c.2 = z := by
  intro c hc
  obtain ⟨i, _, rfl⟩ := List.mem_map.1 hc
  rfl
theorem readS_err (s : ByteArray) (n : Nat) : (readS s 0 n).2.1 = 0 ↔ (readS s 0 n).2.2.2 = 0 := by
  unfold readS
  rw [if_neg (by simp)]
  split
  · exact Iff.rfl
  · split <;> exact Iff.rfl
theorem headR_says {r : ByteArray} (h : (headR r).2.2 = true) : 13 ≤ r.size ∧ r.size = 13 + 2 * bN r 8 ∧ (readS r 0 8).2.1 = 0 ∧ 1 ≤ (readS r 0 8).1 ∧ (readS r 0 8).1 ≤ 1099511627776 ∧ right (numsB (r.extract 9 r.size) zb (bN r 8)) := by
  obtain ⟨h0, h1, h2, h3⟩ := of_decide_eq_true h
  have e0 : (readS (rdL (readS (readS r 0 8).2.2.1 (readS r 0 8).2.2.2 1).2.2.1 (readS (readS r 0 8).2.2.1 (readS r 0 8).2.2.2 1).2.2.2 (readS (readS r 0 8).2.2.1 (readS r 0 8).2.2.2 1).1.toNat).2.1 (rdL (readS (readS r 0 8).2.2.1 (readS r 0 8).2.2.2 1).2.2.1 (readS (readS r 0 8).2.2.1 (readS r 0 8).2.2.2 1).2.2.2 (readS (readS r 0 8).2.2.1 (readS r 0 8).2.2.2 1).1.toNat).2.2 4).2.2.2 = 0 := by
    unfold endS at h0
    split at h0
    · rename_i hne; exact absurd h0 hne
    · rename_i hne; exact Decidable.not_not.1 hne
  obtain ⟨k1, k2, k3⟩ := readS_ok e0
  obtain ⟨k4, k5⟩ := rdL_err _ _ _ k1
  obtain ⟨k6, k7, k8⟩ := readS_ok k4
  obtain ⟨_, k9, k10⟩ := readS_ok k6
  rw [k10] at k7
  rw [k6, k10] at k8
  dsimp only at k7 k8
  rw [ext_size] at k7
  rw [take1 _ (by rw [ext_size]; omega), bN_extract r 8 0 (by omega), ext_ext] at k8
  have hm : (readS (readS r 0 8).2.2.1 (readS r 0 8).2.2.2 1) = ((bN r 8 : Int), 0, r.extract 9 r.size, 0) := by rw [k6, k10]; exact k8
  rw [hm] at k5 k2 e0 k1 h0 k3
  dsimp only at k5 k2 e0 k1 h0 k3
  rw [ext_size, Int.toNat_natCast] at k5
  have hq := rdL_go (r.extract 9 r.size) (bN r 8) (by rw [ext_size]; exact k5)
  rw [ext_ext] at hq
  rw [Int.toNat_natCast, hq] at k2 k3 h0 k1
  dsimp only at k2 k3 h0
  rw [ext_size] at k2
  rw [ext_ext] at k3
  have h3' : right (rdL (readS (readS r 0 8).2.2.1 (readS r 0 8).2.2.2 1).2.2.1 (readS (readS r 0 8).2.2.1 (readS r 0 8).2.2.2 1).2.2.2 (readS (readS r 0 8).2.2.1 (readS r 0 8).2.2.2 1).1.toNat).1 := h3
  rw [hm] at h3'
  dsimp only at h3'
  rw [Int.toNat_natCast, hq] at h3'
  rw [k3] at h0
  dsimp only at h0
  unfold endS at h0
  rw [if_neg (by simp)] at h0
  have hz : (r.extract (9 + 2 * bN r 8 + 4) r.size).size = 0 := by
    split at h0
    · assumption
    · cases h0
  rw [ext_size] at hz
  exact ⟨by omega, by omega, (readS_err r 8).2 k6, h1, h2, h3'⟩
theorem headR_does {r : ByteArray} (h1 : 13 ≤ r.size) (h2 : r.size = 13 + 2 * bN r 8) (h3 : (readS r 0 8).2.1 = 0) : headR r = ((readS r 0 8).1, numsB (r.extract 9 r.size) zb (bN r 8), decide (1 ≤ (readS r 0 8).1 ∧ (readS r 0 8).1 ≤ 1099511627776 ∧ right (numsB (r.extract 9 r.size) zb (bN r 8)))) := by
  obtain ⟨_, k9, k10⟩ := readS_ok ((readS_err r 8).1 h3)
  have hb8 := bN_lt r 8
  have hm : readS (readS r 0 8).2.2.1 (readS r 0 8).2.2.2 1 = ((bN r 8 : Int), 0, r.extract 9 r.size, 0) := by
    have h := readS_go (r.extract 8 r.size) 1 (by rw [ext_size]; omega) (by rw [take1 _ (by rw [ext_size]; omega), bN_extract r 8 0 (by omega)]; show bN r 8 < _; omega)
    rw [take1 _ (by rw [ext_size]; omega), bN_extract r 8 0 (by omega), ext_ext] at h
    rw [k10]
    exact h
  have hq := rdL_go (r.extract 9 r.size) (bN r 8) (by rw [ext_size]; omega)
  rw [ext_ext] at hq
  have hf := readS_go (r.extract (9 + 2 * bN r 8) r.size) 4 (by rw [ext_size]; omega) (by
    have h := num_lt ((r.extract (9 + 2 * bN r 8) r.size).data.toList.take 4)
    have hl : ((r.extract (9 + 2 * bN r 8) r.size).data.toList.take 4).length ≤ 4 := by rw [List.length_take]; omega
    exact Nat.lt_of_lt_of_le h (Nat.le_trans (Nat.pow_le_pow_right (by omega) (show 8 * ((r.extract (9 + 2 * bN r 8) r.size).data.toList.take 4).length ≤ 32 by omega)) (by decide)))
  rw [ext_ext] at hf
  have hz : endS (r.extract (9 + 2 * bN r 8 + 4) r.size) 0 = 0 := by
    unfold endS
    rw [if_neg (by simp), if_pos (by rw [ext_size]; omega)]
  simp only [headR, hm, Int.toNat_natCast, hq, hf, hz]
  simp
theorem cut_tee (s : ByteArray) : ((cutS s tee).2 = true ↔ 1 ≤ s.size ∧ bN s 0 = 84) ∧ ((cutS s tee).2 = true → (cutS s tee).1 = s.extract 1 s.size) := by
  have ht : tee.size = 1 := rfl
  have key : 1 ≤ s.size → (s.extract 0 1 = tee ↔ bN s 0 = 84) := fun h => by
    have h0 : 0 < s.data.toList.length := by rw [Array.length_toList]; exact h
    obtain ⟨b, t, e⟩ : ∃ b t, s.data.toList = b :: t := by
      cases hc : s.data.toList with
      | nil => rw [hc] at h0; simp at h0
      | cons b t => exact ⟨b, t, rfl⟩
    have e1 : (s.extract 0 1).data.toList = [b] := by rw [Go.Lib.extract_data, e]; simp
    have e2 : bN s 0 = b.toNat := by unfold bN; rw [e]; rfl
    rw [e2]
    constructor
    · intro hh
      rw [hh] at e1
      have : [(84 : UInt8)] = [b] := e1
      obtain rfl := List.cons.inj this |>.1
      rfl
    · intro hh
      apply data_inj
      rw [e1]
      show [b] = [(84 : UInt8)]
      congr 1
      exact UInt8.toNat_inj.1 hh
  unfold cutS
  rw [ht]
  by_cases h1 : 1 ≤ s.size
  · by_cases h2 : s.extract 0 1 = tee
    · rw [if_pos ⟨h1, h2⟩]
      exact ⟨⟨fun _ => ⟨h1, (key h1).1 h2⟩, fun _ => rfl⟩, fun _ => rfl⟩
    · rw [if_neg (fun h => h2 h.2)]
      exact ⟨⟨fun h => (by cases h), fun h => absurd ((key h1).2 h.2) h2⟩, fun h => (by cases h)⟩
  · rw [if_neg (fun h => h1 h.1)]
    exact ⟨⟨fun h => (by cases h), fun h => absurd h.1 h1⟩, fun h => (by cases h)⟩
/-- What a head says, as the document reads it. -/
theorem headed_says (b : ByteArray) : ((headedS b).2.2 = true ↔ (unblockS b).2 = 0 ∧ HOk (unblockS b).1 ∧ incrL (-1) (hnums (unblockS b).1 ⟨#[]⟩) ∧ bN (unblockS b).1 9 ≤ 48) ∧ ((headedS b).2.2 = true → (headedS b).1 = hseq (unblockS b).1 ∧ (headedS b).2.1 = hnums (unblockS b).1 zb) := by
  unfold headedS
  generalize unblockS b = q
  obtain ⟨s, e⟩ := q
  dsimp only
  obtain ⟨c1, c2⟩ := cut_tee s
  have hright : right (hnums s zb) ↔ incrL (-1) (hnums s ⟨#[]⟩) ∧ bN s 9 ≤ 48 := by
    unfold right hnums
    rw [numsB_len, ← incr_right zb zb_size (-1) _ (numsB_z _ _ _), incr_fst _ _ _ (numsB_fst _ zb ⟨#[]⟩ _)]
  have hbr : 9 < s.size → bN (s.extract 1 s.size) 8 = bN s 9 := fun h => bN_extract s 1 8 (by omega)
  have hex : (s.extract 1 s.size).extract 9 (s.extract 1 s.size).size = s.extract 10 s.size := ext_ext s 1 9
  by_cases h1 : e ≠ 0 ∨ (cutS s tee).2 = false
  · rw [if_pos h1]
    refine ⟨⟨fun h => (by cases h), fun h => ?_⟩, fun h => (by cases h)⟩
    rcases h1 with h1 | h1
    · exact absurd h.1 h1
    · have := c1.2 ⟨by have := h.2.1.n14; omega, h.2.1.tee⟩
      rw [h1] at this
      cases this
  · rw [if_neg h1]
    have he : e = 0 := Decidable.not_not.1 fun h => h1 (.inl h)
    have hc : (cutS s tee).2 = true := by
      cases hc : (cutS s tee).2 with
      | true => rfl
      | false => exact absurd (.inr hc) h1
    rw [c2 hc]
    obtain ⟨d1, d2⟩ := c1.1 hc
    refine ⟨⟨fun h => ?_, fun h => ?_⟩, fun h => ?_⟩
    · obtain ⟨g1, g2, g3, g4, g5, g6⟩ := headR_says h
      rw [ext_size] at g1 g2
      rw [hbr (by omega)] at g2 g6
      rw [hex] at g6
      exact ⟨he, ⟨by omega, d2, by omega, g3, g4, g5⟩, hright.1 g6⟩
    · obtain ⟨_, g, g6, g7⟩ := h
      have n14 := g.n14
      have sz := g.sz
      have hd := headR_does (r := s.extract 1 s.size) (by rw [ext_size]; omega) (by rw [ext_size, hbr (by omega)]; omega) g.rd
      rw [hd, hbr (by omega), hex]
      exact decide_eq_true ⟨g.s1, g.s2, hright.2 ⟨g6, g7⟩⟩
    · obtain ⟨g1, g2, g3, g4, g5, g6⟩ := headR_says h
      have hd := headR_does g1 g2 g3
      rw [ext_size] at g1
      rw [hd, hbr (by omega), hex]
      exact ⟨rfl, rfl⟩
/-- The document's Decode. -/
def rdecS (b : ByteArray) (r : List ByteArray) : Int × List Ch × Int × Int :=
  let s := (unblockS b).1
  let L := newL (b :: r) (hnums s ⟨#[]⟩)
  if r.length < bN s 9 then (0, [], 0, 20)
  else if ¬ right L ∨ b ≠ headS (hseq s) L then (0, [], 0, 4)
  else (hseq s, L, (bN s 9 : Int) + 1, 0)
theorem newL_fst (bs : List ByteArray) (l m : List Ch) (h : l.map Prod.fst = m.map Prod.fst) : newL bs l = newL bs m := by
  apply List.ext_getElem?
  intro j
  rw [newL_get, newL_get]
  have h1 := congrArg (fun x => x[j]?) h
  simp only [List.getElem?_map] at h1
  cases hl : l[j]? with
  | none =>
    rw [hl] at h1
    cases hm : m[j]? with
    | none => rfl
    | some d => rw [hm] at h1; cases h1
  | some c =>
    rw [hl] at h1
    cases hm : m[j]? with
    | none => rw [hm] at h1; cases h1
    | some d =>
      rw [hm] at h1
      have : c.1 = d.1 := Option.some.inj h1
      simp [this]
theorem dec_ref (b : ByteArray) (r : List ByteArray) (h : (unblockS b).2 = 0 ∧ HOk (unblockS b).1 ∧ incrL (-1) (hnums (unblockS b).1 ⟨#[]⟩) ∧ bN (unblockS b).1 9 ≤ 48) : decS (b :: r) = rdecS b r := by
  obtain ⟨h1, h2⟩ := headed_says b
  have ht := h1.2 h
  obtain ⟨e1, e2⟩ := h2 ht
  have hn : newL (b :: r) (hnums (unblockS b).1 zb) = newL (b :: r) (hnums (unblockS b).1 ⟨#[]⟩) := newL_fst _ _ _ (numsB_fst _ _ _ _)
  have hl : (hnums (unblockS b).1 zb).length = bN (unblockS b).1 9 := numsB_len _ _ _
  rw [dec_cons, ht, if_neg (by simp), e1, e2, hn, hl]
  unfold rdecS
  dsimp only
  by_cases hc : r.length < bN (unblockS b).1 9
  · rw [if_pos (by rw [List.length_cons]; omega), if_pos hc]
  · rw [if_neg (by rw [List.length_cons]; omega), if_neg hc]
theorem dec_ref_no (b : ByteArray) (r : List ByteArray) (h : ¬ ((unblockS b).2 = 0 ∧ HOk (unblockS b).1 ∧ incrL (-1) (hnums (unblockS b).1 ⟨#[]⟩) ∧ bN (unblockS b).1 9 ≤ 48)) : decS (b :: r) = (0, [], 0, 4) := by
  obtain ⟨h1, _⟩ := headed_says b
  have ht : (headedS b).2.2 = false := by
    cases hc : (headedS b).2.2 with
    | false => rfl
    | true => exact absurd (h1.1 hc) h
  rw [dec_cons, ht, if_pos rfl]
end Go.Proofs.Ytlmnfnkjbgnklaa.TxnS
end

section
/- The document's Decode. -/
set_option linter.unusedVariables false
set_option linter.unusedSimpArgs false
namespace Go.Proofs.Ytlmnfnkjbgnklaa.Txn
open Go.RowKit Go.Proofs.YtlmnfnkjbgnklaaW.PrintWords Go.Proofs.YtlmnfnkjbgnklaaW.PrintLast Go.Proofs.YtlmnfnkjbgnklaaW.PrintMore Go.Proofs.Ytlmnfnkjbgnklaa.TxnS Go.Proofs.Ytlmnfnkjbgnklaa.Spec Go.Proofs.Ytlmnfnkjbgnklaa.C
def DecPost (w : World) (d : Int × List Ch × Int × Int) (e : Ending) (w' : World) : Prop :=
  ∃ v, e = .returned (.tuple #[.int .i64 d.1, v, .int .i64 d.2.2.1, .int .i64 d.2.2.2]) ∧ w'.ownsRow w.heap.size 69 2 v d.2.1.length (cv d.2.1) ∧ Below w.heap.size w w'
theorem incrL_step (l : List Ch) (i : Nat) (h : i < l.length) : incrL (lastAt l i) (l.drop i) ↔ lastAt l i < (l[i]).1 ∧ (l[i]).1 < 1024 ∧ incrL (lastAt l (i + 1)) (l.drop (i + 1)) := by
  rw [List.drop_eq_getElem_cons h, lastAt_succ l i h]
  exact Iff.rfl
theorem hn_at (s z : ByteArray) (k i : Nat) (h : i < k) (hs : 10 + 2 * k ≤ s.size) : (numsB (s.extract 10 s.size) z k)[i]'(by rw [numsB_len]; exact h) = (((bN s (10 + 2 * i) + 256 * bN s (11 + 2 * i) : Nat) : Int), z) := by
  unfold numsB
  rw [List.getElem_map, List.getElem_range, bN_extract s 10 (2 * i) (by omega), bN_extract s 10 (2 * i + 1) (by omega), show 10 + (2 * i + 1) = 11 + 2 * i from by omega]
theorem numsB_take (s z : ByteArray) (k i : Nat) (h : i ≤ k) : (numsB s z k).take i = numsB s z i := by
  unfold numsB
  rw [← List.map_take, List.take_range, Nat.min_eq_left h]
theorem byte_sum {x1 x2 : Nat} (h1 : x1 < 256) (h2 : x2 < 256) : wrap64 (x1 : Int) = (x1 : Int) ∧ wrap64 (x2 : Int) = (x2 : Int) ∧ wrap64 (256 * (x2 : Int)) = 256 * (x2 : Int) ∧ wrap64 ((x1 : Int) + 256 * (x2 : Int)) = ((x1 + 256 * x2 : Nat) : Int) :=
  ⟨wrap_id (by omega) (by omega), wrap_id (by omega) (by omega), wrap_id (by omega) (by omega), (wrap_id (by omega) (by omega)).trans (by omega)⟩
theorem idx_facts {i k sz : Nat} (h : i < k) (hk : k < 256) (hs : 14 + 2 * k = sz) : wrap64 (2 * (i : Int)) = 2 * (i : Int) ∧ wrap64 (10 + 2 * (i : Int)) = 10 + 2 * (i : Int) ∧ wrap64 (11 + 2 * (i : Int)) = 11 + 2 * (i : Int) ∧ (10 + 2 * (i : Int)).toNat = 10 + 2 * i ∧ (11 + 2 * (i : Int)).toNat = 11 + 2 * i ∧ (0 : Int) ≤ 10 + 2 * (i : Int) ∧ (0 : Int) ≤ 11 + 2 * (i : Int) ∧ 10 + 2 * (i : Int) < (sz : Int) ∧ 11 + 2 * (i : Int) < (sz : Int) :=
  ⟨wrap_id (by omega) (by omega), wrap_id (by omega) (by omega), wrap_id (by omega) (by omega), by omega, by omega, by omega, by omega, by omega, by omega⟩
set_option maxHeartbeats 6400000 in
set_option maxRecDepth 100000 in
theorem rdecode_yes (b : ByteArray) (r : List ByteArray) (A : Option Addr) (c : Nat) (w : World) (h : Strs w A (b :: r)) (hb : b.size ≤ 1125899906842624) (hl : (b :: r).length ≤ 1125899906842624) (d : Int × List Ch × Int × Int) (hd : d = decS (b :: r)) :
    Calls Try.prog 45 #[.slice A (b :: r).length c] w (DecPost w d) := by
  have hu := Try.underlying69
  have hur := Try.underlying95
  obtain ⟨ad, rfl, hc⟩ := h.head
  have H := Aside0.mk h
  obtain ⟨m, hm⟩ : ∃ m, m = (b :: r).length := ⟨_, rfl⟩
  rw [← hm] at hl ⊢
  have hm0 : 1 ≤ m := by rw [hm]; simp
  have hmb : ((m : Int) == 0) = false := by simp; omega
  have hm0i : (0 : Int) < (m : Int) := by omega
  have hm00 : 0 < m := by omega
  have HM := Aside0.mk hm
  have HU := Aside0.mk (fun W => cartularyref03_Unblock.calls b (unblockS b).1 (unblockS b).2 W (lim_ok _ hb))
  have hno := dec_ref_no b r
  have hyes := dec_ref b r
  have hsz : (unblockS b).2 = 0 → (unblockS b).1.size ≤ 122 := fun e => (unblock_says (Prod.ext rfl e : unblockS b = ((unblockS b).1, 0))).2
  unfold rdecS at hyes
  generalize unblockS b = q at HU hno hyes hsz
  obtain ⟨s, e0⟩ := q
  dsimp only at HU hno hyes hsz
  have HNo := Aside0.mk (fun h => hd.trans (hno h))
  have HYes := Aside0.mk (fun h => hd.trans (hyes h))
  clear h hm hno hyes hd
  by_cases g0 : e0 = 0
  · subst g0
    have hs := hsz rfl
    clear hsz
    by_cases g1 : 14 ≤ s.size
    · have q1 : decide ((s.size : Int) < 14) = false := decide_eq_false (by omega)
      have hi0 : 0 < s.size := by omega
      have hi9 : 9 < s.size := by omega
      have hj0 : (0 : Int) < (s.size : Int) := by omega
      have hj9 : (9 : Int) < (s.size : Int) := by omega
      have k0 := (bN_at s 0 hi0).symm
      have k9 := (bN_at s 9 hi9).symm
      obtain ⟨t, ht⟩ : ∃ t, t = bN s 0 := ⟨_, rfl⟩
      obtain ⟨k, hk⟩ : ∃ k, k = bN s 9 := ⟨_, rfl⟩
      rw [← ht] at k0
      rw [← hk] at k9
      have hk256 : k < 256 := by rw [hk]; exact bN_lt s 9
      have ht256 : t < 256 := by rw [ht]; exact bN_lt s 0
      have HT := Aside0.mk ht
      have HK := Aside0.mk hk
      have wk1 : wrap64 (k : Int) = (k : Int) := wrap_id (by omega) (by omega)
      have wk2 : wrap64 (2 * (k : Int)) = 2 * (k : Int) := wrap_id (by omega) (by omega)
      have wk3 : wrap64 (14 + 2 * (k : Int)) = 14 + 2 * (k : Int) := wrap_id (by omega) (by omega)
      clear ht hk
      by_cases g2 : t = 84
      · have q2 : ((t : Int) != 84) = false := by simp [g2]
        have q2' : ((t : Int) == 84) = true := by simp [g2]
        have q2'' : (t : Int) = 84 := by omega
        by_cases g3 : s.size = 14 + 2 * k
        · have q3 : ((s.size : Int) != 14 + 2 * (k : Int)) = false := by simp; omega
          have HG1 := Aside0.mk g1
          have HG2 := Aside0.mk g2
          have HG3 := Aside0.mk g3
          obtain ⟨a, ha⟩ : ∃ a, a = readS (s.extract 1 s.size) 0 8 := ⟨_, rfl⟩
          have HA := Aside0.mk ha
          clear ha g1 g2 g3
          go_enter Try.func45, Try.ntmps45
          go_wp2_with fail
          refine (HU.out _).mono ?_
          rintro e w1 ⟨rfl, hB⟩
          have B1 := Aside0.mk hB
          clear hB
          have I2 := Aside0.mk (Pr.IsS95.new w w1 (s.extract 1 s.size) 0 B1.out)
          have B2 := Aside0.mk (below_alloc B1.out (.cells #[.string (s.extract 1 s.size), .int .i64 0] 95))
          have HRd := Aside0.mk (rread_calls w1.heap.size (s.extract 1 s.size) 0 8 (by omega) w _ I2.out B2.out)
          rw [← HA.out] at HRd
          go_wp2_with fail
          refine HRd.out.mono ?_
          rintro e w3 ⟨rfl, _, hB, _⟩
          have B3 := Aside0.mk hB
          clear hB HRd I2 B2 B1
          by_cases g4 : a.2.1 = 0 ∧ 1 ≤ a.1 ∧ a.1 ≤ 1099511627776
          · obtain ⟨h1, h2, h3⟩ := g4
            have p1 : (a.2.1 != 0) = false := by simp [h1]
            have p2 : decide (a.1 < 1) = false := decide_eq_false (by omega)
            have p3 : decide (a.1 > 1099511627776) = false := decide_eq_false (by omega)
            have HOk1 : Aside0 (HOk s) := ⟨⟨HG1.out, by rw [← HT.out]; exact HG2.out, by rw [← HK.out]; exact HG3.out, by rw [← HA.out]; exact h1, by rw [← HA.out]; exact h2, by rw [← HA.out]; exact h3⟩⟩
            have HSeq : Aside0 (hseq s = a.1) := ⟨by rw [HA.out]; rfl⟩
            have HSq := Aside0.mk (And.intro h2 h3)
            obtain ⟨a1, a2, a3, a4⟩ := a
            dsimp only at h1 h2 h3 p1 p2 p3 HSeq
            clear h1 h2 h3
            go_wp2_with fail
            obtain ⟨ns, hns⟩ : ∃ ns, ns = hnums s ⟨#[]⟩ := ⟨_, rfl⟩
            have hnl : ns.length = k := by rw [hns, HK.out]; exact numsB_len _ _ _
            have HNs := Aside0.mk hns
            have HNl := Aside0.mk hnl
            have HStp := Aside0.mk (incrL_step ns)
            have HErr : Aside0 (¬ (incrL (-1) ns ∧ k ≤ 48) → d = (0, [], 0, 4)) := ⟨fun hh => HNo.out fun h => hh (by rw [HNs.out, HK.out]; exact h.2.2)⟩
            have hks : 14 + 2 * k = s.size := HG3.out.symm
            have HTk : Aside0 (∀ i, i ≤ k → ns.take i = numsB (s.extract 10 s.size) ⟨#[]⟩ i) := ⟨fun i hi => by rw [HNs.out]; unfold hnums; rw [← HK.out]; exact numsB_take _ _ _ _ hi⟩
            have HAt : Aside0 (∀ i (h : i < k), ns[i]'(by rw [HNl.out]; exact h) = (((bN s (10 + 2 * i) + 256 * bN s (11 + 2 * i) : Nat) : Int), ⟨#[]⟩)) := ⟨fun i h => by
              have := hn_at s ⟨#[]⟩ k i h (by omega)
              simp only [HNs.out, hnums, ← HK.out]
              exact this⟩
            clear hns hnl wk1 wk2 wk3
            go_loopw [12, 13, 14] (fun v12 v13 v14 wr => ∃ i : Nat, i ≤ k ∧ v14 = .int .i64 (i : Int) ∧ v13 = .int .i64 (lastAt ns i) ∧ Aside0 (wr.ownsRow w.heap.size 69 2 v12 i (cv (ns.take i))) ∧ Aside0 (incrL (-1) ns ↔ incrL (lastAt ns i) (ns.drop i)) ∧ Aside0 (-1 ≤ lastAt ns i) ∧ Aside0 (Below w.heap.size w wr)) (fun _ _ x _ => k - (intOf x).toNat)
            case atStart => exact ⟨0, by omega, rfl, rfl, ⟨own_nil _ _ _ _⟩, ⟨Iff.rfl⟩, ⟨by simp [lastAt]⟩, B3⟩
            case round =>
              clear B3
              obtain ⟨i, hi, rfl, rfl, HR, HI, HLa, HB⟩ := hrel
              by_cases hlt : i < k
              · have hat := HAt.out i hlt
                have hst := HStp.out i (by rw [HNl.out]; exact hlt)
                have hl1 := lastAt_succ ns i (by rw [HNl.out]; exact hlt)
                have htk : ns.take (i + 1) = ns.take i ++ [ns[i]'(by rw [HNl.out]; exact hlt)] := List.take_succ_eq_append_getElem (by rw [HNl.out]; exact hlt)
                rw [hat] at hst hl1 htk
                have ha1 : 10 + 2 * i < s.size := by omega
                have ha2 : 11 + 2 * i < s.size := by omega
                have y1 := (bN_at s (10 + 2 * i) ha1).symm
                have y2 := (bN_at s (11 + 2 * i) ha2).symm
                have z1 := bN_lt s (10 + 2 * i)
                have z2 := bN_lt s (11 + 2 * i)
                generalize bN s (10 + 2 * i) = x1 at hat hst hl1 htk y1 z1
                generalize bN s (11 + 2 * i) = x2 at hat hst hl1 htk y2 z2
                rw [show ((x1 + 256 * x2 : Nat) : Int) = (x1 : Int) + 256 * (x2 : Int) from by omega] at hst hl1 htk
                dsimp only at hst hl1
                have HSt := Aside0.mk hst
                have HL1 := Aside0.mk hl1
                have HTi := Aside0.mk htk
                generalize lastAt ns i = la at HI HLa HSt ⊢
                obtain ⟨-, -, -, -, -, r1, r2, r3, r4⟩ := idx_facts hlt hk256 hks
                have HKs := Aside0.mk (And.intro hks (And.intro hk256 hlt))
                clear hat hst hl1 htk hks
                by_cases g5 : la < (x1 : Int) + 256 * (x2 : Int) ∧ (x1 : Int) + 256 * (x2 : Int) < 1024
                · have b5 : decide ((x1 : Int) + 256 * (x2 : Int) ≤ la) = false := decide_eq_false (by omega)
                  have b6 : decide ((x1 : Int) + 256 * (x2 : Int) ≥ 1024) = false := decide_eq_false (by omega)
                  have HG5 := Aside0.mk g5
                  have hml : (i + 1) * 24 ≤ 140737488355328 := by omega
                  have HLn : Aside0 ((ns.take i).length = i) := ⟨by rw [List.length_take, HNl.out]; omega⟩
                  clear g5
                  go_wp2_with fail
                  go_region
                  have BD : Aside0 (Below w.heap.size w wr.drew) := ⟨below_drew1 HB.out⟩
                  have RD : Aside0 (wr.drew.ownsRow w.heap.size 69 2 _ i (cv (ns.take i))) := ⟨pw_own_below HR.out (below_drew1 (Below.refl _ _))⟩
                  go_wp2_with (at_builtin; refine print_append_cells w.heap.size rfl (.tmp 100) (.tmp 103) 31 69 (.agg #[.int .i64 0, .string ⟨#[]⟩]) 2 24 rfl Try.underlying31 infoC rfl (by decide) (by decide) _ _ _ [.int .i64 ((x1 : Int) + 256 * (x2 : Int)), .string ⟨#[]⟩] rfl rfl rfl (by intro u hu; simp at hu; rcases hu with rfl | rfl <;> rfl) RD.out BD.out BD.out.size hml ?_; intro v8 w8 hr8 hb8 _ _; have R8 := Aside0.mk hr8; have B8 := Aside0.mk hb8; clear hr8 hb8)
                  go_roundw
                  case rel => exact ⟨i + 1, by omega, by simp, by rw [HL1.out], ⟨by rw [HTi.out, cv_append]; exact R8.out⟩, ⟨HI.out.trans (HSt.out.trans ⟨fun h => h.2.2, fun h => ⟨HG5.out.1, HG5.out.2, h⟩⟩)⟩, ⟨by rw [HL1.out]; omega⟩, B8⟩
                  case measure => simp [intOf]; omega
                · have hcase : decide ((x1 : Int) + 256 * (x2 : Int) ≤ la) = true ∨ (decide ((x1 : Int) + 256 * (x2 : Int) ≤ la) = false ∧ decide ((x1 : Int) + 256 * (x2 : Int) ≥ 1024) = true) := by simp; omega
                  have HDd : Aside0 (d = (0, [], 0, 4)) := ⟨HErr.out fun h => g5 (by have := HSt.out.1 (HI.out.1 h.1); exact ⟨this.1, this.2.1⟩)⟩
                  clear g5
                  rcases hcase with b5 | ⟨b5, b6⟩
                  all_goals
                    go_wp2_with fail
                    go_region
                    go_wp2_with fail
                    refine bodyPost_ret (v := .tuple #[.int .i64 0, .slice none 0 0, .int .i64 0, .int .i64 4]) (by simp [results, Try.results45, go_sem]) rfl ⟨.slice none 0 0, ?_, ?_, below_drew1 HB.out⟩
                    · rw [HDd.out]
                    · rw [HDd.out]; exact own_nil _ _ _ _
              · obtain rfl : i = k := by omega
                have hR := HR.out
                rw [List.take_of_length_le (by rw [HNl.out]; exact Nat.le_refl _)] at hR
                obtain ⟨Aq, cq, rfl⟩ := own_slice hR
                have R1 := Aside0.mk hR
                have HInc : Aside0 (incrL (-1) ns) := ⟨HI.out.2 (by rw [List.drop_of_length_le (by rw [HNl.out]; exact Nat.le_refl _)]; trivial)⟩
                clear hR HR HI HLa
                by_cases g48 : i ≤ 48
                · have b48 : decide ((i : Int) > 48) = false := decide_eq_false (by omega)
                  have wi1 : IntKind.i64.wrap ((i : Int) + 1) = (i : Int) + 1 := IntWalk.i64_in _ (by omega)
                  have HYs : Aside0 (d = if r.length < i then (0, [], 0, 20) else if ¬ right (newL (b :: r) ns) ∨ b ≠ headS a1 (newL (b :: r) ns) then (0, [], 0, 4) else (a1, newL (b :: r) ns, (i : Int) + 1, (0 : Int))) := ⟨by
                    have := HYes.out ⟨by first | trivial | rfl, HOk1.out, by rw [← HNs.out]; exact HInc.out, by rw [← HK.out]; exact g48⟩
                    rw [← HK.out, ← HNs.out, HSeq.out] at this
                    exact this⟩
                  by_cases gl : m < i + 1
                  · have bl : decide ((m : Int) < (i : Int) + 1) = true := decide_eq_true (by omega)
                    have HDd : Aside0 (d = (0, [], 0, 20)) := ⟨by rw [HYs.out, if_pos]; have := HM.out; rw [List.length_cons] at this; omega⟩
                    clear gl
                    go_wp2_with fail
                    refine bodyPost_ret (v := .tuple #[.int .i64 0, .slice none 0 0, .int .i64 0, .int .i64 20]) (by simp [results, Try.results45, go_sem]) rfl ⟨.slice none 0 0, ?_, ?_, HB.out⟩
                    · rw [HDd.out]
                    · rw [HDd.out]; exact own_nil _ _ _ _
                  · have bl : decide ((m : Int) < (i : Int) + 1) = false := decide_eq_false (by omega)
                    have HYt : Aside0 (d = if ¬ right (newL (b :: r) ns) ∨ b ≠ headS a1 (newL (b :: r) ns) then (0, [], 0, 4) else (a1, newL (b :: r) ns, (i : Int) + 1, (0 : Int))) := ⟨by rw [HYs.out, if_neg]; have := HM.out; rw [List.length_cons] at this; omega⟩
                    have HG := Aside0.mk gl
                    clear gl
                    go_wp2_with fail
                    go_loopw [114] (fun v114 wr => ∃ j : Nat, j ≤ i ∧ v114 = .int .i64 (j : Int) ∧ Aside0 (wr.ownsRow w.heap.size 69 2 (.slice Aq i cq) i (cv (setK (b :: r) ns j))) ∧ Aside0 (Below w.heap.size w wr)) (fun x _ => i - (intOf x).toNat)
                    case atStart => exact ⟨0, by omega, rfl, R1, HB⟩
                    case round =>
                      clear R1 HB
                      obtain ⟨j, hj, rfl, HR, HB⟩ := hrel
                      by_cases hlt : j < i
                      · obtain ⟨g, rfl⟩ : ∃ g, Aq = some ⟨g, 0, none⟩ := by
                          rcases HR.out.2 with ⟨h1, h2⟩ | ⟨g, cap, cur, h1, _⟩
                          · simp at h1
                            omega
                          · simp at h1
                            exact ⟨g, h1.1⟩
                        have him : j + 1 < m := by have := HG.out; omega
                        obtain ⟨ad', e', d0⟩ := (H.out.below HB.out) (j + 1) (by rw [← HM.out]; exact him)
                        obtain rfl := Option.some.inj e'
                        have hst : setK (b :: r) ns (j + 1) = (setK (b :: r) ns j).modify j fun c => (c.1, ((b :: r)[j + 1]?).getD ⟨#[]⟩) := rfl
                        rw [List.getElem?_eq_getElem (by rw [← HM.out]; exact him), Option.getD_some] at hst
                        generalize (b :: r)[j + 1]'(by rw [← HM.out]; exact him) = st at d0 hst
                        rw [show ad.add (j + 1) = ⟨ad.block, ad.off + (j + 1), none⟩ by unfold Addr.add; simp] at d0
                        have HSt := Aside0.mk hst
                        clear hst e'
                        have wj2 : IntKind.i64.wrap ((j : Int) + 1) = (j : Int) + 1 := IntWalk.i64_in _ (by omega)
                        obtain ⟨u, hu1⟩ : ∃ u, (cv (setK (b :: r) ns j))[j * 2 + 1]? = some u := ⟨_, (cv_at (setK (b :: r) ns j) j (by rw [setK_length, HNl.out]; exact hlt)).2⟩
                        have cz : wr.cell? ⟨g, j * 2 + 1, none⟩ = some u := (HR.out.cellAt (j * 2 + 1) (by omega)).trans hu1
                        have fz := HR.out.frozenAt (j * 2 + 1)
                        have N1 := Aside0.mk (HR.out.stored (j * 2 + 1) (.string st))
                        have NG := Aside0.mk (own_base HR.out g rfl)
                        clear hu1
                        go_wp2_with fail
                        go_roundw
                        case rel => exact ⟨j + 1, by omega, by simp, ⟨by rw [HSt.out, ← cv_modify]; exact N1.out.1⟩, ⟨HB.out.setCell (p := ⟨g, j * 2 + 1, none⟩) NG.out (.string st)⟩⟩
                        case measure => simp [intOf]; omega
                      · obtain rfl : j = i := by omega
                        have hlen : (newL (b :: r) ns).length = j := by unfold newL; rw [setK_length]; exact HNl.out
                        have hR : wr.ownsRow w.heap.size 69 2 (.slice Aq j cq) j (cv (newL (b :: r) ns)) := by
                          have h := HR.out
                          have e : setK (b :: r) ns j = newL (b :: r) ns := by unfold newL; rw [HNl.out]
                          rwa [e] at h
                        generalize newL (b :: r) ns = nl at HYt hlen hR
                        have R2 := Aside0.mk hR
                        have HLen := Aside0.mk hlen
                        have C2 : Aside0 (Chs wr Aq nl) := ⟨own_chs hR hlen.symm⟩
                        obtain ⟨hq1, hq2⟩ := HSq.out
                        clear hR HR hlen
                        by_cases g : right nl
                        · have HEn := Aside0.mk (renc_yes a1 nl Aq cq wr C2.out hq1 hq2 g)
                          obtain ⟨hd, hhd⟩ : ∃ x, x = headS a1 nl := ⟨_, rfl⟩
                          have hbl : blocksL a1 nl = hd :: nl.map Prod.snd := by rw [hhd]; rfl
                          have hbn : (blocksL a1 nl).length = j + 1 := by rw [hbl, List.length_cons, List.length_map, HLen.out]
                          rw [HLen.out, hbn, hbl] at HEn
                          rw [← hhd] at HYt
                          have HGr := Aside0.mk g
                          clear hhd g hbl hbn
                          go_wp2_with fail
                          refine HEn.out.mono ?_
                          rintro e w7 ⟨v7, rfl, hr7, hB7⟩
                          obtain ⟨X, cx, rfl⟩ := own_slice hr7
                          have X7 : Aside0 (Strs w7 X (hd :: nl.map Prod.snd)) := ⟨own_strs hr7 (by rw [List.length_cons, List.length_map, HLen.out])⟩
                          have B7 := Aside0.mk (HB.out.trans (hB7.mono HB.out.size))
                          have R7 := Aside0.mk (pw_own_below R2.out hB7)
                          clear hr7 hB7 HEn
                          obtain ⟨adx, rfl, cx0⟩ := X7.out.head
                          obtain ⟨ad', e', d0⟩ := (H.out.below B7.out).head
                          obtain rfl := Option.some.inj e'
                          have hj1 : (0 : Int) < (j : Int) + 1 := by omega
                          by_cases g2 : b = hd
                          · subst g2
                            have HD3 : Aside0 (d = (a1, nl, (j : Int) + 1, 0)) := ⟨by rw [HYt.out, if_neg]; rintro (hh | hh); exact hh HGr.out; exact hh rfl⟩
                            have qn : (b.toList == b.toList) = true := by simp
                            clear e'
                            go_wp2_with fail
                            go_region
                            all_goals
                              go_wp2_with fail
                              refine bodyPost_ret (v := .tuple #[.int .i64 a1, .slice Aq j cq, .int .i64 ((j : Int) + 1), .int .i64 0]) (by simp [results, Try.results45, go_sem]) rfl ⟨.slice Aq j cq, ?_, ?_, below_drew1 B7.out⟩
                              · rw [HD3.out]
                              · rw [HD3.out]
                                dsimp only
                                rw [HLen.out]
                                exact pw_own_below R7.out (below_drew1 (Below.refl _ _))
                          · have HD3 : Aside0 (d = (0, [], 0, 4)) := ⟨by rw [HYt.out, if_pos (.inr g2)]⟩
                            have qn : (hd.toList == b.toList) = false := by rw [eq_iff]; exact decide_eq_false (fun e => g2 e.symm)
                            clear g2 e'
                            go_wp2_with fail
                            go_region
                            all_goals
                              go_wp2_with fail
                              refine bodyPost_ret (v := .tuple #[.int .i64 0, .slice none 0 0, .int .i64 0, .int .i64 4]) (by simp [results, Try.results45, go_sem]) rfl ⟨.slice none 0 0, ?_, ?_, below_drew1 B7.out⟩
                              · rw [HD3.out]
                              · rw [HD3.out]; exact own_nil _ _ _ _
                        · have HEn := Aside0.mk (renc_no2 a1 nl Aq cq wr C2.out (by rw [HLen.out]; omega) hq1 hq2 g)
                          rw [HLen.out] at HEn
                          have HD3 : Aside0 (d = (0, [], 0, 4)) := ⟨by rw [HYt.out, if_pos (.inl g)]⟩
                          clear g
                          go_wp2_with fail
                          refine HEn.out.mono ?_
                          rintro e w7 ⟨rfl, hB7⟩
                          have B7 := Aside0.mk (HB.out.trans (hB7.mono HB.out.size))
                          clear hB7
                          go_wp2_with fail
                          go_region
                          all_goals
                            go_wp2_with fail
                            refine bodyPost_ret (v := .tuple #[.int .i64 0, .slice none 0 0, .int .i64 0, .int .i64 4]) (by simp [results, Try.results45, go_sem]) rfl ⟨.slice none 0 0, ?_, ?_, below_drew1 B7.out⟩
                            · rw [HD3.out]
                            · rw [HD3.out]; exact own_nil _ _ _ _
                · have b48 : decide ((i : Int) > 48) = true := decide_eq_true (by omega)
                  have HDd : Aside0 (d = (0, [], 0, 4)) := ⟨HErr.out fun h => g48 h.2⟩
                  clear g48
                  go_wp2_with fail
                  refine bodyPost_ret (v := .tuple #[.int .i64 0, .slice none 0 0, .int .i64 0, .int .i64 4]) (by simp [results, Try.results45, go_sem]) rfl ⟨.slice none 0 0, ?_, ?_, HB.out⟩
                  · rw [HDd.out]
                  · rw [HDd.out]; exact own_nil _ _ _ _
          · have hcase : (a.2.1 != 0) = true ∨ ((a.2.1 != 0) = false ∧ decide (a.1 < 1) = true) ∨ ((a.2.1 != 0) = false ∧ decide (a.1 < 1) = false ∧ decide (a.1 > 1099511627776) = true) := by
              by_cases h1 : a.2.1 = 0
              · right
                by_cases h2 : a.1 < 1
                · exact .inl ⟨by simp [h1], decide_eq_true h2⟩
                · refine .inr ⟨by simp [h1], decide_eq_false h2, decide_eq_true ?_⟩
                  by_cases h3 : a.1 ≤ 1099511627776
                  · exact absurd ⟨h1, by omega, h3⟩ g4
                  · omega
              · exact .inl (by simp [h1])
            have HDd : Aside0 (d = (0, [], 0, 4)) := ⟨HNo.out fun h => g4 (by rw [HA.out]; exact ⟨h.2.1.rd, h.2.1.s1, h.2.1.s2⟩)⟩
            clear g4
            rcases hcase with p1 | ⟨p1, p2⟩ | ⟨p1, p2, p3⟩
            all_goals
              go_wp2_with fail
              refine bodyPost_ret (v := .tuple #[.int .i64 0, .slice none 0 0, .int .i64 0, .int .i64 4]) (by simp [results, Try.results45, go_sem]) rfl ⟨.slice none 0 0, ?_, ?_, B3.out⟩
              · rw [HDd.out]
              · rw [HDd.out]; exact own_nil _ _ _ _
        · have q3 : ((s.size : Int) != 14 + 2 * (k : Int)) = true := by simp; omega
          have HDd : Aside0 (d = (0, [], 0, 4)) := ⟨HNo.out fun h => g3 (by rw [HK.out]; exact h.2.1.sz)⟩
          clear g3
          go_enter Try.func45, Try.ntmps45
          go_wp2_with fail
          refine (HU.out _).mono ?_
          rintro e w1 ⟨rfl, hB⟩
          have B1 := Aside0.mk hB
          clear hB
          go_wp2_with fail
          refine bodyPost_ret (v := .tuple #[.int .i64 0, .slice none 0 0, .int .i64 0, .int .i64 4]) (by simp [results, Try.results45, go_sem]) rfl ⟨.slice none 0 0, ?_, ?_, B1.out⟩
          · rw [HDd.out]
          · rw [HDd.out]; exact own_nil _ _ _ _
      · have q2 : ((t : Int) != 84) = true := by simp; omega
        have q2' : ((t : Int) == 84) = false := by simp; omega
        have q2'' : ¬ (t : Int) = 84 := by omega
        have HDd : Aside0 (d = (0, [], 0, 4)) := ⟨HNo.out fun h => g2 (by rw [HT.out]; exact h.2.1.tee)⟩
        clear g2
        go_enter Try.func45, Try.ntmps45
        go_wp2_with fail
        refine (HU.out _).mono ?_
        rintro e w1 ⟨rfl, hB⟩
        have B1 := Aside0.mk hB
        clear hB
        go_wp2_with fail
        refine bodyPost_ret (v := .tuple #[.int .i64 0, .slice none 0 0, .int .i64 0, .int .i64 4]) (by simp [results, Try.results45, go_sem]) rfl ⟨.slice none 0 0, ?_, ?_, B1.out⟩
        · rw [HDd.out]
        · rw [HDd.out]; exact own_nil _ _ _ _
    · have q1 : decide ((s.size : Int) < 14) = true := decide_eq_true (by omega)
      have HDd : Aside0 (d = (0, [], 0, 4)) := ⟨HNo.out fun h => g1 h.2.1.n14⟩
      clear g1
      go_enter Try.func45, Try.ntmps45
      go_wp2_with fail
      refine (HU.out _).mono ?_
      rintro e w1 ⟨rfl, hB⟩
      have B1 := Aside0.mk hB
      clear hB
      go_wp2_with fail
      refine bodyPost_ret (v := .tuple #[.int .i64 0, .slice none 0 0, .int .i64 0, .int .i64 4]) (by simp [results, Try.results45, go_sem]) rfl ⟨.slice none 0 0, ?_, ?_, B1.out⟩
      · rw [HDd.out]
      · rw [HDd.out]; exact own_nil _ _ _ _
  · have q0 : (e0 != 0) = true := by simp [g0]
    have HDd : Aside0 (d = (0, [], 0, 4)) := ⟨HNo.out fun h => g0 h.1⟩
    clear g0 hsz
    go_enter Try.func45, Try.ntmps45
    go_wp2_with fail
    refine (HU.out _).mono ?_
    rintro e w1 ⟨rfl, hB⟩
    have B1 := Aside0.mk hB
    clear hB
    go_wp2_with fail
    refine bodyPost_ret (v := .tuple #[.int .i64 0, .slice none 0 0, .int .i64 0, .int .i64 4]) (by simp [results, Try.results45, go_sem]) rfl ⟨.slice none 0 0, ?_, ?_, B1.out⟩
    · rw [HDd.out]
    · rw [HDd.out]; exact own_nil _ _ _ _
set_option maxHeartbeats 1600000 in
set_option maxRecDepth 100000 in
theorem rdecode_calls (bs : List ByteArray) (A : Option Addr) (c : Nat) (w : World) (h : Strs w A bs) (hs : ∀ b ∈ bs, b.size ≤ 1125899906842624) (hl : bs.length ≤ 1125899906842624) :
    Calls Try.prog 45 #[.slice A bs.length c] w (DecPost w (decS bs)) := by
  cases bs with
  | nil =>
    go_enter Try.func45, Try.ntmps45
    go_wp2_with fail
    refine bodyPost_ret (v := .tuple #[.int .i64 0, .slice none 0 0, .int .i64 0, .int .i64 20]) (by simp [results, Try.results45, go_sem]) rfl ⟨.slice none 0 0, rfl, own_nil _ _ _ _, Below.refl _ _⟩
  | cons b r => exact rdecode_yes b r A c w h (hs b (List.mem_cons_self ..)) hl _ rfl
end Go.Proofs.Ytlmnfnkjbgnklaa.Txn
end
