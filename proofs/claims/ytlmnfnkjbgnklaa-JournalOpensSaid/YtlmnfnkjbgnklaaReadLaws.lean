/- The reader's contracts: what a number of a size reads as, of whatever bytes and in whatever state. What is read back: laws of numbers, of what is cut off, of blocks. -/
import Derived.Test.YtlmnfnkjbgnklaaSumC
section
/- The reader's contracts: what a number of a size reads as, of whatever bytes and in whatever state. -/
set_option linter.unusedVariables false
set_option linter.unusedSimpArgs false
namespace Go.Proofs.Ytlmnfnkjbgnklaa.C
open Go.RowKit Go.Proofs.YtlmnfnkjbgnklaaW.PrintWords Go.Proofs.YtlmnfnkjbgnklaaW.PrintLast Go.Proofs.Ytlmnfnkjbgnklaa.Spec Go.Proofs.Ytlmnfnkjbgnklaa.Ev

/-- What is read: the number, the error, what is left, the reader's error. -/
def readS (s : ByteArray) (e : Int) (n : Nat) : Int × Int × ByteArray × Int :=
  if e ≠ 0 then (0, e, s, e) else if s.size < n then (0, 20, s, 20) else if 9223372036854775808 ≤ num (s.data.toList.take n) then (0, 4, s, 4) else ((num (s.data.toList.take n) : Int), 0, s.extract n s.size, 0)

theorem reader_l0_neg (s : ByteArray) (x1 : Int) (hs : 8 ≤ s.size) (hN : 9223372036854775808 ≤ num (s.data.toList.take 8)) : ∀ (d i : Nat), i + d = 8 →
    Ev (fun k => Ps.codec_Reader_Fixed.l0 k x1 (wrap64 (num (s.data.toList.take i) : Nat)) 8 (i : Nat) s 0) (0, 4, s, 4)
  | 0, i, hi => by
    obtain rfl : i = 8 := by omega
    refine Ev.step (f := fun _ => some _) (fun k => ?_) (Ev.now _)
    simp only [Ps.codec_Reader_Fixed.l0]
    have hx := num_lt (s.data.toList.take 8)
    have hl : (s.data.toList.take 8).length = 8 := by rw [List.length_take, Array.length_toList]; exact Nat.min_eq_left hs
    rw [hl] at hx
    have hneg : wrap64 ((num (s.data.toList.take 8) : Nat) : Int) < 0 := by unfold wrap64; omega
    rw [if_neg (by omega), if_pos hneg]
    rfl
  | d + 1, i, hi => by
    have hlt : i < s.size := by omega
    have hb := (s[i]'hlt).toNat_lt
    refine Ev.step (fun k => ?_) (reader_l0_neg s x1 hs hN d (i + 1) (by omega))
    simp only [Ps.codec_Reader_Fixed.l0]
    have h8 : wrap64 (8 * (i : Int)) = ((8 * i : Nat) : Int) := by rw [wrap_id (by omega) (by omega)]; omega
    have hbt : wrap64 (bt s (i : Nat)) = ((s[i]'hlt).toNat : Int) := by rw [bt_nat s i hlt]; exact wrap_id (by omega) (by omega)
    have hl : (s.data.toList.take i).length = i := by rw [List.length_take, Array.length_toList]; exact Nat.min_eq_left (show i ≤ s.size by omega)
    have hx := num_lt (s.data.toList.take i)
    rw [hl] at hx
    have ho := or_step (num (s.data.toList.take i)) i (s[i]'hlt).toNat (by omega) hx (by omega)
    rw [if_pos (by omega), if_pos (by omega), if_pos (by omega), h8, if_pos (by omega), hbt, wrap_id (n := (i : Int) + 1) (by omega) (by omega), take_snoc s i hlt, num_snoc, hl, ← ho]
    unfold shl
    rw [Int.toNat_natCast, Nat.min_eq_left (show 8 * i ≤ IntKind.i64.bits from by show 8 * i ≤ 64; omega)]
    rfl

theorem readS_ev (s : ByteArray) (e : Int) (n : Nat) (hn : n = 1 ∨ n = 2 ∨ n = 4 ∨ n = 8) : Ev (fun k => Ps.codec_Reader_Fixed.f k s e (n : Nat)) (readS s e n) := by
  by_cases he : e = 0
  · subst he
    by_cases hs : s.size < n
    · unfold Ps.codec_Reader_Fixed.f readS
      have hz : Ps.codec_sized.f (n : Nat) = some true := by rcases hn with rfl | rfl | rfl | rfl <;> rfl
      rw [if_neg (by simp), if_pos hs]
      simp only [hz, Option.bind_some, Ps.codec_Reader_failed.f, Ps.codec_Reader_fail.f]
      exact Ev.pos trivial (Ev.pos trivial (Ev.pos (by omega) (Ev.now _)))
    · by_cases hN : num (s.data.toList.take n) < 9223372036854775808
      · have := reader_ev s n hn (by omega) hN
        unfold readS
        rw [if_neg (by simp), if_neg hs, if_neg (by omega)]
        exact this
      · have hl : (s.data.toList.take n).length = n := by rw [List.length_take, Array.length_toList]; exact Nat.min_eq_left (show n ≤ s.size by omega)
        have hx := num_lt (s.data.toList.take n)
        rw [hl] at hx
        have h8 : n = 8 := by
          rcases hn with rfl | rfl | rfl | rfl <;> omega
        subst h8
        unfold Ps.codec_Reader_Fixed.f readS
        have hz : Ps.codec_sized.f ((8 : Nat) : Int) = some true := rfl
        rw [if_neg (by simp), if_neg hs, if_pos (by omega)]
        simp only [hz, Option.bind_some, Ps.codec_Reader_failed.f]
        refine Ev.pos trivial (Ev.pos trivial (Ev.neg (by omega) ?_))
        have := reader_l0_neg s ((8 : Nat) : Int) (by omega) (by omega) 8 0 (by omega)
        rw [show wrap64 ((num (s.data.toList.take 0) : Nat) : Int) = 0 from by rw [List.take_zero]; exact wrap_id (n := 0) (by omega) (by omega)] at this
        exact this
  · unfold Ps.codec_Reader_Fixed.f readS
    have hz : Ps.codec_sized.f (n : Nat) = some true := by rcases hn with rfl | rfl | rfl | rfl <;> rfl
    rw [if_pos he]
    simp only [hz, Option.bind_some, Ps.codec_Reader_failed.f]
    exact Ev.pos trivial (Ev.neg he (Ev.now _))

theorem read_calls (g : Nat) (s : ByteArray) (e : Int) (n : Nat) (hn : n = 1 ∨ n = 2 ∨ n = 4 ∨ n = 8) (w0 w : World) (hI : Ps.IsS119 w0 w g s e) (hB : Below w0.heap.size w0 w) :
    Calls Try.prog 57 #[.pointer (some ⟨g, 0, none⟩), .int .i64 (n : Nat)] w fun e' w' => e' = .returned (.tuple #[.int .i64 (readS s e n).1, .int .i64 (readS s e n).2.1]) ∧ Ps.IsS119 w0 w' g (readS s e n).2.2.1 (readS s e n).2.2.2 ∧ Below w0.heap.size w0 w' ∧ KeepBut w w' g none := by
  obtain ⟨k, hk⟩ := (readS_ev s e n hn).rounds
  exact Ps.codec_Reader_Fixed.calls k g s e n _ _ _ _ w0 w hI hB hk

def endS (s : ByteArray) (e : Int) : Int := if e ≠ 0 then e else if s.size = 0 then 0 else 4
theorem size_zero (s : ByteArray) : s.toList = [] ↔ s.size = 0 := by
  rw [Go.Lib.toList_data, ← List.length_eq_zero_iff, Array.length_toList]
  rfl
theorem end_calls (g : Nat) (s : ByteArray) (e : Int) (w0 w : World) (hI : Ps.IsS119 w0 w g s e) (hB : Below w0.heap.size w0 w) :
    Calls Try.prog 58 #[.pointer (some ⟨g, 0, none⟩)] w fun e' w' => e' = .returned (.int .i64 (endS s e)) ∧ Ps.IsS119 w0 w' g s e ∧ Below w0.heap.size w0 w' ∧ KeepBut w w' g none := by
  refine Ps.codec_Reader_End.calls g s e _ _ _ w0 w hI hB ?_
  unfold Ps.codec_Reader_End.f endS
  have hz := size_zero s
  by_cases he : e = 0
  · by_cases hs : s.size = 0
    · simp [he, hs, hz]
    · simp [he, hs, hz]
  · simp [he]
end Go.Proofs.Ytlmnfnkjbgnklaa.C
end

section
/- What is read back: laws of numbers, of what is cut off, of blocks. -/
set_option linter.unusedVariables false
set_option linter.unusedSimpArgs false
namespace Go.Proofs.Ytlmnfnkjbgnklaa.C
open Go.RowKit Go.Proofs.YtlmnfnkjbgnklaaW.PrintWords Go.Proofs.YtlmnfnkjbgnklaaW.PrintLast Go.Proofs.Ytlmnfnkjbgnklaa.Spec Go.Proofs.Ytlmnfnkjbgnklaa.Ev

def cutS (s p : ByteArray) : ByteArray × Bool := if p.size ≤ s.size ∧ s.extract 0 p.size = p then (s.extract p.size s.size, true) else (s, false)
theorem cut_f (s p : ByteArray) : Ps.strings_CutPrefix.f s p = some (cutS s p) := by
  unfold Ps.strings_CutPrefix.f Ps.stringslite_CutPrefix.f Ps.stringslite_HasPrefix.f cutS
  by_cases h : p.size ≤ s.size
  · rw [if_pos (by omega), if_pos (by omega), if_pos (by omega), Int.toNat_natCast]
    simp only [Option.bind_some]
    by_cases hq : s.extract 0 p.size = p
    · have e : ((s.extract 0 p.size).toList == p.toList) = true := by rw [hq]; simp
      rw [e, if_pos rfl, if_pos (by omega), if_pos (by omega), if_pos ⟨h, hq⟩]
      rfl
    · have e : ((s.extract 0 p.size).toList == p.toList) = false := by
        rw [beq_eq_false_iff_ne]
        exact fun h => hq ((toList_eq_iff _ _).1 h)
      rw [e, if_neg (by simp), if_neg (fun h => hq h.2)]
      rfl
  · have h2 : ¬ (p.size ≤ s.size ∧ s.extract 0 p.size = p) := fun h' => h h'.1
    rw [if_neg (show ¬ (s.size : Int) ≥ (p.size : Int) by omega), if_neg h2]
    rfl
theorem extract_app (a b : ByteArray) : (a ++ b).extract a.size (a ++ b).size = b := by
  apply data_inj
  rw [Go.Lib.extract_data, ByteArray.data_append, Array.toList_append, Ev.drop_app _ _ _ (by rw [Array.length_toList]; rfl), List.take_of_length_le]
  rw [ByteArray.size_append, Array.length_toList]
  show b.size ≤ _
  omega
theorem extract_pre0 (a b : ByteArray) : (a ++ b).extract 0 a.size = a := by
  apply data_inj
  rw [Go.Lib.extract_data, ByteArray.data_append, Array.toList_append]
  simp only [List.drop_zero, Nat.sub_zero]
  rw [Ev.take_app _ _ _ (by rw [Array.length_toList]; rfl)]
theorem readS_le (n k : Nat) (r : ByteArray) (h : n < 2 ^ (8 * k)) (h2 : n < 9223372036854775808) : readS (strOfNums (le n k) ++ r) 0 k = ((n : Int), 0, r, 0) := by
  have hs : (strOfNums (le (n : Int) k)).size = k := by rw [strOfNums_size, le_length]
  have hn : num ((strOfNums (le (n : Int) k) ++ r).data.toList.take k) = n := by
    rw [ByteArray.data_append, Array.toList_append, Ev.take_app _ _ k (by rw [Array.length_toList]; exact hs)]
    exact Ev.num_le k n h
  have he := extract_app (strOfNums (le (n : Int) k)) r
  rw [hs] at he
  unfold readS
  rw [if_neg (by simp), if_neg (by rw [ByteArray.size_append]; omega), hn, if_neg (by omega), he]
theorem readS_ok {s : ByteArray} {e : Int} {n : Nat} (h : (readS s e n).2.2.2 = 0) : e = 0 ∧ n ≤ s.size ∧ readS s e n = ((num (s.data.toList.take n) : Int), 0, s.extract n s.size, 0) := by
  unfold readS at h ⊢
  by_cases he : e ≠ 0
  · rw [if_pos he] at h
    exact absurd h he
  · rw [if_neg he] at h ⊢
    by_cases hs : s.size < n
    · rw [if_pos hs] at h
      cases h
    · rw [if_neg hs] at h ⊢
      by_cases hN : 9223372036854775808 ≤ num (s.data.toList.take n)
      · rw [if_pos hN] at h
        cases h
      · rw [if_neg hN]
        exact ⟨by simpa using he, by omega, rfl⟩
theorem le_num : ∀ l : List UInt8, (strOfNums (le (num l : Int) l.length)).data.toList = l
  | [] => rfl
  | b :: l => by
    have ih := le_num l
    have hb := b.toNat_lt
    rw [strOfNums_data] at ih ⊢
    have e : le (num (b :: l) : Int) (b :: l).length = (b.toNat : Int) :: le (num l : Int) l.length := by
      unfold le
      rw [List.length_cons, List.range_succ_eq_map, List.map_cons, List.map_map]
      congr 1
      · rw [Ev.byte_cast, num]
        simp
      · apply List.map_congr_left
        intro i _
        show ((num (b :: l) : Nat) : Int) / 2 ^ (8 * (i + 1)) % 256 = _
        rw [Ev.byte_cast, Ev.byte_cast]
        congr 2
        rw [num, show 8 * (i + 1) = 8 + 8 * i from by omega, Nat.pow_add, ← Nat.div_div_eq_div_mul]
        congr 1
        omega
    rw [e, List.map_cons, ih]
    congr 1
    rw [Int.toNat_natCast]
    exact UInt8.ofNat_toNat
theorem cut_self (p r : ByteArray) : cutS (p ++ r) p = (r, true) := by
  unfold cutS
  rw [if_pos ⟨by rw [ByteArray.size_append]; omega, extract_pre0 p r⟩, extract_app]
theorem cut_says {s p r : ByteArray} (h : cutS s p = (r, true)) : s = p ++ r := by
  unfold cutS at h
  by_cases hc : p.size ≤ s.size ∧ s.extract 0 p.size = p
  · rw [if_pos hc] at h
    have h1 := (Prod.mk.inj h).1
    have := split_at s p.size hc.1
    rw [hc.2, h1] at this
    exact this.symm
  · rw [if_neg hc] at h
    cases (Prod.mk.inj h).2
theorem block_inj {s t x : ByteArray} (hs : (blockS s).1 = x) (h : s.size ≤ 122) (ht : unblockS x = (t, 0)) : s = t := by
  rw [← hs, Ev.unblock_block s h] at ht
  exact (Prod.mk.inj ht).1
theorem unblock_says {x t : ByteArray} (h : unblockS x = (t, 0)) : (blockS t).1 = x ∧ t.size ≤ 122 := by
  unfold unblockS at h
  by_cases h1 : x.size ≠ 128
  · rw [if_pos h1] at h
    cases (Prod.mk.inj h).2
  · rw [if_neg h1] at h
    by_cases h2 : (openS x).2 ≠ 0
    · rw [if_pos h2] at h
      exact absurd (Prod.mk.inj h).2 h2
    · rw [if_neg h2] at h
      by_cases h3 : 122 < low2 x
      · rw [if_pos h3] at h
        cases (Prod.mk.inj h).2
      · rw [if_neg h3] at h
        by_cases h4 : (blockS (x.extract 2 (2 + low2 x))).1 = x
        · rw [if_pos h4] at h
          have := (Prod.mk.inj h).1
          rw [← this]
          exact ⟨h4, by rw [ByteArray.size_extract]; omega⟩
        · rw [if_neg h4] at h
          cases (Prod.mk.inj h).2

end Go.Proofs.Ytlmnfnkjbgnklaa.C
end
