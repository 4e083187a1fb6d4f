/- What is read back: laws of numbers, of what is cut off, of blocks. -/
import Derived.Test.YtlmnfnkjbgnklaaRead
set_option linter.unusedVariables false
set_option linter.unusedSimpArgs false
namespace Go.Proofs.Ytlmnfnkjbgnklaa.C
open Go.RowKit Go.Proofs.YtlmnfnkjbgnklaaW.PrintWords Go.Proofs.YtlmnfnkjbgnklaaW.PrintLast Go.Proofs.Ytlmnfnkjbgnklaa.Spec Go.Proofs.Ytlmnfnkjbgnklaa.Ev

def cutS (s p : ByteArray) : ByteArray × Bool := if p.size ≤ s.size ∧ s.extract 0 p.size = p then (s.extract p.size s.size, true) else (s, false)
theorem cut_f (s p : ByteArray) : Ps.strings_CutPrefix.f s p = some (cutS s p) := by
  unfold Ps.strings_CutPrefix.f Ps.stringslite_CutPrefix.f Ps.stringslite_HasPrefix.f cutS
  by_cases h : p.size ≤ s.size
  · rw [if_pos (by omega), if_pos (by omega), if_pos (by omega), Int.toNat_natCast]
    simp only [Option.bind_some]
    by_cases hq : s.extract 0 p.size = p
    · have e : ((s.extract 0 p.size).toList == p.toList) = true := by rw [hq]; simp
      rw [e, if_pos rfl, if_pos (by omega), if_pos (by omega), if_pos ⟨h, hq⟩]
      rfl
    · have e : ((s.extract 0 p.size).toList == p.toList) = false := by
        rw [beq_eq_false_iff_ne]
        exact fun h => hq ((toList_eq_iff _ _).1 h)
      rw [e, if_neg (by simp), if_neg (fun h => hq h.2)]
      rfl
  · have h2 : ¬ (p.size ≤ s.size ∧ s.extract 0 p.size = p) := fun h' => h h'.1
    rw [if_neg (show ¬ (s.size : Int) ≥ (p.size : Int) by omega), if_neg h2]
    rfl
theorem extract_app (a b : ByteArray) : (a ++ b).extract a.size (a ++ b).size = b := by
  apply data_inj
  rw [Go.Lib.extract_data, ByteArray.data_append, Array.toList_append, Ev.drop_app _ _ _ (by rw [Array.length_toList]; rfl), List.take_of_length_le]
  rw [ByteArray.size_append, Array.length_toList]
  show b.size ≤ _
  omega
theorem extract_pre0 (a b : ByteArray) : (a ++ b).extract 0 a.size = a := by
  apply data_inj
  rw [Go.Lib.extract_data, ByteArray.data_append, Array.toList_append]
  simp only [List.drop_zero, Nat.sub_zero]
  rw [Ev.take_app _ _ _ (by rw [Array.length_toList]; rfl)]
theorem readS_le (n k : Nat) (r : ByteArray) (h : n < 2 ^ (8 * k)) (h2 : n < 9223372036854775808) : readS (strOfNums (le n k) ++ r) 0 k = ((n : Int), 0, r, 0) := by
  have hs : (strOfNums (le (n : Int) k)).size = k := by rw [strOfNums_size, le_length]
  have hn : num ((strOfNums (le (n : Int) k) ++ r).data.toList.take k) = n := by
    rw [ByteArray.data_append, Array.toList_append, Ev.take_app _ _ k (by rw [Array.length_toList]; exact hs)]
    exact Ev.num_le k n h
  have he := extract_app (strOfNums (le (n : Int) k)) r
  rw [hs] at he
  unfold readS
  rw [if_neg (by simp), if_neg (by rw [ByteArray.size_append]; omega), hn, if_neg (by omega), he]
theorem readS_ok {s : ByteArray} {e : Int} {n : Nat} (h : (readS s e n).2.2.2 = 0) : e = 0 ∧ n ≤ s.size ∧ readS s e n = ((num (s.data.toList.take n) : Int), 0, s.extract n s.size, 0) := by
  unfold readS at h ⊢
  by_cases he : e ≠ 0
  · rw [if_pos he] at h
    exact absurd h he
  · rw [if_neg he] at h ⊢
    by_cases hs : s.size < n
    · rw [if_pos hs] at h
      cases h
    · rw [if_neg hs] at h ⊢
      by_cases hN : 9223372036854775808 ≤ num (s.data.toList.take n)
      · rw [if_pos hN] at h
        cases h
      · rw [if_neg hN]
        exact ⟨by simpa using he, by omega, rfl⟩
theorem le_num : ∀ l : List UInt8, (strOfNums (le (num l : Int) l.length)).data.toList = l
  | [] => rfl
  | b :: l => by
    have ih := le_num l
    have hb := b.toNat_lt
    rw [strOfNums_data] at ih ⊢
    have e : le (num (b :: l) : Int) (b :: l).length = (b.toNat : Int) :: le (num l : Int) l.length := by
      unfold le
      rw [List.length_cons, List.range_succ_eq_map, List.map_cons, List.map_map]
      congr 1
      · rw [Ev.byte_cast, num]
        simp
      · apply List.map_congr_left
        intro i _
        show ((num (b :: l) : Nat) : Int) / 2 ^ (8 * (i + 1)) % 256 = _
        rw [Ev.byte_cast, Ev.byte_cast]
        congr 2
        rw [num, show 8 * (i + 1) = 8 + 8 * i from by omega, Nat.pow_add, ← Nat.div_div_eq_div_mul]
        congr 1
        omega
    rw [e, List.map_cons, ih]
    congr 1
    rw [Int.toNat_natCast]
    exact UInt8.ofNat_toNat
theorem cut_self (p r : ByteArray) : cutS (p ++ r) p = (r, true) := by
  unfold cutS
  rw [if_pos ⟨by rw [ByteArray.size_append]; omega, extract_pre0 p r⟩, extract_app]
theorem cut_says {s p r : ByteArray} (h : cutS s p = (r, true)) : s = p ++ r := by
  unfold cutS at h
  by_cases hc : p.size ≤ s.size ∧ s.extract 0 p.size = p
  · rw [if_pos hc] at h
    have h1 := (Prod.mk.inj h).1
    have := split_at s p.size hc.1
    rw [hc.2, h1] at this
    exact this.symm
  · rw [if_neg hc] at h
    cases (Prod.mk.inj h).2
theorem block_inj {s t x : ByteArray} (hs : (blockS s).1 = x) (h : s.size ≤ 122) (ht : unblockS x = (t, 0)) : s = t := by
  rw [← hs, Ev.unblock_block s h] at ht
  exact (Prod.mk.inj ht).1
theorem unblock_says {x t : ByteArray} (h : unblockS x = (t, 0)) : (blockS t).1 = x ∧ t.size ≤ 122 := by
  unfold unblockS at h
  by_cases h1 : x.size ≠ 128
  · rw [if_pos h1] at h
    cases (Prod.mk.inj h).2
  · rw [if_neg h1] at h
    by_cases h2 : (openS x).2 ≠ 0
    · rw [if_pos h2] at h
      exact absurd (Prod.mk.inj h).2 h2
    · rw [if_neg h2] at h
      by_cases h3 : 122 < low2 x
      · rw [if_pos h3] at h
        cases (Prod.mk.inj h).2
      · rw [if_neg h3] at h
        by_cases h4 : (blockS (x.extract 2 (2 + low2 x))).1 = x
        · rw [if_pos h4] at h
          have := (Prod.mk.inj h).1
          rw [← this]
          exact ⟨h4, by rw [ByteArray.size_extract]; omega⟩
        · rw [if_neg h4] at h
          cases (Prod.mk.inj h).2

end Go.Proofs.Ytlmnfnkjbgnklaa.C
