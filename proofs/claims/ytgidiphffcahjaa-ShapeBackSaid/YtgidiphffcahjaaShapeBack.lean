/- A shape's block is read as the shape, and what is read as a shape is its block. -/
import Derived.Test.YtgidiphffcahjaaShapeRead
set_option linter.unusedVariables false
set_option linter.unusedSimpArgs false
namespace Go.Proofs.Ytgidiphffcahjaa.C
open Go.RowKit Go.Proofs.YtgidiphffcahjaaW.PrintWords Go.Proofs.YtgidiphffcahjaaW.PrintLast Go.Proofs.Ytgidiphffcahjaa.Spec

/-! There and back -/
theorem extract_app (a b : ByteArray) : (a ++ b).extract a.size (a ++ b).size = b := by
  apply data_inj
  rw [Go.Lib.extract_data, ByteArray.data_append, Array.toList_append, Ev.drop_app _ _ _ (by rw [Array.length_toList]; rfl), List.take_of_length_le]
  rw [ByteArray.size_append, Array.length_toList]
  show b.size ≤ _
  omega
theorem extract_pre0 (a b : ByteArray) : (a ++ b).extract 0 a.size = a := by
  apply data_inj
  rw [Go.Lib.extract_data, ByteArray.data_append, Array.toList_append]
  simp only [List.drop_zero, Nat.sub_zero]
  rw [Ev.take_app _ _ _ (by rw [Array.length_toList]; rfl)]
theorem readS_le (n k : Nat) (r : ByteArray) (h : n < 2 ^ (8 * k)) (h2 : n < 9223372036854775808) : readS (strOfNums (le n k) ++ r) 0 k = ((n : Int), 0, r, 0) := by
  have hs : (strOfNums (le (n : Int) k)).size = k := by rw [strOfNums_size, le_length]
  have hn : num ((strOfNums (le (n : Int) k) ++ r).data.toList.take k) = n := by
    rw [ByteArray.data_append, Array.toList_append, Ev.take_app _ _ k (by rw [Array.length_toList]; exact hs)]
    exact Ev.num_le k n h
  have he := extract_app (strOfNums (le (n : Int) k)) r
  rw [hs] at he
  unfold readS
  rw [if_neg (by simp), if_neg (by rw [ByteArray.size_append]; omega), hn, if_neg (by omega), he]
theorem readS_ok {s : ByteArray} {e : Int} {n : Nat} (h : (readS s e n).2.2.2 = 0) : e = 0 ∧ n ≤ s.size ∧ readS s e n = ((num (s.data.toList.take n) : Int), 0, s.extract n s.size, 0) := by
  unfold readS at h ⊢
  by_cases he : e ≠ 0
  · rw [if_pos he] at h
    exact absurd h he
  · rw [if_neg he] at h ⊢
    by_cases hs : s.size < n
    · rw [if_pos hs] at h
      cases h
    · rw [if_neg hs] at h ⊢
      by_cases hN : 9223372036854775808 ≤ num (s.data.toList.take n)
      · rw [if_pos hN] at h
        cases h
      · rw [if_neg hN]
        exact ⟨by simpa using he, by omega, rfl⟩
theorem le_num : ∀ l : List UInt8, (strOfNums (le (num l : Int) l.length)).data.toList = l
  | [] => rfl
  | b :: l => by
    have ih := le_num l
    have hb := b.toNat_lt
    rw [strOfNums_data] at ih ⊢
    have e : le (num (b :: l) : Int) (b :: l).length = (b.toNat : Int) :: le (num l : Int) l.length := by
      unfold le
      rw [List.length_cons, List.range_succ_eq_map, List.map_cons, List.map_map]
      congr 1
      · rw [Ev.byte_cast, num]
        simp
      · apply List.map_congr_left
        intro i _
        show ((num (b :: l) : Nat) : Int) / 2 ^ (8 * (i + 1)) % 256 = _
        rw [Ev.byte_cast, Ev.byte_cast]
        congr 2
        rw [num, show 8 * (i + 1) = 8 + 8 * i from by omega, Nat.pow_add, ← Nat.div_div_eq_div_mul]
        congr 1
        omega
    rw [e, List.map_cons, ih]
    congr 1
    rw [Int.toNat_natCast]
    exact UInt8.ofNat_toNat
theorem cut_cart (r : ByteArray) : cutS (cart4 ++ r) cart4 = (r, true) := by
  unfold cutS
  rw [if_pos ⟨by rw [ByteArray.size_append]; omega, extract_pre0 cart4 r⟩, extract_app]
theorem cartS_eq (b j i : Int) : cartS b j i = cart4 ++ (strOfNums (le b 2) ++ (strOfNums (le j 2) ++ (strOfNums (le i 2) ++ strOfNums []))) := by
  unfold cartS cart4
  rw [strOfNums_append, strOfNums_append, strOfNums_append, List.append_nil, List.append_assoc]
theorem shape_nat {b j i : Int} (h : shapeR b j i) : ∃ B J I : Nat, b = B ∧ j = J ∧ i = I ∧ B < 65536 ∧ J < 65536 ∧ I < 65536 := by
  unfold shapeR at h
  exact ⟨b.toNat, j.toNat, i.toNat, by omega, by omega, by omega, by omega, by omega, by omega⟩
/-- Of a block that says a shape's text, the shape is read. -/
theorem sread_of (x : ByteArray) (b j i : Int) (h : shapeR b j i) (hx : unblockS x = (cartS b j i, 0)) : sreadS x = (b, j, i, 0) := by
  obtain ⟨B, J, I, rfl, rfl, rfl, h1, h2, h3⟩ := shape_nat h
  have hc : cutS (cartS B J I) cart4 = (strOfNums (le B 2) ++ (strOfNums (le J 2) ++ (strOfNums (le I 2) ++ strOfNums [])), true) := by rw [cartS_eq, cut_cart]
  have r0 := readS_le B 2 (strOfNums (le J 2) ++ (strOfNums (le I 2) ++ strOfNums [])) (by omega) (by omega)
  have r1 := readS_le J 2 (strOfNums (le I 2) ++ strOfNums []) (by omega) (by omega)
  have r2 := readS_le I 2 (strOfNums []) (by omega) (by omega)
  generalize hR : strOfNums (le B 2) ++ (strOfNums (le J 2) ++ (strOfNums (le I 2) ++ strOfNums [])) = R at hc r0
  have s1 : rst R 1 = (strOfNums (le J 2) ++ (strOfNums (le I 2) ++ strOfNums []), 0) := by unfold rst rst; rw [r0]
  have s2 : rst R 2 = (strOfNums (le I 2) ++ strOfNums [], 0) := by rw [rst, s1, r1]
  have s3 : rst R 3 = (strOfNums [], 0) := by rw [rst, s2, r2]
  have n0 : rnum R 0 = B := by unfold rnum rst; rw [r0]
  have n1 : rnum R 1 = J := by unfold rnum; rw [s1, r1]
  have n2 : rnum R 2 = I := by unfold rnum; rw [s2, r2]
  have hk : checkR (B : Int) J I = 0 := by unfold checkR; rw [if_pos h]
  have he : endS (strOfNums []) 0 = 0 := by decide
  unfold sreadS
  rw [hx, hc, if_neg (by simp), s3, n0, n1, n2, hk, he, if_neg (by simp)]
/-- What is read as a shape is the block of that shape's text. -/
theorem sread_only (x : ByteArray) (h : (sreadS x).2.2.2 = 0) : ∃ b j i, shapeR b j i ∧ unblockS x = (cartS b j i, 0) := by
  unfold sreadS at h
  by_cases hc : (unblockS x).2 ≠ 0 ∨ (cutS (unblockS x).1 cart4).2 = false
  · rw [if_pos hc] at h
    cases h
  · rw [if_neg hc] at h
    generalize hR : (cutS (unblockS x).1 cart4).1 = R at h
    by_cases hd : endS (rst R 3).1 (rst R 3).2 ≠ 0 ∨ checkR (rnum R 0) (rnum R 1) (rnum R 2) ≠ 0
    · rw [if_pos hd] at h
      cases h
    · have he : endS (rst R 3).1 (rst R 3).2 = 0 := by
        by_cases h : endS (rst R 3).1 (rst R 3).2 = 0
        · exact h
        · exact absurd (.inl h) hd
      have hk : shapeR (rnum R 0) (rnum R 1) (rnum R 2) := by
        by_cases h : shapeR (rnum R 0) (rnum R 1) (rnum R 2)
        · exact h
        · exact absurd (.inr (by unfold checkR; rw [if_neg h]; decide)) hd
      have he2 : (rst R 3).2 = 0 ∧ (rst R 3).1.size = 0 := by
        unfold endS at he
        by_cases h1 : (rst R 3).2 ≠ 0
        · rw [if_pos h1] at he
          exact absurd he h1
        · rw [if_neg h1] at he
          by_cases h2 : (rst R 3).1.size = 0
          · exact ⟨by simpa using h1, h2⟩
          · rw [if_neg h2] at he
            cases he
      have k2 := readS_ok (s := (rst R 2).1) (e := (rst R 2).2) (n := 2) he2.1
      have k1 := readS_ok (s := (rst R 1).1) (e := (rst R 1).2) (n := 2) k2.1
      have k0 := readS_ok (s := (rst R 0).1) (e := (rst R 0).2) (n := 2) k1.1
      have s1 : (rst R 1).1 = R.extract 2 R.size := by show (readS _ _ 2).2.2.1 = _; rw [k0.2.2]; rfl
      have s2 : (rst R 2).1 = (rst R 1).1.extract 2 (rst R 1).1.size := by show (readS _ _ 2).2.2.1 = _; rw [k1.2.2]
      have s3 : (rst R 3).1 = (rst R 2).1.extract 2 (rst R 2).1.size := by show (readS _ _ 2).2.2.1 = _; rw [k2.2.2]
      have z0 : 2 ≤ R.size := k0.2.1
      have z1 := k1.2.1
      have z2 := k2.2.1
      have z3 := he2.2
      have e0 := split_at R 2 z0
      have e1 := split_at (rst R 1).1 2 z1
      have e2 := split_at (rst R 2).1 2 z2
      rw [← s1] at e0
      rw [← s2] at e1
      rw [← s3] at e2
      have part : ∀ (s : ByteArray), 2 ≤ s.size → s.extract 0 2 = strOfNums (le (num (s.data.toList.take 2) : Int) 2) := by
        intro s hs
        apply data_inj
        have hl : (s.data.toList.take 2).length = 2 := by rw [List.length_take, Array.length_toList]; exact Nat.min_eq_left hs
        have := le_num (s.data.toList.take 2)
        rw [hl] at this
        rw [this, Go.Lib.extract_data]
        simp only [List.drop_zero, Nat.sub_zero]
      have n0 : rnum R 0 = (num (R.data.toList.take 2) : Int) := by unfold rnum; rw [k0.2.2]; rfl
      have n1 : rnum R 1 = (num ((rst R 1).1.data.toList.take 2) : Int) := by unfold rnum; rw [k1.2.2]
      have n2 : rnum R 2 = (num ((rst R 2).1.data.toList.take 2) : Int) := by unfold rnum; rw [k2.2.2]
      have hnil : (rst R 3).1 = strOfNums [] := by
        apply data_inj
        rw [strOfNums_data]
        exact List.eq_nil_of_length_eq_zero (by rw [Array.length_toList]; exact z3)
      have hu : (unblockS x).2 = 0 := by
        by_cases h : (unblockS x).2 = 0
        · exact h
        · exact absurd (.inl h) hc
      have ht : (unblockS x).1 = cart4 ++ R := by
        have hb : (cutS (unblockS x).1 cart4).2 = true := by
          cases h : (cutS (unblockS x).1 cart4).2
          · exact absurd (.inr h) hc
          · rfl
        unfold cutS at hb hR
        by_cases hp : cart4.size ≤ (unblockS x).1.size ∧ (unblockS x).1.extract 0 cart4.size = cart4
        · rw [if_pos hp] at hR
          have := split_at (unblockS x).1 cart4.size hp.1
          rw [hp.2] at this
          rw [← hR]
          exact this.symm
        · rw [if_neg hp] at hb
          cases hb
      refine ⟨rnum R 0, rnum R 1, rnum R 2, hk, Prod.ext ?_ hu⟩
      show (unblockS x).1 = cartS _ _ _
      rw [ht, cartS_eq, n0, n1, n2, ← part R z0, ← part _ z1, ← part _ z2, ← hnil, e2, e1, e0]
theorem sread_zero (x : ByteArray) (h : ¬ (sreadS x).2.2.2 = 0) : sreadS x = (0, 0, 0, 60) := by
  unfold sreadS at h ⊢
  by_cases hc : (unblockS x).2 ≠ 0 ∨ (cutS (unblockS x).1 cart4).2 = false
  · rw [if_pos hc]
  · rw [if_neg hc] at h ⊢
    by_cases hd : endS (rst (cutS (unblockS x).1 cart4).1 3).1 (rst (cutS (unblockS x).1 cart4).1 3).2 ≠ 0 ∨ checkR (rnum (cutS (unblockS x).1 cart4).1 0) (rnum (cutS (unblockS x).1 cart4).1 1) (rnum (cutS (unblockS x).1 cart4).1 2) ≠ 0
    · rw [if_pos hd]
    · rw [if_neg hd] at h
      exact absurd rfl h
end Go.Proofs.Ytgidiphffcahjaa.C
