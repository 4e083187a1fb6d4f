/- The reference's superblock, and what a block says. -/
import Derived.Test.YtgidiphffcahjaaPtx13
import Derived.Test.YtgidiphffcahjaaPureShapeR
set_option linter.unusedVariables false
set_option linter.unusedSimpArgs false
namespace Go.Proofs.Ytgidiphffcahjaa.Pure
open Go.RowKit Go.Proofs.YtgidiphffcahjaaW.PrintWords Go.Proofs.YtgidiphffcahjaaW.PrintLast Go.Proofs.Ytgidiphffcahjaa.Spec Go.Proofs.Ytgidiphffcahjaa.C
open Go.Proofs.Ytgidiphffcahjaa.Ev (Ev.pos Ev.neg)

theorem rsuper_ev (b j i : Int) : Ev (fun k => Pt.cartularyref06_Super.f k b j i) (superS b j i) := by
  unfold Pt.cartularyref06_Super.f superS
  refine Ev.bind (right_ev b j i) ?_
  by_cases h : shapeR b j i
  · rw [if_pos h]
    refine Ev.pos (by simp [h]) ?_
    obtain ⟨B, J, I, rfl, rfl, rfl, h1, h2, h3⟩ := shape_nat h
    have f : ∀ n : Nat, n < 65536 → cartularyref02_Fixed.f (n : Int) 2 = some (strOfNums (le n 2)) := by
      intro n hn
      unfold cartularyref02_Fixed.f
      rw [if_pos (by omega), if_pos (by omega), if_pos (by omega), if_pos (by omega)]
      rfl
    have s : ∀ n : Nat, (strOfNums (le (n : Int) 2)).size = 2 := fun n => by rw [strOfNums_size, le_length]
    simp only [f B h1, f J h2, f I h3, Option.bind_some, s]
    have e : (((⟨#[99, 97, 114, 116]⟩ : ByteArray) ++ strOfNums (le B 2)) ++ strOfNums (le J 2)) ++ strOfNums (le I 2) = cartS B J I := by
      unfold cartS
      rw [ByteArray.append_assoc, ByteArray.append_assoc, strOfNums_append, strOfNums_append, List.append_assoc]
    refine Ev.pos (by omega) (Ev.pos (by omega) (Ev.pos (by omega) ?_))
    rw [e]
    have hb : cartularyref03_Block.f (cartS B J I) = some (blockS (cartS B J I)) := lim_ok _ (by rw [cartS_size]; omega)
    simp only [hb, Option.bind_some]
    exact Ev.now _
  · rw [if_neg h]
    exact Ev.neg (by simp [h]) (Ev.now _)

/-- Bytes at a place of a text, as the reference has their number. -/
theorem two_at (t : ByteArray) (p : Nat) (h : p + 1 < t.size) : wrap64 (wrap64 (bt t (p : Nat)) + wrap64 (256 * wrap64 (bt t ((p + 1 : Nat) : Int)))) = (num ((t.data.toList.drop p).take 2) : Int) := by
  have e0 : bt t (p : Nat) = ((t[p]'(by omega)).toNat : Int) := bt_nat t p (by omega)
  have e1 : bt t ((p + 1 : Nat) : Int) = ((t[p + 1]'(by omega)).toNat : Int) := bt_nat t (p + 1) (by omega)
  have l0 := (t[p]'(by omega)).toNat_lt
  have l1 := (t[p + 1]'(by omega)).toNat_lt
  have hl : num ((t.data.toList.drop p).take 2) = (t[p]'(by omega)).toNat + 256 * (t[p + 1]'(by omega)).toNat := by
    rw [drop_cons t p (by omega), drop_cons t (p + 1) (by omega)]
    simp only [List.take_succ_cons, List.take_zero, num]
    omega
  rw [e0, e1, hl, wrap_id (n := ((t[p + 1]'(by omega)).toNat : Int)) (by omega) (by omega), wrap_id (n := ((t[p]'(by omega)).toNat : Int)) (by omega) (by omega)]
  unfold wrap64
  omega

theorem num2_cart (B J I : Nat) (h1 : B < 65536) (h2 : J < 65536) (h3 : I < 65536) :
    num (((cartS B J I).data.toList.drop 4).take 2) = B ∧ num (((cartS B J I).data.toList.drop 6).take 2) = J ∧ num (((cartS B J I).data.toList.drop 8).take 2) = I := by
  have l2 : ∀ n : Nat, (strOfNums (le (n : Int) 2)).data.toList.length = 2 := fun n => by rw [strOfNums_data, List.length_map, le_length]
  have e : (cartS B J I).data.toList = cart4.data.toList ++ ((strOfNums (le B 2)).data.toList ++ ((strOfNums (le J 2)).data.toList ++ ((strOfNums (le I 2)).data.toList ++ []))) := by
    rw [cartS_eq]
    simp only [ByteArray.data_append, Array.toList_append]
    rfl
  have d4 : (cartS B J I).data.toList.drop 4 = (strOfNums (le B 2)).data.toList ++ ((strOfNums (le J 2)).data.toList ++ ((strOfNums (le I 2)).data.toList ++ [])) := by
    rw [e]
    exact Ev.drop_app _ _ 4 rfl
  have d6 : (cartS B J I).data.toList.drop 6 = (strOfNums (le J 2)).data.toList ++ ((strOfNums (le I 2)).data.toList ++ []) := by
    rw [show 6 = 4 + 2 from rfl, ← List.drop_drop, d4]
    exact Ev.drop_app _ _ 2 (l2 B)
  have d8 : (cartS B J I).data.toList.drop 8 = (strOfNums (le I 2)).data.toList ++ [] := by
    rw [show 8 = 6 + 2 from rfl, ← List.drop_drop, d6]
    exact Ev.drop_app _ _ 2 (l2 J)
  refine ⟨?_, ?_, ?_⟩
  · rw [d4, Ev.take_app _ _ 2 (l2 B)]
    exact Ev.num_le 2 B (by omega)
  · rw [d6, Ev.take_app _ _ 2 (l2 J)]
    exact Ev.num_le 2 J (by omega)
  · rw [d8, Ev.take_app _ _ 2 (l2 I)]
    exact Ev.num_le 2 I (by omega)

theorem block_inj {s t x : ByteArray} (hs : (blockS s).1 = x) (h : s.size ≤ 122) (ht : unblockS x = (t, 0)) : s = t := by
  rw [← hs, Ev.unblock_block s h] at ht
  exact (Prod.mk.inj ht).1
theorem unblock_says {x t : ByteArray} (h : unblockS x = (t, 0)) : (blockS t).1 = x ∧ t.size ≤ 122 := by
  unfold unblockS at h
  by_cases h1 : x.size ≠ 128
  · rw [if_pos h1] at h
    cases (Prod.mk.inj h).2
  · rw [if_neg h1] at h
    by_cases h2 : (openS x).2 ≠ 0
    · rw [if_pos h2] at h
      exact absurd (Prod.mk.inj h).2 h2
    · rw [if_neg h2] at h
      by_cases h3 : 122 < low2 x
      · rw [if_pos h3] at h
        cases (Prod.mk.inj h).2
      · rw [if_neg h3] at h
        by_cases h4 : (blockS (x.extract 2 (2 + low2 x))).1 = x
        · rw [if_pos h4] at h
          have := (Prod.mk.inj h).1
          rw [← this]
          exact ⟨h4, by rw [ByteArray.size_extract]; omega⟩
        · rw [if_neg h4] at h
          cases (Prod.mk.inj h).2

theorem rread_j0 (x t : ByteArray) (hx : unblockS x = (t, 0)) : Ev (fun k => Pt.cartularyref06_Read.j0 k x t ((t.size : Int) != 10)) (sreadS x) := by
  by_cases h10 : t.size = 10
  · have e : ((t.size : Int) != 10) = false := by simp [h10]
    rw [e]
    refine Ev.step (fun k => by rw [Pt.cartularyref06_Read.j0]) ?_
    refine Ev.neg (by simp) (Ev.pos (by omega) (Ev.pos (by omega) (Ev.pos (by omega) (Ev.pos (by omega) (Ev.pos (by omega) (Ev.pos (by omega) ?_))))))
    have t4 := two_at t 4 (by omega)
    have t6 := two_at t 6 (by omega)
    have t8 := two_at t 8 (by omega)
    simp only [Int.natCast_add, Int.cast_ofNat_Int] at t4 t6 t8
    have t4' : wrap64 (wrap64 (bt t 4) + wrap64 (256 * wrap64 (bt t 5))) = (num ((t.data.toList.drop 4).take 2) : Int) := t4
    have t6' : wrap64 (wrap64 (bt t 6) + wrap64 (256 * wrap64 (bt t 7))) = (num ((t.data.toList.drop 6).take 2) : Int) := t6
    have t8' : wrap64 (wrap64 (bt t 8) + wrap64 (256 * wrap64 (bt t 9))) = (num ((t.data.toList.drop 8).take 2) : Int) := t8
    rw [t4', t6', t8']
    refine Ev.bind (rsuper_ev _ _ _) ?_
    by_cases hs : shapeR (num ((t.data.toList.drop 4).take 2)) (num ((t.data.toList.drop 6).take 2)) (num ((t.data.toList.drop 8).take 2))
    · have hsup : superS (num ((t.data.toList.drop 4).take 2)) (num ((t.data.toList.drop 6).take 2)) (num ((t.data.toList.drop 8).take 2)) = blockS (cartS (num ((t.data.toList.drop 4).take 2)) (num ((t.data.toList.drop 6).take 2)) (num ((t.data.toList.drop 8).take 2))) := by unfold superS; rw [if_pos hs]
      have hc := cartS_size (num ((t.data.toList.drop 4).take 2)) (num ((t.data.toList.drop 6).take 2)) (num ((t.data.toList.drop 8).take 2))
      have h0 : (blockS (cartS (num ((t.data.toList.drop 4).take 2)) (num ((t.data.toList.drop 6).take 2)) (num ((t.data.toList.drop 8).take 2)))).2 = 0 := by unfold blockS; rw [if_neg (by omega)]
      rw [hsup]
      refine Ev.pos h0 ?_
      by_cases hq : (blockS (cartS (num ((t.data.toList.drop 4).take 2)) (num ((t.data.toList.drop 6).take 2)) (num ((t.data.toList.drop 8).take 2)))).1 = x
      · have ht := block_inj hq (by omega) hx
        rw [sread_of x _ _ _ hs (by rw [ht]; exact hx)]
        exact Ev.pos ((toList_eq_iff _ _).2 hq) (Ev.now _)
      · refine Ev.neg (fun h => hq ((toList_eq_iff _ _).1 h)) ?_
        have hz : sreadS x = (0, 0, 0, 60) := by
          by_cases h : (sreadS x).2.2.2 = 0
          · obtain ⟨b, j, i, hs2, hx2⟩ := sread_only x h
            obtain ⟨B, J, I, rfl, rfl, rfl, b1, b2, b3⟩ := shape_nat hs2
            have ht : t = cartS B J I := (Prod.mk.inj (hx.symm.trans hx2)).1
            obtain ⟨q1, q2, q3⟩ := num2_cart B J I b1 b2 b3
            rw [ht, q1, q2, q3] at hq
            exact absurd (by rw [← ht]; exact (unblock_says hx).1) hq
          · exact sread_zero x h
        rw [hz]
        exact Ev.now _
    · have hsup : superS (num ((t.data.toList.drop 4).take 2)) (num ((t.data.toList.drop 6).take 2)) (num ((t.data.toList.drop 8).take 2)) = (⟨#[]⟩, 60) := by unfold superS; rw [if_neg hs]
      rw [hsup]
      refine Ev.neg (by decide) ?_
      have hz : sreadS x = (0, 0, 0, 60) := by
        by_cases h : (sreadS x).2.2.2 = 0
        · obtain ⟨b, j, i, hs2, hx2⟩ := sread_only x h
          obtain ⟨B, J, I, rfl, rfl, rfl, b1, b2, b3⟩ := shape_nat hs2
          have ht : t = cartS B J I := (Prod.mk.inj (hx.symm.trans hx2)).1
          obtain ⟨q1, q2, q3⟩ := num2_cart B J I b1 b2 b3
          rw [ht, q1, q2, q3] at hs
          exact absurd hs2 hs
        · exact sread_zero x h
      rw [hz]
      exact Ev.now _
  · have e : ((t.size : Int) != 10) = true := by simp; omega
    rw [e]
    refine Ev.step (fun k => by rw [Pt.cartularyref06_Read.j0]) ?_
    have hz : sreadS x = (0, 0, 0, 60) := by
      by_cases h : (sreadS x).2.2.2 = 0
      · obtain ⟨b, j, i, hs2, hx2⟩ := sread_only x h
        have ht : t = cartS b j i := (Prod.mk.inj (hx.symm.trans hx2)).1
        rw [ht, cartS_size] at h10
        exact absurd rfl h10
      · exact sread_zero x h
    rw [hz]
    exact Ev.pos rfl (Ev.now _)
theorem rread_ev (x : ByteArray) (hx : x.size ≤ 1125899906842624) : Ev (fun k => Pt.cartularyref06_Read.f k x) (sreadS x) := by
  unfold Pt.cartularyref06_Read.f
  have hu : cartularyref03_Unblock.f x = some (unblockS x) := lim_ok _ hx
  simp only [hu, Option.bind_some]
  by_cases h0 : (unblockS x).2 = 0
  · exact Ev.pos h0 (rread_j0 x _ (Prod.ext rfl h0))
  · refine Ev.neg h0 (Ev.step (fun k => by rw [Pt.cartularyref06_Read.j0]) ?_)
    have hz : sreadS x = (0, 0, 0, 60) := by
      unfold sreadS
      rw [if_pos (.inl h0)]
    rw [hz]
    exact Ev.pos rfl (Ev.now _)

end Go.Proofs.Ytgidiphffcahjaa.Pure
