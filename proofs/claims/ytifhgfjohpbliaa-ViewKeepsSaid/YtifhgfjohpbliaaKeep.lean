/- What a node keeps as a block: the contracts of Encode and of the document's Encode and Decode. -/
import Derived.Test.YtifhgfjohpbliaaReadLaws
import Derived.Test.YtifhgfjohpbliaaPrx1
import Derived.Test.YtifhgfjohpbliaaBest
section
/- The document's reader: a number of a size, of whatever bytes and in whatever state: it reads as the program's does. -/
set_option linter.unusedVariables false
set_option linter.unusedSimpArgs false
namespace Go.Proofs.Ytifhgfjohpbliaa.C
open Go.RowKit Go.Proofs.YtifhgfjohpbliaaW.PrintWords Go.Proofs.YtifhgfjohpbliaaW.PrintLast Go.Proofs.Ytifhgfjohpbliaa.Spec Go.Proofs.Ytifhgfjohpbliaa.Ev

theorem num_drop (s : ByteArray) (n i : Nat) (hn : n ≤ s.size) (hi : i < n) : num ((s.data.toList.take n).drop i) = (s[i]'(by omega)).toNat + 256 * num ((s.data.toList.take n).drop (i + 1)) := by
  have h : i < (s.data.toList.take n).length := by
    have := size_eq s
    rw [List.length_take]; omega
  rw [List.drop_eq_getElem_cons h, List.getElem_take]
  rfl
theorem rread_l0 (s : ByteArray) (e : Int) (n : Nat) (hn : n ≤ s.size) (h8 : n ≤ 8) (hN : num (s.data.toList.take n) < 9223372036854775808) : ∀ (i : Nat), i ≤ n →
    Ev (fun k => Pr.cartularyref02_Reader_Fixed.l0 k n (num ((s.data.toList.take n).drop i)) ((i : Int) - 1) s e) ((num (s.data.toList.take n) : Int), 0, s.extract n s.size, e)
  | 0, _ => by
    refine Ev.step (f := fun k => some ((num (s.data.toList.take n) : Int), 0, s.extract n s.size, e)) (fun k => ?_) (Ev.now _)
    simp only [Pr.cartularyref02_Reader_Fixed.l0]
    rw [if_neg (by omega), if_pos (by omega), if_pos (by omega)]
    rfl
  | i + 1, hi => by
    have ih := rread_l0 s e n hn h8 hN i (by omega)
    have hd := num_drop s n i hn (by omega)
    have hle : num ((s.data.toList.take n).drop i) < 9223372036854775808 := by
      have g : ∀ (l : List UInt8) (j : Nat), num (l.drop j) ≤ num l := by
        intro l
        induction l with
        | nil => intro j; simp
        | cons b l ih => intro j; cases j with
          | zero => exact Nat.le_refl _
          | succ j => rw [List.drop_succ_cons, num]; have := ih j; omega
      exact Nat.lt_of_le_of_lt (g _ _) hN
    have hb := (s[i]'(by omega)).toNat_lt
    have e2 : (num ((s.data.toList.take n).drop (i + 1)) : Int) * 256 + ((s[i]'(by omega)).toNat : Int) = (num ((s.data.toList.take n).drop i) : Int) := by omega
    refine Ev.step (f := fun k => Pr.cartularyref02_Reader_Fixed.l0 k n (num ((s.data.toList.take n).drop i)) ((i : Int) - 1) s e) (fun k => ?_) ih
    simp only [Pr.cartularyref02_Reader_Fixed.l0]
    rw [if_pos (by omega), if_pos (by omega), if_pos (by omega), show ((i + 1 : Nat) : Int) - 1 = (i : Int) from by omega, bt_nat s i (by omega), wrap_id (n := (i : Int) - 1) (by omega) (by omega), wrap_id (n := ((s[i]'(by omega)).toNat : Int)) (by omega) (by omega), wrap_id (n := (num ((s.data.toList.take n).drop (i + 1)) : Int) * 256) (by omega) (by omega), wrap_id (by omega) (by omega), e2]
theorem rread_ev (s : ByteArray) (e : Int) (n : Nat) (hn : n = 1 ∨ n = 2 ∨ n = 4 ∨ n = 8) : Ev (fun k => Pr.cartularyref02_Reader_Fixed.f k s e (n : Nat)) (readS s e n) := by
  have hz : Pr.cartularyref02_Sized.f (n : Nat) = some true := by
    unfold Pr.cartularyref02_Sized.f
    rcases hn with rfl | rfl | rfl | rfl <;> rfl
  unfold Pr.cartularyref02_Reader_Fixed.f readS
  rw [hz]
  simp only [Option.bind_some]
  refine Ev.pos (by first | rfl | trivial) ?_
  by_cases he : e = 0
  · rw [if_neg (by simp [he])]
    refine Ev.pos he ?_
    by_cases hs : s.size < n
    · rw [if_pos hs]
      exact Ev.pos (by omega) (Ev.now _)
    · rw [if_neg hs]
      refine Ev.neg (by omega) ?_
      have ok : num (s.data.toList.take n) < 9223372036854775808 → Ev (fun k => Pr.cartularyref02_Reader_Fixed.j0 k (n : Nat) false s e) ((num (s.data.toList.take n) : Int), 0, s.extract n s.size, 0) := fun hN => by
        have h := rread_l0 s e n (by omega) (by omega) hN n (Nat.le_refl _)
        rw [List.drop_of_length_le (by rw [List.length_take]; omega), he] at h
        refine Ev.step (f := fun k => Pr.cartularyref02_Reader_Fixed.l0 k n 0 ((n : Int) - 1) s e) (fun k => ?_) (by rw [he]; exact h)
        simp only [Pr.cartularyref02_Reader_Fixed.j0]
        rw [if_neg (by simp), wrap_id (n := (n : Int) - 1) (by omega) (by omega)]
      by_cases h8 : n = 8
      · subst h8
        refine Ev.pos (by first | rfl | trivial) (Ev.pos (by omega) ?_)
        have h7 : 7 < s.size := by omega
        have hsn := take_snoc s 7 h7
        have hb := (s[7]'h7).toNat_lt
        have hn8 : num (s.data.toList.take 8) = num (s.data.toList.take 7) + (s[7]'h7).toNat * 72057594037927936 := by
          rw [show (8 : Nat) = 7 + 1 from rfl, hsn, num_snoc, List.length_take, show min 7 s.data.toList.length = 7 from by have := size_eq s; omega]
        have hl := num_lt (s.data.toList.take 7)
        rw [List.length_take, show min 7 s.data.toList.length = 7 from by have := size_eq s; omega] at hl
        rw [show (7 : Int) = ((7 : Nat) : Int) from rfl, bt_nat s 7 h7]
        by_cases h127 : (s[7]'h7).toNat > 127
        · rw [if_pos (by omega), decide_eq_true (by omega)]
          refine Ev.step (f := fun k => some (0, 4, s, 4)) (fun k => ?_) (Ev.now _)
          simp only [Pr.cartularyref02_Reader_Fixed.j0]
          exact if_pos trivial
        · rw [if_neg (by omega), decide_eq_false (by omega)]
          exact ok (by omega)
      · have hl := num_lt (s.data.toList.take n)
        have hlen : (s.data.toList.take n).length ≤ 7 := by rw [List.length_take]; omega
        have hp : 2 ^ (8 * (s.data.toList.take n).length) ≤ 2 ^ 56 := Nat.pow_le_pow_right (by omega) (by omega)
        rw [if_neg (by omega)]
        exact Ev.neg (by omega) (ok (by omega))
  · rw [if_pos he]
    exact Ev.neg he (Ev.now _)
theorem rread_calls (g : Nat) (s : ByteArray) (e : Int) (n : Nat) (hn : n = 1 ∨ n = 2 ∨ n = 4 ∨ n = 8) (w0 w : World) (hI : Pr.IsS83 w0 w g s e) (hB : Below w0.heap.size w0 w) :
    Calls Try.prog 48 #[.pointer (some ⟨g, 0, none⟩), .int .i64 (n : Nat)] w fun e' w' => e' = .returned (.tuple #[.int .i64 (readS s e n).1, .int .i64 (readS s e n).2.1]) ∧ Pr.IsS83 w0 w' g (readS s e n).2.2.1 (readS s e n).2.2.2 ∧ Below w0.heap.size w0 w' ∧ KeepBut w w' g none := by
  obtain ⟨k, hk⟩ := (rread_ev s e n hn).rounds
  exact Pr.cartularyref02_Reader_Fixed.calls k g s e n _ _ _ _ w0 w hI hB hk
end Go.Proofs.Ytifhgfjohpbliaa.C
end

section
/- What a node keeps as a block: the contracts of Encode and of the document's Encode and Decode. -/
set_option linter.unusedVariables false
set_option linter.unusedSimpArgs false
namespace Go.Proofs.Ytifhgfjohpbliaa.GivenV
open Go.RowKit Go.Proofs.YtifhgfjohpbliaaW.PrintWords Go.Proofs.YtifhgfjohpbliaaW.PrintLast Go.Proofs.YtifhgfjohpbliaaW.PrintMore Go.Proofs.Ytifhgfjohpbliaa.Spec Go.Proofs.Ytifhgfjohpbliaa.C

def okM (v n : Int) : Prop := 0 ≤ v ∧ v ≤ 1099511627776 ∧ 0 ≤ n ∧ n ≤ v
instance (v n : Int) : Decidable (okM v n) := by unfold okM; infer_instance
def textM (v n : Int) : ByteArray := (⟨#[86]⟩ : ByteArray) ++ strOfNums (le v 8 ++ le n 8)
theorem textM_size (v n : Int) : (textM v n).size = 17 := by
  unfold textM
  rw [ByteArray.size_append, strOfNums_size, List.length_append, le_length, le_length]
  rfl
def encS (v n : Int) : ByteArray × Int := if okM v n then blockS (textM v n) else (⟨#[]⟩, 1)
def view_Encode.f (v n : Int) : Option (ByteArray × Int) := some (encS v n)
set_option maxHeartbeats 800000 in
set_option maxRecDepth 100000 in
theorem enc_no (v n : Int) (w : World) (h : ¬ okM v n) :
    Calls Try.prog 19 #[.agg #[.int .i64 v, .int .i64 n]] w fun e w' => e = .returned (.tuple #[.string ⟨#[]⟩, .int .i64 1]) ∧ Below w.heap.size w w' := by
  have hu := Try.underlying47
  unfold okM at h
  by_cases h1 : inB v = true
  · have g1 := h1
    unfold inB at g1
    simp only [Bool.and_eq_true, decide_eq_true_eq] at g1
    by_cases h2 : n < 0
    · have b2 : decide (n < 0) = true := decide_eq_true h2
      clear h g1 h2
      go_enter Try.func19, Try.ntmps19
      go_wp2_with fail
      refine (in_calls v _).mono ?_
      rintro e w1 ⟨rfl, rfl⟩
      rw [h1]
      go_wp2_with fail
      go_ret2
      exact ⟨rfl, below_alloc (Below.refl _ _) _⟩
    · have b2 : decide (n < 0) = false := decide_eq_false h2
      have b3 : decide (v < n) = true := decide_eq_true (by omega)
      clear h g1 h2
      go_enter Try.func19, Try.ntmps19
      go_wp2_with fail
      refine (in_calls v _).mono ?_
      rintro e w1 ⟨rfl, rfl⟩
      rw [h1]
      go_wp2_with fail
      go_ret2
      exact ⟨rfl, below_alloc (Below.refl _ _) _⟩
  · have h1' : inB v = false := by simpa using h1
    clear h h1
    go_enter Try.func19, Try.ntmps19
    go_wp2_with fail
    refine (in_calls v _).mono ?_
    rintro e w1 ⟨rfl, rfl⟩
    rw [h1']
    go_wp2_with fail
    go_ret2
    exact ⟨rfl, below_alloc (Below.refl _ _) _⟩
set_option maxHeartbeats 2000000 in
set_option maxRecDepth 100000 in
theorem enc_yes (v n : Int) (w : World) (h : okM v n) :
    Calls Try.prog 19 #[.agg #[.int .i64 v, .int .i64 n]] w fun e w' => e = .returned (.tuple #[.string (blockS (textM v n)).1, .int .i64 (blockS (textM v n)).2]) ∧ Below w.heap.size w w' := by
  have hu := Try.underlying47
  have h1 : inB v = true := by unfold okM at h; unfold inB; simp; omega
  have HO := Aside0.mk h
  have b2 : decide (n < 0) = false := decide_eq_false (by unfold okM at h; omega)
  have b3 : decide (v < n) = false := decide_eq_false (by unfold okM at h; omega)
  have hbl := fun W => sum_Block.calls (textM v n) (blockS (textM v n)).1 (blockS (textM v n)).2 W (lim_ok _ (by rw [textM_size]; omega))
  have HBL := Aside0.mk hbl
  clear h hbl
  go_enter Try.func19, Try.ntmps19
  go_wp2_with fail
  refine (in_calls v _).mono ?_
  rintro e w1 ⟨rfl, rfl⟩
  rw [h1]
  have P0 := Aside0.mk (blk_new w (.cells #[.int .i64 v, .int .i64 n] 47))
  have B0 := Aside0.mk (below_alloc (Below.refl w.heap.size w) (.cells #[.int .i64 v, .int .i64 n] 47))
  go_wp2_with fail
  generalize hW : w.alloc (.cells #[.int .i64 v, .int .i64 n] 47) = w0 at P0 B0 ⊢
  clear hW
  generalize hb0 : w.heap.size = b0 at P0 ⊢
  refine (Codec.new_any _).mono ?_
  rintro e w2 ⟨g, rfl, hI, hB⟩
  have P2 := Aside0.mk (blk_below P0.out hB)
  have B2 := Aside0.mk (B0.out.trans (hB.mono B0.out.size))
  have I2 := Aside0.mk hI
  have c0 := (blk_cell P2.out 0).trans (Eq.refl (some (Value.int .i64 v)))
  have HNE : Aside0 (b0 ≠ g) := ⟨by have h1 := hI.1; have h2 := blk_lt P0.out; omega⟩
  have HS := Aside0.mk B0.out.size
  clear hI hB P0 B0
  go_wp2_with fail
  refine (Codec.fixed_8 v _ g [] w2 I2.out (by simp) (by have := HO.out.1; omega) (by have := HO.out.2.1; omega)).mono ?_
  rintro e w3 ⟨rfl, hI3, hB3, hK3⟩
  have P3 := Aside0.mk (hK3 _ _ HNE.out P2.out (by intro cs fr h; simp at h))
  have B3 := Aside0.mk (B2.out.trans (hB3.mono HS.out))
  have I3 := Aside0.mk hI3
  have c1 := (blk_cell P3.out 1).trans (Eq.refl (some (Value.int .i64 n)))
  clear hI3 hB3 hK3 c0 P2 B2 I2
  go_wp2_with fail
  refine (Codec.fixed_8 n _ g _ w3 I3.out (by simp [le_length]) (by have := HO.out.2.2.1; omega) (by have := HO.out.2.2.2; have := HO.out.2.1; omega)).mono ?_
  rintro e w4 ⟨rfl, hI4, hB4, hK4⟩
  have B4 := Aside0.mk (B3.out.trans (hB4.mono HS.out))
  have I4 := Aside0.mk hI4
  clear hI4 hB4 hK4 c1 B3 I3
  go_wp2_with fail
  refine (Codec.out_any _ g _ w4 I4.out).mono ?_
  rintro e w5 ⟨rfl, rfl⟩
  obtain ⟨L, hL⟩ : ∃ L, L = strOfNums ([] ++ le v 8 ++ le n 8) := ⟨_, rfl⟩
  have ht : (⟨#[86]⟩ : ByteArray) ++ L = textM v n := by rw [hL]; rfl
  have zL : 1 + L.size ≤ 9223372036854775807 := by rw [hL, strOfNums_size, List.length_append, List.length_append, le_length, le_length]; simp
  rw [← hL]
  have HT := Aside0.mk ht
  clear ht hL
  go_wp2_with fail
  rw [HT.out]
  refine (HBL.out w4).mono ?_
  rintro e w6 ⟨rfl, hb6⟩
  have B6 := Aside0.mk (B4.out.trans (hb6.mono B4.out.size))
  clear hb6
  go_wp2_with fail
  go_ret2
  exact ⟨rfl, B6.out⟩
theorem view_Encode.calls (a0_0 a0_1 : Int) (r1 : ByteArray) (r2 : Int) (w : World) (h : view_Encode.f a0_0 a0_1 = some (r1, r2)) :
    Calls Try.prog 19 #[.agg #[.int .i64 a0_0, .int .i64 a0_1]] w fun e w' => e = .returned (.tuple #[.string r1, .int .i64 r2]) ∧ Below w.heap.size w w' := by
  have h2 : encS a0_0 a0_1 = (r1, r2) := Option.some.inj h
  unfold encS at h2
  by_cases ho : okM a0_0 a0_1
  · rw [if_pos ho] at h2
    have := enc_yes a0_0 a0_1 w ho
    rw [h2] at this
    exact this
  · rw [if_neg ho] at h2
    simp only [Prod.mk.injEq] at h2
    obtain ⟨rfl, rfl⟩ := h2
    exact enc_no a0_0 a0_1 w ho

/-! The document's. -/
def cartularyref21_Encode.f (v n : Int) : Option (ByteArray × Int) := some (encS v n)
set_option maxHeartbeats 800000 in
set_option maxRecDepth 100000 in
theorem renc_no (v n : Int) (w : World) (h : ¬ okM v n) :
    Calls Try.prog 20 #[.int .i64 v, .int .i64 n] w fun e w' => e = .returned (.tuple #[.string ⟨#[]⟩, .int .i64 1]) ∧ Below w.heap.size w w' := by
  unfold okM at h
  by_cases h1 : v < 0
  · have b1 : decide (v < 0) = true := decide_eq_true h1
    clear h h1
    go_enter Try.func20, Try.ntmps20
    go_wp2_with fail
    go_ret2
    exact ⟨rfl, Below.refl _ _⟩
  have b1 : decide (v < 0) = false := decide_eq_false h1
  by_cases h2 : 1099511627776 < v
  · have b2 : decide (1099511627776 < v) = true := decide_eq_true h2
    clear h h1 h2
    go_enter Try.func20, Try.ntmps20
    go_wp2_with fail
    go_ret2
    exact ⟨rfl, Below.refl _ _⟩
  have b2 : decide (1099511627776 < v) = false := decide_eq_false h2
  by_cases h3 : n < 0
  · have b3 : decide (n < 0) = true := decide_eq_true h3
    clear h h1 h2 h3
    go_enter Try.func20, Try.ntmps20
    go_wp2_with fail
    go_ret2
    exact ⟨rfl, Below.refl _ _⟩
  have b3 : decide (n < 0) = false := decide_eq_false h3
  have b4 : decide (v < n) = true := decide_eq_true (by omega)
  clear h h1 h2 h3
  go_enter Try.func20, Try.ntmps20
  go_wp2_with fail
  go_ret2
  exact ⟨rfl, Below.refl _ _⟩
theorem rf8 (n : Int) (h0 : 0 ≤ n) (h1 : n ≤ 1099511627776) : cartularyref02_Fixed.f n 8 = some (strOfNums (le n 8)) := by
  unfold cartularyref02_Fixed.f
  simp [h0]
  omega
set_option maxHeartbeats 800000 in
set_option maxRecDepth 100000 in
theorem renc_yes (v n : Int) (w : World) (h : okM v n) :
    Calls Try.prog 20 #[.int .i64 v, .int .i64 n] w fun e w' => e = .returned (.tuple #[.string (blockS (textM v n)).1, .int .i64 (blockS (textM v n)).2]) ∧ Below w.heap.size w w' := by
  have b1 : decide (v < 0) = false := decide_eq_false (by unfold okM at h; omega)
  have b2 : decide (1099511627776 < v) = false := decide_eq_false (by unfold okM at h; omega)
  have b3 : decide (n < 0) = false := decide_eq_false (by unfold okM at h; omega)
  have b4 : decide (v < n) = false := decide_eq_false (by unfold okM at h; omega)
  have F1 := Aside0.mk (fun W => cartularyref02_Fixed.calls v 8 _ W (rf8 v (by unfold okM at h; omega) (by unfold okM at h; omega)))
  have F2 := Aside0.mk (fun W => cartularyref02_Fixed.calls n 8 _ W (rf8 n (by unfold okM at h; omega) (by unfold okM at h; omega)))
  have HBL := Aside0.mk (fun W => cartularyref03_Block.calls (textM v n) (blockS (textM v n)).1 (blockS (textM v n)).2 W (lim_ok _ (by rw [textM_size]; omega)))
  obtain ⟨L1, hL1⟩ : ∃ L, L = strOfNums (le v 8) := ⟨_, rfl⟩
  obtain ⟨L2, hL2⟩ : ∃ L, L = strOfNums (le n 8) := ⟨_, rfl⟩
  have ht : (⟨#[86]⟩ : ByteArray) ++ L1 ++ L2 = textM v n := by rw [hL1, hL2]; unfold textM; rw [ByteArray.append_assoc, strOfNums_append]
  have z1 : 1 + L1.size ≤ 9223372036854775807 := by rw [hL1, strOfNums_size, le_length]; omega
  have z2 : 1 + L1.size + L2.size ≤ 9223372036854775807 := by rw [hL1, hL2, strOfNums_size, strOfNums_size, le_length, le_length]; omega
  rw [← hL1] at F1
  rw [← hL2] at F2
  have HT := Aside0.mk ht
  clear h hL1 hL2 ht
  go_enter Try.func20, Try.ntmps20
  go_wp2_with fail
  refine (F1.out w).mono ?_
  rintro e w1 ⟨rfl, hb⟩
  have B1 := Aside0.mk hb
  clear hb
  go_wp2_with fail
  refine (F2.out w1).mono ?_
  rintro e w2 ⟨rfl, hb⟩
  have B2 := Aside0.mk (B1.out.trans (hb.mono B1.out.size))
  clear hb
  go_wp2_with fail
  rw [HT.out]
  refine (HBL.out w2).mono ?_
  rintro e w3 ⟨rfl, hb⟩
  have B3 := Aside0.mk (B2.out.trans (hb.mono B2.out.size))
  clear hb
  go_wp2_with fail
  go_ret2
  exact ⟨rfl, B3.out⟩
theorem cartularyref21_Encode.calls (a0 a1 : Int) (r1 : ByteArray) (r2 : Int) (w : World) (h : cartularyref21_Encode.f a0 a1 = some (r1, r2)) :
    Calls Try.prog 20 #[.int .i64 a0, .int .i64 a1] w fun e w' => e = .returned (.tuple #[.string r1, .int .i64 r2]) ∧ Below w.heap.size w w' := by
  have h2 : encS a0 a1 = (r1, r2) := Option.some.inj h
  unfold encS at h2
  by_cases ho : okM a0 a1
  · rw [if_pos ho] at h2
    have := renc_yes a0 a1 w ho
    rw [h2] at this
    exact this
  · rw [if_neg ho] at h2
    simp only [Prod.mk.injEq] at h2
    obtain ⟨rfl, rfl⟩ := h2
    exact renc_no a0 a1 w ho

def decR (b : ByteArray) : Int × Int × Int :=
  if (unblockS b).2 ≠ 0 then (0, 0, 4) else if (unblockS b).1.size ≠ 17 then (0, 0, 4) else
    let r1 := readS ((unblockS b).1.extract 1 (unblockS b).1.size) 0 8
    let r2 := readS r1.2.2.1 r1.2.2.2 8
    if r2.2.2.2 ≠ 0 then (0, 0, 4) else if (encS r1.1 r2.1).2 ≠ 0 then (0, 0, 4) else if (encS r1.1 r2.1).1 = b then (r1.1, r2.1, 0) else (0, 0, 4)
def cartularyref21_Decode.f (b : ByteArray) : Option (Int × Int × Int) := lim b (decR b)
set_option maxHeartbeats 800000 in
set_option maxRecDepth 100000 in
theorem rdec_no (b t : ByteArray) (e0 : Int) (w : World) (hs : b.size ≤ 1125899906842624) (hu : unblockS b = (t, e0)) (h : e0 ≠ 0 ∨ t.size ≠ 17) :
    Calls Try.prog 22 #[.string b] w fun e w' => e = .returned (.tuple #[.int .i64 0, .int .i64 0, .int .i64 4]) ∧ Below w.heap.size w w' := by
  have hk := fun W => cartularyref03_Unblock.calls b (unblockS b).1 (unblockS b).2 W (lim_ok _ hs)
  rw [hu] at hk
  have HU := Aside0.mk hk
  clear hk hu hs
  by_cases he : e0 = 0
  · subst he
    have h2 : ((t.size : Int) != 17) = true := by
      rcases h with h | h
      · exact absurd rfl h
      · simpa using (by omega : ¬ (t.size : Int) = 17)
    clear h
    go_enter Try.func22, Try.ntmps22
    go_wp2_with fail
    refine (HU.out w).mono ?_
    rintro e w1 ⟨rfl, hb⟩
    have HB := Aside0.mk hb
    clear hb
    go_wp2_with fail
    exact bodyPost_ret (v := .tuple #[.int .i64 0, .int .i64 0, .int .i64 4]) (by simp [results, Try.results22, go_sem]) rfl ⟨rfl, HB.out⟩
  · have h2 : (e0 != 0) = true := by simpa using he
    clear h he
    go_enter Try.func22, Try.ntmps22
    go_wp2_with fail
    refine (HU.out w).mono ?_
    rintro e w1 ⟨rfl, hb⟩
    have HB := Aside0.mk hb
    clear hb
    go_wp2_with fail
    exact bodyPost_ret (v := .tuple #[.int .i64 0, .int .i64 0, .int .i64 4]) (by simp [results, Try.results22, go_sem]) rfl ⟨rfl, HB.out⟩
set_option maxHeartbeats 2000000 in
set_option maxRecDepth 100000 in
theorem rdec_yes (b t : ByteArray) (w : World) (hs : b.size ≤ 1125899906842624) (hu : unblockS b = (t, 0)) (h17 : t.size = 17)
    (v1 e1 : Int) (s1 : ByteArray) (x1 : Int) (hr1 : readS (t.extract 1 t.size) 0 8 = (v1, e1, s1, x1)) (v2 e2 : Int) (s2 : ByteArray) (x2 : Int) (hr2 : readS s1 x1 8 = (v2, e2, s2, x2))
    (c : ByteArray) (e3 : Int) (hen : encS v1 v2 = (c, e3)) (y1 y2 y3 : Int) (hy : (if x2 ≠ 0 then (0, 0, 4) else if e3 ≠ 0 then (0, 0, 4) else if c = b then (v1, v2, (0 : Int)) else (0, 0, 4)) = (y1, y2, y3)) :
    Calls Try.prog 22 #[.string b] w fun e w' => e = .returned (.tuple #[.int .i64 y1, .int .i64 y2, .int .i64 y3]) ∧ Below w.heap.size w w' := by
  have hur := Try.underlying83
  have hup := Try.underlying81
  have hk := fun W => cartularyref03_Unblock.calls b (unblockS b).1 (unblockS b).2 W (lim_ok _ hs)
  rw [hu] at hk
  have HU := Aside0.mk hk
  have h2 : ((t.size : Int) != 17) = false := by simpa using (by omega : (t.size : Int) = 17)
  have g1 : 1 ≤ t.size := by omega
  have HR1 := Aside0.mk hr1
  have HR2 := Aside0.mk hr2
  have HE := Aside0.mk (fun W => cartularyref21_Encode.calls v1 v2 c e3 W (congrArg some hen))
  have HY := Aside0.mk hy
  clear hk hu hs hr1 hr2 hen hy h17
  go_enter Try.func22, Try.ntmps22
  go_wp2_with fail
  refine (HU.out w).mono ?_
  rintro e w1 ⟨rfl, hb⟩
  have HB := Aside0.mk hb
  clear hb
  go_wp2_with fail
  have hI : Pr.IsS83 w (w1.alloc (.cells #[.string (t.extract 1 t.size), .int .i64 0] 83)) w1.heap.size (t.extract 1 t.size) 0 := ⟨blk_new w1 _, HB.out.size⟩
  have hB := below_alloc HB.out (.cells #[.string (t.extract 1 t.size), .int .i64 0] 83)
  have hc1 := rread_calls w1.heap.size (t.extract 1 t.size) 0 8 (by omega) w _ hI hB
  rw [HR1.out] at hc1
  refine hc1.mono ?_
  rintro e w2 ⟨rfl, hI2, hB2, _⟩
  have I2 := Aside0.mk hI2
  have B2 := Aside0.mk hB2
  clear hI hB hc1 hI2 hB2 HB
  generalize w1.heap.size = g at I2 ⊢
  go_wp2_with fail
  have hc1 := rread_calls g s1 x1 8 (by omega) w _ I2.out B2.out
  rw [HR2.out] at hc1
  refine hc1.mono ?_
  rintro e w3 ⟨rfl, hI2, hB2, _⟩
  have I3 := Aside0.mk hI2
  have B3 := Aside0.mk hB2
  clear hc1 hI2 hB2 I2 B2
  go_wp2_with fail
  refine (HE.out _).mono ?_
  rintro e w4 ⟨rfl, hb⟩
  have P4 := blk_below I3.out.1 hb
  have B4 := Aside0.mk (B3.out.trans (hb.mono B3.out.size))
  have c0 := (blk_cell P4 1).trans (Eq.refl (some (Value.int .i64 x2)))
  have hy := HY.out
  clear hb P4 HY
  by_cases k1 : x2 = 0
  · by_cases k2 : e3 = 0
    · by_cases k3 : c = b
      · rw [if_neg (by simp [k1]), if_neg (by simp [k2]), if_pos k3] at hy
        simp only [Prod.mk.injEq] at hy
        obtain ⟨rfl, rfl, rfl⟩ := hy
        subst k1 k2 k3
        go_wp2_with fail
        exact bodyPost_ret (v := .tuple #[.int .i64 v1, .int .i64 v2, .int .i64 0]) (by simp [results, Try.results22, go_sem]) rfl ⟨rfl, B4.out⟩
      · rw [if_neg (by simp [k1]), if_neg (by simp [k2]), if_neg k3] at hy
        simp only [Prod.mk.injEq] at hy
        obtain ⟨rfl, rfl, rfl⟩ := hy
        subst k1 k2
        have q1 : (c.toList == b.toList) = false := by
          have : ¬ c.toList = b.toList := fun q => k3 ((toList_eq_iff c b).1 q)
          simpa using this
        clear k3
        go_wp2_with fail
        exact bodyPost_ret (v := .tuple #[.int .i64 0, .int .i64 0, .int .i64 4]) (by simp [results, Try.results22, go_sem]) rfl ⟨rfl, B4.out⟩
    · rw [if_neg (by simp [k1]), if_pos k2] at hy
      simp only [Prod.mk.injEq] at hy
      obtain ⟨rfl, rfl, rfl⟩ := hy
      subst k1
      have q2 : (e3 != 0) = true := by simpa using k2
      clear k2
      go_wp2_with fail
      exact bodyPost_ret (v := .tuple #[.int .i64 0, .int .i64 0, .int .i64 4]) (by simp [results, Try.results22, go_sem]) rfl ⟨rfl, B4.out⟩
  · rw [if_pos k1] at hy
    simp only [Prod.mk.injEq] at hy
    obtain ⟨rfl, rfl, rfl⟩ := hy
    have q2 : (x2 != 0) = true := by simpa using k1
    clear k1
    go_wp2_with fail
    exact bodyPost_ret (v := .tuple #[.int .i64 0, .int .i64 0, .int .i64 4]) (by simp [results, Try.results22, go_sem]) rfl ⟨rfl, B4.out⟩
theorem cartularyref21_Decode.calls (a0 : ByteArray) (r1 r2 r3 : Int) (w : World) (h : cartularyref21_Decode.f a0 = some (r1, r2, r3)) :
    Calls Try.prog 22 #[.string a0] w fun e w' => e = .returned (.tuple #[.int .i64 r1, .int .i64 r2, .int .i64 r3]) ∧ Below w.heap.size w w' := by
  obtain ⟨hs, h2⟩ := lim_some h
  unfold decR at h2
  obtain ⟨t, e0, hu⟩ : ∃ t e0, unblockS a0 = (t, e0) := ⟨_, _, rfl⟩
  rw [hu] at h2
  dsimp only at h2
  by_cases he : e0 = 0
  · subst he
    rw [if_neg (by simp)] at h2
    by_cases h17 : t.size = 17
    · rw [if_neg (by simp [h17])] at h2
      obtain ⟨v1, e1, s1, x1, hr1⟩ : ∃ v1 e1 s1 x1, readS (t.extract 1 t.size) 0 8 = (v1, e1, s1, x1) := ⟨_, _, _, _, rfl⟩
      rw [hr1] at h2
      dsimp only at h2
      obtain ⟨v2, e2, s2, x2, hr2⟩ : ∃ v2 e2 s2 x2, readS s1 x1 8 = (v2, e2, s2, x2) := ⟨_, _, _, _, rfl⟩
      rw [hr2] at h2
      dsimp only at h2
      obtain ⟨c, e3, hen⟩ : ∃ c e3, encS v1 v2 = (c, e3) := ⟨_, _, rfl⟩
      rw [hen] at h2
      dsimp only at h2
      exact rdec_yes a0 t w hs hu h17 v1 e1 s1 x1 hr1 v2 e2 s2 x2 hr2 c e3 hen r1 r2 r3 h2
    · rw [if_pos h17] at h2
      simp only [Prod.mk.injEq] at h2
      obtain ⟨rfl, rfl, rfl⟩ := h2
      exact rdec_no a0 t 0 w hs hu (.inr h17)
  · rw [if_pos he] at h2
    simp only [Prod.mk.injEq] at h2
    obtain ⟨rfl, rfl, rfl⟩ := h2
    exact rdec_no a0 t e0 w hs hu (.inl he)
end Go.Proofs.Ytifhgfjohpbliaa.GivenV
end
