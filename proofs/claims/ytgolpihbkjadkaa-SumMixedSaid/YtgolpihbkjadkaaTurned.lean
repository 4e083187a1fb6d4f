/- A text with some bits turned: the contract of the statements' own function. -/
import Derived.Test.YtgolpihbkjadkaaSumLin
import Derived.Test.YtgolpihbkjadkaaSumC
import Derived.Lib.ConvBytes
import Derived.Laws.BytesArg
set_option linter.unusedVariables false
set_option linter.unusedSimpArgs false
namespace Go.Proofs.Ytgolpihbkjadkaa.Given
open Go.RowKit Go.Proofs.YtgolpihbkjadkaaW.PrintWords Go.Proofs.YtgolpihbkjadkaaW.PrintLast Go.Proofs.YtgolpihbkjadkaaW.PrintMore Go.Proofs.Ytgolpihbkjadkaa.Spec

def turnP (pat : Int) : Nat := if pat % 4294967296 = 0 then 1 else (pat % 4294967296).toNat
def turnK (n : Nat) (a : Int) : Nat := if a < 0 then 0 else if 8 * (n : Int) - 32 < a then 0 else a.toNat
def turnN (s : ByteArray) (a pat : Int) : Nat := num s.data.toList ^^^ (2 ^ turnK s.size a * turnP pat)
def turnS (s : ByteArray) (a pat : Int) : ByteArray := strOfNums (le (turnN s a pat : Int) s.size)

/-- The row of bytes at block g: the number X, byte by byte. -/
def Rw (w : World) (g n : Nat) (X : Nat) : Prop := ∃ C m, w.heap[g]? = some (.cells C 5 (m, m + 1)) ∧ n ≤ m ∧ ∀ j, j < n → C[j]? = some (.int .u8 ((X / 2 ^ (8 * j) % 256 : Nat) : Int))
theorem Rw.cell {w : World} {g n X j : Nat} (h : Rw w g n X) (hj : j < n) : w.cell? ⟨g, j, none⟩ = some (.int .u8 ((X / 2 ^ (8 * j) % 256 : Nat) : Int)) := by
  obtain ⟨C, m, hg, hm, hc⟩ := h
  unfold World.cell?
  rw [hg]
  exact hc j hj
theorem Rw.froz {w : World} {g n X j : Nat} (h : Rw w g n X) (hj : j < n) : w.frozen? ⟨g, j, none⟩ = false := by
  obtain ⟨C, m, hg, hm, hc⟩ := h
  unfold World.frozen?
  rw [hg]
  simp
  omega


theorem mul_xor (k a b : Nat) : 2 ^ k * (a ^^^ b) = 2 ^ k * a ^^^ 2 ^ k * b := by
  apply Nat.eq_of_testBit_eq
  intro i
  simp only [Nat.testBit_two_pow_mul, Nat.testBit_xor]
  cases decide (i ≥ k) <;> simp
theorem mod_next (P i : Nat) (h : P / 2 ^ i % 2 = 1) : P % 2 ^ (i + 1) = P % 2 ^ i ^^^ 2 ^ i := by
  have hb : P.testBit i = true := by rw [Nat.testBit_eq_decide_div_mod_eq]; simpa using h
  apply Nat.eq_of_testBit_eq
  intro j
  rw [Nat.testBit_mod_two_pow, Nat.testBit_xor, Nat.testBit_mod_two_pow, Nat.testBit_two_pow]
  rcases Nat.lt_trichotomy j i with h1 | rfl | h1
  · rw [decide_eq_true (show j < i + 1 by omega), decide_eq_true h1, decide_eq_false (show ¬ i = j by omega)]
    simp
  · rw [decide_eq_true (show j < j + 1 by omega), decide_eq_false (show ¬ j < j by omega), hb]
    simp
  · rw [decide_eq_false (show ¬ j < i + 1 by omega), decide_eq_false (show ¬ j < i by omega), decide_eq_false (show ¬ i = j by omega)]
    simp
theorem mod_same (P i : Nat) (h : P / 2 ^ i % 2 = 0) : P % 2 ^ (i + 1) = P % 2 ^ i := by
  rw [Nat.pow_succ, Nat.mod_mul, h]; omega
theorem byte_hit (X m : Nat) : (X ^^^ 2 ^ m) / 2 ^ (8 * (m / 8)) % 256 = (X / 2 ^ (8 * (m / 8)) % 256) ^^^ (2 ^ (m % 8)) := by
  rw [show (256 : Nat) = 2 ^ 8 from rfl]
  apply Nat.eq_of_testBit_eq
  intro t
  simp only [Nat.testBit_mod_two_pow, Nat.testBit_div_two_pow, Nat.testBit_xor, Nat.testBit_two_pow]
  by_cases h : t < 8
  · simp only [h, decide_true, Bool.true_and]
    congr 1
    exact decide_eq_decide.2 (by omega)
  · have : ¬ m % 8 = t := by omega
    simp [h, this]
theorem byte_miss (X m j : Nat) (hj : j ≠ m / 8) : (X ^^^ 2 ^ m) / 2 ^ (8 * j) % 256 = X / 2 ^ (8 * j) % 256 := by
  rw [show (256 : Nat) = 2 ^ 8 from rfl]
  apply Nat.eq_of_testBit_eq
  intro t
  simp only [Nat.testBit_mod_two_pow, Nat.testBit_div_two_pow, Nat.testBit_xor, Nat.testBit_two_pow]
  by_cases h : t < 8
  · have : ¬ m = t + 8 * j := by omega
    simp [this]
  · simp [h]
theorem row_set {w : World} {g : Nat} {t : TypeId} {cs : Array Value} {fr : Nat × Nat} (h : w.heap[g]? = some (.cells cs t fr)) (i : Nat) (u : Value) : (w.setCell ⟨g, i, none⟩ u).heap[g]? = some (.cells (cs.setIfInBounds i u) t fr) := by
  simp [World.setCell, Array.getElem?_modify, h]
theorem num_byte : ∀ (l : List UInt8) (j : Nat), j < l.length → num l / 2 ^ (8 * j) % 256 = (l.getD j 0).toNat
  | [], j, h => by simp at h
  | b :: l, 0, _ => by
    have := b.toNat_lt
    rw [num, Nat.mul_zero, Nat.pow_zero, Nat.div_one]
    show _ = b.toNat
    omega
  | b :: l, j + 1, h => by
    have hb := b.toNat_lt
    rw [num, show 8 * (j + 1) = 8 + 8 * j from by omega, Nat.pow_add, ← Nat.div_div_eq_div_mul, show (b.toNat + 256 * num l) / 2 ^ 8 = num l from by omega, num_byte l j (by simpa using h)]
    rfl
theorem le_get (n : Int) (k j : Nat) (h : j < k) : (le n k).getD j 0 = n / 2 ^ (8 * j) % 256 := by
  unfold le
  simp [h]
theorem Rw.hit {w : World} {g n X m : Nat} (h : Rw w g n X) (hm : m / 8 < n) :
    Rw (w.setCell ⟨g, m / 8, none⟩ (.int .u8 (Go.bits .xor .u8 ((X : Int) / 2 ^ (8 * (m / 8)) % 256) (2 ^ (m % 8) % 256)))) g n (X ^^^ 2 ^ m) := by
  obtain ⟨C, r, hg, hr, hc⟩ := h
  have e : Go.bits .xor .u8 ((X : Int) / 2 ^ (8 * (m / 8)) % 256) (2 ^ (m % 8) % 256) = (((X ^^^ 2 ^ m) / 2 ^ (8 * (m / 8)) % 256 : Nat) : Int) := by
    have hp : 2 ^ (m % 8) ≤ 128 := Nat.le_trans (Nat.pow_le_pow_right (n := 2) (by omega) (show m % 8 ≤ 7 by omega)) (by decide)
    have e1 : ((2 : Int) ^ (m % 8) % 256) = ((2 ^ (m % 8) : Nat) : Int) := by
      rw [show ((2 : Int) ^ (m % 8)) = ((2 ^ (m % 8) : Nat) : Int) from by simp]
      generalize 2 ^ (m % 8) = z at hp
      omega
    have e2 : ((X : Int) / 2 ^ (8 * (m / 8)) % 256) = ((X / 2 ^ (8 * (m / 8)) % 256 : Nat) : Int) := by simp
    rw [e1, e2, u8_xor_nat _ _ (by omega) (by omega), byte_hit]
  rw [e]
  refine ⟨_, r, row_set hg (m / 8) _, hr, fun j hj => ?_⟩
  by_cases h2 : j = m / 8
  · subst h2
    have := hc (m / 8) hm
    have hs := (Array.getElem?_eq_some_iff.1 this).1
    simp [Array.getElem?_setIfInBounds, hs]
  · rw [Array.getElem?_setIfInBounds_ne (by omega), hc j hj, byte_miss X m j h2]
theorem Rw.start (w : World) (s : ByteArray) : Rw (Lib.bytesWorld w 5 s) w.heap.size s.size (num s.data.toList) := by
  refine ⟨_, _, Lib.bytesWorld_at_new w _ s, by show s.size ≤ (s.data.map (fun b => Value.int .u8 b.toNat) ++ Array.replicate (grownCap w s.size 0 5 - s.size) (Value.int .u8 0)).size; rw [Array.size_append, Array.size_map]; exact Nat.le_add_right _ _, fun j hj => ?_⟩
  have h2 := Lib.bytesWorld_cell w 5 s j hj
  unfold World.cell? at h2
  rw [Lib.bytesWorld_at_new] at h2
  have h3 : (Lib.bytesCells w 5 s)[j]? = some (.int .u8 (s.data.toList.getD j 0).toNat) := h2
  rw [h3, num_byte _ _ (by rw [← size_eq]; exact hj)]
theorem bytes_below (w : World) (s : ByteArray) : Below w.heap.size w (Lib.bytesWorld w 5 s) := by
  refine ⟨?_, ?_, ?_, by rw [Lib.bytesWorld_size]; omega, fun k hk => Lib.bytesWorld_at_old w _ s k hk⟩ <;> (unfold Lib.bytesWorld World.freeze; simp [World.alloc, World.drew, -World.alloc_eq, -World.drew_eq])
theorem Rw.back (w : World) (g n X : Nat) (c : Nat) (h : Rw w g n X) : (convert 34 9 (.slice (some ⟨g, 0, none⟩) n c)).run Try.prog w = .ok (.string (strOfNums (le (X : Int) n))) w := by
  refine run_convert_bytes_arg w 34 5 Try.underlying34 Try.underlying5 g 0 n c _ (le_length _ _) (fun i hi => ?_) 9 Try.underlying9
  rw [Nat.zero_add, h.cell hi, le_get _ _ _ hi]
  simp

set_option maxHeartbeats 1600000 in
set_option maxRecDepth 100000 in
theorem turned_any (s : ByteArray) (a pat : Int) (w : World) (h4 : 4 ≤ s.size) (h9 : s.size ≤ 1000) :
    Calls Try.prog 19 #[.string s, .int .i64 a, .int .i64 pat] w fun e w' => e = .returned (.string (turnS s a pat)) ∧ Below w.heap.size w w' := by
  have kc := fun W => Lib.run_convert_string_bytes (P := Try.prog) W 9 34 5 s Try.underlying9 Try.underlying34 Try.underlying5
  obtain ⟨K, hK⟩ : ∃ K : Nat, K = turnK s.size a := ⟨_, rfl⟩
  obtain ⟨P, hP⟩ : ∃ P : Nat, P = turnP pat := ⟨_, rfl⟩
  have HK := Aside0.mk hK
  have HP := Aside0.mk hP
  clear hK hP
  have hsz : (IntKind.i64.wrap (IntKind.i64.wrap (8 * (s.size : Int)) - 32)) = 8 * (s.size : Int) - 32 := by rw [IntWalk.i64_in (8 * (s.size : Int)) (by omega), IntWalk.i64_in _ (by omega)]
  go_enter Try.func19, Try.ntmps19
  go_upto_if 13 with fail
  go_cut [7] (fun v7 wc => v7 = .int .u32 (P : Int) ∧ wc = w)
  case first =>
    rcases Bool.eq_false_or_eq_true (pat % 4294967296 == 0) with b2 | b2
    · rw [b2]
      go_wp2
      go_meet
      case rel => exact ⟨by rw [HP.out]; unfold turnP; rw [if_pos (by simpa using b2)]; rfl, rfl⟩
    · rw [b2]
      go_wp2
      go_meet
      case rel => exact ⟨by rw [HP.out]; unfold turnP; rw [if_neg (by simpa using b2)]; simp; omega, rfl⟩
  case rest =>
    obtain ⟨rfl, rfl⟩ := hcut
    go_upto_region 4 with fail
    go_cut [23] (fun v1 w1 => v1 = .bool (decide (a < 0) || decide (8 * (s.size : Int) - 32 < a)) ∧ w1 = wc)
    case first =>
      rcases Bool.eq_false_or_eq_true (decide (a < 0)) with b1 | b1
      · go_wp2
        go_meet
        case rel => exact ⟨by rw [b1]; rfl, rfl⟩
      · go_wp2
        go_meet
        case rel => exact ⟨by rw [b1]; simp, rfl⟩
    case rest =>
      obtain ⟨rfl, rfl⟩ := hcut
      go_upto_if 23 with fail
      go_cut [1] (fun v1 w1 => v1 = .int .i64 (K : Int) ∧ w1 = wc)
      case first =>
        rcases Bool.eq_false_or_eq_true (decide (a < 0) || decide (8 * (s.size : Int) - 32 < a)) with b1 | b1
        · rw [b1]
          go_wp2
          go_meet
          case rel => exact ⟨by
            have e : turnK s.size a = 0 := by
              unfold turnK
              simp at b1
              split
              · rfl
              · rw [if_pos (by omega)]
            rw [HK.out, e]
            rfl, rfl⟩
        · rw [b1]
          go_wp2
          go_meet
          case rel => exact ⟨by rw [HK.out]; unfold turnK; simp at b1; rw [if_neg (by omega), if_neg (by omega)]; simp; omega, rfl⟩
      case rest =>
        obtain ⟨rfl, rfl⟩ := hcut
        go_wp2
        have hKs : 4 ≤ s.size ∧ K + 32 ≤ 8 * s.size := ⟨h4, by rw [HK.out]; unfold turnK; split; · omega
                                                               split <;> omega⟩
        have hPl : P < 4294967296 := by rw [HP.out]; unfold turnP; split <;> omega
        go_loopw [9] (fun v9 wr => ∃ i : Nat, i ≤ 32 ∧ v9 = .int .i64 (i : Int) ∧ Aside0 (Rw wr wc.heap.size s.size (num s.data.toList ^^^ (2 ^ K * (P % 2 ^ i)))) ∧ Aside0 (Below wc.heap.size wc wr)) (fun c _ => 32 - (intOf c).toNat)
        case atStart => exact ⟨0, by omega, rfl, ⟨by have := Rw.start wc s; simpa [Nat.mod_one] using this⟩, ⟨bytes_below wc s⟩⟩
        case round =>
          obtain ⟨i, hi, rfl, HI, HB⟩ := hrel
          by_cases hlt : i < 32
          · have e1 : wrap64 ((K : Int) + (i : Int)) = ((K + i : Nat) : Int) := by rw [wrap_id (by omega) (by omega)]; omega
            have e2 : wrap64 (((K + i : Nat) : Int).tdiv 8) = (((K + i) / 8 : Nat) : Int) := by rw [show ((K + i : Nat) : Int).tdiv 8 = (((K + i) / 8 : Nat) : Int) from rfl, wrap_id (by omega) (by omega)]
            have e3 : Go.bits .and .u32 ((P : Int) / 2 ^ i) 1 = ((P / 2 ^ i % 2 : Nat) : Int) := by
              have h5 : P / 2 ^ i ≤ P := Nat.div_le_self _ _
              have := u32_and_nat (P / 2 ^ i) 1 (by omega) (by omega)
              rw [nat_mask1] at this
              simpa using this
            have k1 := HI.out.cell (j := (K + i) / 8) (by omega)
            have k2 := HI.out.froz (j := (K + i) / 8) (by omega)
            rcases Nat.mod_two_eq_zero_or_one (P / 2 ^ i) with h2 | h2
            · rw [h2] at e3
              have H2 := Aside0.mk h2
              clear h2
              go_wp2
              go_roundw
              case rel => exact ⟨i + 1, by omega, by simp, ⟨by rw [mod_same P i H2.out]; exact HI.out⟩, HB⟩
              case measure => simp [intOf]; omega
            · rw [h2] at e3
              have H2 := Aside0.mk h2
              clear h2
              go_wp2
              go_roundw
              case rel => exact ⟨i + 1, by omega, by simp, ⟨by rw [mod_next P i H2.out, mul_xor, ← Nat.pow_add, ← Nat.xor_assoc]; exact HI.out.hit (by omega)⟩, ⟨HB.out.setCell (Nat.le_refl _) _⟩⟩
              case measure => simp [intOf]; omega
          · obtain rfl : i = 32 := by omega
            have kb := Rw.back wr wc.heap.size s.size _ (grownCap wc s.size 0 5) HI.out
            go_wp2
            go_ret
            refine ⟨?_, HB.out⟩
            unfold turnS turnN
            rw [← HK.out, ← HP.out, Nat.mod_eq_of_lt (show P < 2 ^ 32 from hPl)]
            rfl
def cartularylaw03_turned.f (s : ByteArray) (a pat : Int) : Option ByteArray := if 4 ≤ s.size then (if s.size ≤ 1000 then some (turnS s a pat) else none) else none
theorem cartularylaw03_turned.calls (a0 : ByteArray) (a1 a2 : Int) (r : ByteArray) (w : World) (h : cartularylaw03_turned.f a0 a1 a2 = some r) :
    Calls Try.prog 19 #[.string a0, .int .i64 a1, .int .i64 a2] w fun e w' => e = .returned (.string r) ∧ Below w.heap.size w w' := by
  unfold cartularylaw03_turned.f at h
  by_cases h1 : 4 ≤ a0.size
  · rw [if_pos h1] at h
    by_cases h2 : a0.size ≤ 1000
    · rw [if_pos h2] at h
      rw [← Option.some.inj h]
      exact turned_any a0 a1 a2 w h1 h2
    · rw [if_neg h2] at h; cases h
  · rw [if_neg h1] at h; cases h
theorem turnP_pos (pat : Int) : 0 < turnP pat ∧ turnP pat < 4294967296 := by unfold turnP; split <;> omega
theorem turnK_le (n : Nat) (a : Int) (h : 4 ≤ n) : turnK n a + 32 ≤ 8 * n := by
  unfold turnK
  split
  · omega
  · split <;> omega
theorem turnN_lt (s : ByteArray) (a pat : Int) (h : 4 ≤ s.size) : turnN s a pat < 2 ^ (8 * s.size) := by
  unfold turnN
  have h1 := num_lt s.data.toList
  rw [← size_eq] at h1
  refine Nat.xor_lt_two_pow h1 ?_
  have h2 := turnK_le s.size a h
  calc 2 ^ turnK s.size a * turnP pat < 2 ^ turnK s.size a * 2 ^ 32 := Nat.mul_lt_mul_of_pos_left (turnP_pos pat).2 (Nat.two_pow_pos _)
    _ = 2 ^ (turnK s.size a + 32) := (Nat.pow_add _ _ _).symm
    _ ≤ 2 ^ (8 * s.size) := Nat.pow_le_pow_right (by omega) h2
theorem turnS_size (s : ByteArray) (a pat : Int) : (turnS s a pat).size = s.size := by unfold turnS; rw [strOfNums_size, le_length]
theorem turnS_num (s : ByteArray) (a pat : Int) (h : 4 ≤ s.size) : num (turnS s a pat).data.toList = num s.data.toList ^^^ (2 ^ turnK s.size a * turnP pat) := Ev.num_le s.size _ (turnN_lt s a pat h)
theorem turnS_open (t : ByteArray) (a pat : Int) (h : 4 ≤ t.size) (ht : crcFold 4294967295 t.data.toList = res) : openS (turnS t a pat) = (⟨#[]⟩, 30) :=
  turned_not ht (turnS_size t a pat) (turnS_num t a pat h) (turnP_pos pat).1 (turnP_pos pat).2 (turnK_le t.size a h) h
end Go.Proofs.Ytgolpihbkjadkaa.Given
