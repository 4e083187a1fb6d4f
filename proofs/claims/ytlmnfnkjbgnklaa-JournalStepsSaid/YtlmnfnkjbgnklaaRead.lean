/- The reader's contracts: what a number of a size reads as, of whatever bytes and in whatever state. -/
import Derived.Test.YtlmnfnkjbgnklaaSumC
set_option linter.unusedVariables false
set_option linter.unusedSimpArgs false
namespace Go.Proofs.Ytlmnfnkjbgnklaa.C
open Go.RowKit Go.Proofs.YtlmnfnkjbgnklaaW.PrintWords Go.Proofs.YtlmnfnkjbgnklaaW.PrintLast Go.Proofs.Ytlmnfnkjbgnklaa.Spec Go.Proofs.Ytlmnfnkjbgnklaa.Ev

/-- What is read: the number, the error, what is left, the reader's error. -/
def readS (s : ByteArray) (e : Int) (n : Nat) : Int × Int × ByteArray × Int :=
  if e ≠ 0 then (0, e, s, e) else if s.size < n then (0, 20, s, 20) else if 9223372036854775808 ≤ num (s.data.toList.take n) then (0, 4, s, 4) else ((num (s.data.toList.take n) : Int), 0, s.extract n s.size, 0)

theorem reader_l0_neg (s : ByteArray) (x1 : Int) (hs : 8 ≤ s.size) (hN : 9223372036854775808 ≤ num (s.data.toList.take 8)) : ∀ (d i : Nat), i + d = 8 →
    Ev (fun k => Ps.codec_Reader_Fixed.l0 k x1 (wrap64 (num (s.data.toList.take i) : Nat)) 8 (i : Nat) s 0) (0, 4, s, 4)
  | 0, i, hi => by
    obtain rfl : i = 8 := by omega
    refine Ev.step (f := fun _ => some _) (fun k => ?_) (Ev.now _)
    simp only [Ps.codec_Reader_Fixed.l0]
    have hx := num_lt (s.data.toList.take 8)
    have hl : (s.data.toList.take 8).length = 8 := by rw [List.length_take, Array.length_toList]; exact Nat.min_eq_left hs
    rw [hl] at hx
    have hneg : wrap64 ((num (s.data.toList.take 8) : Nat) : Int) < 0 := by unfold wrap64; omega
    rw [if_neg (by omega), if_pos hneg]
    rfl
  | d + 1, i, hi => by
    have hlt : i < s.size := by omega
    have hb := (s[i]'hlt).toNat_lt
    refine Ev.step (fun k => ?_) (reader_l0_neg s x1 hs hN d (i + 1) (by omega))
    simp only [Ps.codec_Reader_Fixed.l0]
    have h8 : wrap64 (8 * (i : Int)) = ((8 * i : Nat) : Int) := by rw [wrap_id (by omega) (by omega)]; omega
    have hbt : wrap64 (bt s (i : Nat)) = ((s[i]'hlt).toNat : Int) := by rw [bt_nat s i hlt]; exact wrap_id (by omega) (by omega)
    have hl : (s.data.toList.take i).length = i := by rw [List.length_take, Array.length_toList]; exact Nat.min_eq_left (show i ≤ s.size by omega)
    have hx := num_lt (s.data.toList.take i)
    rw [hl] at hx
    have ho := or_step (num (s.data.toList.take i)) i (s[i]'hlt).toNat (by omega) hx (by omega)
    rw [if_pos (by omega), if_pos (by omega), if_pos (by omega), h8, if_pos (by omega), hbt, wrap_id (n := (i : Int) + 1) (by omega) (by omega), take_snoc s i hlt, num_snoc, hl, ← ho]
    unfold shl
    rw [Int.toNat_natCast, Nat.min_eq_left (show 8 * i ≤ IntKind.i64.bits from by show 8 * i ≤ 64; omega)]
    rfl

theorem readS_ev (s : ByteArray) (e : Int) (n : Nat) (hn : n = 1 ∨ n = 2 ∨ n = 4 ∨ n = 8) : Ev (fun k => Ps.codec_Reader_Fixed.f k s e (n : Nat)) (readS s e n) := by
  by_cases he : e = 0
  · subst he
    by_cases hs : s.size < n
    · unfold Ps.codec_Reader_Fixed.f readS
      have hz : Ps.codec_sized.f (n : Nat) = some true := by rcases hn with rfl | rfl | rfl | rfl <;> rfl
      rw [if_neg (by simp), if_pos hs]
      simp only [hz, Option.bind_some, Ps.codec_Reader_failed.f, Ps.codec_Reader_fail.f]
      exact Ev.pos trivial (Ev.pos trivial (Ev.pos (by omega) (Ev.now _)))
    · by_cases hN : num (s.data.toList.take n) < 9223372036854775808
      · have := reader_ev s n hn (by omega) hN
        unfold readS
        rw [if_neg (by simp), if_neg hs, if_neg (by omega)]
        exact this
      · have hl : (s.data.toList.take n).length = n := by rw [List.length_take, Array.length_toList]; exact Nat.min_eq_left (show n ≤ s.size by omega)
        have hx := num_lt (s.data.toList.take n)
        rw [hl] at hx
        have h8 : n = 8 := by
          rcases hn with rfl | rfl | rfl | rfl <;> omega
        subst h8
        unfold Ps.codec_Reader_Fixed.f readS
        have hz : Ps.codec_sized.f ((8 : Nat) : Int) = some true := rfl
        rw [if_neg (by simp), if_neg hs, if_pos (by omega)]
        simp only [hz, Option.bind_some, Ps.codec_Reader_failed.f]
        refine Ev.pos trivial (Ev.pos trivial (Ev.neg (by omega) ?_))
        have := reader_l0_neg s ((8 : Nat) : Int) (by omega) (by omega) 8 0 (by omega)
        rw [show wrap64 ((num (s.data.toList.take 0) : Nat) : Int) = 0 from by rw [List.take_zero]; exact wrap_id (n := 0) (by omega) (by omega)] at this
        exact this
  · unfold Ps.codec_Reader_Fixed.f readS
    have hz : Ps.codec_sized.f (n : Nat) = some true := by rcases hn with rfl | rfl | rfl | rfl <;> rfl
    rw [if_pos he]
    simp only [hz, Option.bind_some, Ps.codec_Reader_failed.f]
    exact Ev.pos trivial (Ev.neg he (Ev.now _))

theorem read_calls (g : Nat) (s : ByteArray) (e : Int) (n : Nat) (hn : n = 1 ∨ n = 2 ∨ n = 4 ∨ n = 8) (w0 w : World) (hI : Ps.IsS119 w0 w g s e) (hB : Below w0.heap.size w0 w) :
    Calls Try.prog 57 #[.pointer (some ⟨g, 0, none⟩), .int .i64 (n : Nat)] w fun e' w' => e' = .returned (.tuple #[.int .i64 (readS s e n).1, .int .i64 (readS s e n).2.1]) ∧ Ps.IsS119 w0 w' g (readS s e n).2.2.1 (readS s e n).2.2.2 ∧ Below w0.heap.size w0 w' ∧ KeepBut w w' g none := by
  obtain ⟨k, hk⟩ := (readS_ev s e n hn).rounds
  exact Ps.codec_Reader_Fixed.calls k g s e n _ _ _ _ w0 w hI hB hk

def endS (s : ByteArray) (e : Int) : Int := if e ≠ 0 then e else if s.size = 0 then 0 else 4
theorem size_zero (s : ByteArray) : s.toList = [] ↔ s.size = 0 := by
  rw [Go.Lib.toList_data, ← List.length_eq_zero_iff, Array.length_toList]
  rfl
theorem end_calls (g : Nat) (s : ByteArray) (e : Int) (w0 w : World) (hI : Ps.IsS119 w0 w g s e) (hB : Below w0.heap.size w0 w) :
    Calls Try.prog 58 #[.pointer (some ⟨g, 0, none⟩)] w fun e' w' => e' = .returned (.int .i64 (endS s e)) ∧ Ps.IsS119 w0 w' g s e ∧ Below w0.heap.size w0 w' ∧ KeepBut w w' g none := by
  refine Ps.codec_Reader_End.calls g s e _ _ _ w0 w hI hB ?_
  unfold Ps.codec_Reader_End.f endS
  have hz := size_zero s
  by_cases he : e = 0
  · by_cases hs : s.size = 0
    · simp [he, hs, hz]
    · simp [he, hs, hz]
  · simp [he]
end Go.Proofs.Ytlmnfnkjbgnklaa.C
