/- What was flushed lasts: the plain law. -/
import Derived.Test.YtobhnababkpcbaaDevL
set_option linter.unusedVariables false
set_option linter.unusedSimpArgs false
namespace Go.Proofs.Ytobhnababkpcbaa.DevS
open Go.RowKit Go.Proofs.YtobhnababkpcbaaW.PrintWords Go.Proofs.Ytobhnababkpcbaa.Given

def covers (p : Int × ByteArray) (k : Int) : Prop := p.1 ≤ k ∧ k < p.1 + (p.2.size / 128 : Nat)
theorem layF_out (f : F) (a : Int) (s : ByteArray) (k : Int) : ∀ m : Nat, ¬ (a ≤ k ∧ k < a + m) → layF f a s m k = f k
  | 0, _ => rfl
  | m + 1, h => by
    rw [layF, put, if_neg (by omega)]
    exact layF_out f a s k m (by omega)
theorem layF_in (f : F) (a : Int) (s : ByteArray) (k : Int) : ∀ m : Nat, a ≤ k → k < a + m → layF f a s m k = some (blk s (k - a).toNat)
  | 0, h, h2 => by omega
  | m + 1, h, h2 => by
    rw [layF, put]
    by_cases e : a + (m : Int) = k
    · rw [if_pos e, show (k - a).toNat = m by omega]
    · rw [if_neg e]
      exact layF_in f a s k m h (by omega)
theorem layW_out (f : F) (p : Int × ByteArray) (lim : Nat) (k : Int) (h : ¬ covers p k) : layW f p lim k = f k := by
  refine layF_out f p.1 p.2 k _ (fun hh => h ⟨hh.1, ?_⟩)
  have := Nat.min_le_right lim (p.2.size / 128)
  omega
theorem flushF_out (k : Int) : ∀ (q : List (Int × ByteArray)) (f : F), (∀ p ∈ q, ¬ covers p k) → flushF f q k = f k
  | [], _, _ => rfl
  | p :: q, f, h => by
    rw [flushF, flushF_out k q _ (fun x hx => h x (List.mem_cons_of_mem _ hx)), layW_out _ _ _ _ (h p (List.mem_cons_self ..))]
theorem crashF_out (picks : List Bool) (torn : Nat) (k : Int) : ∀ (q : List (Int × ByteArray)) (i : Nat) (first : Bool) (f : F), (∀ p ∈ q, ¬ covers p k) → crashF picks torn i first f q k = f k
  | [], _, _, _, _ => by rw [crashF]
  | p :: q, i, first, f, h => by
    have hq : ∀ x ∈ q, ¬ covers x k := fun x hx => h x (List.mem_cons_of_mem _ hx)
    have hp := h p (List.mem_cons_self ..)
    rw [crashF]
    split
    · rw [crashF_out picks torn k q _ _ _ hq, layW_out _ _ _ _ hp]
    · split
      · rw [crashF_out picks torn k q _ _ _ hq, layW_out _ _ _ _ hp]
      · exact crashF_out picks torn k q _ _ _ hq
theorem blk_whole (s : ByteArray) (h : s.size = 128) : blk s 0 = s := by
  unfold blk
  rw [show 0 * 128 = 0 from rfl, show (0 + 1) * 128 = s.size by rw [h]]
  exact ByteArray.extract_zero_size
/-- A step's data, where it is whole blocks. -/
theorem data_form (many odd c : Int) (h : formOk (dataS many odd c)) : (dataS many odd c).size / 128 = min many.toNat 9 := by
  have h2 := h.2
  unfold dataS at h2 ⊢
  split
  · rename_i ho
    rw [if_pos ho, ByteArray.size_append, blocksB_size, strOfNums_size, List.length_replicate] at h2
    omega
  · rw [blocksB_size]
    omega
def InvL (c : Int) (d : D) : Prop := d.n = 8 ∧ d.la 3 = some (blockB c) ∧ d.se 3 = some (blockB c) ∧ ∀ p ∈ d.q, ¬ covers p 3
theorem invL_start (c : Int) : (dWrite (dNew 8) 3 (blockB c)).2 = 0 ∧ (dWrite (dNew 8) 3 (blockB c)).1.q.length = 1 ∧ InvL c (dFlush (dWrite (dNew 8) 3 (blockB c)).1) := by
  have hf : formOk (blockB c) := by unfold formOk; rw [blockB_size]; decide
  have hp : placeOk (dNew 8).n 3 (blockB c) := by unfold placeOk; rw [blockB_size]; exact ⟨by decide, by show 1 ≤ 8; omega, by show (3 : Int) ≤ (8 : Int) - 1; omega⟩
  have hz : (blockB c).size / 128 = 1 := by rw [blockB_size]
  have e : dWrite (dNew 8) 3 (blockB c) = (⟨8, fun _ => none, layF (fun _ => none) 3 (blockB c) 1, [(3, blockB c)]⟩, 0) := by
    unfold dWrite
    rw [if_neg (fun e => e hf), if_neg (fun e => e hp), hz]
    rfl
  rw [e]
  have hl : layF (fun _ => none) 3 (blockB c) 1 3 = some (blockB c) := by
    rw [layF_in _ _ _ _ 1 (by omega) (by omega), show ((3 : Int) - 3).toNat = 0 from rfl, blk_whole _ (blockB_size c)]
  refine ⟨rfl, rfl, rfl, ?_, hl, by simp [dFlush]⟩
  show layW (fun _ => none) (3, blockB c) 1024 3 = _
  unfold layW
  show layF (fun _ => none) 3 (blockB c) (min 1024 ((blockB c).size / 128)) 3 = _
  rw [hz]
  exact hl
def gdL (a many : Int) : Bool := decide (a > 3) || (decide (a ≥ 0) && (decide (a ≤ 2) && decide (many ≤ 3 - a)))
theorem invL_write {c : Int} {d : D} (h : InvL c d) (a many odd c' : Int) (hg : gdL a many = true) : InvL c (dWrite d a (dataS many odd c')).1 := by
  unfold dWrite
  by_cases hf : formOk (dataS many odd c')
  · rw [if_neg (fun e => e hf)]
    by_cases hp : placeOk d.n a (dataS many odd c')
    · rw [if_neg (fun e => e hp)]
      have hz := data_form many odd c' hf
      have nc : ¬ covers (a, dataS many odd c') 3 := by
        rintro ⟨h1, h2⟩
        rw [show ((a, dataS many odd c') : Int × ByteArray).2 = dataS many odd c' from rfl, hz] at h2
        simp [gdL] at hg
        simp only at h1 h2
        omega
      refine ⟨h.1, h.2.1, ?_, ?_⟩
      · show layF d.se a (dataS many odd c') _ 3 = _
        rw [layF_out _ _ _ _ _ nc]
        exact h.2.2.1
      · intro p hp
        simp only [List.mem_append, List.mem_singleton] at hp
        rcases hp with hp | rfl
        · exact h.2.2.2 p hp
        · exact nc
    · rw [if_pos hp]; exact h
  · rw [if_pos hf]; exact h
theorem invL_flush {c : Int} {d : D} (h : InvL c d) : InvL c (dFlush d) := ⟨h.1, by show flushF d.la d.q 3 = _; rw [flushF_out 3 _ _ h.2.2.2]; exact h.2.1, h.2.2.1, by simp [dFlush]⟩
theorem invL_crash {c : Int} {d : D} (h : InvL c d) (picks : List Bool) (torn : Int) : InvL c (dCrash d picks torn).1 := by
  unfold dCrash
  split
  · exact h
  · split
    · exact h
    · have e := crashF_out picks torn.toNat 3 d.q 0 true d.la h.2.2.2
      exact ⟨h.1, e.trans h.2.1, e.trans h.2.1, by simp⟩
theorem invL_read {c : Int} {d : D} (h : InvL c d) : dRead d 3 = (blockB c, 0) ∧ dLasts d 3 = (blockB c, 0) := by
  have hi : inD d 3 := ⟨by decide, by rw [h.1]; decide⟩
  constructor
  · unfold dRead look; rw [if_pos hi, h.2.2.1]; rfl
  · unfold dLasts look; rw [if_pos hi, h.2.1]; rfl
theorem dWrite_q (d : D) (a : Int) (s : ByteArray) : (dWrite d a s).1.q.length ≤ d.q.length + 1 := by
  unfold dWrite
  split
  · simp
  · split <;> simp
theorem dCrash_q (d : D) (picks : List Bool) (t : Int) : (dCrash d picks t).1.q.length ≤ d.q.length := by
  unfold dCrash
  split
  · exact Nat.le_refl _
  · split
    · exact Nat.le_refl _
    · simp
end Go.Proofs.Ytobhnababkpcbaa.DevS
