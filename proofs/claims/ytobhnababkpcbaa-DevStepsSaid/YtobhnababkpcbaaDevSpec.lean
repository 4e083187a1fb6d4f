/- What a device is: plain functions, no program in sight. -/
import Derived.Test.YtobhnababkpcbaaDevBlock
set_option linter.unusedVariables false
set_option linter.unusedSimpArgs false
namespace Go.Proofs.Ytobhnababkpcbaa.DevS
open Go.RowKit Go.Proofs.YtobhnababkpcbaaW.PrintWords Go.Proofs.Ytobhnababkpcbaa.Given

abbrev F := Int → Option ByteArray
structure D where
  n : Nat
  la : F
  se : F
  q : List (Int × ByteArray)
def put (f : F) (k : Int) (v : ByteArray) : F := fun c => if k = c then some v else f c
def blk (s : ByteArray) (i : Nat) : ByteArray := s.extract (i * 128) ((i + 1) * 128)
def layF (f : F) (a : Int) (s : ByteArray) : Nat → F
  | 0 => f
  | m + 1 => put (layF f a s m) (a + m) (blk s m)
def layW (f : F) (p : Int × ByteArray) (lim : Nat) : F := layF f p.1 p.2 (min lim (p.2.size / 128))
def dNew (n : Nat) : D := ⟨n, fun _ => none, fun _ => none, []⟩
def formOk (s : ByteArray) : Prop := s.size ≠ 0 ∧ s.size % 128 = 0
instance (s : ByteArray) : Decidable (formOk s) := by unfold formOk; infer_instance
def placeOk (n : Nat) (a : Int) (s : ByteArray) : Prop := 0 ≤ a ∧ s.size / 128 ≤ n ∧ a ≤ (n : Int) - (s.size / 128 : Nat)
instance (n : Nat) (a : Int) (s : ByteArray) : Decidable (placeOk n a s) := by unfold placeOk; infer_instance
def dWrite (d : D) (a : Int) (s : ByteArray) : D × Int :=
  if ¬ formOk s then (d, 4) else if ¬ placeOk d.n a s then (d, 6) else ({ d with se := layF d.se a s (s.size / 128), q := d.q ++ [(a, s)] }, 0)
def look (f : F) (a : Int) : ByteArray := (f a).getD (blockB 0)
def inD (d : D) (a : Int) : Prop := 0 ≤ a ∧ a < (d.n : Int)
instance (d : D) (a : Int) : Decidable (inD d a) := by unfold inD; infer_instance
def dRead (d : D) (a : Int) : ByteArray × Int := if inD d a then (look d.se a, 0) else (⟨#[]⟩, 6)
def dLasts (d : D) (a : Int) : ByteArray × Int := if inD d a then (look d.la a, 0) else (⟨#[]⟩, 6)
def flushF (f : F) : List (Int × ByteArray) → F
  | [] => f
  | p :: q => flushF (layW f p 1024) q
def dFlush (d : D) : D := { d with la := flushF d.la d.q, q := [] }
def crashF (picks : List Bool) (torn : Nat) : Nat → Bool → F → List (Int × ByteArray) → F
  | _, _, f, [] => f
  | i, first, f, p :: q =>
    if picks[i]? = some true then crashF picks torn (i + 1) first (layW f p 1024) q
    else if first = true then crashF picks torn (i + 1) false (layW f p torn) q else crashF picks torn (i + 1) false f q
def dCrash (d : D) (picks : List Bool) (torn : Int) : D × Int :=
  if torn < 0 then (d, 1) else if 1024 < torn then (d, 1) else
    ({ d with la := crashF picks torn.toNat 0 true d.la d.q, se := crashF picks torn.toNat 0 true d.la d.q, q := [] }, 0)
/-- What the statements write. -/
def blocksB (c : Int) : Nat → ByteArray
  | 0 => ⟨#[]⟩
  | m + 1 => blocksB c m ++ blockB ((c + (m : Int) % 256) % 256)
def dataS (many odd c : Int) : ByteArray := if 0 < odd ∧ odd < 128 then blocksB c (min many.toNat 9) ++ strOfNums (List.replicate odd.toNat 0) else blocksB c (min many.toNat 9)
theorem blocksB_size (c : Int) : ∀ m, (blocksB c m).size = 128 * m
  | 0 => rfl
  | m + 1 => by rw [blocksB, ByteArray.size_append, blocksB_size c m, blockB_size]; omega
theorem dataS_size (many odd c : Int) : (dataS many odd c).size ≤ 1280 := by
  have h : min many.toNat 9 ≤ 9 := Nat.min_le_right _ _
  unfold dataS
  split
  · rw [ByteArray.size_append, blocksB_size, strOfNums_size, List.length_replicate]; omega
  · rw [blocksB_size]; omega
/-- All that waits is in place. -/
def Wf (d : D) : Prop := d.n ≤ 1024 ∧ ∀ p ∈ d.q, formOk p.2 ∧ placeOk d.n p.1 p.2
theorem wf_new {n : Nat} (h : n ≤ 1024) : Wf (dNew n) := ⟨h, by simp [dNew]⟩
theorem wf_write {d : D} (h : Wf d) (a : Int) (s : ByteArray) : Wf (dWrite d a s).1 := by
  unfold dWrite
  split
  · exact h
  · split
    · exact h
    · rename_i h1 h2
      refine ⟨h.1, fun p hp => ?_⟩
      simp only [List.mem_append, List.mem_singleton] at hp
      rcases hp with hp | rfl
      · exact h.2 p hp
      · exact ⟨Decidable.not_not.1 h1, Decidable.not_not.1 h2⟩
theorem wf_flush {d : D} (h : Wf d) : Wf (dFlush d) := ⟨h.1, by simp [dFlush]⟩
theorem wf_crash {d : D} (h : Wf d) (picks : List Bool) (torn : Int) : Wf (dCrash d picks torn).1 := by
  unfold dCrash
  split
  · exact h
  · split
    · exact h
    · exact ⟨h.1, by simp⟩
end Go.Proofs.Ytobhnababkpcbaa.DevS
