/- Behind a crash each block is as it was, or as one of the writes has it: the plain law; and a row of steps of the call's own. -/
import Derived.Test.YtobhnababkpcbaaDevLasts
set_option linter.unusedVariables false
set_option linter.unusedSimpArgs false
namespace Go.Proofs.Ytobhnababkpcbaa.DevS
open Go.RowKit Go.Proofs.YtobhnababkpcbaaW.PrintWords Go.Proofs.Ytobhnababkpcbaa.Given

def oneOf (q : List (Int × ByteArray)) (k : Int) (r : Option ByteArray) : Prop := ∃ p ∈ q, covers p k ∧ r = some (blk p.2 (k - p.1).toNat)
theorem layW_some (f : F) (p : Int × ByteArray) (lim : Nat) (k : Int) : layW f p lim k = f k ∨ (covers p k ∧ layW f p lim k = some (blk p.2 (k - p.1).toNat)) := by
  have hm := Nat.min_le_right lim (p.2.size / 128)
  unfold layW
  by_cases h : p.1 ≤ k ∧ k < p.1 + (min lim (p.2.size / 128) : Nat)
  · exact .inr ⟨⟨h.1, by omega⟩, layF_in _ _ _ _ _ h.1 h.2⟩
  · exact .inl (layF_out _ _ _ _ _ h)
theorem crash_some (picks : List Bool) (t : Nat) (k : Int) : ∀ (q : List (Int × ByteArray)) (i : Nat) (first : Bool) (f : F), crashF picks t i first f q k = f k ∨ oneOf q k (crashF picks t i first f q k)
  | [], _, _, _ => by rw [crashF]; exact .inl rfl
  | p :: q, i, first, f => by
    have up : ∀ (fst : Bool) (lim : Nat), crashF picks t (i + 1) fst (layW f p lim) q k = f k ∨ oneOf (p :: q) k (crashF picks t (i + 1) fst (layW f p lim) q k) := by
      intro fst lim
      rcases crash_some picks t k q (i + 1) fst (layW f p lim) with h | ⟨x, hx, h1, h2⟩
      · rcases layW_some f p lim k with h3 | ⟨h3, h4⟩
        · exact .inl (h.trans h3)
        · exact .inr ⟨p, List.mem_cons_self .., h3, h.trans h4⟩
      · exact .inr ⟨x, List.mem_cons_of_mem _ hx, h1, h2⟩
    rw [crashF]
    split
    · exact up first 1024
    · split
      · exact up false t
      · rcases crash_some picks t k q (i + 1) false f with h | ⟨x, hx, h1, h2⟩
        · exact .inl h
        · exact .inr ⟨x, List.mem_cons_of_mem _ hx, h1, h2⟩
/-- What a block is behind a crash of a device on which nothing lasted. -/
theorem look_crash (picks : List Bool) (t : Nat) (q : List (Int × ByteArray)) (k : Int) : look (crashF picks t 0 true (fun _ => none) q) k = blockB 0 ∨ ∃ p ∈ q, covers p k ∧ look (crashF picks t 0 true (fun _ => none) q) k = blk p.2 (k - p.1).toNat := by
  unfold look
  rcases crash_some picks t k q 0 true (fun _ => none) with h | ⟨p, hp, h1, h2⟩
  · rw [h]; exact .inl rfl
  · rw [h2]; exact .inr ⟨p, hp, h1, rfl⟩
def hits (k : Int) (a : ByteArray) (p : Int × ByteArray) : Bool := decide (k - p.1 ≥ 0) && (decide (k - p.1 < ((p.2.size / 128 : Nat) : Int)) && ((blk p.2 (k - p.1).toNat).toList == a.toList))
theorem some_hits (picks : List Bool) (t : Nat) (q : List (Int × ByteArray)) (k : Int) (a : ByteArray) (ha : a = look (crashF picks t 0 true (fun _ => none) q) k) : ((a.toList == (blockB 0).toList) || q.any (hits k a)) = true := by
  rcases look_crash picks t q k with h | ⟨p, hp, h1, h2⟩
  · rw [ha, h]; simp
  · have : q.any (hits k a) = true := by
      refine List.any_eq_true.2 ⟨p, hp, ?_⟩
      unfold hits
      rw [decide_eq_true (show k - p.1 ≥ 0 by have := h1.1; omega), decide_eq_true (show k - p.1 < ((p.2.size / 128 : Nat) : Int) by have := h1.2; omega), ha, h2]
      simp
    rw [this, Bool.or_true]
end Go.Proofs.Ytobhnababkpcbaa.DevS
namespace Go.Proofs.Ytobhnababkpcbaa.Dev
open Go.RowKit Go.Proofs.YtobhnababkpcbaaW.PrintWords Go.Proofs.YtobhnababkpcbaaW.PrintLast Go.Proofs.YtobhnababkpcbaaW.PrintMore Go.Proofs.Ytobhnababkpcbaa.Maps Go.Proofs.Ytobhnababkpcbaa.DevS Go.Proofs.Ytobhnababkpcbaa.Given Go.Proofs.Ytobhnababkpcbaa.Open
/-- A step that was laid: itself, and where its picks lie. -/
structure Laid where
  s : Step
  A : Option Addr
  c : Nat
def cellsOf (l : List Laid) : List Value := l.flatMap fun x => (sobj x.s x.A x.c).toList
theorem cellsOf_length : ∀ l : List Laid, (cellsOf l).length = l.length * 7
  | [] => rfl
  | x :: l => by
    have := cellsOf_length l
    unfold cellsOf at this ⊢
    rw [List.flatMap_cons, List.length_append, this, List.length_cons]
    show 7 + l.length * 7 = _
    omega
theorem cellsOf_at : ∀ (l : List Laid) (i j : Nat) (h : i < l.length), j < 7 → (cellsOf l)[i * 7 + j]? = (sobj (l[i]).s (l[i]).A (l[i]).c)[j]?
  | [], i, j, h, _ => by simp at h
  | x :: l, 0, j, _, hj => by
    have e : cellsOf (x :: l) = (sobj x.s x.A x.c).toList ++ cellsOf l := rfl
    rw [e, Nat.zero_mul, Nat.zero_add, List.getElem?_append_left (by show j < 7; exact hj)]
    simp
  | x :: l, i + 1, j, h, hj => by
    have e : cellsOf (x :: l) = (sobj x.s x.A x.c).toList ++ cellsOf l := rfl
    rw [e, List.getElem?_append_right (by show 7 ≤ _; omega), show (i + 1) * 7 + j - (sobj x.s x.A x.c).toList.length = i * 7 + j from by show (i + 1) * 7 + j - 7 = _; omega, cellsOf_at l i j (by simpa using h) hj]
    rfl
def qOf (l : List Laid) : List (Int × ByteArray) := l.map fun x => (x.s.at_, dataS x.s.many x.s.odd x.s.c)
end Go.Proofs.Ytobhnababkpcbaa.Dev
