/- A bag and a row of the call's own beside it. -/
import Derived.Test.YtmledapichlhdaaBagW
set_option linter.unusedVariables false
set_option linter.unusedSimpArgs false
namespace Go.Proofs.Ytmledapichlhdaa.Bag
open Go.RowKit Go.Proofs.YtmledapichlhdaaW.PrintWords Go.Proofs.YtmledapichlhdaaW.PrintLast Go.Proofs.YtmledapichlhdaaW.PrintMore Go.Proofs.Ytmledapichlhdaa.Maps Go.Proofs.Ytmledapichlhdaa.BagS
theorem own_of_block {w w' : World} {b : Nat} {e : TypeId} {size : Nat} {v : Value} {n : Nat} {xs : List Value} (h : w.ownsRow b e size v n xs) (hb : ∀ k, v.ownBlock = some k → w'.heap[k]? = w.heap[k]?) : w'.ownsRow b e size v n xs := by
  refine ⟨h.1, ?_⟩
  rcases h.2 with h2 | ⟨g, cap, cur, hv, hg, hk, rest⟩
  · exact .inl h2
  · exact .inr ⟨g, cap, cur, hv, hg, (hb g (by rw [hv]; rfl)).trans hk, rest⟩
/-- The bag (a), the row (v) of T. -/
def Th (W w : World) (a : Nat) (L : List Msg) (v : Value) (T : List Msg) : Prop := ∃ ma, BIs W.heap.size w a ma 3 L ∧ Below W.heap.size W w ∧ w.ownsRow W.heap.size 30 3 v T.length (flat T) ∧ (∀ k, fp a ma k → v.ownBlock ≠ some k)
section
variable {W w w' : World} {a : Nat} {L L' T T' : List Msg} {v v' : Value}
theorem Th.one (h : Th W w a L v T) : One W w a L := by obtain ⟨ma, h1, h2, _⟩ := h; exact ⟨ma, h1, h2⟩
theorem Th.bel (h : Th W w a L v T) : Below W.heap.size W w := h.one.bel
theorem Th.row (h : Th W w a L v T) : w.ownsRow W.heap.size 30 3 v T.length (flat T) := by obtain ⟨ma, h1, h2, h3, _⟩ := h; exact h3
theorem Th.below (h : Th W w a L v T) (hb : Below w.heap.size w w') : Th W w' a L v T := by
  obtain ⟨ma, h1, h2, h3, h4⟩ := h
  exact ⟨ma, h1.below hb, h2.trans (hb.mono h2.size), own_below h3 hb, h4⟩
theorem Th.post {ma : Nat} (h1 : BIs W.heap.size w a ma 3 L) (h2 : Below W.heap.size W w) (h3 : w.ownsRow W.heap.size 30 3 v T.length (flat T)) (h4 : ∀ k, fp a ma k → v.ownBlock ≠ some k) (hI : BIs W.heap.size w' a ma 3 L') (hF : Fr w w' (fp a ma)) : Th W w' a L' v T :=
  ⟨ma, hI, Fr.below h2 hF (fun k hk => h1.ge hk) h2.size, own_of_block h3 fun k hk => hF.block k (by
    rcases h3.2 with ⟨q1, q2⟩ | ⟨g, cap, cur, hv, hg, hgk, rest⟩
    · rw [q1] at hk; cases hk
    · rw [hv] at hk
      have : g = k := by simpa [Value.ownBlock] using hk
      subst this
      exact blk_lt hgk) (fun hq => h4 k hq hk), h4⟩
theorem Th.put (h : Th W w a L v T) (m : Msg) : Calls Try.prog 10 #[ptr a, mv m] w fun e w' => e = .returned (.int .i64 (putS 3 L m).2) ∧ Th W w' a (putS 3 L m).1 v T := by
  obtain ⟨ma, h1, h2, h3, h4⟩ := h
  refine (put_calls h1 m).mono ?_
  rintro e w' ⟨rfl, hI, hF⟩
  exact ⟨rfl, Th.post h1 h2 h3 h4 hI hF⟩
theorem Th.drop (h : Th W w a L v T) (i : Int) : Calls Try.prog 18 #[ptr a, .int .i64 i] w fun e w' => e = .returned (.int .i64 (delS L i).2.2) ∧ Th W w' a (delS L i).1 v T := by
  obtain ⟨ma, h1, h2, h3, h4⟩ := h
  refine (drop_calls h1 i).mono ?_
  rintro e w' ⟨rfl, hI, hF⟩
  exact ⟨rfl, Th.post h1 h2 h3 h4 hI hF⟩
theorem Th.deliver (h : Th W w a L v T) (i : Int) : Calls Try.prog 15 #[ptr a, .int .i64 i] w fun e w' => e = .returned (.tuple #[mv (delS L i).2.1, .int .i64 (delS L i).2.2]) ∧ Th W w' a (delS L i).1 v T := by
  obtain ⟨ma, h1, h2, h3, h4⟩ := h
  refine (deliver_calls h1 i).mono ?_
  rintro e w' ⟨rfl, hI, hF⟩
  exact ⟨rfl, Th.post h1 h2 h3 h4 hI hF⟩
theorem Th.grow (h : Th W w a L v T) (hg : w.grownBy w' v.ownBlock) (hr : w'.ownsRow W.heap.size 30 3 v' T'.length (flat T')) (hb : Below W.heap.size W w') (ho : v'.ownBlock = v.ownBlock ∨ ∃ b, v'.ownBlock = some b ∧ w.heap.size ≤ b) : Th W w' a L v' T' := by
  obtain ⟨ma, h1, h2, h3, h4⟩ := h
  refine ⟨ma, h1.step fun k hk => hg.block k (h1.lt hk) (fun e => h4 k hk e.symm), hb, hr, fun k hk e => ?_⟩
  rcases ho with ho | ⟨b, ho, hbb⟩
  · exact h4 k hk (ho ▸ e)
  · rw [ho] at e
    have : b = k := by simpa using e
    have := h1.lt hk
    omega
/-- As the bag's words, later: what came behind w stays. -/
def Late (w w1 w' : World) : Prop := ∀ k, w.heap.size ≤ k → k < w1.heap.size → w'.heap[k]? = w1.heap[k]?
theorem late_of {w1 : World} {ma : Nat} (h1 : BIs W.heap.size w a ma 3 L) (hF : Fr w1 w' (fp a ma)) : Late w w1 w' := fun k hk hl => hF.block k hl (fun hq => by have := h1.lt hq; omega)
theorem Late.row {w1 : World} (h : Late w w1 w') {e : TypeId} {size : Nat} {u : Value} {n : Nat} {xs : List Value} (hr : w1.ownsRow w.heap.size e size u n xs) : w'.ownsRow w.heap.size e size u n xs := own_keep hr h
theorem Th.puts (h : Th W w a L v T) {w1 : World} (hb : Below w.heap.size w w1) (m : Msg) : Calls Try.prog 10 #[ptr a, mv m] w1 fun e w' => e = .returned (.int .i64 (putS 3 L m).2) ∧ Th W w' a (putS 3 L m).1 v T ∧ Late w w1 w' := by
  obtain ⟨ma, h1, h2, h3, h4⟩ := h
  have k1 := h1.below hb
  refine (put_calls k1 m).mono ?_
  rintro e w' ⟨rfl, hI, hF⟩
  exact ⟨rfl, Th.post k1 (h2.trans (hb.mono h2.size)) (own_below h3 hb) h4 hI hF, late_of h1 hF⟩
theorem Th.twices (h : Th W w a L v T) {w1 : World} (hb : Below w.heap.size w w1) (i : Int) : Calls Try.prog 19 #[ptr a, .int .i64 i] w1 fun e w' => e = .returned (.int .i64 (twiceS L i).2) ∧ Th W w' a (twiceS L i).1 v T ∧ Late w w1 w' := by
  obtain ⟨ma, h1, h2, h3, h4⟩ := h
  have k1 := h1.below hb
  refine (twice_calls k1 i).mono ?_
  rintro e w' ⟨rfl, hI, hF⟩
  exact ⟨rfl, Th.post k1 (h2.trans (hb.mono h2.size)) (own_below h3 hb) h4 hI hF, late_of h1 hF⟩
theorem Th.swap (h : Th W w a L v T) (hb : Below w.heap.size w w') (hr : w'.ownsRow w.heap.size 30 3 v' T'.length (flat T')) : Th W w' a L v' T' := by
  obtain ⟨ma, h1, h2, h3, h4⟩ := h
  refine ⟨ma, h1.below hb, h2.trans (hb.mono h2.size), own_mono hr h2.size, fun k hk e => ?_⟩
  have hlt := h1.lt hk
  rcases hr.2 with ⟨q1, q2⟩ | ⟨g, cap, cur, hv, hg, rest⟩
  · rw [q1] at e; cases e
  · rw [hv] at e
    have : g = k := by simpa [Value.ownBlock] using e
    omega
end
end Go.Proofs.Ytmledapichlhdaa.Bag
