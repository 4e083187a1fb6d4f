/- The document's device in memory, said in the words of DevS. -/
import Derived.Test.YtobhnababkpcbaaDevAll
set_option linter.unusedVariables false
set_option linter.unusedSimpArgs false
namespace Go.Proofs.Ytobhnababkpcbaa.Dev
open Go.RowKit Go.Proofs.YtobhnababkpcbaaW.PrintWords Go.Proofs.YtobhnababkpcbaaW.PrintLast Go.Proofs.YtobhnababkpcbaaW.PrintMore Go.Proofs.Ytobhnababkpcbaa.Maps Go.Proofs.Ytobhnababkpcbaa.DevS Go.Proofs.Ytobhnababkpcbaa.Given

/-- The blocks as the document has them. -/
def lv (d : D) : List Value := (List.range d.n).map fun k => Value.string ((d.la (k : Nat)).getD ⟨#[]⟩)
theorem lv_length (d : D) : (lv d).length = d.n := by simp [lv]
theorem lv_at (d : D) (k : Nat) (h : k < d.n) : (lv d)[k]? = some (.string ((d.la (k : Nat)).getD ⟨#[]⟩)) := by simp [lv, h]
structure RefIs (B : Nat) (w : World) (eb : Nat) (v1 v2 : Value) (d : D) : Prop where
  dev : w.heap[eb]? = some (.cells #[v1, v2] 47 (0, 0))
  row : w.ownsRow B 9 1 v1 d.n (lv d)
  que : w.ownsRow B 65 2 v2 d.q.length (wv d.q)
  be : B ≤ eb
  wf : Wf d
  full : ∀ k s, d.la k = some s → s.size = 128
def fr (eb : Nat) (v1 v2 : Value) (k : Nat) : Prop := k = eb ∨ v1.ownBlock = some k ∨ v2.ownBlock = some k
section
variable {B eb : Nat} {v1 v2 : Value} {d : D} {w w' : World} {f : Nat → Prop}
theorem RefIs.fr_ge (h : RefIs B w eb v1 v2 d) {k : Nat} (hk : fr eb v1 v2 k) : B ≤ k := by
  rcases hk with rfl | hk | hk
  · exact h.be
  · exact own_base h.row k hk
  · exact own_base h.que k hk
theorem RefIs.fr_lt (h : RefIs B w eb v1 v2 d) {k : Nat} (hk : fr eb v1 v2 k) : k < w.heap.size := by
  rcases hk with rfl | hk | hk
  · exact blk_lt h.dev
  · exact own_lt h.row k hk
  · exact own_lt h.que k hk
theorem own_same {w w' : World} {base : Nat} {e : TypeId} {size n : Nat} {v : Value} {xs : List Value} (h : w.ownsRow base e size v n xs) (hb : ∀ k, v.ownBlock = some k → w'.heap[k]? = w.heap[k]?) : w'.ownsRow base e size v n xs := by
  refine ⟨h.1, ?_⟩
  rcases h.2 with hn | ⟨g, cap, cur, rfl, hbb, hgg, rest⟩
  · exact .inl hn
  · exact .inr ⟨g, cap, cur, rfl, hbb, (hb g rfl).trans hgg, rest⟩
theorem RefIs.step (h : RefIs B w eb v1 v2 d) (hb : ∀ k, fr eb v1 v2 k → w'.heap[k]? = w.heap[k]?) : RefIs B w' eb v1 v2 d where
  dev := (hb eb (.inl rfl)).trans h.dev
  row := own_same h.row (fun k hk => hb k (.inr (.inl hk)))
  que := own_same h.que (fun k hk => hb k (.inr (.inr hk)))
  be := h.be
  wf := h.wf
  full := h.full
theorem RefIs.below (h : RefIs B w eb v1 v2 d) (hb : Below w.heap.size w w') : RefIs B w' eb v1 v2 d := h.step (fun k hk => hb.block k (h.fr_lt hk))
theorem RefIs.fr' (h : RefIs B w eb v1 v2 d) (hf : Fr w w' f) (hd : ∀ k, fr eb v1 v2 k → ¬ f k) : RefIs B w' eb v1 v2 d := h.step (fun k hk => hf.block k (h.fr_lt hk) (hd k hk))
theorem RefIs.c0 (h : RefIs B w eb v1 v2 d) : w.cell? ⟨eb, 0, none⟩ = some v1 := (blk_cell h.dev 0).trans rfl
theorem RefIs.c1 (h : RefIs B w eb v1 v2 d) : w.cell? ⟨eb, 1, none⟩ = some v2 := (blk_cell h.dev 1).trans rfl
theorem size_ne_look (f : F) (hf : ∀ k s, f k = some s → s.size = 128) (a : Int) : (f a = none ∧ (f a).getD ⟨#[]⟩ = (⟨#[]⟩ : ByteArray) ∧ DevS.look f a = blockB 0) ∨ (∃ s, f a = some s ∧ s.size ≠ 0 ∧ (f a).getD ⟨#[]⟩ = s ∧ DevS.look f a = s) := by
  unfold DevS.look
  cases h : f a with
  | none => exact .inl ⟨rfl, rfl, rfl⟩
  | some s => exact .inr ⟨s, rfl, by rw [hf a s h]; omega, rfl, rfl⟩
end
end Go.Proofs.Ytobhnababkpcbaa.Dev
