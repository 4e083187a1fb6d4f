/- The document's Read: what its loop over the queue tells. -/
import Derived.Test.YtobhnababkpcbaaRefDevO
set_option linter.unusedVariables false
set_option linter.unusedSimpArgs false
namespace Go.Proofs.Ytobhnababkpcbaa.DevS
open Go.RowKit Go.Proofs.YtobhnababkpcbaaW.PrintWords Go.Proofs.Ytobhnababkpcbaa.Given
instance (p : Int × ByteArray) (k : Int) : Decidable (covers p k) := by unfold covers; infer_instance
def readQ (a : Int) : ByteArray → List (Int × ByteArray) → ByteArray
  | s, [] => s
  | s, p :: q => readQ a (if covers p a then blk p.2 (a - p.1).toNat else s) q
theorem look_layW (f : F) (p : Int × ByteArray) (a : Int) (h : p.2.size / 128 ≤ 1024) : look (layW f p 1024) a = if covers p a then blk p.2 (a - p.1).toNat else look f a := by
  unfold layW look
  rw [Nat.min_eq_right h]
  by_cases hc : covers p a
  · rw [if_pos hc, layF_in _ _ _ _ _ hc.1 hc.2]; rfl
  · rw [if_neg hc, layF_out _ _ _ _ _ hc]
theorem readQ_look (a : Int) : ∀ (q : List (Int × ByteArray)) (f : F), (∀ p ∈ q, p.2.size / 128 ≤ 1024) → readQ a (look f a) q = look (flushF f q) a
  | [], _, _ => rfl
  | p :: q, f, h => by
    rw [readQ, flushF, ← look_layW f p a (h p (List.mem_cons_self ..))]
    exact readQ_look a q _ (fun x hx => h x (List.mem_cons_of_mem _ hx))
end Go.Proofs.Ytobhnababkpcbaa.DevS
