/- What transactions are: plain functions, no program in sight. -/
import Derived.Test.YtlmnfnkjbgnklaaSumC
set_option linter.unusedVariables false
set_option linter.unusedSimpArgs false
namespace Go.Proofs.Ytlmnfnkjbgnklaa.TxnS
open Go.RowKit Go.Proofs.YtlmnfnkjbgnklaaW.PrintWords Go.Proofs.Ytlmnfnkjbgnklaa.Spec

abbrev Ch := Int × ByteArray
def cv (l : List Ch) : List Value := l.flatMap fun c => [.int .i64 c.1, .string c.2]
theorem cv_length (l : List Ch) : (cv l).length = l.length * 2 := by
  induction l with
  | nil => rfl
  | cons p q ih => simp only [cv, List.flatMap_cons, List.length_append, List.length_cons, List.length_nil] at *; omega
theorem cv_append (a b : List Ch) : cv (a ++ b) = cv a ++ cv b := by simp [cv]
theorem cv_at : ∀ (q : List Ch) (i : Nat) (h : i < q.length), (cv q)[i * 2]? = some (.int .i64 (q[i]).1) ∧ (cv q)[i * 2 + 1]? = some (.string (q[i]).2)
  | [], i, h => by simp at h
  | p :: q, 0, _ => ⟨rfl, rfl⟩
  | p :: q, i + 1, h => by
    have ih := cv_at q i (by simpa using h)
    have e : cv (p :: q) = .int .i64 p.1 :: .string p.2 :: cv q := rfl
    rw [e, show (i + 1) * 2 = i * 2 + 1 + 1 by omega]
    simpa using ih
/-- Are changes right? -/
def rightL : Int → List Ch → Prop
  | _, [] => True
  | last, c :: l => last < c.1 ∧ c.1 < 1024 ∧ c.2.size = 128 ∧ rightL c.1 l
instance rightL_dec : ∀ (a : Int) (l : List Ch), Decidable (rightL a l)
  | _, [] => by unfold rightL; infer_instance
  | last, c :: l => by unfold rightL; have := rightL_dec c.1 l; infer_instance
def right (l : List Ch) : Prop := rightL (-1) l ∧ l.length ≤ 48
instance (l : List Ch) : Decidable (right l) := by unfold right; infer_instance
def chk (l : List Ch) : Int := if right l then 0 else 70
def lastAt (l : List Ch) : Nat → Int
  | 0 => -1
  | k + 1 => (l[k]?.map Prod.fst).getD (-1)
theorem lastAt_succ (l : List Ch) (i : Nat) (h : i < l.length) : lastAt l (i + 1) = (l[i]).1 := by simp [lastAt, h]
theorem rightL_step (l : List Ch) (i : Nat) (h : i < l.length) : rightL (lastAt l i) (l.drop i) ↔ lastAt l i < (l[i]).1 ∧ (l[i]).1 < 1024 ∧ (l[i]).2.size = 128 ∧ rightL (lastAt l (i + 1)) (l.drop (i + 1)) := by
  rw [List.drop_eq_getElem_cons h, lastAt_succ l i h]
  exact Iff.rfl
theorem rightL_all (a : Int) : ∀ (l : List Ch), rightL a l → ∀ c ∈ l, a < c.1 ∧ c.1 < 1024 ∧ c.2.size = 128
  | [], _, c, hc => by simp at hc
  | d :: l, h, c, hc => by
    rcases List.mem_cons.1 hc with rfl | hc
    · exact ⟨h.1, h.2.1, h.2.2.1⟩
    · have := rightL_all d.1 l h.2.2.2 c hc
      exact ⟨by have := h.1; omega, this.2.1, this.2.2⟩
end Go.Proofs.Ytlmnfnkjbgnklaa.TxnS
