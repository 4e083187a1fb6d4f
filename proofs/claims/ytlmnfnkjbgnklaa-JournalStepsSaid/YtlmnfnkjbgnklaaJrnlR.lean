/- A journal and a row of sizes, side by side. -/
import Derived.Test.YtlmnfnkjbgnklaaJrnlOpen
set_option linter.unusedVariables false
set_option linter.unusedSimpArgs false
namespace Go.Proofs.Ytlmnfnkjbgnklaa.Jrnl
open Go.RowKit Go.Proofs.YtlmnfnkjbgnklaaW.PrintWords Go.Proofs.YtlmnfnkjbgnklaaW.PrintLast Go.Proofs.YtlmnfnkjbgnklaaW.PrintMore Go.Proofs.Ytlmnfnkjbgnklaa.TxnS Go.Proofs.Ytlmnfnkjbgnklaa.Txn Go.Proofs.Ytlmnfnkjbgnklaa.JS Go.Proofs.Ytlmnfnkjbgnklaa.Run
structure RS (W w : World) (jb : Nat) (v u : Value) (J : Jr) (l : List Nat) : Prop where
  j : JIs W.heap.size w jb v J
  uu : RowX w W.heap.size 3 u (sv l)
  b : Below W.heap.size W w
  d : ∀ k, u.ownBlock = some k → ¬ fp jb v k
  ok : JW J
section
variable {W w w' : World} {jb : Nat} {v u r : Value} {J J' : Jr} {l : List Nat} {e : Ending}
theorem RS.below (h : RS W w jb v u J l) (hb : Below w.heap.size w w') : RS W w' jb v u J l := ⟨h.j.below hb, h.uu.below hb, h.b.trans (hb.mono h.b.size), h.d, h.ok⟩
theorem RS.fr {v' : Value} (h : RS W w jb v u J l) (hj : JIs W.heap.size w' jb v' J') (hf : Fr w w' (fp jb v)) (hp : ∀ k, fp jb v' k → fp jb v k ∨ w.heap.size ≤ k) (ok : JW J') : RS W w' jb v' u J' l := by
  refine ⟨hj, h.uu.step fun k hk => hf.block k (h.uu.lt k hk) (h.d k hk), Fr.below h.b hf (fun k hk => h.j.ge hk) h.b.size, fun k hk hf => ?_, ok⟩
  rcases hp k hf with h1 | h1
  · exact h.d k hk h1
  · have := h.uu.lt k hk
    omega
theorem RS.post (h : RS W w jb v u J l) (hp : JPost W.heap.size jb v w r J' e w') (ok : JW J') : ∃ v', e = .returned r ∧ RS W w' jb v' u J' l := by
  obtain ⟨v', he, hj, hf, hp⟩ := hp
  exact ⟨v', he, h.fr hj hf hp ok⟩
theorem RS.apost {x : List Ch × Int × Jr} (h : RS W w jb v u J l) (hp : APost W.heap.size jb v w x e w') (ok : JW x.2.2) : ∃ A c v', e = .returned (.tuple #[.slice A x.1.length c, .int .i64 x.2.1]) ∧ RS W w' jb v' u x.2.2 l := by
  obtain ⟨u', v', he, hu, hj, hf, hp, hd⟩ := hp
  obtain ⟨A, c, rfl⟩ := own_slice hu
  exact ⟨A, c, v', he, h.fr hj hf hp ok⟩
theorem RS.push {u' : Value} {n : Nat} (h : RS W w jb v u J l) (hr : RowX w' W.heap.size 3 u' (sv l ++ [.int .i64 (n : Int)])) (hg : w.grownBy w' u.ownBlock) (ho : u'.ownBlock = u.ownBlock ∨ u'.ownBlock = some w.heap.size) : RS W w' jb v u' J (l ++ [n]) := by
  have hge : ∀ k, u.ownBlock = some k → W.heap.size ≤ k := fun k hk => h.uu.ge k hk
  refine ⟨h.j.step fun k hk => hg.block k (h.j.lt hk) (fun e => h.d k e.symm hk), by rw [sv_push]; exact hr, h.b.grown hg h.b.size (fun k hk => hge k hk), fun k hk hf => ?_, h.ok⟩
  rcases ho with e | e
  · exact h.d k (Eq.trans (Eq.symm e) hk) hf
  · have := Option.some.inj (Eq.trans (Eq.symm e) hk)
    have := h.j.lt hf
    omega
theorem appJ_ok (h : JW J) (c : List Ch) : JW (appJ J c).2.2 := by
  unfold appJ
  split
  · exact h
  · split
    · exact h
    · rename_i h1 h2
      exact pushJ_ok h c.length (Decidable.not_not.1 h2)
theorem appJ_len (J : Jr) (c : List Ch) (h : (appJ J c).2.1 = 0) : (appJ J c).1.length = c.length + 1 ∧ (appJ J c).2.2 = pushJ J (c.length + 1) := by
  unfold appJ at h ⊢
  split
  · rename_i h1; rw [if_pos h1] at h; cases h
  · rename_i h1
    rw [if_neg h1] at h
    split
    · rename_i h2; rw [if_pos h2] at h; cases h
    · exact ⟨by unfold wsJ; rw [wsA_length]; simp [blocksL], rfl⟩
theorem appJ_err (J : Jr) (c : List Ch) (h : (appJ J c).2.1 ≠ 0) : (appJ J c).2.2 = J := by
  unfold appJ at h ⊢
  split
  · rfl
  · rename_i h1
    rw [if_neg h1] at h
    split
    · rfl
    · rename_i h2; rw [if_neg h2] at h; exact absurd rfl h
end
end Go.Proofs.Ytlmnfnkjbgnklaa.Jrnl
