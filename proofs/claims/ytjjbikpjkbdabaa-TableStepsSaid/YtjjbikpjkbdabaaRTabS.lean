/- The document's table in plain words: a list of clients, rising; it tells what the program's map tells. -/
import Derived.Test.YtjjbikpjkbdabaaTabSpec
set_option linter.unusedVariables false
set_option linter.unusedSimpArgs false
namespace Go.Proofs.Ytjjbikpjkbdabaa.TabS
open Go.Proofs.Ytjjbikpjkbdabaa.Maps
def Rising (L : T) : Prop := (L.map (·.1)).Pairwise (· < ·)
structure Rel (m L : T) : Prop where
  get : ∀ c, mget L c = mget m c
  nd : (m.map (·.1)).Nodup
  rs : Rising L
theorem Rising.nodup {L : T} (h : Rising L) : (L.map (·.1)).Nodup := h.imp fun h => Int.ne_of_lt h
theorem mem_keys {l : T} (x : Int) : x ∈ l.map (·.1) ↔ (mget l x).isSome = true := by
  induction l with
  | nil => simp [mget]
  | cons p l ih =>
    simp only [List.map_cons, List.mem_cons, mget]
    by_cases c : p.1 = x
    · rw [if_pos c]; simp [c]
    · rw [if_neg c, ← ih]
      constructor
      · rintro (h | h)
        · exact absurd h.symm c
        · exact h
      · exact .inr
theorem Rel.perm {m L : T} (h : Rel m L) : (L.map (·.1)).Perm (m.map (·.1)) :=
  (List.perm_ext_iff_of_nodup h.rs.nodup h.nd).2 fun x => by rw [mem_keys, mem_keys, h.get]
theorem Rel.len {m L : T} (h : Rel m L) : L.length = m.length := by have := h.perm.length_eq; simpa using this
theorem Rel.sorted {m L : T} (h : Rel m L) : (m.map (·.1)).mergeSort (fun x y => decide (x ≤ y)) = L.map (·.1) := by
  have tr : ∀ a b c : Int, decide (a ≤ b) = true → decide (b ≤ c) = true → decide (a ≤ c) = true := fun a b c h1 h2 => by simp only [decide_eq_true_eq] at *; exact Int.le_trans h1 h2
  have to : ∀ a b : Int, (decide (a ≤ b) || decide (b ≤ a)) = true := fun a b => by simp only [Bool.or_eq_true, decide_eq_true_eq]; exact Int.le_total a b
  refine List.Perm.eq_of_pairwise (le := fun a b => decide (a ≤ b) = true) (fun a b _ _ h1 h2 => ?_) (List.pairwise_mergeSort tr to _) (h.rs.imp fun h => decide_eq_true (Int.le_of_lt h)) ((List.mergeSort_perm _ _).trans h.perm.symm)
  simp only [decide_eq_true_eq] at h1 h2
  exact Int.le_antisymm h1 h2
theorem Rel.nil : Rel [] [] := ⟨fun _ => rfl, List.nodup_nil, List.Pairwise.nil⟩
theorem nodup_mput {m : T} (h : (m.map (·.1)).Nodup) (c : Int) (x : K) : ((mput m c x).map (·.1)).Nodup := by
  induction m with
  | nil => simp [mput]
  | cons p m ih =>
    rw [List.map_cons, List.nodup_cons] at h
    unfold mput
    by_cases e : p.1 = c
    · rw [if_pos e, List.map_cons, List.nodup_cons]
      exact ⟨by rw [← e]; exact h.1, h.2⟩
    · rw [if_neg e, List.map_cons, List.nodup_cons]
      refine ⟨fun hm => ?_, ih h.2⟩
      rw [mem_keys, mget_mput] at hm
      rw [if_neg (fun q => e q.symm), ← mem_keys] at hm
      exact h.1 hm
theorem keys_mput {L : T} {c : Int} {k x : K} (h : mget L c = some k) : (mput L c x).map (·.1) = L.map (·.1) := by
  induction L with
  | nil => cases h
  | cons p L ih =>
    unfold mget at h
    unfold mput
    by_cases e : p.1 = c
    · rw [if_pos e]; simp [e]
    · rw [if_neg e] at h ⊢
      rw [List.map_cons, List.map_cons, ih h]
theorem Rel.put {m L : T} (h : Rel m L) {c : Int} {k x : K} (hk : mget m c = some k) : Rel (mput m c x) (mput L c x) := by
  refine ⟨fun d => ?_, nodup_mput h.nd c x, ?_⟩
  · rw [mget_mput, mget_mput, h.get]
  · unfold Rising
    rw [keys_mput ((h.get c).trans hk)]
    exact h.rs
/-- One round of the document's Begin. -/
def bstep (c : Int) (x : K) (o : T × Bool) (p : Int × K) : T × Bool :=
  let o1 := if o.2 = false ∧ c ≤ p.1 then (o.1 ++ [(c, x)], true) else o
  if p.1 = c then o1 else (o1.1 ++ [p], o1.2)
def bend (c : Int) (x : K) (o : T × Bool) : T := if o.2 then o.1 else o.1 ++ [(c, x)]
def bput (L : T) (c : Int) (x : K) : T := bend c x (L.foldl (bstep c x) ([], false))
theorem mget_append (a b : T) (c : Int) : mget (a ++ b) c = (mget a c).or (mget b c) := by
  induction a with
  | nil => rfl
  | cons p a ih =>
    simp only [List.cons_append, mget]
    by_cases e : p.1 = c
    · rw [if_pos e, if_pos e]; rfl
    · rw [if_neg e, if_neg e]; exact ih
/-- What stands behind the first ones. -/
structure BInv (c : Int) (x : K) (P : T) (o : T × Bool) : Prop where
  rs : Rising o.1
  off : o.2 = false → o.1 = P ∧ ∀ p ∈ P, p.1 < c
  on : o.2 = true → (∀ d, mget o.1 d = if c = d then some x else mget P d) ∧ ∃ q, q ∈ P ∧ c ≤ q.1 ∧ ∀ p ∈ o.1, ∃ q', (q' ∈ P ∨ q' = (c, x)) ∧ p.1 = q'.1
theorem rising_snoc {L : T} (h : Rising L) {p : Int × K} (hp : ∀ q ∈ L, q.1 < p.1) : Rising (L ++ [p]) := by
  unfold Rising
  rw [List.map_append, List.pairwise_append]
  refine ⟨h, by simp, fun a ha b hb => ?_⟩
  obtain ⟨q, hq, rfl⟩ := List.mem_map.1 ha
  obtain rfl : b = p.1 := by simpa using hb
  exact hp q hq
theorem mget_none {L : T} {d : Int} (h : ∀ q ∈ L, q.1 ≠ d) : mget L d = none := by
  cases e : mget L d with
  | none => rfl
  | some v => exact absurd rfl (h _ (mget_mem e))
theorem bstep_inv {c : Int} {x : K} {P : T} {o : T × Bool} {p : Int × K} (h : BInv c x P o) (hr : Rising (P ++ [p])) : BInv c x (P ++ [p]) (bstep c x o p) := by
  have hlt : ∀ q ∈ P, q.1 < p.1 := fun q hq => by
    unfold Rising at hr
    rw [List.map_append, List.pairwise_append] at hr
    exact hr.2.2 q.1 (List.mem_map_of_mem hq) p.1 (by simp)
  have hg : ∀ d, mget (P ++ [p]) d = if p.1 = d then some p.2 else mget P d := fun d => by
    rw [mget_append]
    by_cases e : p.1 = d
    · rw [if_pos e, mget_none (fun q hq => by have := hlt q hq; omega)]
      show mget [p] d = _
      unfold mget
      rw [if_pos e]
    · rw [if_neg e]
      have : mget [p] d = none := by unfold mget; rw [if_neg e]; rfl
      rw [this, Option.or_none]
  cases ho : o.2 with
  | false =>
    obtain ⟨h1, h2⟩ := h.off ho
    by_cases hc : c ≤ p.1
    · by_cases e : p.1 = c
      · have eb : bstep c x o p = (o.1 ++ [(c, x)], true) := by unfold bstep; simp only [if_pos (And.intro ho hc), if_pos e]
        rw [eb]
        refine ⟨rising_snoc h.rs (fun q hq => by rw [h1] at hq; exact h2 q hq), fun h => (by cases h), fun _ => ⟨fun d => ?_, p, by simp, hc, fun q hq => ?_⟩⟩
        · rw [hg, mget_append, h1]
          by_cases d1 : c = d
          · rw [if_pos d1, mget_none (fun q hq => by have := h2 q hq; omega)]
            show mget [(c, x)] d = _
            unfold mget
            rw [if_pos d1]
          · rw [if_neg d1, if_neg (by omega)]
            have : mget [(c, x)] d = none := by unfold mget; rw [if_neg d1]; rfl
            rw [this, Option.or_none]
        · rcases List.mem_append.1 hq with hq | hq
          · exact ⟨q, .inl (List.mem_append_left _ (by rw [← h1]; exact hq)), rfl⟩
          · exact ⟨(c, x), .inr rfl, by rw [show q = (c, x) from by simpa using hq]⟩
      · have eb : bstep c x o p = ((o.1 ++ [(c, x)]) ++ [p], true) := by unfold bstep; simp only [if_pos (And.intro ho hc), if_neg e]
        rw [eb]
        have r1 : Rising (o.1 ++ [(c, x)]) := rising_snoc h.rs (fun q hq => by rw [h1] at hq; exact h2 q hq)
        refine ⟨rising_snoc r1 (fun q hq => ?_), fun h => (by cases h), fun _ => ⟨fun d => ?_, p, by simp, hc, fun q hq => ?_⟩⟩
        · rcases List.mem_append.1 hq with hq | hq
          · exact hlt q (by rw [← h1]; exact hq)
          · rw [show q = (c, x) from by simpa using hq]; show c < p.1; omega
        · rw [hg, mget_append, mget_append, h1]
          by_cases d1 : c = d
          · rw [if_pos d1, mget_none (fun q hq => by have := h2 q hq; omega)]
            have : mget [(c, x)] d = some x := by unfold mget; rw [if_pos d1]
            rw [this]; rfl
          · rw [if_neg d1]
            have : mget [(c, x)] d = none := by unfold mget; rw [if_neg d1]; rfl
            rw [this, Option.or_none]
            by_cases d2 : p.1 = d
            · rw [if_pos d2, mget_none (fun q hq => by have := hlt q hq; omega)]
              show mget [p] d = _
              unfold mget
              rw [if_pos d2]
            · rw [if_neg d2]
              have : mget [p] d = none := by unfold mget; rw [if_neg d2]; rfl
              rw [this, Option.or_none]
        · rcases List.mem_append.1 hq with hq | hq
          · rcases List.mem_append.1 hq with hq | hq
            · exact ⟨q, .inl (List.mem_append_left _ (by rw [← h1]; exact hq)), rfl⟩
            · exact ⟨(c, x), .inr rfl, by rw [show q = (c, x) from by simpa using hq]⟩
          · exact ⟨p, .inl (by simp), by rw [show q = p from by simpa using hq]⟩
    · have eb : bstep c x o p = (o.1 ++ [p], o.2) := by
        unfold bstep
        simp only [if_neg (fun h : o.2 = false ∧ c ≤ p.1 => hc h.2), if_neg (show ¬ p.1 = c by omega)]
      rw [eb, ho]
      refine ⟨rising_snoc h.rs (fun q hq => by rw [h1] at hq; exact hlt q hq), fun _ => ⟨by rw [h1], fun q hq => ?_⟩, fun h => (by cases h)⟩
      rcases List.mem_append.1 hq with hq | hq
      · exact h2 q hq
      · rw [show q = p from by simpa using hq]; omega
  | true =>
    obtain ⟨h1, q0, hq0, hc0, h3⟩ := h.on ho
    have hcp : c < p.1 := by have := hlt q0 hq0; omega
    have eb : bstep c x o p = (o.1 ++ [p], o.2) := by
      unfold bstep
      simp only [if_neg (fun h : o.2 = false ∧ c ≤ p.1 => by rw [ho] at h; cases h.1), if_neg (show ¬ p.1 = c by omega)]
    have hl : ∀ q ∈ o.1, q.1 < p.1 := fun q hq => by
      obtain ⟨q', h4, h5⟩ := h3 q hq
      rcases h4 with h4 | rfl
      · have := hlt q' h4; omega
      · rw [h5]; exact hcp
    rw [eb, ho]
    refine ⟨rising_snoc h.rs hl, fun h => by (have h : true = false := h; cases h), fun _ => ⟨fun d => ?_, q0, List.mem_append_left _ hq0, hc0, fun q hq => ?_⟩⟩
    · rw [hg, mget_append, h1]
      by_cases d1 : c = d
      · rw [if_pos d1, if_pos d1]; rfl
      · rw [if_neg d1, if_neg d1]
        by_cases d2 : p.1 = d
        · rw [if_pos d2, mget_none (fun q hq => by have := hlt q hq; omega)]
          show mget [p] d = _
          unfold mget
          rw [if_pos d2]
        · rw [if_neg d2]
          have : mget [p] d = none := by unfold mget; rw [if_neg d2]; rfl
          rw [this, Option.or_none]
    · rcases List.mem_append.1 hq with hq | hq
      · obtain ⟨q', h4, h5⟩ := h3 q hq
        exact ⟨q', h4.imp (fun h => List.mem_append_left _ h) id, h5⟩
      · exact ⟨p, .inl (by simp), by rw [show q = p from by simpa using hq]⟩
theorem fold_inv (c : Int) (x : K) : ∀ (Q P : T) (o : T × Bool), BInv c x P o → Rising (P ++ Q) → BInv c x (P ++ Q) (Q.foldl (bstep c x) o)
  | [], P, o, h, _ => by rw [List.append_nil]; exact h
  | p :: Q, P, o, h, hr => by
    have e : P ++ p :: Q = (P ++ [p]) ++ Q := by simp
    rw [e] at hr ⊢
    have h1 : Rising (P ++ [p]) := by
      unfold Rising at hr ⊢
      rw [List.map_append] at hr
      exact (List.pairwise_append.1 hr).1
    exact fold_inv c x Q _ _ (bstep_inv h h1) hr
theorem Rel.begin {m L : T} (h : Rel m L) (c : Int) (x : K) : Rel (mput m c x) (bput L c x) := by
  have hi := fold_inv c x L [] ([], false) ⟨List.Pairwise.nil, fun _ => ⟨rfl, fun p hp => by simp at hp⟩, fun h => (by cases h)⟩ (by rw [List.nil_append]; exact h.rs)
  rw [List.nil_append] at hi
  unfold bput
  generalize L.foldl (bstep c x) ([], false) = o at hi ⊢
  unfold bend
  cases ho : o.2 with
  | false =>
    obtain ⟨h1, h2⟩ := hi.off ho
    rw [if_neg (by simp)]
    refine ⟨fun d => ?_, nodup_mput h.nd c x, rising_snoc hi.rs (fun q hq => by rw [h1] at hq; exact h2 q hq)⟩
    rw [mget_mput, mget_append, h1, ← h.get]
    by_cases d1 : c = d
    · rw [if_pos d1, mget_none (fun q hq => by have := h2 q hq; omega)]
      show mget [(c, x)] d = _
      unfold mget
      rw [if_pos d1]
    · rw [if_neg d1]
      have : mget [(c, x)] d = none := by unfold mget; rw [if_neg d1]; rfl
      rw [this, Option.or_none]
  | true =>
    rw [if_pos rfl]
    refine ⟨fun d => ?_, nodup_mput h.nd c x, hi.rs⟩
    rw [mget_mput, (hi.on ho).1 d, h.get]
end Go.Proofs.Ytjjbikpjkbdabaa.TabS
