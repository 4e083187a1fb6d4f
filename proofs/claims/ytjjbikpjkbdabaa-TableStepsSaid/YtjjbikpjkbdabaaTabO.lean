/- Each request begins once and is done once: the plain law, and rows of what began and what was done. -/
import Derived.Test.YtjjbikpjkbdabaaTabL
set_option linter.unusedVariables false
set_option linter.unusedSimpArgs false
namespace Go.Proofs.Ytjjbikpjkbdabaa.Tab
open Go.RowKit Go.Proofs.YtjjbikpjkbdabaaW.PrintWords Go.Proofs.YtjjbikpjkbdabaaW.PrintLast Go.Proofs.YtjjbikpjkbdabaaW.PrintMore Go.Proofs.Ytjjbikpjkbdabaa.Maps Go.Proofs.Ytjjbikpjkbdabaa.TabS Go.Proofs.Ytjjbikpjkbdabaa.Open

/-- A step, and where its names lie. -/
structure El where
  s : Step
  A : Option Addr
  c : Nat
def cellsS (x : El) : List Value := (sobj x.s x.A x.c).toList
def flatS (l : List El) : List Value := l.flatMap cellsS
def cellsO (p : Int × Int) : List Value := [.int .i64 p.1, .int .i64 p.2]
def flatO (l : List (Int × Int)) : List Value := l.flatMap cellsO
theorem flat_len {α : Type} (f : α → List Value) (sz : Nat) (hf : ∀ x, (f x).length = sz) : ∀ l : List α, (l.flatMap f).length = l.length * sz
  | [] => by simp
  | x :: l => by rw [List.flatMap_cons, List.length_append, hf, flat_len f sz hf l, List.length_cons, Nat.succ_mul, Nat.add_comm]
theorem flat_at {α : Type} (f : α → List Value) (sz : Nat) (hf : ∀ x, (f x).length = sz) : ∀ (l : List α) (i j : Nat) (x : α), l[i]? = some x → j < sz → (l.flatMap f)[i * sz + j]? = (f x)[j]?
  | [], _, _, _, h, _ => by simp at h
  | y :: l, 0, j, x, h, hj => by
    obtain rfl : y = x := by simpa using h
    rw [List.flatMap_cons, List.getElem?_append_left (by rw [hf]; omega), Nat.zero_mul, Nat.zero_add]
  | y :: l, i + 1, j, x, h, hj => by
    rw [List.flatMap_cons, List.getElem?_append_right (by rw [hf, Nat.succ_mul]; omega), hf, show (i + 1) * sz + j - sz = i * sz + j from by rw [Nat.succ_mul]; omega]
    exact flat_at f sz hf l i j x (by simpa using h) hj
theorem own_cell {w : World} {base : Nat} {e : TypeId} {size : Nat} {v : Value} {n : Nat} {xs : List Value} (h : w.ownsRow base e size v n xs) {j : Nat} {u : Value} (hj : xs[j]? = some u) :
    ∃ g cap, v = .slice (some ⟨g, 0, none⟩) n cap ∧ w.cell? ⟨g, j, none⟩ = some u := by
  rcases h.2 with ⟨rfl, h0⟩ | ⟨g, cap, cur, rfl, _, hh, _, _, _, ht⟩
  · have : xs = [] := List.eq_nil_of_length_eq_zero (by rw [h.1, h0, Nat.zero_mul])
    rw [this] at hj
    simp at hj
  · refine ⟨g, cap, rfl, ?_⟩
    have h1 : w.cell? ⟨g, j, none⟩ = cur[j]? := blk_cell hh j
    rw [h1, ← Array.getElem?_toList]
    rw [← ht, List.getElem?_take] at hj
    split at hj
    · exact hj
    · simp at hj

/-- What holds between the table, what began and what was done. -/
def Inv (m : T) (bl : List (Int × Int)) (dl : List El) : Prop :=
  (∀ b ∈ bl, ∃ k, mget m b.1 = some k ∧ b.2 ≤ k.req) ∧
  ∀ x ∈ dl, wrong x.s.client x.s.req = false ∧ ∃ k, mget m x.s.client = some k ∧ x.s.req ≤ k.req ∧ (k.req = x.s.req → k.done = true ∧ k.res = x.s.r)
theorem begin_err_same {m : T} {c r : Int} (h : (tBegin m c r).2 ≠ 0) : (tBegin m c r).1 = m := by
  unfold tBegin at *
  by_cases h1 : (tAsk m c r).2.2 = 0
  · rw [if_pos h1] at h ⊢
    by_cases h2 : (tAsk m c r).1 = 1
    · rw [if_pos h2] at h ⊢
      by_cases h3 : mget m c = none ∧ m.length = 256
      · rw [if_pos h3]
      · rw [if_neg h3] at h; exact absurd rfl h
    · rw [if_neg h2]
  · rw [if_neg h1]
theorem begin_ok {m : T} {c r : Int} (h : (tBegin m c r).2 = 0) : (tBegin m c r).1 = mput m c ⟨r, false, zero⟩ ∧ ∀ k, mget m c = some k → k.req < r := by
  unfold tBegin at *
  by_cases h1 : (tAsk m c r).2.2 = 0
  · rw [if_pos h1] at h ⊢
    by_cases h2 : (tAsk m c r).1 = 1
    · rw [if_pos h2] at h ⊢
      by_cases h3 : mget m c = none ∧ m.length = 256
      · rw [if_pos h3] at h; simp at h
      · rw [if_neg h3]
        refine ⟨rfl, fun k hk => ?_⟩
        unfold tAsk at h1 h2
        rw [hk] at h1 h2
        by_cases hw : wrong c r = true
        · rw [if_pos hw] at h2; simp at h2
        · rw [if_neg hw] at h2
          dsimp only at h2
          by_cases h5 : k.req < r
          · exact h5
          · rw [if_neg h5] at h2
            by_cases h6 : r < k.req
            · rw [if_pos h6] at h2; simp at h2
            · rw [if_neg h6] at h2
              by_cases h7 : k.done = true
              · rw [if_pos h7] at h2; simp at h2
              · rw [if_neg h7] at h2; simp at h2
    · rw [if_neg h2] at h; simp at h
  · rw [if_neg h1] at h; exact absurd h h1
theorem done_err_same {m : T} {c r : Int} {x : Res} (h : (tDone m c r x).2 ≠ 0) : (tDone m c r x).1 = m := by
  unfold tDone at *
  by_cases hw : wrong c r = true
  · rw [if_pos hw]
  rw [if_neg hw] at h ⊢
  cases hk : mget m c with
  | none => rfl
  | some k =>
    rw [hk] at h
    dsimp only at h ⊢
    by_cases h1 : k.req = r
    · rw [if_pos h1] at h ⊢
      by_cases h2 : k.done = true
      · rw [if_pos h2]
      · rw [if_neg h2] at h; exact absurd rfl h
    · rw [if_neg h1]
theorem done_ok {m : T} {c r : Int} {x : Res} (h : (tDone m c r x).2 = 0) : (tDone m c r x).1 = mput m c ⟨r, true, x⟩ ∧ wrong c r = false ∧ ∃ k, mget m c = some k ∧ k.req = r ∧ k.done = false := by
  unfold tDone at *
  by_cases hw : wrong c r = true
  · rw [if_pos hw] at h; simp at h
  rw [if_neg hw] at h ⊢
  cases hk : mget m c with
  | none => rw [hk] at h; simp at h
  | some k =>
    rw [hk] at h
    dsimp only at h ⊢
    by_cases h1 : k.req = r
    · rw [if_pos h1] at h ⊢
      by_cases h2 : k.done = true
      · rw [if_pos h2] at h; simp at h
      · rw [if_neg h2]
        exact ⟨rfl, by simpa using hw, k, rfl, h1, by simpa using h2⟩
    · rw [if_neg h1] at h; simp at h
theorem Inv.begun {m : T} {bl : List (Int × Int)} {dl : List El} (h : Inv m bl dl) {c r : Int} (hb : (tBegin m c r).2 = 0) : (∀ b ∈ bl, b.1 = c → b.2 < r) ∧ Inv (tBegin m c r).1 (bl ++ [(c, r)]) dl := by
  obtain ⟨h1, h2⟩ := begin_ok hb
  refine ⟨fun b hbm hc => ?_, ?_, ?_⟩
  · obtain ⟨k, hk, hle⟩ := h.1 b hbm
    rw [hc] at hk
    have := h2 k hk
    omega
  · intro b hbm
    rw [h1, mget_mput]
    rcases List.mem_append.1 hbm with hbm | hbm
    · obtain ⟨k, hk, hle⟩ := h.1 b hbm
      by_cases e : c = b.1
      · rw [if_pos e]
        refine ⟨_, rfl, ?_⟩
        have := h2 k (e ▸ hk)
        show b.2 ≤ r
        omega
      · rw [if_neg e]; exact ⟨k, hk, hle⟩
    · obtain rfl : b = (c, r) := by simpa using hbm
      rw [if_pos rfl]
      exact ⟨_, rfl, Int.le_refl _⟩
  · intro x hx
    obtain ⟨hw, k, hk, hle, hr⟩ := h.2 x hx
    refine ⟨hw, ?_⟩
    rw [h1, mget_mput]
    by_cases e : c = x.s.client
    · rw [if_pos e]
      have := h2 k (e ▸ hk)
      exact ⟨_, rfl, (by show x.s.req ≤ r; omega), fun q => absurd (show r = x.s.req from q) (by omega)⟩
    · rw [if_neg e]; exact ⟨k, hk, hle, hr⟩
theorem Inv.wasDone {m : T} {bl : List (Int × Int)} {dl : List El} (h : Inv m bl dl) (x : El) (hd : (tDone m x.s.client x.s.req x.s.r).2 = 0) :
    (∀ y ∈ dl, y.s.client = x.s.client → y.s.req ≠ x.s.req) ∧ Inv (tDone m x.s.client x.s.req x.s.r).1 bl (dl ++ [x]) := by
  obtain ⟨h1, hw, k, hk, hr, hnd⟩ := done_ok hd
  refine ⟨fun y hy hc hq => ?_, ?_, ?_⟩
  · obtain ⟨_, k', hk', _, hr'⟩ := h.2 y hy
    rw [hc, hk] at hk'
    obtain rfl := Option.some.inj hk'
    have := (hr' (hr.trans hq.symm)).1
    rw [hnd] at this
    simp at this
  · intro b hb
    obtain ⟨k', hk', hle⟩ := h.1 b hb
    rw [h1, mget_mput]
    by_cases e : x.s.client = b.1
    · rw [if_pos e]
      rw [← e, hk] at hk'
      obtain rfl := Option.some.inj hk'
      exact ⟨_, rfl, (by show b.2 ≤ x.s.req; omega)⟩
    · rw [if_neg e]; exact ⟨k', hk', hle⟩
  · intro y hy
    rw [h1, mget_mput]
    rcases List.mem_append.1 hy with hy | hy
    · obtain ⟨hwy, k', hk', hle, hr'⟩ := h.2 y hy
      refine ⟨hwy, ?_⟩
      by_cases e : x.s.client = y.s.client
      · rw [if_pos e]
        rw [← e, hk] at hk'
        obtain rfl := Option.some.inj hk'
        refine ⟨_, rfl, (by show y.s.req ≤ x.s.req; omega), fun q => ?_⟩
        have hq : k.req = y.s.req := hr.trans q
        have := (hr' hq).1
        rw [hnd] at this
        simp at this
      · rw [if_neg e]; exact ⟨k', hk', hle, hr'⟩
    · obtain rfl : y = x := by simpa using hy
      rw [if_pos rfl]
      exact ⟨hw, _, rfl, Int.le_refl _, fun _ => ⟨rfl, rfl⟩⟩
theorem Inv.tells {m : T} {bl : List (Int × Int)} {dl : List El} (h : Inv m bl dl) (x : El) (hx : x ∈ dl) :
    ((last m x.s.client).1 = x.s.req ∧ tAsk m x.s.client x.s.req = (3, x.s.r, 0)) ∨ ((last m x.s.client).1 ≠ x.s.req ∧ tAsk m x.s.client x.s.req = (4, zero, 0)) := by
  obtain ⟨hw, k, hk, hle, hr⟩ := h.2 x hx
  have hl : (last m x.s.client).1 = k.req := by unfold last; rw [hk]
  unfold tAsk
  rw [hl, hw, hk]
  simp only [Bool.false_eq_true, if_false]
  by_cases e : k.req = x.s.req
  · left
    refine ⟨e, ?_⟩
    rw [if_neg (by omega), if_neg (by omega), if_pos (hr e).1, (hr e).2]
  · right
    refine ⟨e, ?_⟩
    rw [if_neg (by omega), if_pos (by omega)]
end Go.Proofs.Ytjjbikpjkbdabaa.Tab
