/- A row of cells that begins anywhere in its block, with spare cells behind it: pushed upon, cut. General. -/
import Derived.Test.YtlmnfnkjbgnklaaWMore
import Derived.ArgAppend
import Derived.Deep.AppendLies
set_option linter.unusedVariables false
set_option linter.unusedSimpArgs false
namespace Go.Proofs.Ytlmnfnkjbgnklaa.Run
open Go.RowKit Go.Proofs.YtlmnfnkjbgnklaaW.PrintWords Go.Proofs.YtlmnfnkjbgnklaaW.PrintLast Go.Proofs.YtlmnfnkjbgnklaaW.PrintMore
/-- v is a row of the cells xs, in a block from B on, and what lies behind them up to its capacity is its own. -/
def RowX (w : World) (B : Nat) (e : TypeId) (v : Value) (xs : List Value) : Prop :=
  (v = .slice none 0 0 ∧ xs = []) ∨
  ∃ g off cap C, v = .slice (some ⟨g, off, none⟩) xs.length cap ∧ B ≤ g ∧ w.heap[g]? = some (.cells C e (0, 0)) ∧ xs.length ≤ cap ∧ cap ≤ maxLen ∧ off + cap ≤ C.size ∧ ∀ j, j < xs.length → C[off + j]? = xs[j]?
section
variable {w w' : World} {B : Nat} {e : TypeId} {v : Value} {xs : List Value}
theorem RowX.nil (w : World) (B : Nat) (e : TypeId) : RowX w B e (.slice none 0 0) [] := .inl ⟨rfl, rfl⟩
theorem RowX.slice (h : RowX w B e v xs) : ∃ A c, v = .slice A xs.length c := by
  rcases h with ⟨rfl, rfl⟩ | ⟨g, off, cap, C, rfl, _⟩
  · exact ⟨none, 0, rfl⟩
  · exact ⟨_, _, rfl⟩
theorem RowX.lt (h : RowX w B e v xs) : ∀ k, v.ownBlock = some k → k < w.heap.size := by
  intro k hk
  rcases h with ⟨rfl, rfl⟩ | ⟨g, off, cap, C, rfl, _, hg, _⟩
  · cases hk
  · obtain rfl : g = k := by simpa [Value.ownBlock] using hk
    exact blk_lt hg
theorem RowX.ge (h : RowX w B e v xs) : ∀ k, v.ownBlock = some k → B ≤ k := by
  intro k hk
  rcases h with ⟨rfl, rfl⟩ | ⟨g, off, cap, C, rfl, hb, hg, _⟩
  · cases hk
  · obtain rfl : g = k := by simpa [Value.ownBlock] using hk
    exact hb
theorem RowX.step (h : RowX w B e v xs) (hb : ∀ k, v.ownBlock = some k → w'.heap[k]? = w.heap[k]?) : RowX w' B e v xs := by
  rcases h with ⟨rfl, rfl⟩ | ⟨g, off, cap, C, rfl, h1, hg, h2⟩
  · exact .inl ⟨rfl, rfl⟩
  · exact .inr ⟨g, off, cap, C, rfl, h1, (hb g rfl).trans hg, h2⟩
theorem RowX.below (h : RowX w B e v xs) (hb : Below w.heap.size w w') : RowX w' B e v xs := h.step fun k hk => hb.block k (h.lt k hk)
theorem RowX.cell (h : RowX w B e v xs) {i : Nat} (hi : i < xs.length) : ∃ g off cap, v = .slice (some ⟨g, off, none⟩) xs.length cap ∧ w.cell? ⟨g, off + i, none⟩ = some xs[i] := by
  rcases h with ⟨rfl, rfl⟩ | ⟨g, off, cap, C, rfl, h1, hg, h2, h3, h4, h5⟩
  · simp at hi
  · exact ⟨g, off, cap, rfl, by
      unfold World.cell?
      rw [hg]
      exact (h5 i hi).trans (List.getElem?_eq_getElem hi)⟩
/-- Some of the first ones let go. -/
theorem RowX.drop (h : RowX w B e v xs) (A : Option Addr) (n c k : Nat) (hv : v = .slice A n c) (hk : k ≤ xs.length) (m : Nat) (hm : xs.length - k ≤ m) (hm2 : m ≤ c - k) : RowX w B e (.slice (A.map fun a => ⟨a.block, a.off + k, a.spot⟩) (n - k) m) (xs.drop k) := by
  rcases h with ⟨rfl, rfl⟩ | ⟨g, off, cap, C, rfl, h1, hg, h2, h3, h4, h5⟩
  · simp only [Value.slice.injEq] at hv
    obtain ⟨rfl, rfl, rfl⟩ := hv
    have : m = 0 := by omega
    subst this
    exact .inl ⟨by simp, by simp⟩
  · simp only [Value.slice.injEq] at hv
    obtain ⟨rfl, rfl, rfl⟩ := hv
    refine .inr ⟨g, off + k, m, C, by simp, h1, hg, by simpa using hm, by omega, by omega, fun j hj => ?_⟩
    rw [List.length_drop] at hj
    rw [Nat.add_assoc, h5 (k + j) (by omega), List.getElem?_drop]
/-- 'xs[k:n:n]'. -/
theorem RowX.cut {A : Option Addr} {n c k : Nat} (h : RowX w B e (.slice A n c) xs) (hn : n = xs.length) (hk : k ≤ n) : RowX w B e (.slice (if n = k then A else A.map (fun x => x.add k)) (n - k) (n - k)) (xs.drop k) ∧ (Value.slice (if n = k then A else A.map (fun x => x.add k)) (n - k) (n - k)).ownBlock = (Value.slice A n c).ownBlock := by
  subst hn
  have hc : xs.length ≤ c := by
    rcases h with ⟨h1, h2⟩ | ⟨g, off, cap, C, h1, _, _, h3, _⟩
    · simp only [Value.slice.injEq] at h1; omega
    · simp only [Value.slice.injEq] at h1; omega
  by_cases he : xs.length = k
  · rw [if_pos he]
    have h0 : xs.length - k = 0 := by omega
    have hd : xs.drop k = [] := List.drop_eq_nil_of_le (by omega)
    rw [h0, hd]
    refine ⟨?_, ?_⟩
    · rcases h with ⟨h1, h2⟩ | ⟨g, off, cap, C, h1, hb, hg, h3, h4, h5, h6⟩
      · simp only [Value.slice.injEq] at h1
        rw [h1.1]
        exact .inl ⟨rfl, rfl⟩
      · simp only [Value.slice.injEq] at h1
        rw [h1.1]
        exact .inr ⟨g, off, 0, C, rfl, hb, hg, Nat.le_refl _, by simp [maxLen], by omega, fun j hj => by simp at hj⟩
    · rcases A with _ | a <;> rfl
  · rw [if_neg he]
    refine ⟨?_, ?_⟩
    · have h2 := h.drop A xs.length c k rfl hk (xs.length - k) (Nat.le_refl _) (by omega)
      have e : (A.map fun a => (⟨a.block, a.off + k, a.spot⟩ : Addr)) = A.map (fun x => x.add k) := by
        rcases h with ⟨h1, _⟩ | ⟨g, off, cap, C, h1, _⟩
        · simp only [Value.slice.injEq] at h1
          rw [h1.1]; rfl
        · simp only [Value.slice.injEq] at h1
          rw [h1.1]; simp [Addr.add]
      rwa [e] at h2
    · rcases h with ⟨h1, _⟩ | ⟨g, off, cap, C, h1, _⟩
      · simp only [Value.slice.injEq] at h1
        rw [h1.1]; rfl
      · simp only [Value.slice.injEq] at h1
        rw [h1.1]; simp only [Option.map_some, Value.ownBlock, Addr.add]; split <;> rfl
theorem RowX.of_own {n : Nat} (h : w.ownsRow B e 1 v n xs) : RowX w B e v xs := by
  obtain ⟨hl, h⟩ := h
  rw [Nat.mul_one] at hl
  rcases h with ⟨rfl, h0⟩ | ⟨g, cap, cur, rfl, h1, hg, h2, h3, h4, h5⟩
  · subst h0
    exact .inl ⟨rfl, List.eq_nil_of_length_eq_zero hl⟩
  · subst hl
    refine .inr ⟨g, 0, cap, cur, rfl, h1, hg, h2, h3, by omega, fun j hj => ?_⟩
    rw [Nat.mul_one] at h5
    rw [Nat.zero_add, ← Array.getElem?_toList]
    have h6 := congrArg (fun l => l[j]?) h5
    rw [List.getElem?_take_of_lt hj] at h6
    exact h6
end
section
variable {P : Program} {w : World}
theorem run_push2 (B : Nat) (t ty e : TypeId) (i : TypeInfo) (z : Value) (bytes : Nat) (ht : P.underlying t = some (.slice e)) (hi : P.info? e = some i) (hz : i.zero = some z)
    (hsize : i.size = 1) (hby : i.bytes = bytes) (hzs : z.cells.size = 1) (v : Value) (xs : List Value) (h : RowX w B e v xs) (ad : Addr) (c : Nat) (x : Value) (hx : w.cell? ad = some x) (h1 : x.oneCell' = true)
    (h63 : xs.length + 1 ≤ maxLen) (hbytes : (xs.length + 1) * bytes ≤ 140737488355328) (hB : B ≤ w.heap.size) :
    ∃ v' w', (Builtin.append_ #[t, t] ty #[v, .slice (some ad) 1 c]).run P w = .ok v' w' ∧ RowX w' B e v' (xs ++ [x]) ∧ w.grownBy w' v.ownBlock ∧ (v'.ownBlock = v.ownBlock ∨ v'.ownBlock = some w.heap.size) ∧ RowX w' B e v xs := by
  subst hby
  have hnews : ∀ j u, [x][j]? = some u → w.cell? (ad.add j) = some u := by
    intro j u hu
    rcases j with _ | j
    · simp only [List.getElem?_cons_zero, Option.some.injEq] at hu
      subst hu
      simpa [Addr.add] using hx
    · simp at hu
  rcases h with ⟨rfl, rfl⟩ | ⟨g, off, cap, C, rfl, hb, hg, hn, hc, hs, hcs⟩
  · have hr := run_append_nil (P := P) w t ty e i z ht hi hz ad 1 c [x] (by rw [hsize]; rfl) hnews (by omega) (by omega) (by simp at hbytes; omega)
    have hge := grownCap_ge w 1 0 e
    refine ⟨_, _, hr, .inr ⟨w.heap.size, 0, _, _, rfl, hB, heap_alloc_new w.drew _, hge, grownCap_le_maxLen w 1 0 e (by simp only [maxLen]; omega), ?_, fun j hj => ?_⟩, ⟨rfl, rfl, rfl, by simp, fun k hk _ => Below.heap_alloc w.drew _ k hk⟩, .inr rfl, .inl ⟨rfl, rfl⟩⟩
    · rw [Array.size_append, size_zeroCells, hzs]; simp; omega
    · have : j = 0 := by simpa using hj
      subst this
      rw [Nat.zero_add, Array.getElem?_append_left (by simp)]
      rfl
  · by_cases hroom : xs.length + 1 ≤ cap
    · have hfr : w.frozen? ⟨g, off + xs.length, none⟩ = false := by unfold World.frozen?; rw [hg]; simp
      have hce : (w.cell? ⟨g, off + xs.length, none⟩).isSome = true := by
        unfold World.cell?
        rw [hg]
        show (C[off + xs.length]?).isSome = true
        rw [Array.getElem?_eq_getElem (by omega)]
        rfl
      have hr := run_append_room_cells (P := P) w t ty e i ht hi g off xs.length cap ad 1 c [x] (by rw [hsize]; rfl) hnews (by simpa using h1) hroom
        (fun j hj => by have : j = 0 := by simpa using hj
                        subst this
                        rw [hsize, Nat.mul_one]; exact hce) (fun j hj => by have : j = 0 := by simpa using hj
                                                                            subst this
                                                                            rw [hsize, Nat.mul_one]; exact hfr)
      rw [hsize, Nat.mul_one] at hr
      refine ⟨_, _, hr, .inr ⟨g, off, cap, C.setIfInBounds (off + xs.length) x, by simp, hb, ?_, by simpa using hroom, hc, by simpa using hs, fun j hj => ?_⟩, ⟨rfl, rfl, rfl, ?_, fun k hk hne => ?_⟩, .inl rfl, .inr ⟨g, off, cap, C.setIfInBounds (off + xs.length) x, rfl, hb, ?_, by omega, hc, by simpa using hs, fun j hj => ?_⟩⟩
      · show (w.setCell ⟨g, off + xs.length, none⟩ x).heap[g]? = _
        simp [World.setCell, Array.getElem?_modify, hg]
      · rw [List.length_append, List.length_singleton] at hj
        by_cases hjx : j = xs.length
        · subst hjx
          rw [Array.getElem?_setIfInBounds_self_of_lt (by omega)]
          simp
        · rw [Array.getElem?_setIfInBounds_ne (by omega), hcs j (by omega), List.getElem?_append_left (by omega)]
      · show w.heap.size ≤ (w.setCell ⟨g, off + xs.length, none⟩ x).heap.size
        simp [World.setCell]
      · show (w.setCell ⟨g, off + xs.length, none⟩ x).heap[k]? = _
        have : ¬ g = k := fun e => hne (by simp [Value.ownBlock, e])
        simp [World.setCell, Array.getElem?_modify, this]
      · show (w.setCell ⟨g, off + xs.length, none⟩ x).heap[g]? = _
        simp [World.setCell, Array.getElem?_modify, hg]
      · rw [Array.getElem?_setIfInBounds_ne (by omega), hcs j hj]
    · have holds : ∀ j u, xs[j]? = some u → w.cell? ((⟨g, off, none⟩ : Addr).add j) = some u := by
        intro j u hu
        have hj : j < xs.length := by
          rcases Nat.lt_or_ge j xs.length with hh | hh
          · exact hh
          · rw [List.getElem?_eq_none hh] at hu; cases hu
        rw [show (⟨g, off, none⟩ : Addr).add j = ⟨g, off + j, none⟩ from by simp [Addr.add]]
        unfold World.cell?
        rw [hg]
        exact (hcs j hj).trans hu
      have hr := run_append_grow (P := P) w t ty e i z ht hi hz ⟨g, off, none⟩ xs.length cap xs (by rw [hsize, Nat.mul_one]) holds ad 1 c [x] (by rw [hsize]; rfl) hnews (by omega) (by simp only [maxLen] at h63; omega) (growslice_fits (by omega) hbytes)
      have hge := grownCap_ge w (xs.length + 1) cap e
      refine ⟨_, _, hr, .inr ⟨w.heap.size, 0, _, _, by rw [List.length_append, List.length_singleton], hB, heap_alloc_new w.drew _, by rw [List.length_append, List.length_singleton]; exact hge, grownCap_le_maxLen w (xs.length + 1) cap e h63, ?_, fun j hj => ?_⟩, ⟨rfl, rfl, rfl, by simp, fun k hk _ => Below.heap_alloc w.drew _ k hk⟩, .inr rfl, .inr ⟨g, off, cap, C, rfl, hb, (Below.heap_alloc w.drew _ g (blk_lt hg)).trans hg, hn, hc, hs, hcs⟩⟩
      · rw [Array.size_append, size_zeroCells, hzs]; simp; omega
      · rw [Nat.zero_add, Array.getElem?_append_left (by simpa using hj)]
        simp
theorem run_push (B : Nat) (t ty e : TypeId) (i : TypeInfo) (z : Value) (bytes : Nat) (ht : P.underlying t = some (.slice e)) (hi : P.info? e = some i) (hz : i.zero = some z)
    (hsize : i.size = 1) (hby : i.bytes = bytes) (hzs : z.cells.size = 1) (v : Value) (xs : List Value) (h : RowX w B e v xs) (ad : Addr) (c : Nat) (x : Value) (hx : w.cell? ad = some x) (h1 : x.oneCell' = true)
    (h63 : xs.length + 1 ≤ maxLen) (hbytes : (xs.length + 1) * bytes ≤ 140737488355328) (hB : B ≤ w.heap.size) :
    ∃ v' w', (Builtin.append_ #[t, t] ty #[v, .slice (some ad) 1 c]).run P w = .ok v' w' ∧ RowX w' B e v' (xs ++ [x]) ∧ w.grownBy w' v.ownBlock ∧ (v'.ownBlock = v.ownBlock ∨ v'.ownBlock = some w.heap.size) := by
  obtain ⟨v', w', h1, h2, h3, h4, _⟩ := run_push2 B t ty e i z bytes ht hi hz hsize hby hzs v xs h ad c x hx h1 h63 hbytes hB
  exact ⟨v', w', h1, h2, h3, h4⟩
end
section
variable {P : Program} {ops : Array Oper} {rest : List Oper} {o : Oper} {a : Act} {Q : Exit → Act → World → Prop} {K : Act → World → Prop} {w : World}
theorem wp_push (B : Nat) (s x : Operand) (t e : TypeId) (z : Value) (bytes : Nat)
    (ho : o.op = .call { callee := .builtin .append, args := #[s, x], argTypes := #[t, t] })
    (ht : P.underlying t = some (.slice e)) (hinfo : (P.info? e).map (fun i => (i.zero, i.size, i.bytes)) = some (some z, 1, bytes)) (hzs : z.cells.size = 1)
    (v : Value) (xs : List Value) (y : Value) (ad : Addr) (c : Nat) (hs : a.eval s = v) (hx : a.eval x = .slice (some ad) 1 c) (hc : w.cell? ad = some y) (h1 : y.oneCell' = true)
    (HO : RowX w B e v xs) (hl : xs.length + 1 ≤ maxLen) (hl2 : (xs.length + 1) * bytes ≤ 140737488355328) (hB : B ≤ w.heap.size)
    (h : ∀ A' c' w', RowX w' B e (.slice A' (xs.length + 1) c') (xs ++ [y]) → w.grownBy w' v.ownBlock → ((Value.slice A' (xs.length + 1) c').ownBlock = v.ownBlock ∨ (Value.slice A' (xs.length + 1) c').ownBlock = some w.heap.size) → K (a.put o.dst (.slice A' (xs.length + 1) c')) w') :
    o.wp P a w K Q := by
  obtain ⟨i0, hi, hzz⟩ := Option.map_eq_some_iff.1 hinfo
  simp only [Prod.mk.injEq] at hzz
  obtain ⟨hz0, hz1, hz2⟩ := hzz
  obtain ⟨v', w', hr, h2, h3, h4⟩ := run_push (P := P) B t o.type e i0 z bytes ht hi hz0 hz1 hz2 hzs v xs HO ad c y hc h1 hl hl2 hB
  obtain ⟨A', c', rfl⟩ := h2.slice
  rw [List.length_append, List.length_singleton] at hr h2 h4
  unfold Oper.wp execOp
  simp only [ho, resolve, invoke, builtin, Sem.run_bind, Sem.run_pure, Result.andThen_ok, List.map_toArray, List.map_cons, List.map_nil, hs, hx, hr]
  exact h A' c' w' h2 h3 h4
theorem wpList_push (hgd : o.guard = none) (B : Nat) (s x : Operand) (t e : TypeId) (z : Value) (bytes : Nat)
    (ho : o.op = .call { callee := .builtin .append, args := #[s, x], argTypes := #[t, t] })
    (ht : P.underlying t = some (.slice e)) (hinfo : (P.info? e).map (fun i => (i.zero, i.size, i.bytes)) = some (some z, 1, bytes)) (hzs : z.cells.size = 1)
    (v : Value) (xs : List Value) (y : Value) (ad : Addr) (c : Nat) (hs : a.eval s = v) (hx : a.eval x = .slice (some ad) 1 c) (hc : w.cell? ad = some y) (h1 : y.oneCell' = true)
    (HO : RowX w B e v xs) (hl : xs.length + 1 ≤ maxLen) (hl2 : (xs.length + 1) * bytes ≤ 140737488355328) (hB : B ≤ w.heap.size)
    (h : ∀ A' c' w', RowX w' B e (.slice A' (xs.length + 1) c') (xs ++ [y]) → w.grownBy w' v.ownBlock → ((Value.slice A' (xs.length + 1) c').ownBlock = v.ownBlock ∨ (Value.slice A' (xs.length + 1) c').ownBlock = some w.heap.size) → wpList P ops Q rest (a.put o.dst (.slice A' (xs.length + 1) c')) w') :
    wpList P ops Q (o :: rest) a w :=
  wpList_plain hgd fun _ hK => wp_push B s x t e z bytes ho ht hinfo hzs v xs y ad c hs hx hc h1 HO hl hl2 hB fun A' c' w' h2 h3 h4 => hK _ _ (h A' c' w' h2 h3 h4)
theorem wp_push2 (B : Nat) (s x : Operand) (t e : TypeId) (z : Value) (bytes : Nat)
    (ho : o.op = .call { callee := .builtin .append, args := #[s, x], argTypes := #[t, t] })
    (ht : P.underlying t = some (.slice e)) (hinfo : (P.info? e).map (fun i => (i.zero, i.size, i.bytes)) = some (some z, 1, bytes)) (hzs : z.cells.size = 1)
    (v : Value) (xs : List Value) (y : Value) (ad : Addr) (c : Nat) (hs : a.eval s = v) (hx : a.eval x = .slice (some ad) 1 c) (hc : w.cell? ad = some y) (h1 : y.oneCell' = true)
    (HO : RowX w B e v xs) (hl : xs.length + 1 ≤ maxLen) (hl2 : (xs.length + 1) * bytes ≤ 140737488355328) (hB : B ≤ w.heap.size)
    (h : ∀ A' c' w', RowX w' B e (.slice A' (xs.length + 1) c') (xs ++ [y]) → w.grownBy w' v.ownBlock → ((Value.slice A' (xs.length + 1) c').ownBlock = v.ownBlock ∨ (Value.slice A' (xs.length + 1) c').ownBlock = some w.heap.size) → RowX w' B e v xs → K (a.put o.dst (.slice A' (xs.length + 1) c')) w') :
    o.wp P a w K Q := by
  obtain ⟨i0, hi, hzz⟩ := Option.map_eq_some_iff.1 hinfo
  simp only [Prod.mk.injEq] at hzz
  obtain ⟨hz0, hz1, hz2⟩ := hzz
  obtain ⟨v', w', hr, h2, h3, h4, h5⟩ := run_push2 (P := P) B t o.type e i0 z bytes ht hi hz0 hz1 hz2 hzs v xs HO ad c y hc h1 hl hl2 hB
  obtain ⟨A', c', rfl⟩ := h2.slice
  rw [List.length_append, List.length_singleton] at hr h2 h4
  unfold Oper.wp execOp
  simp only [ho, resolve, invoke, builtin, Sem.run_bind, Sem.run_pure, Result.andThen_ok, List.map_toArray, List.map_cons, List.map_nil, hs, hx, hr]
  exact h A' c' w' h2 h3 h4 h5
theorem wpList_push2 (hgd : o.guard = none) (B : Nat) (s x : Operand) (t e : TypeId) (z : Value) (bytes : Nat)
    (ho : o.op = .call { callee := .builtin .append, args := #[s, x], argTypes := #[t, t] })
    (ht : P.underlying t = some (.slice e)) (hinfo : (P.info? e).map (fun i => (i.zero, i.size, i.bytes)) = some (some z, 1, bytes)) (hzs : z.cells.size = 1)
    (v : Value) (xs : List Value) (y : Value) (ad : Addr) (c : Nat) (hs : a.eval s = v) (hx : a.eval x = .slice (some ad) 1 c) (hc : w.cell? ad = some y) (h1 : y.oneCell' = true)
    (HO : RowX w B e v xs) (hl : xs.length + 1 ≤ maxLen) (hl2 : (xs.length + 1) * bytes ≤ 140737488355328) (hB : B ≤ w.heap.size)
    (h : ∀ A' c' w', RowX w' B e (.slice A' (xs.length + 1) c') (xs ++ [y]) → w.grownBy w' v.ownBlock → ((Value.slice A' (xs.length + 1) c').ownBlock = v.ownBlock ∨ (Value.slice A' (xs.length + 1) c').ownBlock = some w.heap.size) → RowX w' B e v xs → wpList P ops Q rest (a.put o.dst (.slice A' (xs.length + 1) c')) w') :
    wpList P ops Q (o :: rest) a w :=
  wpList_plain hgd fun _ hK => wp_push2 B s x t e z bytes ho ht hinfo hzs v xs y ad c hs hx hc h1 HO hl hl2 hB fun A' c' w' h2 h3 h4 h5 => hK _ _ (h A' c' w' h2 h3 h4 h5)
theorem step_push {E : Prop} (hgd : o.guard = none) (B : Nat) (s x : Operand) (t e : TypeId) (z : Value) (bytes : Nat)
    (ho : o.op = .call { callee := .builtin .append, args := #[s, x], argTypes := #[t, t] })
    (ht : P.underlying t = some (.slice e)) (hinfo : (P.info? e).map (fun i => (i.zero, i.size, i.bytes)) = some (some z, 1, bytes)) (hzs : z.cells.size = 1)
    (v : Value) (xs : List Value) (y : Value) (ad : Addr) (c : Nat) (hs : a.eval s = v) (hx : a.eval x = .slice (some ad) 1 c) (hc : w.cell? ad = some y) (h1 : y.oneCell' = true)
    (HO : RowX w B e v xs) (hl : xs.length + 1 ≤ maxLen) (hl2 : (xs.length + 1) * bytes ≤ 140737488355328) (hB : B ≤ w.heap.size)
    (h : ∀ A' c' w', RowX w' B e (.slice A' (xs.length + 1) c') (xs ++ [y]) → w.grownBy w' v.ownBlock → ((Value.slice A' (xs.length + 1) c').ownBlock = v.ownBlock ∨ (Value.slice A' (xs.length + 1) c').ownBlock = some w.heap.size) → K (a.put o.dst (.slice A' (xs.length + 1) c')) w') :
    if Region.wanted o (yielded ops a.tmps) = true then Oper.wp P o a w K Q else E := by
  have hw : Region.wanted o (yielded ops a.tmps) = true := by simp [Region.wanted, hgd]
  rw [if_pos hw]
  exact wp_push B s x t e z bytes ho ht hinfo hzs v xs y ad c hs hx hc h1 HO hl hl2 hB h
end
end Go.Proofs.Ytlmnfnkjbgnklaa.Run
