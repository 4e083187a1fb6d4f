/- The document's bag: how it lies in memory; New, ahead, add, Put, Count. -/
import Derived.Test.YtmledapichlhdaaBagX
import Derived.Test.YtmledapichlhdaaRBagS
set_option linter.unusedVariables false
set_option linter.unusedSimpArgs false
namespace Go.Proofs.Ytmledapichlhdaa.Bag
open Go.RowKit Go.Proofs.YtmledapichlhdaaW.PrintWords Go.Proofs.YtmledapichlhdaaW.PrintLast Go.Proofs.YtmledapichlhdaaW.PrintMore Go.Proofs.Ytmledapichlhdaa.Maps Go.Proofs.Ytmledapichlhdaa.BagS
theorem one_cells (x : Msg) : ∀ u ∈ enc x, u.oneCell' = true := by
  intro u hu
  unfold enc at hu
  simp at hu
  rcases hu with rfl | rfl | rfl <;> rfl
theorem msg_iff (x m : Msg) : x = m ↔ x.1 = m.1 ∧ x.2.1 = m.2.1 ∧ x.2.2.toList = m.2.2.toList := by
  obtain ⟨x1, x2, x3⟩ := x
  obtain ⟨m1, m2, m3⟩ := m
  simp only [Prod.mk.injEq]
  rw [text_eq]
theorem eq_rmsg (x y : Msg) (w : World) : (Op.equalIn 10000 43 (.agg #[.int .i64 x.1, .int .i64 x.2.1, .string x.2.2]) (.agg #[.int .i64 y.1, .int .i64 y.2.1, .string y.2.2])).run Try.prog w = .ok (decide (x = y)) w := by
  have u3 := Try.underlying3
  have u9 := Try.underlying9
  have a3 := Try.isAgg3
  have a9 := Try.isAgg9
  have z3 := Try.sizeOf3
  have z9 := Try.sizeOf9
  have hS : Try.prog.underlying 43 = some (.struct (Try.prog.fieldsOf 43)) := by kernel_rfl
  have hp : Try.prog.stoodInHeld 43 = false := by kernel_rfl
  show (Op.equalIn (9999 + 1) 43 _ _).run Try.prog w = _
  rw [run_equalIn_agg w 9999 43 _ _ hS hp]
  simp only [Program.fieldsOf, Try.underlying43]
  go_simp
  obtain ⟨x1, x2, x3⟩ := x
  obtain ⟨y1, y2, y3⟩ := y
  have ht := text_eq x3 y3
  by_cases h1 : x1 = y1 <;> by_cases h2 : x2 = y2 <;> by_cases h3 : x3 = y3 <;> simp [h1, h2, h3, ht]
theorem info_rmsg : (Try.prog.info? 43).map (fun i => (i.zero, i.size, i.bytes)) = some (some (.agg #[.int .i64 0, .int .i64 0, .string ⟨#[]⟩]), 3, 32) := by kernel_rfl
theorem rrow_at {base : Nat} {v : Value} {l : List Msg} {W : World} {A : Option Addr} {k c : Nat} (h : W.ownsRow base 43 3 (.slice A k c) l.length (flat l)) {i : Nat} {x : Msg} (hx : l[i]? = some x) :
    ∃ g, A = some ⟨g, 0, none⟩ ∧ W.cell? ⟨g, i * 3, none⟩ = some (.int .i64 x.1) ∧ W.cell? ⟨g, i * 3 + 1, none⟩ = some (.int .i64 x.2.1) ∧ W.cell? ⟨g, i * 3 + 2, none⟩ = some (.string x.2.2) := by
  have hi : i < l.length := (List.getElem?_eq_some_iff.1 hx).1
  rcases h.2 with ⟨h1, h2⟩ | ⟨g, cap, cur, h1, hb, hg, h3, h4, h5, h6⟩
  · omega
  · simp only [Value.slice.injEq] at h1
    refine ⟨g, h1.1, ?_⟩
    have key : ∀ q, q < 3 → W.cell? ⟨g, i * 3 + q, none⟩ = (enc x)[q]? := fun q hq => by
      rw [blk_cell hg, ← flat_at l i q x hx hq, ← h6, List.getElem?_take_of_lt (by omega), Array.getElem?_toList]
    exact ⟨key 0 (by omega), key 1 (by omega), key 2 (by omega)⟩
/-- A row's own block: where it lies. -/
theorem own_ge {w : World} {b : Nat} {e : TypeId} {size : Nat} {v : Value} {n : Nat} {xs : List Value} (h : w.ownsRow b e size v n xs) {k : Nat} (hk : v.ownBlock = some k) : b ≤ k := by
  rcases h.2 with ⟨q1, q2⟩ | ⟨g, cap, cur, hv, hg, hgk, rest⟩
  · rw [q1] at hk; cases hk
  · rw [hv] at hk
    have : g = k := by simpa [Value.ownBlock] using hk
    omega
theorem own_lt2 {w : World} {b : Nat} {e : TypeId} {size : Nat} {v : Value} {n : Nat} {xs : List Value} (h : w.ownsRow b e size v n xs) {k : Nat} (hk : v.ownBlock = some k) : k < w.heap.size := by
  rcases h.2 with ⟨q1, q2⟩ | ⟨g, cap, cur, hv, hg, hgk, rest⟩
  · rw [q1] at hk; cases hk
  · rw [hv] at hk
    have : g = k := by simpa [Value.ownBlock] using hk
    subst this
    exact blk_lt hgk
/-- The document's bag at rb, its row v. -/
structure RIs (B : Nat) (w : World) (rb : Nat) (v : Value) (n : Int) (L : List Msg) : Prop where
  blk : w.heap[rb]? = some (.cells #[.int .i64 n, v] 54 (0, 0))
  row : w.ownsRow B 43 3 v L.length (flat L)
  ok : Ok L
  bd : B ≤ rb
/-- What a step of it leaves. -/
def RPost (B rb : Nat) (v : Value) (n : Int) (w : World) (L' : List Msg) (w' : World) : Prop := ∃ v', RIs B w' rb v' n L' ∧ Fr w w' (fun k => k = rb) ∧ ∀ k, v'.ownBlock = some k → v.ownBlock = some k ∨ w.heap.size ≤ k
section
variable {B rb : Nat} {w w' : World} {v : Value} {n : Int} {L : List Msg}
theorem RIs.below (h : RIs B w rb v n L) (hb : Below w.heap.size w w') : RIs B w' rb v n L := ⟨blk_below h.blk hb, own_below h.row hb, h.ok, h.bd⟩
theorem RIs.c0 (h : RIs B w rb v n L) : w.cell? ⟨rb, 0, none⟩ = some (.int .i64 n) := (blk_cell h.blk 0).trans rfl
theorem RIs.c1 (h : RIs B w rb v n L) : w.cell? ⟨rb, 1, none⟩ = some v := (blk_cell h.blk 1).trans rfl
theorem RIs.slice (h : RIs B w rb v n L) : ∃ A c, v = .slice A L.length c := own_slice h.row
theorem RIs.stay (h : RIs B w rb v n L) (hb : Below w.heap.size w w') : RPost B rb v n w L w' := ⟨v, h.below hb, Fr.of_below hb _, fun k hk => .inl hk⟩
/-- A new row is laid in. -/
theorem RIs.set (h : RIs B w rb v n L) {base : Nat} (hbase : rb < base) {u : Value} {M : List Msg} (hr : w.ownsRow base 43 3 u M.length (flat M)) (hok : Ok M) : RIs B (w.setCell ⟨rb, 1, none⟩ u) rb u n M :=
  ⟨blk_put h.blk 1 u (by simp), own_mono (own_of_block hr fun k hk => Below.heap_setCell w ⟨rb, 1, none⟩ u k (fun e => by have := own_ge hr hk; have e : k = rb := e; omega)) (Nat.le_trans h.bd (Nat.le_of_lt hbase)), hok, h.bd⟩
theorem rset {W : World} (h : RIs B W rb v n L) {base : Nat} (hbase : W.heap.size ≤ base) (hb : Below W.heap.size W w) {u : Value} {M : List Msg} (hr : w.ownsRow base 43 3 u M.length (flat M)) (hok : Ok M) : RPost B rb v n W M (w.setCell ⟨rb, 1, none⟩ u) :=
  ⟨u, (h.below hb).set (Nat.lt_of_lt_of_le (blk_lt h.blk) hbase) hr hok, (Fr.of_below hb _).trans (fr_set1 w rb 1 u) (fun k hk => .inl hk), fun k hk => .inr (Nat.le_trans hbase (own_ge hr hk))⟩
set_option maxHeartbeats 800000 in
set_option maxRecDepth 100000 in
theorem rnew_no (n : Int) (w : World) (h : n < 1 ∨ 7 < n) : Calls Try.prog 14 #[.int .i64 n] w fun e w' => e = .returned (.tuple #[.pointer none, .int .i64 1]) ∧ Below w.heap.size w w' := by
  have hb : decide (n < 1) = true ∨ (decide (n < 1) = false ∧ decide (n > 7) = true) := by simp; omega
  clear h
  rcases hb with b1 | ⟨b1, b2⟩
  all_goals
    go_enter Try.func14, Try.ntmps14
    go_wp2_with fail
    go_ret2
    exact ⟨rfl, Below.refl _ _⟩
set_option maxHeartbeats 800000 in
set_option maxRecDepth 100000 in
theorem rnew_yes (n : Int) (w : World) (B : Nat) (hB : B ≤ w.heap.size) (h1 : 1 ≤ n) (h2 : n ≤ 7) : Calls Try.prog 14 #[.int .i64 n] w fun e w' => ∃ rb, e = .returned (.tuple #[ptr rb, .int .i64 0]) ∧ RIs B w' rb (.slice none 0 0) n [] ∧ Below w.heap.size w w' ∧ w.heap.size ≤ rb := by
  have hu := Try.underlying54
  have b1 : decide (n < 1) = false := decide_eq_false (by omega)
  have b2 : decide (n > 7) = false := decide_eq_false (by omega)
  unfold ptr
  clear h1 h2
  go_enter Try.func14, Try.ntmps14
  go_wp2_with fail
  go_ret2
  exact ⟨w.heap.size, rfl, ⟨blk_new w _, own_nil _ _ _ _, Ok.nil, hB⟩, below_alloc (Below.refl _ _) _, Nat.le_refl _⟩
set_option maxHeartbeats 1600000 in
set_option maxRecDepth 100000 in
theorem ahead_calls (a b : Msg) (w : World) : Calls Try.prog 41 #[mv a, mv b] w fun e w' => e = .returned (.bool (lt a b)) ∧ Below w.heap.size w w' := by
  have hum := Try.underlying43
  obtain ⟨W2, hW2⟩ : ∃ W2, W2 = (w.alloc (.cells #[.int .i64 a.1, .int .i64 a.2.1, .string a.2.2] 43)).alloc (.cells #[.int .i64 b.1, .int .i64 b.2.1, .string b.2.2] 43) := ⟨_, rfl⟩
  have HB : Aside0 (Below w.heap.size w W2) := ⟨by rw [hW2]; exact below_alloc (below_alloc (Below.refl _ _) _) _⟩
  have P1 : W2.heap[w.heap.size]? = some (.cells #[.int .i64 a.1, .int .i64 a.2.1, .string a.2.2] 43 (0, 0)) := by rw [hW2]; exact blk_alloc (blk_new w _) _
  have P2 : W2.heap[w.heap.size + 1]? = some (.cells #[.int .i64 b.1, .int .i64 b.2.1, .string b.2.2] 43 (0, 0)) := by
    rw [hW2]
    have := blk_new (w.alloc (.cells #[.int .i64 a.1, .int .i64 a.2.1, .string a.2.2] 43)) (.cells #[.int .i64 b.1, .int .i64 b.2.1, .string b.2.2] 43)
    simpa using this
  have a0 := (blk_cell P1 0).trans (Eq.refl (some (Value.int .i64 a.1)))
  have a1 := (blk_cell P1 1).trans (Eq.refl (some (Value.int .i64 a.2.1)))
  have a2 := (blk_cell P1 2).trans (Eq.refl (some (Value.string a.2.2)))
  have d0 := (blk_cell P2 0).trans (Eq.refl (some (Value.int .i64 b.1)))
  have d1 := (blk_cell P2 1).trans (Eq.refl (some (Value.int .i64 b.2.1)))
  have d2 := (blk_cell P2 2).trans (Eq.refl (some (Value.string b.2.2)))
  have HL := Aside0.mk (@lt_to a b)
  have HL2 := Aside0.mk (@lt_from a b)
  have HL3 := Aside0.mk (@lt_text a b)
  clear P1 P2
  generalize lt a b = r at HL HL2 HL3 ⊢
  unfold mv
  go_enter Try.func41, Try.ntmps41
  go_upto_region 1 with fail
  rw [← hW2]
  clear hW2
  rcases Bool.eq_false_or_eq_true (a.2.1 == b.2.1) with k1 | k1
  · have e1 : Aside0 (a.2.1 = b.2.1) := ⟨by simpa using k1⟩
    rcases Bool.eq_false_or_eq_true (a.1 == b.1) with k2 | k2
    · have e2 : Aside0 (a.1 = b.1) := ⟨by simpa using k2⟩
      go_wp2_with fail
      go_ret
      exact ⟨by rw [HL3.out e1.out e2.out]; rfl, HB.out⟩
    · have e2 : Aside0 (a.1 ≠ b.1) := ⟨by simpa using k2⟩
      go_wp2_with fail
      go_ret
      exact ⟨by rw [HL2.out e1.out e2.out]; rfl, HB.out⟩
  · have e1 : Aside0 (a.2.1 ≠ b.2.1) := ⟨by simpa using k1⟩
    go_wp2_with fail
    go_ret
    exact ⟨by rw [HL.out e1.out]; rfl, HB.out⟩
end
end Go.Proofs.Ytmledapichlhdaa.Bag
