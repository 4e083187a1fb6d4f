/- The table's contracts, second part: Begin and Done. -/
import Derived.Test.YtjjbikpjkbdabaaTab
set_option linter.unusedVariables false
set_option linter.unusedSimpArgs false
namespace Go.Proofs.Ytjjbikpjkbdabaa.Tab
open Go.RowKit Go.Proofs.YtjjbikpjkbdabaaW.PrintWords Go.Proofs.YtjjbikpjkbdabaaW.PrintLast Go.Proofs.YtjjbikpjkbdabaaW.PrintMore Go.Proofs.Ytjjbikpjkbdabaa.Maps Go.Proofs.Ytjjbikpjkbdabaa.TabS

def BeginPost (B tb mb : Nat) (bs : List (Int × Nat)) (w : World) (a : T × Int) (e : Ending) (w' : World) : Prop :=
  ∃ bs', e = .returned (.int .i64 a.2) ∧ TabIs B w' tb mb bs' a.1 ∧ Fr w w' (fp tb mb bs) ∧ ∀ k, fp tb mb bs' k → fp tb mb bs k ∨ w.heap.size ≤ k
section
variable {B tb mb : Nat} {bs : List (Int × Nat)} {m : T} {c r : Int} {w : World}
theorem BeginPost.same {y : Int} {w' : World} (h : TabIs B w tb mb bs m) (hb : Below w.heap.size w w') : BeginPost B tb mb bs w (m, y) (.returned (.int .i64 y)) w' :=
  ⟨bs, rfl, h.below hb, Fr.of_below hb _, fun k hk => .inl hk⟩
set_option maxHeartbeats 2000000 in
set_option maxRecDepth 100000 in
theorem begin_err (h : TabIs B w tb mb bs m) (hBw : B ≤ w.heap.size) (hy : (tAsk m c r).2.2 ≠ 0) : Calls Try.prog 9 #[ptr tb, .int .i64 c, .int .i64 r] w (BeginPost B tb mb bs w (m, (tAsk m c r).2.2)) := by
  have hu := Try.underlying29
  have H : Aside0 (TabIs B w tb mb bs m) := .mk h
  have HA := Aside0.mk (ask_calls (c := c) (r := r) h hBw)
  clear h
  generalize tAsk m c r = a at HA hy ⊢
  obtain ⟨x, s, y⟩ := a
  have b1 : (y != 0) = true := by simpa using hy
  dsimp only at HA ⊢
  clear hy
  go_enter Try.func9, Try.ntmps9
  go_wp2_with fail
  refine HA.out.mono ?_
  rintro e w1 ⟨A, c', rfl, hn, hb⟩
  dsimp only
  unfold vres
  have P3 := Aside0.mk hb
  clear hn hb
  go_wp2_with fail
  go_ret
  exact BeginPost.same H.out (below_alloc P3.out _)
set_option maxHeartbeats 2000000 in
set_option maxRecDepth 100000 in
theorem begin_state (h : TabIs B w tb mb bs m) (hBw : B ≤ w.heap.size) (hy : (tAsk m c r).2.2 = 0) (hx : (tAsk m c r).1 ≠ 1) : Calls Try.prog 9 #[ptr tb, .int .i64 c, .int .i64 r] w (BeginPost B tb mb bs w (m, 7)) := by
  have hu := Try.underlying29
  have H : Aside0 (TabIs B w tb mb bs m) := .mk h
  have HA := Aside0.mk (ask_calls (c := c) (r := r) h hBw)
  clear h
  generalize tAsk m c r = a at HA hy hx
  obtain ⟨x, s, y⟩ := a
  obtain rfl : y = 0 := hy
  have b1 : (x != 1) = true := by simpa using hx
  clear hx
  go_enter Try.func9, Try.ntmps9
  go_wp2_with fail
  refine HA.out.mono ?_
  rintro e w1 ⟨A, c', rfl, hn, hb⟩
  dsimp only
  unfold vres
  have P3 := Aside0.mk hb
  clear hn hb
  go_wp2_with fail
  go_ret
  exact BeginPost.same H.out (below_alloc P3.out _)
set_option maxHeartbeats 2000000 in
set_option maxRecDepth 100000 in
theorem begin_full (h : TabIs B w tb mb bs m) (hBw : B ≤ w.heap.size) (hy : (tAsk m c r).2.2 = 0) (hx : (tAsk m c r).1 = 1) (hk : mget bs c = none) (hl : m.length = 256) : Calls Try.prog 9 #[ptr tb, .int .i64 c, .int .i64 r] w (BeginPost B tb mb bs w (m, 5)) := by
  have hu := Try.underlying29
  have hut := Try.underlying23
  have hup := Try.underlying61
  have hus := Try.underlying60
  have H : Aside0 (TabIs B w tb mb bs m) := .mk h
  have HA := Aside0.mk (ask_calls (c := c) (r := r) h hBw)
  have HT : Aside0 (w.heap[tb]? = some (.cells #[.map (some mb)] 60 (0, 0))) := .mk h.tab
  clear h
  generalize tAsk m c r = a at HA hy hx
  obtain ⟨x, s, y⟩ := a
  obtain rfl : y = 0 := hy
  obtain rfl : x = 1 := hx
  unfold ptr at *
  go_enter Try.func9, Try.ntmps9
  go_wp2_with fail
  refine HA.out.mono ?_
  rintro e w1 ⟨A, c', rfl, hn, hb⟩
  dsimp only
  unfold vres
  have P3 := Aside0.mk hb
  clear hn hb
  go_wp2_with fail
  have hB := below_alloc P3.out (.cells #[.int .i64 s.e, .string s.d, .int .i64 s.k, .int .i64 s.l, .int .i64 s.s, .slice A s.n.length c'] 29)
  generalize hw2 : w1.alloc (.cells #[.int .i64 s.e, .string s.d, .int .i64 s.k, .int .i64 s.l, .int .i64 s.s, .slice A s.n.length c'] 29) = w2 at hB ⊢
  refine (at_calls B tb mb bs m c _ (H.out.below hB)).mono ?_
  rintro e w3 ⟨rfl, rfl⟩
  rw [hk]
  have h3 := (H.out.below hB).map.len (P := Try.prog) Try.underlying58 3
  rw [List.length_map, H.out.len, hl] at h3
  have h4 := (blk_cell (blk_below HT.out hB) 0).trans rfl
  have HB := Aside0.mk hB
  clear hB hw2
  go_wp2_with fail
  go_ret
  exact BeginPost.same H.out HB.out
theorem keys_mput {β γ : Type} (c : Int) (v : β) (u : γ) : ∀ (bs : List (Int × β)) (m : List (Int × γ)), bs.map (·.1) = m.map (·.1) → (mput bs c v).map (·.1) = (mput m c u).map (·.1)
  | [], [], _ => rfl
  | [], _ :: _, h => by simp at h
  | _ :: _, [], h => by simp at h
  | p :: bs, q :: m, h => by
    simp only [List.map_cons, List.cons.injEq] at h
    simp only [mput]
    by_cases e : q.1 = c
    · rw [if_pos (h.1.trans e), if_pos e]; simp [h.2]
    · rw [if_neg (by rw [h.1]; exact e), if_neg e]; simp [h.1, keys_mput c v u bs m h.2]
def kobj (r : Int) : Obj := .cells #[.int .i64 r, .bool false, .int .i64 0, .string ⟨#[]⟩, .int .i64 0, .int .i64 0, .int .i64 0, .slice none 0 0] 64
theorem TabIs.put (h : TabIs B w tb mb bs m) (hB : B ≤ w.heap.size) {w' : World} (hm : MapIs w' (Value.int .i64) mb (mput (bs.map fun p => (p.1, ptr p.2)) c (ptr w.heap.size))) (hg : (w.alloc (kobj r)).grownBy w' (some mb)) :
    TabIs B w' tb mb (mput bs c w.heap.size) (mput m c ⟨r, false, zero⟩) ∧ Fr w w' (fp tb mb bs) ∧ ∀ k, fp tb mb (mput bs c w.heap.size) k → fp tb mb bs k ∨ w.heap.size ≤ k := by
  have hsz : (w.alloc (kobj r)).heap.size = w.heap.size + 1 := by simp
  have hmb : ∀ k, k < w.heap.size → k ≠ mb → w'.heap[k]? = w.heap[k]? := fun k hk hne => (hg.block k (by omega) (by simpa using hne)).trans (Below.heap_alloc w _ k hk)
  have hokk : ∀ k, ok B w k → k < w.heap.size → w'.heap[k]? = w.heap[k]? := fun k hk hlt => hmb k hlt (fun e => h.not_ok (.inr (.inl e)) hk)
  have hmlt := h.map.lt
  refine ⟨⟨?_, ?_, keys_mput c _ _ bs m h.keys, ?_, ?_, h.baseT, h.baseM, ?_⟩, ⟨?_, ?_, ?_, ?_, ?_⟩, ?_⟩
  · refine (hmb tb (blk_lt h.tab) (fun e => ?_)).trans h.tab
    obtain ⟨es, clock, h1, _⟩ := h.map
    have := h.tab
    rw [e, h1] at this
    simp at this
  · rw [mput_map] at hm; exact hm
  · intro c' kb hc
    rw [mget_mput] at hc ⊢
    by_cases e : c = c'
    · rw [if_pos e] at hc ⊢
      obtain rfl := Option.some.inj hc
      refine ⟨_, rfl, none, 0, ?_, Names.nil _ _⟩
      exact (hg.block w.heap.size (by omega) (by simp; omega)).trans (blk_new w (kobj r))
    · rw [if_neg e] at hc ⊢
      obtain ⟨k, h1, h2⟩ := h.read c' kb hc
      refine ⟨k, h1, ?_⟩
      have h3 := h2
      obtain ⟨A, c2, h4, _⟩ := h3
      refine h2.step (hmb kb (blk_lt h4) (fun e => ?_)) hokk
      obtain ⟨es, clock, h5, _⟩ := h.map
      rw [e, h5] at h4
      simp at h4
  · intro c1 c2 kb h1 h2
    rw [mget_mput] at h1 h2
    have old : ∀ c', mget bs c' = some kb → kb < w.heap.size := fun c' hc => by
      obtain ⟨k, _, A, c2, h4, _⟩ := h.read c' kb hc
      exact blk_lt h4
    by_cases e1 : c = c1
    · rw [if_pos e1] at h1
      obtain rfl := Option.some.inj h1
      by_cases e2 : c = c2
      · exact e1.symm.trans e2
      · rw [if_neg e2] at h2
        have := old c2 h2
        omega
    · rw [if_neg e1] at h1
      by_cases e2 : c = c2
      · rw [if_pos e2] at h2
        obtain rfl := Option.some.inj h2
        have := old c1 h1
        omega
      · rw [if_neg e2] at h2
        exact h.inj c1 c2 kb h1 h2
  · intro c' kb hc
    rw [mget_mput] at hc
    by_cases e : c = c'
    · rw [if_pos e] at hc
      obtain rfl := Option.some.inj hc
      exact hB
    · rw [if_neg e] at hc
      exact h.baseK c' kb hc
  · exact hg.os
  · exact hg.tape
  · exact hg.output
  · have := hg.size; omega
  · intro k hk hn
    exact hmb k hk (fun e => hn (.inr (.inl e)))
  · intro k hk
    rcases hk with hk | hk | ⟨c', hk⟩
    · exact .inl (.inl hk)
    · exact .inl (.inr (.inl hk))
    · rw [mget_mput] at hk
      by_cases e : c = c'
      · rw [if_pos e] at hk
        obtain rfl := Option.some.inj hk
        exact .inr (Nat.le_refl _)
      · rw [if_neg e] at hk
        exact .inl (.inr (.inr ⟨c', hk⟩))
set_option maxHeartbeats 2000000 in
set_option maxRecDepth 100000 in
theorem begin_put0 (h : TabIs B w tb mb bs m) (hBw : B ≤ w.heap.size) (hy : (tAsk m c r).2.2 = 0) (hx : (tAsk m c r).1 = 1) (hk : mget bs c = none) (hl : m.length ≠ 256) : Calls Try.prog 9 #[ptr tb, .int .i64 c, .int .i64 r] w (BeginPost B tb mb bs w (mput m c ⟨r, false, zero⟩, 0)) := by
  have hu := Try.underlying29
  have hut := Try.underlying23
  have hup := Try.underlying61
  have hus := Try.underlying60
  have huk := Try.underlying64
  have H : Aside0 (TabIs B w tb mb bs m) := .mk h
  have HA := Aside0.mk (ask_calls (c := c) (r := r) h hBw)
  have HT : Aside0 (w.heap[tb]? = some (.cells #[.map (some mb)] 60 (0, 0))) := .mk h.tab
  clear h
  generalize tAsk m c r = a at HA hy hx
  obtain ⟨x, s, y⟩ := a
  obtain rfl : y = 0 := hy
  obtain rfl : x = 1 := hx
  unfold ptr at *
  go_enter Try.func9, Try.ntmps9
  go_wp2_with fail
  refine HA.out.mono ?_
  rintro e w1 ⟨A, c', rfl, hn, hb⟩
  dsimp only
  unfold vres
  have P3 := Aside0.mk hb
  clear hn hb
  go_wp2_with fail
  have hB := below_alloc P3.out (.cells #[.int .i64 s.e, .string s.d, .int .i64 s.k, .int .i64 s.l, .int .i64 s.s, .slice A s.n.length c'] 29)
  generalize hw2 : w1.alloc (.cells #[.int .i64 s.e, .string s.d, .int .i64 s.k, .int .i64 s.l, .int .i64 s.s, .slice A s.n.length c'] 29) = w2 at hB ⊢
  refine (at_calls B tb mb bs m c _ (H.out.below hB)).mono ?_
  rintro e w3 ⟨rfl, rfl⟩
  rw [hk]
  have h3 := (H.out.below hB).map.len (P := Try.prog) Try.underlying58 3
  rw [List.length_map, H.out.len] at h3
  have h4 := (blk_cell (blk_below HT.out hB) 0).trans rfl
  have b5 : ((m.length : Int) == 256) = false := by simpa using (by omega : ¬ (m.length : Int) = 256)
  have HB := Aside0.mk hB
  clear hB hw2
  generalize (m.length : Int) = L at h3 b5
  go_wp2_with (at_mapUpdate; refine wpList_update _ rfl _ _ _ _ rfl (KeyLaw.int Try.underlying3) Try.underlying58 rfl ((H.out.below HB.out).map.of_block (Below.heap_alloc _ _ _ (H.out.below HB.out).map.lt)) c rfl _ rfl ?_)
  intro w4 hm4 hg4 hs4
  go_wp2_with fail
  go_ret
  have hP := (H.out.below HB.out).put (r := r) (c := c) (Nat.le_trans hBw HB.out.size) hm4 hg4
  exact ⟨_, rfl, hP.1, (Fr.of_below HB.out (fp tb mb bs)).trans hP.2.1 (fun i hi => .inl hi), fun k hk => (hP.2.2 k hk).imp_right (fun hle => Nat.le_trans HB.out.size hle)⟩
set_option maxHeartbeats 2000000 in
set_option maxRecDepth 100000 in
theorem begin_put1 (h : TabIs B w tb mb bs m) (hBw : B ≤ w.heap.size) (hy : (tAsk m c r).2.2 = 0) (hx : (tAsk m c r).1 = 1) {kb : Nat} (hk : mget bs c = some kb) : Calls Try.prog 9 #[ptr tb, .int .i64 c, .int .i64 r] w (BeginPost B tb mb bs w (mput m c ⟨r, false, zero⟩, 0)) := by
  have hu := Try.underlying29
  have hut := Try.underlying23
  have hup := Try.underlying61
  have hus := Try.underlying60
  have huk := Try.underlying64
  have H : Aside0 (TabIs B w tb mb bs m) := .mk h
  have HA := Aside0.mk (ask_calls (c := c) (r := r) h hBw)
  have HT : Aside0 (w.heap[tb]? = some (.cells #[.map (some mb)] 60 (0, 0))) := .mk h.tab
  clear h
  generalize tAsk m c r = a at HA hy hx
  obtain ⟨x, s, y⟩ := a
  obtain rfl : y = 0 := hy
  obtain rfl : x = 1 := hx
  unfold ptr at *
  go_enter Try.func9, Try.ntmps9
  go_wp2_with fail
  refine HA.out.mono ?_
  rintro e w1 ⟨A, c', rfl, hn, hb⟩
  dsimp only
  unfold vres
  have P3 := Aside0.mk hb
  clear hn hb
  go_wp2_with fail
  have hB := below_alloc P3.out (.cells #[.int .i64 s.e, .string s.d, .int .i64 s.k, .int .i64 s.l, .int .i64 s.s, .slice A s.n.length c'] 29)
  generalize hw2 : w1.alloc (.cells #[.int .i64 s.e, .string s.d, .int .i64 s.k, .int .i64 s.l, .int .i64 s.s, .slice A s.n.length c'] 29) = w2 at hB ⊢
  refine (at_calls B tb mb bs m c _ (H.out.below hB)).mono ?_
  rintro e w3 ⟨rfl, rfl⟩
  rw [hk]
  have h4 := (blk_cell (blk_below HT.out hB) 0).trans rfl
  have HB := Aside0.mk hB
  clear hB hw2
  go_wp2_with (at_mapUpdate; refine wpList_update _ rfl _ _ _ _ rfl (KeyLaw.int Try.underlying3) Try.underlying58 rfl ((H.out.below HB.out).map.of_block (Below.heap_alloc _ _ _ (H.out.below HB.out).map.lt)) c rfl _ rfl ?_)
  intro w4 hm4 hg4 hs4
  go_wp2_with fail
  go_ret
  have hP := (H.out.below HB.out).put (r := r) (c := c) (Nat.le_trans hBw HB.out.size) hm4 hg4
  exact ⟨_, rfl, hP.1, (Fr.of_below HB.out (fp tb mb bs)).trans hP.2.1 (fun i hi => .inl hi), fun k hk => (hP.2.2 k hk).imp_right (fun hle => Nat.le_trans HB.out.size hle)⟩
theorem begin_calls (h : TabIs B w tb mb bs m) (hBw : B ≤ w.heap.size) : Calls Try.prog 9 #[ptr tb, .int .i64 c, .int .i64 r] w (BeginPost B tb mb bs w (tBegin m c r)) := by
  unfold tBegin
  by_cases hy : (tAsk m c r).2.2 = 0
  · rw [if_pos hy]
    by_cases hx : (tAsk m c r).1 = 1
    · rw [if_pos hx]
      cases hk : mget bs c with
      | none =>
        by_cases hl : m.length = 256
        · rw [if_pos ⟨(h.look_none c).1 hk, hl⟩]; exact begin_full h hBw hy hx hk hl
        · rw [if_neg (fun q => hl q.2)]; exact begin_put0 h hBw hy hx hk hl
      | some kb =>
        rw [if_neg (fun q => by have := (h.look_none c).2 q.1; rw [hk] at this; simp at this)]
        exact begin_put1 h hBw hy hx hk
    · rw [if_neg hx]; exact begin_state h hBw hy hx
  · rw [if_neg hy]; exact begin_err h hBw hy
end
end Go.Proofs.Ytjjbikpjkbdabaa.Tab
