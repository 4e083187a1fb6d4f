/- The program's cache: how it lies in memory; New, right, at, use. -/
import Derived.Test.YtikefafpkclgeaaCacheS
import Derived.Test.YtikefafpkclgeaaProg
import Derived.Test.YtikefafpkclgeaaWMore
import Derived.Lib.Walk
import Derived.Outline
set_option linter.unusedVariables false
set_option linter.unusedSimpArgs false
namespace Go.Proofs.Ytikefafpkclgeaa.Cache
open Go.RowKit Go.Proofs.YtikefafpkclgeaaW.PrintWords Go.Proofs.YtikefafpkclgeaaW.PrintLast Go.Proofs.YtikefafpkclgeaaW.PrintMore Go.Proofs.Ytikefafpkclgeaa.Maps Go.Proofs.Ytikefafpkclgeaa.CacheS
structure Fr (w w' : World) (f : Nat → Prop) : Prop where
  os : w'.os = w.os
  tape : w'.tape = w.tape
  output : w'.output = w.output
  size : w.heap.size ≤ w'.heap.size
  block : ∀ k, k < w.heap.size → ¬ f k → w'.heap[k]? = w.heap[k]?
theorem Fr.refl (w : World) (f : Nat → Prop) : Fr w w f := ⟨rfl, rfl, rfl, Nat.le_refl _, fun _ _ _ => rfl⟩
theorem Fr.of_below {w w' : World} (h : Below w.heap.size w w') (f : Nat → Prop) : Fr w w' f := ⟨h.os, h.tape, h.output, h.size, fun k hk _ => h.block k hk⟩
theorem Fr.trans {w w1 w' : World} {f : Nat → Prop} (h : Fr w w1 f) {g : Nat → Prop} (k : Fr w1 w' g) (hg : ∀ i, g i → f i ∨ w.heap.size ≤ i) : Fr w w' f :=
  ⟨k.os.trans h.os, k.tape.trans h.tape, k.output.trans h.output, Nat.le_trans h.size k.size, fun i hi hn => (k.block i (Nat.lt_of_lt_of_le hi h.size) (fun hgi => by
    rcases hg i hgi with h2 | h2
    · exact hn h2
    · omega)).trans (h.block i hi hn)⟩
theorem Fr.below {B : Nat} {W w w' : World} {f : Nat → Prop} (hW : Below B W w) (h : Fr w w' f) (hf : ∀ k, f k → B ≤ k) (hB : B ≤ w.heap.size) : Below B W w' :=
  ⟨h.os.trans hW.os, h.tape.trans hW.tape, h.output.trans hW.output, Nat.le_trans hW.size h.size, fun i hi => (h.block i (by omega) (fun hk => by have := hf i hk; omega)).trans (hW.block i hi)⟩
theorem Fr.of_grown {w w' : World} {b : Nat} (h : w.grownBy w' (some b)) : Fr w w' (fun k => k = b) := ⟨h.os, h.tape, h.output, h.size, fun k hk hn => h.block k hk (by simpa using hn)⟩
theorem fr_set1 (w : World) (g i : Nat) (u : Value) : Fr w (w.setCell ⟨g, i, none⟩ u) (fun k => k = g) := ⟨rfl, rfl, rfl, by simp [World.setCell], fun k _ hk => Below.heap_setCell w ⟨g, i, none⟩ u k (fun e => hk e)⟩
def ptr (b : Nat) : Value := .pointer (some ⟨b, 0, none⟩)
def cells (e : Ent) : Array Value := #[.int .i64 e.p, .int .i64 e.u, .string e.d, .bool e.y]
def look (E : List Ent) (k : Int) : Value := match fnd Ent.b E k with
  | none => .pointer none
  | some e => ptr e.a
/-- The blocks that are held, in memory: in whatever order. -/
structure HIs (B : Nat) (w : World) (mb : Nat) (E : List Ent) : Prop where
  map : ∃ g, MapF w (Value.int .i64) mb g ∧ (∀ e ∈ E, g e.b = some (ptr e.a)) ∧ ∀ k, (∀ e ∈ E, e.b ≠ k) → g k = none
  cel : ∀ e ∈ E, w.heap[e.a]? = some (.cells (cells e) 65 (0, 0))
  nb : (E.map Ent.b).Nodup
  na : (E.map Ent.a).Nodup
  far : ∀ e ∈ E, B ≤ e.a
  bm : B ≤ mb
  len : E.length ≤ 64
  rng : ∀ e ∈ E, 0 ≤ e.b ∧ e.b < 1024
structure CIs (B : Nat) (w : World) (cb mb : Nat) (fr ck : Int) (T : Nat) (E : List Ent) : Prop where
  blk : w.heap[cb]? = some (.cells #[.int .i64 fr, .int .i64 ck, .map (some mb)] 57 (0, 0))
  hel : HIs B w mb E
  ord : E.Pairwise fun x y => x.u < y.u
  clk : ∀ e ∈ E, e.u ≤ ck
  bc : B ≤ cb
  ckT : 0 ≤ ck ∧ ck ≤ T
  pT : ∀ e ∈ E, 0 ≤ e.p ∧ e.p ≤ T
  cap : (E.length : Int) ≤ fr
  frr : fr ≤ 64
def fp (cb mb : Nat) (E : List Ent) (k : Nat) : Prop := k = cb ∨ k = mb ∨ ∃ e ∈ E, e.a = k
section
variable {B : Nat} {w w' : World} {cb mb : Nat} {fr ck : Int} {T : Nat} {E E' : List Ent}
theorem HIs.perm (h : HIs B w mb E) (hp : E'.Perm E) : HIs B w mb E' := by
  obtain ⟨g, h1, h2, h3⟩ := h.map
  exact ⟨⟨g, h1, fun e he => h2 e (hp.mem_iff.1 he), fun k hk => h3 k fun e he => hk e (hp.mem_iff.2 he)⟩, fun e he => h.cel e (hp.mem_iff.1 he), (hp.map _).nodup_iff.2 h.nb, (hp.map _).nodup_iff.2 h.na, fun e he => h.far e (hp.mem_iff.1 he), h.bm, by rw [hp.length_eq]; exact h.len, fun e he => h.rng e (hp.mem_iff.1 he)⟩
theorem HIs.step (h : HIs B w mb E) (hm : w'.heap[mb]? = w.heap[mb]?) (he : ∀ e ∈ E, w'.heap[e.a]? = w.heap[e.a]?) : HIs B w' mb E := by
  obtain ⟨g, h1, h2, h3⟩ := h.map
  exact ⟨⟨g, h1.of_block hm, h2, h3⟩, fun e hm => (he e hm).trans (h.cel e hm), h.nb, h.na, h.far, h.bm, h.len, h.rng⟩
theorem HIs.lt (h : HIs B w mb E) {e : Ent} (he : e ∈ E) : e.a < w.heap.size := blk_lt (h.cel e he)
theorem HIs.mlt (h : HIs B w mb E) : mb < w.heap.size := by obtain ⟨g, h1, _⟩ := h.map; exact h1.lt
theorem HIs.ne (h : HIs B w mb E) {e : Ent} (he : e ∈ E) : e.a ≠ mb := by
  rintro q
  obtain ⟨g, ⟨es, clock, l, h1, _⟩, _⟩ := h.map
  have := h.cel e he
  rw [q, h1] at this
  cases this
theorem inj_a (h : (E.map Ent.a).Nodup) {x y : Ent} (hx : x ∈ E) (hy : y ∈ E) (e : x.a = y.a) : x = y := by
  obtain ⟨i, hi⟩ := List.getElem?_of_mem hx
  obtain ⟨j, hj⟩ := List.getElem?_of_mem hy
  have := nodup_at Ent.a E h i j x y hi hj e
  subst this
  rw [hi] at hj
  exact Option.some.inj hj
theorem inj_b (h : (E.map Ent.b).Nodup) {x y : Ent} (hx : x ∈ E) (hy : y ∈ E) (e : x.b = y.b) : x = y := by
  obtain ⟨i, hi⟩ := List.getElem?_of_mem hx
  obtain ⟨j, hj⟩ := List.getElem?_of_mem hy
  have := nodup_at Ent.b E h i j x y hi hj e
  subst this
  rw [hi] at hj
  exact Option.some.inj hj
/-- One is changed. -/
theorem HIs.put {P Q : List Ent} {e e' : Ent} (h : HIs B w mb (P ++ e :: Q)) (hb : e'.b = e.b) (ha : e'.a = e.a) (hm : w'.heap[mb]? = w.heap[mb]?) (he : w'.heap[e.a]? = some (.cells (cells e') 65 (0, 0))) (ho : ∀ x ∈ P ++ e :: Q, x.a ≠ e.a → w'.heap[x.a]? = w.heap[x.a]?) : HIs B w' mb (P ++ e' :: Q) := by
  obtain ⟨g, h1, h2, h3⟩ := h.map
  have hmem : ∀ x, x ∈ P ++ e' :: Q → x = e' ∨ (x ∈ P ++ e :: Q ∧ x.a ≠ e.a) := by
    intro x hx
    rcases List.mem_append.1 hx with hx | hx
    · refine .inr ⟨List.mem_append_left _ hx, fun q => ?_⟩
      have hn := h.na
      rw [List.map_append, List.map_cons, List.nodup_append] at hn
      exact hn.2.2 _ (List.mem_map_of_mem hx) _ (List.mem_cons_self ..) q
    · rcases List.mem_cons.1 hx with rfl | hx
      · exact .inl rfl
      · refine .inr ⟨List.mem_append_right _ (List.mem_cons_of_mem _ hx), fun q => ?_⟩
        have hn := h.na
        rw [List.map_append, List.map_cons, List.nodup_append, List.nodup_cons] at hn
        exact hn.2.1.1 (q ▸ List.mem_map_of_mem hx)
  have hin : e ∈ P ++ e :: Q := List.mem_append_right _ (List.mem_cons_self ..)
  have eqb : (P ++ e' :: Q).map Ent.b = (P ++ e :: Q).map Ent.b := by rw [List.map_append, List.map_cons, List.map_append, List.map_cons, hb]
  have eqa : (P ++ e' :: Q).map Ent.a = (P ++ e :: Q).map Ent.a := by rw [List.map_append, List.map_cons, List.map_append, List.map_cons, ha]
  refine ⟨⟨g, h1.of_block hm, fun x hx => ?_, fun k hk => h3 k fun x hx q => ?_⟩, fun x hx => ?_, by rw [eqb]; exact h.nb, by rw [eqa]; exact h.na, fun x hx => ?_, h.bm, by have := h.len; simpa using this, fun x hx => ?_⟩
  · rcases hmem x hx with rfl | ⟨hx, _⟩
    · rw [hb, ha]; exact h2 e hin
    · exact h2 x hx
  · have : k ∈ (P ++ e :: Q).map Ent.b := q ▸ List.mem_map_of_mem hx
    rw [← eqb] at this
    obtain ⟨y, hy, hyk⟩ := List.mem_map.1 this
    exact hk y hy hyk
  · rcases hmem x hx with rfl | ⟨hx, hne⟩
    · rw [ha]; exact he
    · exact (ho x hx hne).trans (h.cel x hx)
  · rcases hmem x hx with rfl | ⟨hx, _⟩
    · rw [ha]; exact h.far e hin
    · exact h.far x hx
  · rcases hmem x hx with rfl | ⟨hx, _⟩
    · rw [hb]; exact h.rng e hin
    · exact h.rng x hx
theorem HIs.look (h : HIs B w mb E) : ∃ g, MapF w (Value.int .i64) mb g ∧ ∀ k, (g k).getD (.pointer none) = look E k := by
  obtain ⟨g, h1, h2, h3⟩ := h.map
  refine ⟨g, h1, fun k => ?_⟩
  unfold Cache.look
  cases hf : fnd Ent.b E k with
  | none => rw [h3 k (fnd_none hf)]; rfl
  | some e =>
    obtain ⟨he, hk⟩ := fnd_mem hf
    rw [← hk, h2 e he]; rfl
theorem CIs.cne (h : CIs B w cb mb fr ck T E) {e : Ent} (he : e ∈ E) : e.a ≠ cb := by
  rintro q
  have h1 := h.hel.cel e he
  rw [q, h.blk] at h1
  have : (57 : Nat) = 65 := by injection h1 with h1; injection h1
  exact absurd this (by decide)
theorem CIs.cm (h : CIs B w cb mb fr ck T E) : cb ≠ mb := by
  rintro rfl
  obtain ⟨g, ⟨es, clock, l, h1, _⟩, _⟩ := h.hel.map
  rw [h.blk] at h1
  cases h1
theorem CIs.step (h : CIs B w cb mb fr ck T E) (hb : ∀ k, fp cb mb E k → w'.heap[k]? = w.heap[k]?) : CIs B w' cb mb fr ck T E :=
  ⟨(hb cb (.inl rfl)).trans h.blk, h.hel.step (hb mb (.inr (.inl rfl))) (fun e he => hb e.a (.inr (.inr ⟨e, he, rfl⟩))), h.ord, h.clk, h.bc, h.ckT, h.pT, h.cap, h.frr⟩
theorem CIs.lt (h : CIs B w cb mb fr ck T E) {k : Nat} (hk : fp cb mb E k) : k < w.heap.size := by
  rcases hk with rfl | rfl | ⟨e, he, rfl⟩
  · exact blk_lt h.blk
  · exact h.hel.mlt
  · exact h.hel.lt he
theorem CIs.ge (h : CIs B w cb mb fr ck T E) {k : Nat} (hk : fp cb mb E k) : B ≤ k := by
  rcases hk with rfl | rfl | ⟨e, he, rfl⟩
  · exact h.bc
  · exact h.hel.bm
  · exact h.hel.far e he
theorem CIs.below (h : CIs B w cb mb fr ck T E) (hb : Below w.heap.size w w') : CIs B w' cb mb fr ck T E := h.step fun k hk => hb.block k (h.lt hk)
theorem CIs.more (h : CIs B w cb mb fr ck T E) {T' : Nat} (hT : T ≤ T') : CIs B w cb mb fr ck T' E := ⟨h.blk, h.hel, h.ord, h.clk, h.bc, ⟨h.ckT.1, by have := h.ckT.2; omega⟩, fun e he => ⟨(h.pT e he).1, by have := (h.pT e he).2; omega⟩, h.cap, h.frr⟩
theorem CIs.c0 (h : CIs B w cb mb fr ck T E) : w.cell? ⟨cb, 0, none⟩ = some (.int .i64 fr) := (blk_cell h.blk 0).trans rfl
theorem CIs.c1 (h : CIs B w cb mb fr ck T E) : w.cell? ⟨cb, 1, none⟩ = some (.int .i64 ck) := (blk_cell h.blk 1).trans rfl
theorem CIs.c2 (h : CIs B w cb mb fr ck T E) : w.cell? ⟨cb, 2, none⟩ = some (.map (some mb)) := (blk_cell h.blk 2).trans rfl
end
theorem zero_fr (w : World) : (zeroValue 59).run Try.prog w = .ok (.pointer none) w := by simp [Try.zeroValue59, go_sem]
/-- What a step leaves: the blocks E' of the same cache. -/
def CPost (B cb mb : Nat) (fr : Int) (T : Nat) (E : List Ent) (w : World) (L' : List F) (w' : World) : Prop := ∃ E' ck', E'.map Ent.f = L' ∧ CIs B w' cb mb fr ck' T E' ∧ Fr w w' (fp cb mb E) ∧ ∀ k, fp cb mb E' k → fp cb mb E k ∨ w.heap.size ≤ k
section
variable {B : Nat} {w w' : World} {cb mb : Nat} {fr ck : Int} {T : Nat} {E E' : List Ent}
theorem CIs.stay (h : CIs B w cb mb fr ck T E) (hb : Below w.heap.size w w') : CPost B cb mb fr (T + 1) E w (E.map Ent.f) w' := ⟨E, ck, rfl, (h.below hb).more (Nat.le_succ _), Fr.of_below hb _, fun k hk => .inl hk⟩
theorem CPost.late {W : World} {L' : List F} (hb : Below W.heap.size W w) (h : CPost B cb mb fr T E w L' w') : CPost B cb mb fr T E W L' w' := by
  obtain ⟨E', ck', h1, h2, h3, h4⟩ := h
  exact ⟨E', ck', h1, h2, (Fr.of_below hb _).trans h3 (fun k hk => .inl hk), fun k hk => (h4 k hk).imp id (Nat.le_trans hb.size)⟩
theorem CPost.after {W : World} {L' : List F} (h : CPost B cb mb fr T E w L' w') (hb : Below w'.heap.size w' W) : CPost B cb mb fr T E w L' W := by
  obtain ⟨E', ck', h1, h2, h3, h4⟩ := h
  exact ⟨E', ck', h1, h2.below hb, h3.trans (Fr.of_below hb (fun _ => False)) (fun _ h => h.elim), h4⟩
set_option maxHeartbeats 800000 in
set_option maxRecDepth 100000 in
theorem new_no (n : Int) (w : World) (h : n < 1 ∨ 64 < n) : Calls Try.prog 8 #[.int .i64 n] w fun e w' => e = .returned (.tuple #[.pointer none, .int .i64 1]) ∧ Below w.heap.size w w' := by
  have hb : decide (n < 1) = true ∨ (decide (n < 1) = false ∧ decide (n > 64) = true) := by simp; omega
  clear h
  rcases hb with b1 | ⟨b1, b2⟩
  all_goals
    go_enter Try.func8, Try.ntmps8
    go_wp2_with fail
    go_ret2
    exact ⟨rfl, Below.refl _ _⟩
set_option maxHeartbeats 800000 in
set_option maxRecDepth 100000 in
theorem new_yes (n : Int) (w : World) (B : Nat) (hB : B ≤ w.heap.size) (h1 : 1 ≤ n) (h2 : n ≤ 64) : Calls Try.prog 8 #[.int .i64 n] w fun e w' => ∃ cb mb, e = .returned (.tuple #[ptr cb, .int .i64 0]) ∧ CIs B w' cb mb n 0 0 [] ∧ Below w.heap.size w w' ∧ (∀ k, fp cb mb [] k → w.heap.size ≤ k) := by
  have hmm := @run_makeMap Try.prog
  have hu := Try.underlying57
  have b1 : decide (n < 1) = false := decide_eq_false (by omega)
  have b2 : decide (n > 64) = false := decide_eq_false (by omega)
  unfold ptr
  have H1 := Aside0.mk (And.intro h1 h2)
  clear h1 h2
  go_enter Try.func8, Try.ntmps8
  go_wp2_with fail
  go_ret2
  refine ⟨w.heap.size + 1, w.heap.size, rfl, ⟨?_, ⟨⟨fun _ => none, ?_, fun e he => by simp at he, fun _ _ => rfl⟩, fun e he => by simp at he, by simp, by simp, fun e he => by simp at he, hB, by simp, fun e he => by simp at he⟩, List.Pairwise.nil, fun e he => by simp at he, by omega, ⟨by omega, by omega⟩, fun e he => by simp at he, by have := H1.out.1; simp; omega, H1.out.2⟩, below_alloc (below_alloc (Below.refl _ _) _) _, fun k hk => by rcases hk with rfl | rfl | ⟨e, he, _⟩ <;> first | omega | simp at he⟩
  · simpa using blk_new (w.alloc (.map #[] 0)) (.cells #[.int .i64 n, .int .i64 0, .map (some w.heap.size)] 57)
  · exact (MapF.made w).of_block (Below.heap_alloc (w.alloc (.map #[] 0)) _ w.heap.size (by simp))
set_option maxHeartbeats 800000 in
set_option maxRecDepth 100000 in
theorem right_calls (k : Int) (d : ByteArray) (w : World) : Calls Try.prog 25 #[.int .i64 k, .string d] w fun e w' => e = .returned (.bool (rightS k d)) ∧ w' = w := by
  have hb : (decide (k ≥ 0) = false ∧ rightS k d = false) ∨ (decide (k ≥ 0) = true ∧ decide (k < 1024) = false ∧ rightS k d = false) ∨ (decide (k ≥ 0) = true ∧ decide (k < 1024) = true ∧ ((d.size : Int) == 128) = rightS k d) := by
    unfold rightS
    by_cases h1 : 0 ≤ k
    · by_cases h2 : k < 1024
      · refine .inr (.inr ⟨decide_eq_true h1, decide_eq_true h2, ?_⟩)
        rw [decide_eq_true h1, decide_eq_true h2]
        by_cases h3 : d.size = 128
        · simp [h3]
        · simp [h3]; omega
      · exact .inr (.inl ⟨decide_eq_true h1, decide_eq_false h2, by rw [decide_eq_true h1, decide_eq_false h2]; rfl⟩)
    · exact .inl ⟨decide_eq_false h1, by rw [decide_eq_false h1]; rfl⟩
  rcases hb with ⟨b1, b2⟩ | ⟨b1, b2, b3⟩ | ⟨b1, b2, b3⟩
  · rw [b2]; clear b2
    go_enter Try.func25, Try.ntmps25
    go_wp2_with fail
    go_ret
    exact ⟨rfl, rfl⟩
  · rw [b3]; clear b3
    go_enter Try.func25, Try.ntmps25
    go_wp2_with fail
    go_ret
    exact ⟨rfl, rfl⟩
  · generalize rightS k d = r at b3 ⊢
    go_enter Try.func25, Try.ntmps25
    go_wp2_with fail
    go_ret
    exact ⟨rfl, rfl⟩
set_option maxHeartbeats 800000 in
set_option maxRecDepth 100000 in
theorem at_nil (k : Int) (w : World) : Calls Try.prog 26 #[.pointer none, .int .i64 k] w fun e w' => e = .returned (.pointer none) ∧ w' = w := by
  have hup := Try.underlying23
  go_enter Try.func26, Try.ntmps26
  go_wp2_with fail
  go_ret
  exact ⟨rfl, rfl⟩
set_option maxHeartbeats 800000 in
set_option maxRecDepth 100000 in
theorem at_calls (h : CIs B w cb mb fr ck T E) (k : Int) : Calls Try.prog 26 #[ptr cb, .int .i64 k] w fun e w' => e = .returned (look E k) ∧ w' = w := by
  have hup := Try.underlying23
  have hu := Try.underlying57
  have c2 := h.c2
  obtain ⟨g, h1, h2⟩ := h.hel.look
  have hl := h1.lookup (KeyLaw.int Try.underlying3) Try.underlying55 (zero_fr w) k
  rw [h2 k] at hl
  clear h h1 h2
  unfold ptr
  go_enter Try.func26, Try.ntmps26
  go_wp2_with fail
  go_ret
  exact ⟨rfl, rfl⟩
set_option maxHeartbeats 3200000 in
set_option maxRecDepth 100000 in
theorem use_at {a : Nat} {p u : Int} {d : ByteArray} {y : Bool} (hc : w.heap[cb]? = some (.cells #[.int .i64 fr, .int .i64 ck, .map (some mb)] 57 (0, 0))) (hfr : w.heap[a]? = some (.cells #[.int .i64 p, .int .i64 u, .string d, .bool y] 65 (0, 0))) (hne : a ≠ cb) (h0 : 0 ≤ ck) (h1 : ck ≤ 2000000) : Calls Try.prog 29 #[ptr cb, ptr a] w fun x w' => x = .returned (.tuple #[]) ∧ w'.heap[cb]? = some (.cells #[.int .i64 fr, .int .i64 (ck + 1), .map (some mb)] 57 (0, 0)) ∧ w'.heap[a]? = some (.cells #[.int .i64 p, .int .i64 (ck + 1), .string d, .bool y] 65 (0, 0)) ∧ Fr w w' (fun k => k = cb ∨ k = a) := by
  have hup := Try.underlying23
  have hu := Try.underlying57
  have hpf := Try.underlying59
  have hf := Try.underlying65
  have huu := Try.underlying63
  have c1 := (blk_cell hc 1).trans (Eq.refl (some (Value.int .i64 ck)))
  have gf := blk_frozen hc 1
  have wr1 : wrap64 (ck + 1) = ck + 1 := by unfold wrap64; omega
  have P1 : (w.setCell ⟨cb, 1, none⟩ (.int .i64 (ck + 1))).heap[cb]? = some (.cells #[.int .i64 fr, .int .i64 (ck + 1), .map (some mb)] 57 (0, 0)) := blk_put hc 1 _ (by simp)
  have P2 : (w.setCell ⟨cb, 1, none⟩ (.int .i64 (ck + 1))).heap[a]? = some (.cells #[.int .i64 p, .int .i64 u, .string d, .bool y] 65 (0, 0)) := (Below.heap_setCell w ⟨cb, 1, none⟩ _ a hne).trans hfr
  have d1 := (blk_cell P1 1).trans (Eq.refl (some (Value.int .i64 (ck + 1))))
  have e1 := (blk_cell P2 1).trans (Eq.refl (some (Value.int .i64 u)))
  have ef := blk_frozen P2 1
  have HP : Aside0 (((w.setCell ⟨cb, 1, none⟩ (.int .i64 (ck + 1))).setCell ⟨a, 1, none⟩ (.int .i64 (ck + 1))).heap[cb]? = some (.cells #[.int .i64 fr, .int .i64 (ck + 1), .map (some mb)] 57 (0, 0)) ∧ ((w.setCell ⟨cb, 1, none⟩ (.int .i64 (ck + 1))).setCell ⟨a, 1, none⟩ (.int .i64 (ck + 1))).heap[a]? = some (.cells #[.int .i64 p, .int .i64 (ck + 1), .string d, .bool y] 65 (0, 0)) ∧ Fr w ((w.setCell ⟨cb, 1, none⟩ (.int .i64 (ck + 1))).setCell ⟨a, 1, none⟩ (.int .i64 (ck + 1))) (fun k => k = cb ∨ k = a)) :=
    ⟨(Below.heap_setCell _ ⟨a, 1, none⟩ _ cb (fun q => hne q.symm)).trans P1, blk_put P2 1 _ (by simp), (((fr_set1 w cb 1 _).trans (Fr.refl _ (fun _ => False)) (fun _ h => h.elim)) |> fun q => (⟨q.os, q.tape, q.output, q.size, fun k hk hn => q.block k hk (fun z => hn (.inl z))⟩ : Fr w _ (fun k => k = cb ∨ k = a))).trans (fr_set1 _ a 1 _) (fun k hk => .inl (.inr hk))⟩
  clear hc hfr P1 P2 hne h0 h1
  unfold ptr
  go_enter Try.func29, Try.ntmps29
  go_wp2_with fail
  go_end0
  exact ⟨rfl, HP.out⟩
theorem use_calls (h : CIs B w cb mb fr ck T E) {e : Ent} (he : e ∈ E) (hT : T < 1000000) : Calls Try.prog 29 #[ptr cb, ptr e.a] w fun x w' => x = .returned (.tuple #[]) ∧ w'.heap[cb]? = some (.cells #[.int .i64 fr, .int .i64 (ck + 1), .map (some mb)] 57 (0, 0)) ∧ w'.heap[e.a]? = some (.cells #[.int .i64 e.p, .int .i64 (ck + 1), .string e.d, .bool e.y] 65 (0, 0)) ∧ Fr w w' (fun k => k = cb ∨ k = e.a) :=
  use_at h.blk (h.hel.cel e he) (h.cne he) h.ckT.1 (by have := h.ckT.2; omega)
end
end Go.Proofs.Ytikefafpkclgeaa.Cache
