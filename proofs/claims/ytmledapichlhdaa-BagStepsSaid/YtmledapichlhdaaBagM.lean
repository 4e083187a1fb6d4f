/- The program's bag: how it lies in memory; its key; New, Len, Count, add. -/
import Derived.Test.YtmledapichlhdaaBagS
import Derived.Test.YtmledapichlhdaaMapE
import Derived.Test.YtmledapichlhdaaProg
import Derived.Test.YtmledapichlhdaaWMore
import Derived.Laws.StructEq
import Derived.Lib.Walk
import Derived.Outline
set_option linter.unusedVariables false
set_option linter.unusedSimpArgs false
namespace Go.Proofs.Ytmledapichlhdaa.Bag
open Go.RowKit Go.Proofs.YtmledapichlhdaaW.PrintWords Go.Proofs.YtmledapichlhdaaW.PrintLast Go.Proofs.YtmledapichlhdaaW.PrintMore Go.Proofs.Ytmledapichlhdaa.Maps Go.Proofs.Ytmledapichlhdaa.BagS
def mcells (m : Msg) : List Value := [.int .i64 m.1, .int .i64 m.2.1, .string m.2.2]
def mv (m : Msg) : Value := .agg #[.int .i64 m.1, .int .i64 m.2.1, .string m.2.2]
theorem text_eq (a b : ByteArray) : a.toList = b.toList ↔ a = b := by
  constructor
  · intro h
    rw [Go.Lib.toList_data, Go.Lib.toList_data] at h
    exact ByteArray.ext (Array.toList_inj.mp h)
  · intro h
    rw [h]
theorem eq_msg (x y : Msg) (w : World) : (Op.equal 30 (mv x) (mv y)).run Try.prog w = .ok (decide (x = y)) w := by
  have u3 := Try.underlying3
  have u9 := Try.underlying9
  have a3 := Try.isAgg3
  have a9 := Try.isAgg9
  have z3 := Try.sizeOf3
  have z9 := Try.sizeOf9
  have hS : Try.prog.underlying 30 = some (.struct (Try.prog.fieldsOf 30)) := by kernel_rfl
  have hp : Try.prog.stoodInHeld 30 = false := by kernel_rfl
  show (Op.equalIn (9999 + 1) 30 (mv x) (mv y)).run Try.prog w = _
  unfold mv
  rw [run_equalIn_agg w 9999 30 _ _ hS hp]
  simp only [Program.fieldsOf, Try.underlying30]
  go_simp
  obtain ⟨x1, x2, x3⟩ := x
  obtain ⟨y1, y2, y3⟩ := y
  have ht := text_eq x3 y3
  by_cases h1 : x1 = y1 <;> by_cases h2 : x2 = y2 <;> by_cases h3 : x3 = y3 <;> simp [h1, h2, h3, ht]
theorem part_int (xs : Array Value) (o : Nat) (x : Int) (h : xs[o]? = some (.int .i64 x)) (w : World) : (part 3 xs o).run Try.prog w = .ok (.int .i64 x) w := by
  simp [part, go_sem, Try.underlying3, h]
theorem part_str (xs : Array Value) (o : Nat) (x : ByteArray) (h : xs[o]? = some (.string x)) (w : World) : (part 9 xs o).run Try.prog w = .ok (.string x) w := by
  simp [part, go_sem, Try.underlying9, h]
theorem check_int (e : Bool) (n : Nat) (x : Int) (w : World) : (Instr.checkKey e (n + 1) 3 (.int .i64 x)).run Try.prog w = .ok () w := by
  unfold Instr.checkKey
  simp [run_underlying Try.underlying3, Result.andThen]
theorem check_str (e : Bool) (n : Nat) (x : ByteArray) (w : World) : (Instr.checkKey e (n + 1) 9 (.string x)).run Try.prog w = .ok () w := by
  unfold Instr.checkKey
  simp [run_underlying Try.underlying9, Result.andThen]
theorem check_msg (e : Bool) (n : Nat) (x : Msg) (w : World) : (Instr.checkKey e (n + 2) 30 (mv x)).run Try.prog w = .ok () w := by
  unfold mv
  have c1 := check_int e n x.1 w
  have c2 := check_int e n x.2.1 w
  have c3 := check_str e n x.2.2 w
  have p1 := part_int #[.int .i64 x.1, .int .i64 x.2.1, .string x.2.2] 0 x.1 rfl w
  have p2 := part_int #[.int .i64 x.1, .int .i64 x.2.1, .string x.2.2] 1 x.2.1 rfl w
  have p3 := part_str #[.int .i64 x.1, .int .i64 x.2.1, .string x.2.2] 2 x.2.2 rfl w
  rw [Instr.checkKey]
  simp [run_underlying Try.underlying30, p1, p2, p3, c1, c2, c3, Result.andThen]
theorem keyLaw : KeyLaw Try.prog 30 mv where
  check := fun e w k => check_msg e 9998 k w
  find := fun w k es l h => by
    unfold Instr.findKey
    simp only [Sem.run_bind, run_underlying Try.underlying30, Result.andThen]
    cases es with
    | nil =>
      cases l with
      | nil => simp [Instr.findNow, at_]
      | cons p l => simp at h
    | cons e es =>
      have := findAsking_run (kv := mv) (fun w x y => eq_msg x y w) w k (e :: es) l 0 h
      simp only [mv, Instr.findNow, Instr.sameNow] at this ⊢
      exact this
  stays := fun w k => by simp [mv, Instr.keyThatStays, Instr.sameBits]
structure Fr (w w' : World) (f : Nat → Prop) : Prop where
  os : w'.os = w.os
  tape : w'.tape = w.tape
  output : w'.output = w.output
  size : w.heap.size ≤ w'.heap.size
  block : ∀ k, k < w.heap.size → ¬ f k → w'.heap[k]? = w.heap[k]?
theorem Fr.refl (w : World) (f : Nat → Prop) : Fr w w f := ⟨rfl, rfl, rfl, Nat.le_refl _, fun _ _ _ => rfl⟩
theorem Fr.of_below {w w' : World} (h : Below w.heap.size w w') (f : Nat → Prop) : Fr w w' f := ⟨h.os, h.tape, h.output, h.size, fun k hk _ => h.block k hk⟩
theorem Fr.trans {w w1 w' : World} {f : Nat → Prop} (h : Fr w w1 f) {g : Nat → Prop} (k : Fr w1 w' g) (hg : ∀ i, g i → f i ∨ w.heap.size ≤ i) : Fr w w' f :=
  ⟨k.os.trans h.os, k.tape.trans h.tape, k.output.trans h.output, Nat.le_trans h.size k.size, fun i hi hn => (k.block i (Nat.lt_of_lt_of_le hi h.size) (fun hgi => by
    rcases hg i hgi with h2 | h2
    · exact hn h2
    · omega)).trans (h.block i hi hn)⟩
theorem Fr.below {B : Nat} {W w w' : World} {f : Nat → Prop} (hW : Below B W w) (h : Fr w w' f) (hf : ∀ k, f k → B ≤ k) (hB : B ≤ w.heap.size) : Below B W w' :=
  ⟨h.os.trans hW.os, h.tape.trans hW.tape, h.output.trans hW.output, Nat.le_trans hW.size h.size, fun i hi => (h.block i (by omega) (fun hk => by have := hf i hk; omega)).trans (hW.block i hi)⟩
theorem Fr.of_grown {w w' : World} {b : Nat} (h : w.grownBy w' (some b)) : Fr w w' (fun k => k = b) := ⟨h.os, h.tape, h.output, h.size, fun k hk hn => h.block k hk (by simpa using hn)⟩
theorem fr_set1 (w : World) (g i : Nat) (u : Value) : Fr w (w.setCell ⟨g, i, none⟩ u) (fun k => k = g) := ⟨rfl, rfl, rfl, by simp [World.setCell], fun k _ hk => Below.heap_setCell w ⟨g, i, none⟩ u k (fun e => hk e)⟩
def ptr (b : Nat) : Value := .pointer (some ⟨b, 0, none⟩)
/-- How often each is there. -/
def cnt (L : List Msg) : Msg → Option Value := fun x => if L.count x = 0 then none else some (.int .i64 (L.count x : Int))
structure BIs (B : Nat) (w : World) (bb mb : Nat) (n : Int) (L : List Msg) : Prop where
  blk : w.heap[bb]? = some (.cells #[.int .i64 n, .int .i64 (L.length : Int), .map (some mb)] 61 (0, 0))
  map : MapF w mv mb (cnt L)
  ok : Ok L
  bb : B ≤ bb
  bm : B ≤ mb
def fp (bb mb : Nat) (k : Nat) : Prop := k = bb ∨ k = mb
section
variable {B : Nat} {w w' : World} {bb mb : Nat} {n : Int} {L : List Msg} {f : Nat → Prop}
theorem BIs.ne (h : BIs B w bb mb n L) : bb ≠ mb := by
  rintro rfl
  obtain ⟨es, clock, l, h1, _⟩ := h.map
  rw [h.blk] at h1
  cases h1
theorem BIs.step (h : BIs B w bb mb n L) (hb : ∀ k, fp bb mb k → w'.heap[k]? = w.heap[k]?) : BIs B w' bb mb n L := ⟨(hb bb (.inl rfl)).trans h.blk, h.map.of_block (hb mb (.inr rfl)), h.ok, h.bb, h.bm⟩
theorem BIs.lt (h : BIs B w bb mb n L) {k : Nat} (hk : fp bb mb k) : k < w.heap.size := by
  rcases hk with rfl | rfl
  · exact blk_lt h.blk
  · exact h.map.lt
theorem BIs.ge (h : BIs B w bb mb n L) {k : Nat} (hk : fp bb mb k) : B ≤ k := by
  rcases hk with rfl | rfl
  · exact h.bb
  · exact h.bm
theorem BIs.below (h : BIs B w bb mb n L) (hb : Below w.heap.size w w') : BIs B w' bb mb n L := h.step fun k hk => hb.block k (h.lt hk)
theorem BIs.fr (h : BIs B w bb mb n L) (hf : Fr w w' f) (hd : ∀ k, fp bb mb k → ¬ f k) : BIs B w' bb mb n L := h.step fun k hk => hf.block k (h.lt hk) (hd k hk)
theorem BIs.c0 (h : BIs B w bb mb n L) : w.cell? ⟨bb, 0, none⟩ = some (.int .i64 n) := (blk_cell h.blk 0).trans rfl
theorem BIs.c1 (h : BIs B w bb mb n L) : w.cell? ⟨bb, 1, none⟩ = some (.int .i64 (L.length : Int)) := (blk_cell h.blk 1).trans rfl
theorem BIs.c2 (h : BIs B w bb mb n L) : w.cell? ⟨bb, 2, none⟩ = some (.map (some mb)) := (blk_cell h.blk 2).trans rfl
end
theorem cnt_nil : cnt [] = fun _ => none := by funext x; simp [cnt]
theorem cnt_ins (L : List Msg) (m : Msg) : cnt (ins L m) = fput (cnt L) m (.int .i64 ((L.count m : Int) + 1)) := by
  funext x
  unfold cnt fput
  rw [ins_count]
  by_cases h : m = x
  · subst h
    rw [if_pos rfl, if_neg (by omega), if_pos rfl]
    rfl
  · rw [if_neg h, if_neg h, Nat.add_zero]
theorem cnt_get (L : List Msg) (m : Msg) : (cnt L m).getD (.int .i64 0) = .int .i64 (L.count m : Int) := by
  unfold cnt
  by_cases h : L.count m = 0
  · rw [if_pos h, h]; rfl
  · rw [if_neg h]; rfl
theorem zero_int (w : World) : (zeroValue 3).run Try.prog w = .ok (.int .i64 0) w := by simp [Try.zeroValue3, go_sem]
section
variable {B : Nat} {w : World} {bb mb : Nat} {n : Int} {L : List Msg}
set_option maxHeartbeats 800000 in
set_option maxRecDepth 100000 in
theorem new_no (n : Int) (w : World) (h : n < 1 ∨ 7 < n) : Calls Try.prog 8 #[.int .i64 n] w fun e w' => e = .returned (.tuple #[.pointer none, .int .i64 1]) ∧ Below w.heap.size w w' := by
  have hb : decide (n < 1) = true ∨ (decide (n < 1) = false ∧ decide (n > 7) = true) := by simp; omega
  clear h
  rcases hb with b1 | ⟨b1, b2⟩
  all_goals
    go_enter Try.func8, Try.ntmps8
    go_wp2_with fail
    go_ret2
    exact ⟨rfl, Below.refl _ _⟩
set_option maxHeartbeats 800000 in
set_option maxRecDepth 100000 in
theorem new_yes (n : Int) (w : World) (B : Nat) (hB : B ≤ w.heap.size) (h1 : 1 ≤ n) (h2 : n ≤ 7) : Calls Try.prog 8 #[.int .i64 n] w fun e w' => ∃ bb mb, e = .returned (.tuple #[ptr bb, .int .i64 0]) ∧ BIs B w' bb mb n [] ∧ Below w.heap.size w w' ∧ (∀ k, fp bb mb k → w.heap.size ≤ k) := by
  have hmm := @run_makeMap Try.prog
  have hu := Try.underlying61
  have b1 : decide (n < 1) = false := decide_eq_false (by omega)
  have b2 : decide (n > 7) = false := decide_eq_false (by omega)
  unfold ptr
  clear h1 h2
  go_enter Try.func8, Try.ntmps8
  go_wp2_with fail
  go_ret2
  refine ⟨w.heap.size + 1, w.heap.size, rfl, ⟨?_, ?_, Ok.nil, by omega, hB⟩, below_alloc (below_alloc (Below.refl _ _) _) _, fun k hk => by rcases hk with rfl | rfl <;> omega⟩
  · simpa using blk_new (w.alloc (.map #[] 0)) (.cells #[.int .i64 n, .int .i64 0, .map (some w.heap.size)] 61)
  · rw [cnt_nil]
    exact (MapF.made w).of_block (Below.heap_alloc (w.alloc (.map #[] 0)) _ w.heap.size (by simp))
set_option maxHeartbeats 800000 in
set_option maxRecDepth 100000 in
theorem len_calls (h : BIs B w bb mb n L) : Calls Try.prog 12 #[ptr bb] w fun e w' => e = .returned (.int .i64 (L.length : Int)) ∧ w' = w := by
  have hup := Try.underlying23
  have hu := Try.underlying61
  have c1 := h.c1
  clear h
  unfold ptr
  go_enter Try.func12, Try.ntmps12
  go_wp2_with fail
  go_ret
  exact ⟨rfl, rfl⟩
set_option maxHeartbeats 1600000 in
set_option maxRecDepth 100000 in
theorem count_calls (h : BIs B w bb mb n L) (m : Msg) : Calls Try.prog 13 #[ptr bb, mv m] w fun e w' => e = .returned (.int .i64 (L.count m : Int)) ∧ Below w.heap.size w w' := by
  have hup := Try.underlying23
  have hu := Try.underlying61
  have hum := Try.underlying30
  have hb1 := below_alloc (Below.refl w.heap.size w) (.cells #[.int .i64 m.1, .int .i64 m.2.1, .string m.2.2] 30)
  have P := blk_new w (.cells #[.int .i64 m.1, .int .i64 m.2.1, .string m.2.2] 30)
  have H1 := h.below hb1
  have c2 := H1.c2
  have d0 := (blk_cell P 0).trans (Eq.refl (some (Value.int .i64 m.1)))
  have d1 := (blk_cell P 1).trans (Eq.refl (some (Value.int .i64 m.2.1)))
  have d2 := (blk_cell P 2).trans (Eq.refl (some (Value.string m.2.2)))
  have hlk := (H1.map.of_block (w' := (w.alloc (.cells #[.int .i64 m.1, .int .i64 m.2.1, .string m.2.2] 30)).drew) rfl).lookup keyLaw Try.underlying59 (zero_int _) m
  rw [cnt_get] at hlk
  have HB := Aside0.mk (below_drew1 hb1)
  clear h H1 P hb1
  unfold ptr mv at *
  go_enter Try.func13, Try.ntmps13
  go_wp2_with fail
  go_region
  all_goals
    go_wp2_with fail
    go_ret
    exact ⟨rfl, HB.out⟩
def APost (B bb mb : Nat) (n : Int) (w : World) (r : List Msg × Int) (e : Ending) (w' : World) : Prop := e = .returned (.int .i64 r.2) ∧ BIs B w' bb mb n r.1 ∧ Fr w w' (fp bb mb)
set_option maxHeartbeats 1600000 in
set_option maxRecDepth 100000 in
theorem add_full (h : BIs B w bb mb n L) (m : Msg) (hf : 1024 ≤ L.length) : Calls Try.prog 27 #[ptr bb, mv m] w (APost B bb mb n w (L, 5)) := by
  have hup := Try.underlying23
  have hu := Try.underlying61
  have hb1 := below_alloc (Below.refl w.heap.size w) (.cells #[.int .i64 m.1, .int .i64 m.2.1, .string m.2.2] 30)
  have H1 := Aside0.mk (h.below hb1)
  have HB := Aside0.mk hb1
  have c1 := H1.out.c1
  have b1 : ((L.length : Int) == 1024) = true := by have := h.ok.len; simp; omega
  clear h hb1 hf
  unfold ptr mv
  go_enter Try.func27, Try.ntmps27
  go_wp2_with fail
  go_ret
  exact ⟨rfl, H1.out, Fr.of_below HB.out _⟩
set_option maxHeartbeats 6400000 in
set_option maxRecDepth 100000 in
theorem add_room (h : BIs B w bb mb n L) (m : Msg) (hf : L.length < 1024) : Calls Try.prog 27 #[ptr bb, mv m] w (APost B bb mb n w (ins L m, 0)) := by
  have hup := Try.underlying23
  have hu := Try.underlying61
  have hum := Try.underlying30
  have hb1 := below_alloc (Below.refl w.heap.size w) (.cells #[.int .i64 m.1, .int .i64 m.2.1, .string m.2.2] 30)
  obtain ⟨W1, hW1⟩ : ∃ W1, W1 = w.alloc (.cells #[.int .i64 m.1, .int .i64 m.2.1, .string m.2.2] 30) := ⟨_, rfl⟩
  have P := blk_new w (.cells #[.int .i64 m.1, .int .i64 m.2.1, .string m.2.2] 30)
  rw [← hW1] at hb1 P
  have H1 := h.below hb1
  have hne : w.heap.size ≠ mb := fun e => by have := h.map.lt; omega
  obtain ⟨w1, st, he, hm1, hg1, hs1, hst⟩ := (H1.map.of_block (w' := W1.drew) rfl).entry keyLaw Try.underlying59 (zero_int _) m
  rw [cnt_get] at he hm1
  obtain ⟨w2, hs, hm2, hg2, hs2⟩ := hst w1 rfl (.int .i64 ((L.count m : Int) + 1))
  have hl1 := (H1.map.of_block (w' := W1.drew) rfl).lookup keyLaw Try.underlying59 (zero_int _) m
  rw [cnt_get] at hl1
  have hl2 := hm1.lookup keyLaw Try.underlying59 (zero_int _) m
  have hfp : (fput (cnt L) m (.int .i64 (L.count m : Int)) m).getD (.int .i64 0) = .int .i64 (L.count m : Int) := by unfold fput; rw [if_pos rfl]; rfl
  rw [hfp] at hl2
  have P1 : w1.heap[w.heap.size]? = some (.cells #[.int .i64 m.1, .int .i64 m.2.1, .string m.2.2] 30 (0, 0)) := (hg1.block w.heap.size (blk_lt (blk_drew P)) (by simpa using hne)).trans P
  have Q1 : w1.heap[bb]? = some (.cells #[.int .i64 n, .int .i64 (L.length : Int), .map (some mb)] 61 (0, 0)) := (hg1.block bb (blk_lt (blk_drew H1.blk)) (by simpa using H1.ne)).trans H1.blk
  have Q2 : w2.heap[bb]? = some (.cells #[.int .i64 n, .int .i64 (L.length : Int), .map (some mb)] 61 (0, 0)) := (hg2.block bb (blk_lt Q1) (by simpa using H1.ne)).trans Q1
  have hq : L.count m ≤ L.length := List.count_le_length
  have wr1 : wrap64 ((L.count m : Int) + 1) = (L.count m : Int) + 1 := by unfold wrap64; omega
  have wr2 : wrap64 ((L.length : Int) + 1) = (L.length : Int) + 1 := by unfold wrap64; omega
  have b1 : ((L.length : Int) == 1024) = false := by simp; omega
  have HP : Aside0 (BIs B (w2.setCell ⟨bb, 1, none⟩ (.int .i64 ((L.length : Int) + 1))) bb mb n (ins L m) ∧ Fr w (w2.setCell ⟨bb, 1, none⟩ (.int .i64 ((L.length : Int) + 1))) (fp bb mb)) := ⟨by
    refine ⟨⟨?_, ?_, ⟨ins_sorted m h.ok.srt, by rw [ins_len]; omega⟩, h.bb, h.bm⟩, ?_⟩
    · rw [ins_len]
      exact blk_put Q2 1 (.int .i64 ((L.length : Int) + 1)) (by simp)
    · rw [cnt_ins]
      exact hm2.of_block (Below.heap_setCell w2 ⟨bb, 1, none⟩ _ mb (fun e => h.ne e.symm))
    · exact ((((Fr.of_below hb1 _).trans (Fr.of_below (w' := W1.drew) (below_drew1 (Below.refl _ _)) (fun _ => False)) (fun _ h => h.elim)).trans (Fr.of_grown hg1) (fun k hk => .inl (.inr hk))).trans (Fr.of_grown hg2) (fun k hk => .inl (.inr hk))).trans (fr_set1 w2 bb 1 _) (fun k hk => .inl (.inl hk))⟩
  have c1 := H1.c1
  have c2 := H1.c2
  have d0 := (blk_cell P 0).trans (Eq.refl (some (Value.int .i64 m.1)))
  have d1 := (blk_cell P 1).trans (Eq.refl (some (Value.int .i64 m.2.1)))
  have d2 := (blk_cell P 2).trans (Eq.refl (some (Value.string m.2.2)))
  have e0 := (blk_cell P1 0).trans (Eq.refl (some (Value.int .i64 m.1)))
  have e1 := (blk_cell P1 1).trans (Eq.refl (some (Value.int .i64 m.2.1)))
  have e2 := (blk_cell P1 2).trans (Eq.refl (some (Value.string m.2.2)))
  have k2 := (blk_cell Q1 2).trans (Eq.refl (some (Value.map (some mb))))
  have g1 := (blk_cell Q2 1).trans (Eq.refl (some (Value.int .i64 (L.length : Int))))
  have gf := blk_frozen Q2 1
  clear h hf H1 hm1 hm2 hg1 hg2 hs1 hs2 hst hfp P P1 Q1 Q2 hb1 hq hne
  unfold ptr mv at *
  go_enter Try.func27, Try.ntmps27
  go_upto_region 1 with fail
  rw [← hW1]
  clear hW1
  go_wp2_with fail
  go_region
  all_goals
    go_wp2_with fail
    go_ret
    exact ⟨rfl, HP.out.1, HP.out.2⟩
theorem add_calls (h : BIs B w bb mb n L) (m : Msg) : Calls Try.prog 27 #[ptr bb, mv m] w (APost B bb mb n w (addS L m)) := by
  unfold addS
  by_cases hf : 1024 ≤ L.length
  · rw [if_pos hf]; exact add_full h m hf
  · rw [if_neg hf]; exact add_room h m (by omega)
end
end Go.Proofs.Ytmledapichlhdaa.Bag
