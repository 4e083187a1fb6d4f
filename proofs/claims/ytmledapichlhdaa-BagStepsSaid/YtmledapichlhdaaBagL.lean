/- The keys of a bag's map, in whatever order; collected, and sorted: List. -/
import Derived.Test.YtmledapichlhdaaBagC
import Derived.RangeFuncBox
import Derived.RangeFuncLeaves
import Derived.RangeFuncNested
import Derived.RangeFuncBound
import Derived.RangeFuncCalls
import Derived.Shelf.Abstract
import Derived.WalkKit
import Derived.OwnWalkIn
import Derived.TacticsInMore
import Derived.LoopNIn
import Derived.LoopIn
import Derived.Maps.AppendAt
import Derived.Sort.OwnSortedInts
import Derived.Shelf.AbstractIn
import Derived.RangeFuncSeq
import Derived.Sort.MapsRangeIn
import Derived.RegionIn
set_option linter.unusedVariables false
set_option linter.unusedSimpArgs false
namespace Go.Proofs.Ytmledapichlhdaa.Maps
open Go.MapKept
section
variable {κ : Type} [DecidableEq κ] {kv : κ → Value} {w w' : World} {b r : Nat} {f : κ → Option Value} {left : κ → Bool} {cnt : Nat}
omit [DecidableEq κ] in
theorem nodup_len [BEq κ] [LawfulBEq κ] : ∀ (l1 l2 : List κ), l1.Nodup → (∀ x ∈ l1, x ∈ l2) → l1.length ≤ l2.length
  | [], l2, _, _ => Nat.zero_le _
  | x :: l1, l2, hn, hm => by
    rw [List.nodup_cons] at hn
    have hx := hm x (by simp)
    have ih := nodup_len l1 (l2.erase x) hn.2 fun y hy => by
      have hne : y ≠ x := fun e => hn.1 (e ▸ hy)
      exact (List.mem_erase_of_ne hne).2 (hm y (by simp [hy]))
    rw [List.length_erase_of_mem hx] at ih
    have := List.length_pos_of_mem hx
    rw [List.length_cons]
    omega
theorem Rng.of_walks (h : Rng w kv b r f left cnt) (hk : KeepsWalks w w') : Rng w' kv b r f left cnt := by
  obtain ⟨es, clock, l, since, seen, c0, h1, h2, h3, h4, h5, h6, h7⟩ := h
  exact ⟨es, clock, l, since, seen, c0, hk.same b _ h1 rfl, h2, h3, h4, h5, hk.same r _ h6 rfl, h7⟩
theorem Rng.iter_walk (h : Rng w kv b r f left cnt) : ∃ o : Obj, w.heap[r]? = some o ∧ o.isWalk = true := by
  obtain ⟨es, clock, l, since, seen, c0, h1, h2, h3, h4, h5, h6, h7⟩ := h
  exact ⟨_, h6, rfl⟩
/-- What has come. -/
structure Came (f : κ → Option Value) (left : κ → Bool) (ss : List κ) : Prop where
  nd : ss.Nodup
  mem : ∀ x, x ∈ ss ↔ ((f x).isSome = true ∧ left x = false)
omit [DecidableEq κ] in
theorem Came.start (f : κ → Option Value) : Came f (fun k => (f k).isSome) [] := ⟨List.nodup_nil, fun x => by cases (f x) <;> simp⟩
theorem Came.step {ss : List κ} (h : Came f left ss) {k : κ} {v : Value} (hl : left k = true) (hf : f k = some v) : Came f (fun x => left x && !decide (x = k)) (ss ++ [k]) := by
  refine ⟨?_, fun x => ?_⟩
  · rw [List.nodup_append]
    refine ⟨h.nd, by simp, fun a ha b hb => ?_⟩
    obtain rfl : b = k := by simpa using hb
    rintro rfl
    have := (h.mem a).1 ha
    rw [hl] at this
    exact absurd this.2 (by simp)
  · rw [List.mem_append, h.mem, List.mem_singleton]
    by_cases e : x = k
    · subst e
      simp [hf]
    · simp [e]
end
end Go.Proofs.Ytmledapichlhdaa.Maps
namespace Go.Proofs.Ytmledapichlhdaa.Bag
open Go Go.Proofs Go.RowKit Go.Shelf Go.Proofs.YtmledapichlhdaaW.PrintWords Go.Proofs.YtmledapichlhdaaW.PrintLast Go.Proofs.YtmledapichlhdaaW.PrintMore Go.Proofs.Ytmledapichlhdaa.Maps Go.Proofs.Ytmledapichlhdaa.BagS
attribute [local go_sem] Oper.semAt_some
set_option maxRecDepth 100000 in
set_option maxHeartbeats 4000000 in
theorem keys1_in (F : Fence) (n : Nat) (h7 : F.fn 38) (hro : F.round = none) (hn : 1 ≤ n) (l Bm b : Nat) (f : Msg → Option Value) (K0 : List Msg) (hK0 : ∀ x, (f x).isSome = true → x ∈ K0) (J Jx : List Msg → World → Prop)
    (hY : ∀ pre x W, J pre W → pre.length < K0.length → YieldAt F (n - 1) Try.prog l #[.agg #[.int .i64 x.1, .int .i64 x.2.1, .string x.2.2]] W fun e W' =>
      (e = .returned (.bool true) ∧ J (pre ++ [x]) W' ∧ KeepsWalks W W') ∨ (e = .returned (.bool false) ∧ Jx (pre ++ [x]) W'))
    (W : World) (hJ : AbidesFrom W.heap.size J) (hm : W.cell? ⟨Bm, 0, none⟩ = some (.map (some b))) (hown : MapF W mv b f) (h0 : J [] W) :
    CallsIn F n Try.prog 38 #[.func (.yield l) #[] #[], .pointer (some ⟨Bm, 0, none⟩)] W fun e W' => (∃ v, e = .returned v) ∧
      ((∃ ss : List Msg, (ss.Nodup ∧ ∀ x, x ∈ ss ↔ (f x).isSome = true) ∧ J ss W') ∨ (∃ pre : List Msg, True ∧ Jx pre W')) := by
  have hum := Try.underlying30
  refine callsIn_of_wp Try.func38 rfl h7 ?_ hro
  simp only [Try.ntmps38, List.size_toArray, List.length_cons, List.length_nil, Nat.reduceAdd, Nat.reduceSub, Array.replicate_succ, Array.replicate_zero, List.push_toArray, List.append_toArray, List.nil_append, List.cons_append]
  gi_wp2_with (first
    | (gi_at_range; refine wpListIn_frange _ rfl _ 59 rfl Try.underlying59 rfl hown ?_; intro w0 hrg0 hg0 hs0)
    | gi_in)
  obtain ⟨cnt0, hrg0⟩ := hrg0
  go_frame
  gi_loopw [3] (fun _ wr => ∃ (left : Msg → Bool) (cnt : Nat) (ss : List Msg), Rng wr mv b W.heap.size f left cnt ∧ Came f left ss ∧ J ss wr)
    (fun _ wr => rngLeft wr b W.heap.size)
  case atStart =>
    exact ⟨_, _, [], hrg0, Came.start f, hJ [] W w0 none h0 hg0 (fun r e => by cases e)⟩
  case round =>
    obtain ⟨left, cnt, ss, hrg, hC, hJs⟩ := hrel
    gi_wp2_with (first
      | (gi_at_next; refine wpListIn_fnext _ rfl _ rfl hrg rfl ?_ ?_)
      | gi_in)
    · -- nothing is left
      intro hl0
      gi_wp2
      go_end0
      exact ⟨⟨_, rfl⟩, .inl ⟨ss, ⟨hC.nd, fun x => by rw [hC.mem, hl0]; simp⟩, hJs⟩⟩
    · intro x1 x2 x3 c w2 cnt2 hlx hfx hrg2 hlt hg2 hs2 hen
      have hC2 := hC.step hlx hfx
      have hJ2 : J ss w2 := hJ ss wr w2 (some W.heap.size) hJs hg2 (fun r e => by cases e; exact ⟨Nat.le_refl _, hrg.iter_walk⟩)
      have hlen : ss.length < K0.length := by
        have := nodup_len (ss ++ [(x1, x2, x3)]) K0 hC2.nd (fun y hy => hK0 y ((hC2.mem y).1 hy).1)
        rw [List.length_append, List.length_singleton] at this
        omega
      have hJ3 : J ss (w2.alloc (.cells #[.int .i64 x1, .int .i64 x2, .string x3] 30)) := hJ ss w2 _ none hJ2 (World.grownBy_alloc w2 _ none) (fun r e => by cases e)
      have hrg3 : Rng (w2.alloc (.cells #[.int .i64 x1, .int .i64 x2, .string x3] 30)) mv b W.heap.size f _ cnt2 := hrg2.of_walks (KeepsWalks.alloc w2 _)
      obtain ⟨fn, tmps, assign, body, hy, hR⟩ := hY ss (x1, x2, x3) _ hJ3 hlen
      have HRg3 := Aside0.mk hrg3
      have HRg := Aside0.mk hrg
      have HRg2 := Aside0.mk hrg2
      clear hs2 hrg3 hrg hrg2 hg2 hJs hJ2 hJ3 hlen
      unfold mv at hen
      dsimp only at hen hR
      gi_wp2
      refine hR.mono ?_
      rintro e W3 (⟨rfl, hJ3, hk3⟩ | ⟨rfl, hJx3⟩)
      · gi_wp2
        have hrg3 := HRg3.out.of_walks hk3
        go_roundw
        case rel => exact ⟨_, cnt2, ss ++ [(x1, x2, x3)], hrg3, hC2, hJ3⟩
        case measure => rw [hrg3.left_eq, HRg.out.left_eq]; exact hlt
      · gi_wp2
        refine bodyPost_ret (results_none rfl _ _ _) rfl ?_
        exact ⟨⟨_, rfl⟩, .inr ⟨ss ++ [(x1, x2, x3)], trivial, hJx3⟩⟩
set_option maxHeartbeats 1000000 in
theorem keys_in (F : Fence) (n : Nat) (h5 : F.fn 29) (hro : F.round = none) (mb : Option Nat) (w : World) :
    CallsIn F n Try.prog 29 #[.map mb] w fun e w' => e = .returned (.func (.func 38) #[] #[.pointer (some ⟨w.heap.size, 0, none⟩)]) ∧ w' = w.alloc (.cells #[.map mb] 59) := by
  refine callsIn_of_wp Try.func29 rfl h5 ?_ hro
  simp only [Try.ntmps29, List.size_toArray, List.length_cons, List.length_nil, Nat.reduceAdd, Nat.reduceSub, Array.replicate_succ, Array.replicate_zero, List.push_toArray, List.append_toArray, List.nil_append, List.cons_append]
  gi_wp2
  go_ret
  exact ⟨rfl, rfl⟩
def mcs (x : Msg) : Array Value := #[.agg #[.int .i64 x.1, .int .i64 x.2.1, .string x.2.2]]
def KeysOf (f : Msg → Option Value) (ss : List Msg) : Prop := ss.Nodup ∧ ∀ x, x ∈ ss ↔ (f x).isSome = true
theorem keys_stops (F : Fence) (n : Nat) (h7 : F.fn 38) (hro : F.round = none) (hn : 1 ≤ n) (Bm b : Nat) (f : Msg → Option Value) (K0 : List Msg) (hK0 : ∀ x, (f x).isSome = true → x ∈ K0) (w : World) (hBm : Bm < w.heap.size)
    (hm : w.cell? ⟨Bm, 0, none⟩ = some (.map (some b))) (hown : MapF w mv b f) :
    SeqStopsK F n Try.prog 38 #[.pointer (some ⟨Bm, 0, none⟩)] mcs KeepsWalks (KeysOf f) (fun _ => True) K0.length w := fun l J Jx W hW hJ _ hY h0 =>
  keys1_in F n h7 hro hn l Bm b f K0 hK0 J Jx hY W hJ ((hW.cell (p := ⟨Bm, 0, none⟩) hBm).trans hm) (hown.of_block (hW.block b hown.lt)) h0
theorem info_msg : (Try.prog.info? 30).map (fun i => (i.zero, i.size, i.bytes)) = some (some (.agg #[.int .i64 0, .int .i64 0, .string ⟨#[]⟩]), 3, 32) := by kernel_rfl
theorem news_new (w : World) (cs : List Value) (t : TypeId) : ∀ (j : Nat) (u : Value), cs[j]? = some u → (w.alloc (.cells cs.toArray t)).cell? ((⟨w.heap.size, 0, none⟩ : Addr).add j) = some u := by
  intro j u h
  rw [Addr.add_lit, Nat.zero_add, blk_cell (blk_new w _) j]
  simpa using h
def flat (l : List Msg) : List Value := l.flatMap enc
theorem flat_snoc (l : List Msg) (x : Msg) : flat (l ++ [x]) = flat l ++ enc x := by simp [flat]
set_option maxRecDepth 100000 in
set_option maxHeartbeats 4000000 in
/-- All that an iterator gives, in a slice of the call's own. -/
theorem append_in (F : Fence) (n : Nat) (hA : F.fn 42) (hro : F.round = none) (hn : 2 ≤ n) (g : Nat) (lb : Array Value) (hFg : F.fn g) (eg : ∀ args w, (callFunc g args).run Try.prog w = .ok (.enter g args) w)
    (S Sp : List Msg → Prop) (N : Nat) (hlen : N ≤ maxLen) (hbytes : N * 32 ≤ 140737488355328) (w : World)
    (hseq : SeqStopsK F (n - 1) Try.prog g lb mcs KeepsWalks S Sp N w) :
    CallsIn F n Try.prog 42 #[.slice none 0 0, .func (.func g) #[] lb] w fun e W' => ∃ v xs, e = .returned v ∧ S xs ∧ W'.ownsRow w.heap.size 30 3 v xs.length (flat xs) ∧ (v = .slice none 0 0 ↔ xs = []) ∧ Below w.heap.size w W' := by
  have h1 : 1 ≤ n := by omega
  have hum := Try.underlying30
  obtain ⟨i0, hi, hz0, hz1, hz2⟩ := info_parts info_msg
  refine callsIn_of_wp_marks Try.func42 rfl hA ?_ hro
  simp only [Try.ntmps42, List.size_toArray, List.length_cons, List.length_nil, Nat.reduceAdd, Nat.reduceSub, Array.replicate_succ, Array.replicate_zero, List.push_toArray, List.append_toArray, List.nil_append, List.cons_append]
  gi_wp2
  have bO := Boxed.new w 22 (.slice none 0 0)
  have hB0 : Below w.heap.size w (w.alloc (.cells #[.slice none 0 0] 22)) := (Below.refl _ w).alloc (Nat.le_refl _) _
  have hIo : OwnFrom (w.alloc (.cells #[.slice none 0 0] 22)).heap.size (fun (pre : List Msg) W => (∃ v, Boxed W w.heap.size 22 v ∧ W.ownsRow w.heap.size 30 3 v pre.length (flat pre) ∧ (v = .slice none 0 0 ↔ pre = [])) ∧ Below w.heap.size w W) :=
    OwnFrom.and (Own.from (holdsRow_own w.heap.size w.heap.size 22 30 3 (fun pre => pre.length) flat (fun pre v => v = .slice none 0 0 ↔ pre = [])) _) (ownFrom_below (Nat.le_refl _) (by simp))
  refine wpIn_rangeFunc_ownH hro h1 (gf := g) (lb := lb) rfl hFg eg
    hseq walksK_t walksK_b hB0 (fun _ => rfl)
    (fun pre W => (∃ v, Boxed W w.heap.size 22 v ∧ W.ownsRow w.heap.size 30 3 v pre.length (flat pre) ∧ (v = .slice none 0 0 ↔ pre = [])) ∧ Below w.heap.size w W)
    (fun _ _ _ => False)
    hIo
    (fun _ _ _ _ _ hs _ _ => hs)
    ⟨⟨_, bO, World.ownsRow_nil _ _ _ _, by simp⟩, hB0⟩
    (fun x a' W => ∃ bk, a' = { tmps := #[.slice none 0 0, .func (.func g) #[] lb, .pointer (some ⟨w.heap.size, 0, none⟩), undef, .slice none 0 0, .pointer (some ⟨bk, 0, none⟩), .func (.func g) #[] lb, .agg #[.int .i64 x.1, .int .i64 x.2.1, .string x.2.2], undef, undef, undef, undef, undef], defers := [] } ∧ W.heap[bk]? = some (.cells #[.int .i64 x.1, .int .i64 x.2.1, .string x.2.2] 30 (0, 0)))
    (fun x a' _ W W' row hs hg hr => by
      obtain ⟨bk, e1, e2⟩ := hs
      refine ⟨bk, e1, (hg.block bk (blk_lt e2) fun e => ?_).trans e2⟩
      obtain ⟨_, o, ho, hc⟩ := hr bk e.symm
      rw [e2] at ho
      obtain rfl := Option.some.inj ho
      cases hc)
    ?assign ?body ?done ?stop
  case assign =>
    intro l pre x W K hI hK
    unfold mcs
    gi_wp2
    refine hK _ _ ((KeepsOthers.alloc W _).from _) (KeepsWalks.alloc W _) (hIo.alloc _ hI) ⟨W.heap.size, rfl, World.alloc_heap_new W _⟩
  case body =>
    rintro l pre x a' W hlW hlr ⟨⟨v, hv, hrow, hnil⟩, hB⟩ ⟨bk, rfl, hbk⟩ hlt
    have hc := hv.cell
    have m0 := (blk_cell hbk 0).trans (Eq.refl (some (Value.int .i64 x.1)))
    have m1 := (blk_cell hbk 1).trans (Eq.refl (some (Value.int .i64 x.2.1)))
    have m2 := (blk_cell hbk 2).trans (Eq.refl (some (Value.string x.2.2)))
    gi_wp2_with (gi_at_builtin; refine wpListIn_append_own _ rfl _ _ 22 rfl w.heap.size 30 i0 (.agg #[.int .i64 0, .int .i64 0, .string ⟨#[]⟩]) 3 32 Try.underlying22 hi hz0 hz1 hz2 rfl (by decide) _ _ _ rfl (hrow.alloc _) ⟨W.heap.size, 0, none⟩ 1 1 [.int .i64 x.1, .int .i64 x.2.1, .string x.2.2] rfl rfl (news_new _ _ _) (by simp [Value.oneCell']) (by omega) (by omega) (by have := hB.size; simp; omega) ?_; intro v' w1 hown' hgrow _; obtain ⟨g', cap', rfl⟩ := ownsRow_succ hown'; obtain ⟨hv1, hv2, hr2, hk2, hb2⟩ := hv.appended (by decide) hrow hB.size (Nat.le_refl _) hown' hgrow; have hc1 := hv1.cell; have hf1 := hv1.frozen)
    exact ⟨hk2.from _, hk2.walks, ⟨_, hv2, by rw [List.length_append, List.length_singleton, flat_snoc]; exact hr2, by simp⟩, hB.trans hb2⟩
  case done =>
    rintro D ys W hD hS ⟨⟨v, hv, hrow, hnil⟩, hB⟩ hK
    have hc := hv.cell
    gi_wp2
    refine ⟨by simp, .inl ⟨_, _, rfl, run_takeDeferred hK, ?_⟩⟩
    exact ⟨_, results_tmp rfl _ _ _, v, ys, rfl, hS, ownsRow_putObj hrow _ hK rfl, hnil, hB.trans (belowK_b (w := w) (Nat.le_refl _) W D _ _ (by simp at hD; omega) hK rfl rfl)⟩
  case stop =>
    rintro D c pre W _ _ h _
    exact h.elim
theorem flat_len (l : List Msg) : (flat l).length = l.length * 3 := by
  induction l with
  | nil => rfl
  | cons x l ih => show (enc x ++ flat l).length = _; rw [List.length_append, ih, List.length_cons]; show 3 + _ = _; omega
theorem flat_at : ∀ (l : List Msg) (i j : Nat) (x : Msg), l[i]? = some x → j < 3 → (flat l)[i * 3 + j]? = (enc x)[j]?
  | [], _, _, _, h, _ => by simp at h
  | y :: l, 0, j, x, h, hj => by
    obtain rfl : y = x := by simpa using h
    show (enc y ++ flat l)[0 * 3 + j]? = _
    rw [List.getElem?_append_left (by show 0 * 3 + j < 3; omega), Nat.zero_mul, Nat.zero_add]
  | y :: l, i + 1, j, x, h, hj => by
    show (enc y ++ flat l)[(i + 1) * 3 + j]? = _
    rw [List.getElem?_append_right (by show 3 ≤ (i + 1) * 3 + j; omega), show (i + 1) * 3 + j - (enc y).length = i * 3 + j from by show (i + 1) * 3 + j - 3 = _; omega]
    exact flat_at l i j x (by simpa using h) hj
theorem flatK_flat (l : List Msg) : (Go.Sort.flatK enc 3 l.toArray).toList = flat l := by
  apply List.ext_getElem?
  intro t
  by_cases ht : t < l.length * 3
  · have hs : t < (Go.Sort.flatK enc 3 l.toArray).size := by rw [Go.Sort.size_flatK]; simpa using ht
    have hi : t / 3 < l.length := by omega
    have e : t = (t / 3) * 3 + t % 3 := by omega
    have h1 := Go.Sort.get_flatK enc 3 l.toArray t (by simpa using ht)
    rw [Array.getElem?_toList, Array.getElem?_eq_getElem hs]
    rw [getElem!_pos (Go.Sort.flatK enc 3 l.toArray) t hs] at h1
    rw [h1]
    have h2 := flat_at l (t / 3) (t % 3) l[t / 3] (List.getElem?_eq_getElem hi) (by omega)
    rw [← e] at h2
    rw [h2]
    have h3 : l.toArray[t / 3]! = l[t / 3] := by rw [getElem!_pos l.toArray (t / 3) (by simpa using hi)]; simp
    rw [h3]
    have hl : t % 3 < (enc l[t / 3]).length := by show t % 3 < 3; omega
    rw [List.getElem?_eq_getElem hl, getElem!_pos (enc l[t / 3]) (t % 3) hl]
  · rw [List.getElem?_eq_none (by rw [Array.length_toList, Go.Sort.size_flatK]; simpa using ht), List.getElem?_eq_none (by rw [flat_len]; omega)]
theorem holds_of_block {w : World} {g : Nat} {cur : Array Value} {e : TypeId} {ss : List Msg} (hb : w.heap[g]? = some (.cells cur e (0, 0))) (ht : cur.toList.take (ss.length * 3) = flat ss) : Go.Sort.HoldsK enc 3 w g 0 ss.toArray := by
  intro j hj
  have hj' : j < ss.length * 3 := by rw [Go.Sort.size_flatK] at hj; simpa using hj
  refine ⟨?_, by simp [World.frozen?, hb]⟩
  have h1 : (cur.toList.take (ss.length * 3))[j]? = (flat ss)[j]? := by rw [ht]
  rw [List.getElem?_take_of_lt hj', ← flatK_flat, Array.getElem?_toList, Array.getElem?_toList] at h1
  simp only [World.cell?, hb, Nat.zero_add]
  simp only [Option.isSome_none, Bool.false_eq_true, if_false]
  rw [h1, Array.getElem?_eq_getElem hj, getElem!_pos (Go.Sort.flatK enc 3 ss.toArray) j hj]
  rfl
theorem heap_sorted {w : World} {g n : Nat} {os : Array Obj} {cur : Array Value} {e : TypeId} {fr : Nat × Nat} (d : Array Msg) (hb : w.heap[g]? = some (.cells cur e fr)) :
    (Go.Proofs.sortWorldK enc 3 w g 0 n d os).heap[g]? = some (.cells (Go.Sort.putCells id 0 (Go.Sort.flatK enc 3 d) cur) e fr) := by
  have hg : g < w.heap.size := (Array.getElem?_eq_some_iff.1 hb).1
  unfold Go.Proofs.sortWorldK Go.Sort.putRowK
  rw [Go.Sort.heap_grow_old _ _ (by simpa using hg)]
  simp [Go.Sort.putRow, Go.Sort.mapBlock, Go.Sort.ahead, Array.getElem?_modify, hb, Go.Sort.onCells]
theorem grownBy_sorted {w : World} {g n : Nat} {os : Array Obj} (d : Array Msg) : w.grownBy (Go.Proofs.sortWorldK enc 3 w g 0 n d os) (some g) := by
  unfold Go.Proofs.sortWorldK Go.Sort.putRowK
  refine ⟨rfl, rfl, rfl, by simp, fun k hk hne => ?_⟩
  rw [Go.Sort.heap_grow_old _ _ (by simpa using hk)]
  have : g ≠ k := fun e => hne (by rw [e])
  simp [Go.Sort.putRow, Go.Sort.mapBlock, Go.Sort.ahead, Array.getElem?_modify, this]
theorem take_put (cur F : Array Value) (h : F.size ≤ cur.size) : (Go.Sort.putCells id 0 F cur).toList.take F.size = F.toList := by
  apply List.ext_getElem?
  intro j
  by_cases hj : j < F.size
  · rw [List.getElem?_take_of_lt hj, Array.getElem?_toList, Array.getElem?_toList]
    simp [Go.Sort.putCells, hj, show j < cur.size by omega]
  · rw [List.getElem?_take_eq_none (by omega), List.getElem?_eq_none (by simp; omega)]
theorem owns_sorted {w : World} {base g cap n : Nat} {os : Array Obj} {cur : Array Value} {ss ts : List Msg} (hl : ts.length = ss.length) (hbase : base ≤ g) (hb : w.heap[g]? = some (.cells cur 30 (0, 0)))
    (h1 : ss.length ≤ cap) (h2 : cap ≤ maxLen) (h3 : cur.size = cap * 3) :
    (Go.Proofs.sortWorldK enc 3 w g 0 n ts.toArray os).ownsRow base 30 3 (.slice (some ⟨g, 0, none⟩) ss.length cap) ss.length (flat ts) := by
  refine ⟨by rw [flat_len, hl], .inr ⟨g, cap, _, rfl, hbase, heap_sorted _ hb, h1, h2, by simp [Go.Sort.putCells, h3], ?_⟩⟩
  have hF : (Go.Sort.flatK enc 3 ts.toArray).size = ss.length * 3 := by rw [Go.Sort.size_flatK]; simp [hl]
  have := take_put cur (Go.Sort.flatK enc 3 ts.toArray) (by rw [hF, h3]; omega)
  rw [hF, flatK_flat] at this
  exact this
set_option maxHeartbeats 1000000 in
theorem collect_in (F : Fence) (n : Nat) (hC : F.fn 36) (hA : F.fn 42) (hro : F.round = none) (hn : 3 ≤ n) (g : Nat) (lb : Array Value) (hFg : F.fn g) (eg : ∀ args w, (callFunc g args).run Try.prog w = .ok (.enter g args) w)
    (S Sp : List Msg → Prop) (N : Nat) (hlen : N ≤ maxLen) (hbytes : N * 32 ≤ 140737488355328) (w : World)
    (hseq : SeqStopsK F (n - 1 - 1) Try.prog g lb mcs KeepsWalks S Sp N w) :
    CallsIn F n Try.prog 36 #[.func (.func g) #[] lb] w fun e W' => ∃ v xs, e = .returned v ∧ S xs ∧ W'.ownsRow w.heap.size 30 3 v xs.length (flat xs) ∧ (v = .slice none 0 0 ↔ xs = []) ∧ Below w.heap.size w W' := by
  have h1 : 1 ≤ n := by omega
  refine callsIn_of_wp Try.func36 rfl hC ?_ hro
  simp only [Try.ntmps36, List.size_toArray, List.length_cons, List.length_nil, Nat.reduceAdd, Nat.reduceSub, Array.replicate_succ, Array.replicate_zero, List.push_toArray, List.append_toArray, List.nil_append, List.cons_append]
  gi_wp2_with (gi_at_call 42; refine (append_in F (n - 1) hA hro (by omega) g lb hFg eg S Sp N hlen hbytes _ hseq).mono ?_; rintro e w' ⟨v, xs, rfl, hS, hrow, hnil, hb⟩)
  go_ret
  exact ⟨v, xs, rfl, hS, hrow, hnil, hb⟩
def srt (l : List Msg) : List Msg := l.mergeSort fun x y => !Go.Proofs.ltOf cmpM y x
set_option maxRecDepth 100000 in
set_option maxHeartbeats 2000000 in
theorem sorted_in (n : Nat) (hn : 4 ≤ n) (g : Nat) (lb : Array Value) (eg : ∀ args w, (callFunc g args).run Try.prog w = .ok (.enter g args) w)
    (S Sp : List Msg → Prop) (N : Nat) (hlen : N ≤ maxLen) (hbytes : N * 32 ≤ 140737488355328) (hSN : ∀ xs, S xs → xs.length < 4611686018427387904) (w : World)
    (hseq : SeqStopsK Fence.wide (n - 1 - 1 - 1) Try.prog g lb mcs KeepsWalks S Sp N w) :
    CallsIn Fence.wide n Try.prog 28 #[.func (.func g) #[] lb, .func (.func 30) #[] #[]] w fun e W' => ∃ v xs, e = .returned v ∧ S xs ∧ W'.ownsRow w.heap.size 30 3 v xs.length (flat (srt xs)) ∧ (v = .slice none 0 0 ↔ xs = []) ∧ Below w.heap.size w W' := by
  have h1 : 1 ≤ n := by omega
  refine callsIn_of_wp Try.func28 rfl trivial ?_ rfl
  simp only [Try.ntmps28, List.size_toArray, List.length_cons, List.length_nil, Nat.reduceAdd, Nat.reduceSub, Array.replicate_succ, Array.replicate_zero, List.push_toArray, List.append_toArray, List.nil_append, List.cons_append]
  have hC : Fence.wide.fn 36 := trivial
  have hA : Fence.wide.fn 42 := trivial
  have hT : Fence.wide.fn 37 := trivial
  gi_wp2_with (gi_at_call 36; refine (collect_in Fence.wide (n - 1) hC hA rfl (by omega) g lb trivial eg S Sp N hlen hbytes _ hseq).mono ?_; rintro e W ⟨v, ss, rfl, hS, hrow, hnil, hb⟩)
  rcases hrow.2 with ⟨rfl, hz⟩ | ⟨gb, cap, cur, rfl, hbase, hgb, r1, r2, r3, r4⟩
  · have hss : ss = [] := List.eq_nil_of_length_eq_zero hz
    subst hss
    gi_wp2_with (gi_at_call 37; refine (callsIn_wide.2 (sort_none none 0 _ W)).mono ?_; rintro e w' ⟨rfl, rfl⟩)
    go_ret
    exact ⟨.slice none 0 0, [], rfl, hS, by simpa [srt] using hrow, by simp, hb⟩
  · have hH := holds_of_block hgb r4
    have hgl : gb < W.heap.size := (Array.getElem?_eq_some_iff.1 hgb).1
    have cS := sort_calls gb 0 cap ss.toArray W hH hgl (by simpa using hSN ss hS)
    rw [List.size_toArray] at cS
    gi_wp2_with (gi_at_call 37; refine (callsIn_wide.2 cS).mono ?_; rintro e w' ⟨rfl, nn, os, rfl⟩)
    go_ret
    exact ⟨_, ss, rfl, hS, owns_sorted (by simp) hbase hgb r1 r2 r3, hnil, hb.grown (grownBy_sorted _) hb.size (fun j hj => by cases hj; exact hbase)⟩
end Go.Proofs.Ytmledapichlhdaa.Bag
