/- view.Best: the place of the best offer. -/
import Derived.RangeFuncBox
import Derived.RangeFuncLeaves
import Derived.RangeFuncNested
import Derived.RangeFuncBound
import Derived.RangeFuncCalls
import Derived.Shelf.Abstract
import Derived.WalkKit
import Derived.OwnWalkIn
import Derived.TacticsInMore
import Derived.LoopNIn
import Derived.LoopIn
import Derived.Maps.AppendAt
import Derived.Sort.OwnSortedInts
import Derived.Test.YtifhgfjohpbliaaProg
import Derived.Shelf.SlGeneric
import Derived.Shelf.SlLaysM
import Derived.Test.YtifhgfjohpbliaaPtx0
import Derived.Shelf.SortM.Plain
import Derived.Shelf.SortM.SortNone
import Derived.Test.YtifhgfjohpbliaaPbx4
import Derived.Deep.RegionHeld3
section
/- slices.Values, slices.Collect and slices.Sorted of whole numbers: what they hand back. -/
set_option linter.unusedVariables false
set_option linter.unusedSimpArgs false
namespace Go.Proofs.Ytifhgfjohpbliaa.Vals
open Go Go.Proofs Go.RowKit Go.Shelf Go.Sort
attribute [local go_sem] Oper.semAt_some

/-- What has come when k rounds are over. -/
def upto {α : Type} (f : Nat → α) (k : Nat) : List α := (List.range k).map f
theorem upto_succ {α : Type} (f : Nat → α) (k : Nat) : upto f (k + 1) = upto f k ++ [f k] := by simp [upto, List.range_succ]
theorem upto_length {α : Type} (f : Nat → α) (k : Nat) : (upto f k).length = k := by simp [upto]
theorem upto_all (zs : List Int) : upto (fun j => zs[j]?.getD 0) zs.length = zs := by
  apply List.ext_getElem
  · simp [upto]
  · intro i h1 h2
    simp [upto, h2]
theorem upto_take (zs : List Int) {k : Nat} (hk : k ≤ zs.length) : upto (fun j => zs[j]?.getD 0) k = zs.take k := by
  apply List.ext_getElem
  · simp [upto, hk]
  · intro i h1 h2
    have : i < zs.length := by simp [upto] at h1; omega
    simp [upto, this]

set_option maxRecDepth 100000 in
set_option maxHeartbeats 2000000 in
theorem values1_in (F : Fence) (n : Nat) (h7 : F.fn 52) (hro : F.round = none) (hn : 1 ≤ n) (l Bs n₀ : Nat) (ad : Addr) (len cap : Nat) (zs : List Int) (hreach : len * 8 ≤ 140737488351232) (hb : ∀ j, j < len → (ad.add j).block < n₀) (J Jx : List Int → World → Prop)
    (hY : ∀ pre x W, J pre W → pre.length < len → YieldAt F (n - 1) Try.prog l #[.int .i64 x] W fun e W' =>
      (e = .returned (.bool true) ∧ J (pre ++ [x]) W' ∧ Below n₀ W W') ∨ (e = .returned (.bool false) ∧ Jx (pre ++ [x]) W'))
    (W : World) (hBs : W.cell? ⟨Bs, 0, none⟩ = some (.slice (some ad) len cap)) (hc : ∀ j, j < len → W.cell? (ad.add j) = some (.int .i64 (zs[j]?.getD 0))) (h0 : J [] W) :
    CallsIn F n Try.prog 52 #[.func (.yield l) #[] #[], .pointer (some ⟨Bs, 0, none⟩)] W fun e W' => (∃ v, e = .returned v) ∧
      ((∃ ys, ys = upto (fun j => zs[j]?.getD 0) len ∧ J ys W') ∨ (∃ pre, (∃ k, k ≤ len ∧ pre = upto (fun j => zs[j]?.getD 0) k) ∧ Jx pre W')) := by
  refine callsIn_of_wp Try.func52 rfl h7 ?_ hro
  simp only [Try.ntmps52, List.size_toArray, List.length_cons, List.length_nil, Nat.reduceAdd, Nat.reduceSub, Array.replicate_succ, Array.replicate_zero, List.push_toArray, List.append_toArray, List.nil_append, List.cons_append]
  gi_wp2
  gi_loopw [7] (fun i wr => ∃ k : Nat, k ≤ len ∧ i = .int .i64 k ∧ J (upto (fun j => zs[j]?.getD 0) k) wr ∧ Below n₀ W wr)
    (fun i _ => len - (intOf i).toNat)
  case atStart => exact ⟨0, Nat.zero_le _, rfl, h0, Below.refl _ _⟩
  case round =>
    obtain ⟨k, hk, rfl, hJs, hnx⟩ := hrel
    have hcx : k < len → wr.cell? (ad.add k) = some (.int .i64 (zs[k]?.getD 0)) := fun h => (hnx.cell (p := ad.add k) (hb k h)).trans (hc k h)
    by_cases hlt : k < len
    · obtain ⟨fn, tmps, assign, body, hy, hR⟩ := hY _ (zs[k]?.getD 0) wr hJs (by rw [upto_length]; exact hlt)
      have hcx' := hcx hlt
      gi_wp2
      refine hR.mono ?_
      rintro e W3 (⟨rfl, hJ3, hk3⟩ | ⟨rfl, hJx3⟩)
      · gi_wp2
        go_roundw
        case rel => exact ⟨k + 1, by omega, by simp, by rw [upto_succ]; exact hJ3, hnx.trans hk3⟩
        case measure => simp [intOf]; omega
      · gi_wp2
        refine bodyPost_ret (results_none rfl _ _ _) rfl ?_
        exact ⟨⟨_, rfl⟩, .inr ⟨_, ⟨k + 1, by omega, (upto_succ _ _).symm⟩, hJx3⟩⟩
    · obtain rfl : k = len := by omega
      gi_wp2
      go_end0
      exact ⟨⟨_, rfl⟩, .inl ⟨_, rfl, hJs⟩⟩
set_option maxHeartbeats 1000000 in
theorem values_in (F : Fence) (n : Nat) (h5 : F.fn 28) (hro : F.round = none) (a : Option Addr) (len cap : Nat) (w : World) :
    CallsIn F n Try.prog 28 #[.slice a len cap] w fun e w' => e = .returned (.func (.func 52) #[] #[.pointer (some ⟨w.heap.size, 0, none⟩)]) ∧ w' = w.alloc (.cells #[.slice a len cap] 32) := by
  refine callsIn_of_wp Try.func28 rfl h5 ?_ hro
  simp only [Try.ntmps28, List.size_toArray, List.length_cons, List.length_nil, Nat.reduceAdd, Nat.reduceSub, Array.replicate_succ, Array.replicate_zero, List.push_toArray, List.append_toArray, List.nil_append, List.cons_append]
  gi_wp2
  go_ret
  exact ⟨rfl, rfl⟩
theorem values_stops (F : Fence) (n : Nat) (h7 : F.fn 52) (hro : F.round = none) (hn : 1 ≤ n) (Bs n₀ : Nat) (ad : Addr) (cap : Nat) (zs : List Int) (hreach : zs.length * 8 ≤ 140737488351232) (w : World) (hBs : Bs < w.heap.size) (hn₀ : n₀ ≤ w.heap.size)
    (hc : w.cell? ⟨Bs, 0, none⟩ = some (.slice (some ad) zs.length cap)) (hb : ∀ j, j < zs.length → (ad.add j).block < n₀) (hI : ∀ j, j < zs.length → w.cell? (ad.add j) = some (.int .i64 (zs[j]?.getD 0))) :
    SeqStopsK F n Try.prog 52 #[.pointer (some ⟨Bs, 0, none⟩)] (fun x : Int => #[Value.int .i64 x]) (Below n₀) (fun ys => ys = zs) (fun pre => pre <+: zs) zs.length w := fun l J Jx W hW _ _ hY h0 => by
  have hc' := (hW.cell (p := ⟨Bs, 0, none⟩) hBs).trans hc
  refine (values1_in F n h7 hro hn l Bs n₀ ad zs.length cap zs hreach hb J Jx hY W hc' (fun j hj => ((hW.mono hn₀).cell (p := ad.add j) (hb j hj)).trans (hI j hj)) h0).mono ?_
  rintro e W' ⟨he, ⟨ys, rfl, hj⟩ | ⟨pre, ⟨k, hk, rfl⟩, hj⟩⟩
  · exact ⟨he, .inl ⟨_, upto_all zs, hj⟩⟩
  · exact ⟨he, .inr ⟨_, by rw [upto_take zs hk]; exact List.take_prefix _ _, hj⟩⟩

theorem info_int : (Try.prog.info? 3).map (fun i => (i.zero, i.size, i.bytes)) = some (some (.int .i64 0), 1, 8) := by kernel_rfl
set_option maxRecDepth 100000 in
set_option maxHeartbeats 2000000 in
/-- All that an iterator gives, in a slice of the call's own. -/
theorem append_in (F : Fence) (n : Nat) (hA : F.fn 65) (hro : F.round = none) (hn : 2 ≤ n) (g : Nat) (lb : Array Value) (hFg : F.fn g) (eg : ∀ args w, (callFunc g args).run Try.prog w = .ok (.enter g args) w)
    (n₀ : Nat) (S Sp : List Int → Prop) (N : Nat) (hlen : N ≤ maxLen) (hbytes : N * 8 ≤ 140737488355328) (w : World) (hn₀ : n₀ ≤ w.heap.size)
    (hseq : SeqStopsK F (n - 1) Try.prog g lb (fun x : Int => #[Value.int .i64 x]) (Below n₀) S Sp N w) :
    CallsIn F n Try.prog 65 #[.slice none 0 0, .func (.func g) #[] lb] w fun e W' => ∃ v xs, e = .returned v ∧ S xs ∧ W'.ownsRow w.heap.size 3 1 v xs.length (xs.map (Value.int .i64)) ∧ (v = .slice none 0 0 ↔ xs = []) ∧ Below w.heap.size w W' := by
  have h1 : 1 ≤ n := by omega
  obtain ⟨i0, hi, hz0, hz1, hz2⟩ := info_parts info_int
  refine callsIn_of_wp_marks Try.func65 rfl hA ?_ hro
  simp only [Try.ntmps65, List.size_toArray, List.length_cons, List.length_nil, Nat.reduceAdd, Nat.reduceSub, Array.replicate_succ, Array.replicate_zero, List.push_toArray, List.append_toArray, List.nil_append, List.cons_append]
  gi_wp2
  have bO := Boxed.new w 32 (.slice none 0 0)
  have hB0 : Below w.heap.size w (w.alloc (.cells #[.slice none 0 0] 32)) := (Below.refl _ w).alloc (Nat.le_refl _) _
  refine wpIn_rangeFunc_ownG hro h1 (gf := g) (lb := lb) rfl hFg eg
    hseq belowK_t (belowK_b (by simp; omega)) hB0 (fun _ => rfl)
    (fun pre W => (∃ v, Boxed W w.heap.size 32 v ∧ W.ownsRow w.heap.size 3 1 v pre.length (pre.map (Value.int .i64)) ∧ (v = .slice none 0 0 ↔ pre = [])) ∧ Below w.heap.size w W)
    (fun _ _ _ => False)
    (OwnFrom.and (Own.from (holdsRow_own w.heap.size w.heap.size 32 3 1 (fun pre => pre.length) (fun pre => pre.map (Value.int .i64)) (fun pre v => v = .slice none 0 0 ↔ pre = [])) _) (ownFrom_below (Nat.le_refl _) (by simp)))
    (fun _ _ _ _ _ hs _ _ => hs)
    ⟨⟨_, bO, World.ownsRow_nil _ _ _ _, by simp⟩, hB0⟩
    (fun x => { tmps := #[.slice none 0 0, .func (.func g) #[] lb, .pointer (some ⟨w.heap.size, 0, none⟩), undef, .slice none 0 0, .int .i64 x, .func (.func g) #[] lb, .int .i64 x, undef, undef, undef, undef, undef], defers := [] }) ?assign ?body ?done ?stop
  case assign =>
    intro l x W K hK
    gi_wp2
    exact hK
  case body =>
    rintro l pre x W ⟨⟨v, hv, hrow, hnil⟩, hB⟩ hlt
    have hc := hv.cell
    gi_wp2_with (gi_at_builtin; refine wpListIn_append_own _ rfl _ _ 32 rfl w.heap.size 3 i0 (.int .i64 0) 1 8 Try.underlying32 hi hz0 hz1 hz2 rfl (by decide) _ _ _ rfl (hrow.alloc _) ⟨W.heap.size, 0, none⟩ 1 1 [.int .i64 x] rfl rfl (cell_one_new _ _ _) (by simp [Value.oneCell']) (by omega) (by omega) (by have := hB.size; simp; omega) ?_; intro v' w1 hown' hgrow _; obtain ⟨g', cap', rfl⟩ := ownsRow_succ hown'; obtain ⟨hv1, hv2, hr2, hk2, hb2⟩ := hv.appended (by decide) hrow hB.size (Nat.le_refl _) hown' hgrow; have hc1 := hv1.cell; have hf1 := hv1.frozen)
    exact ⟨hk2.from _, hb2.mono hn₀, ⟨_, hv2, by simpa using hr2, by simp⟩, hB.trans hb2⟩
  case done =>
    rintro D ys W hD hS ⟨⟨v, hv, hrow, hnil⟩, hB⟩ hK
    have hc := hv.cell
    gi_wp2
    refine ⟨by simp, .inl ⟨_, _, rfl, run_takeDeferred hK, ?_⟩⟩
    exact ⟨_, results_tmp rfl _ _ _, v, ys, rfl, hS, ownsRow_putObj hrow _ hK rfl, hnil, hB.trans (belowK_b (w := w) (Nat.le_refl _) W D _ _ (by simp at hD; omega) hK rfl rfl)⟩
  case stop =>
    rintro D c pre W _ _ h _
    exact h.elim
set_option maxHeartbeats 1000000 in
theorem collect_in (F : Fence) (n : Nat) (hC : F.fn 50) (hA : F.fn 65) (hro : F.round = none) (hn : 3 ≤ n) (g : Nat) (lb : Array Value) (hFg : F.fn g) (eg : ∀ args w, (callFunc g args).run Try.prog w = .ok (.enter g args) w)
    (n₀ : Nat) (S Sp : List Int → Prop) (N : Nat) (hlen : N ≤ maxLen) (hbytes : N * 8 ≤ 140737488355328) (w : World) (hn₀ : n₀ ≤ w.heap.size)
    (hseq : SeqStopsK F (n - 1 - 1) Try.prog g lb (fun x : Int => #[Value.int .i64 x]) (Below n₀) S Sp N w) :
    CallsIn F n Try.prog 50 #[.func (.func g) #[] lb] w fun e W' => ∃ v xs, e = .returned v ∧ S xs ∧ W'.ownsRow w.heap.size 3 1 v xs.length (xs.map (Value.int .i64)) ∧ (v = .slice none 0 0 ↔ xs = []) ∧ Below w.heap.size w W' := by
  have h1 : 1 ≤ n := by omega
  refine callsIn_of_wp Try.func50 rfl hC ?_ hro
  simp only [Try.ntmps50, List.size_toArray, List.length_cons, List.length_nil, Nat.reduceAdd, Nat.reduceSub, Array.replicate_succ, Array.replicate_zero, List.push_toArray, List.append_toArray, List.nil_append, List.cons_append]
  gi_wp2_with (gi_at_call 65; refine (append_in F (n - 1) hA hro (by omega) g lb hFg eg n₀ S Sp N hlen hbytes _ hn₀ hseq).mono ?_; rintro e w' ⟨v, xs, rfl, hS, hrow, hnil, hb⟩)
  go_ret
  exact ⟨v, xs, rfl, hS, hrow, hnil, hb⟩

/-- A list of whole numbers, sorted. -/
def sorted (l : List Int) : List Int := l.mergeSort fun x y => decide (x ≤ y)
set_option maxRecDepth 100000 in
set_option maxHeartbeats 2000000 in
theorem sorted_in (F : Fence) (n : Nat) (hT : F.fn 27) (hC : F.fn 50) (hA : F.fn 65) (hO : F.fn 51) (hro : F.round = none) (hn : 4 ≤ n) (g : Nat) (lb : Array Value) (hFg : F.fn g) (eg : ∀ args w, (callFunc g args).run Try.prog w = .ok (.enter g args) w)
    (hsort : ∀ (blk off cap : Nat) (ss : List Int) (W : World), Holds (Value.int .i64) W blk off ss.toArray → blk < W.heap.size → ss.length < 4611686018427387904 →
      CallsIn F (n - 1) Try.prog 51 #[.slice (some ⟨blk, off, none⟩) ss.length cap] W fun e w' => e = .returned (.tuple #[]) ∧ ∃ k os, w' = grow (putRow (Value.int .i64) (Sort.ahead W k) blk off (ss.mergeSort fun x y => decide (x ≤ y)).toArray) os)
    (hsort0 : ∀ (p : Option Addr) (cap : Nat) (W : World), CallsIn F (n - 1) Try.prog 51 #[.slice p 0 cap] W fun e w' => e = .returned (.tuple #[]) ∧ w' = W)
    (n₀ : Nat) (S Sp : List Int → Prop) (N : Nat) (hlen : N ≤ maxLen) (hbytes : N * 8 ≤ 140737488355328) (hSN : ∀ xs, S xs → xs.length < 4611686018427387904) (w : World) (hn₀ : n₀ ≤ w.heap.size)
    (hseq : SeqStopsK F (n - 1 - 1 - 1) Try.prog g lb (fun x : Int => #[Value.int .i64 x]) (Below n₀) S Sp N w) :
    CallsIn F n Try.prog 27 #[.func (.func g) #[] lb] w fun e W' => ∃ v xs, e = .returned v ∧ S xs ∧ W'.ownsRow w.heap.size 3 1 v xs.length ((sorted xs).map (Value.int .i64)) ∧ (v = .slice none 0 0 ↔ xs = []) ∧ Below w.heap.size w W' := by
  have h1 : 1 ≤ n := by omega
  refine callsIn_of_wp Try.func27 rfl hT ?_ hro
  simp only [Try.ntmps27, List.size_toArray, List.length_cons, List.length_nil, Nat.reduceAdd, Nat.reduceSub, Array.replicate_succ, Array.replicate_zero, List.push_toArray, List.append_toArray, List.nil_append, List.cons_append]
  gi_wp2_with (gi_at_call 50; refine (collect_in F (n - 1) hC hA hro (by omega) g lb hFg eg n₀ S Sp N hlen hbytes _ hn₀ hseq).mono ?_; rintro e W ⟨v, ss, rfl, hS, hrow, hnil, hb⟩)
  rcases hrow.2 with ⟨rfl, hz⟩ | ⟨gb, cap, cur, rfl, hbase, hgb, r1, r2, r3, r4⟩
  · have hss : ss = [] := List.eq_nil_of_length_eq_zero hz
    subst hss
    gi_wp2_with (gi_at_call 51; refine (hsort0 none 0 W).mono ?_; rintro e w' ⟨rfl, rfl⟩)
    go_ret
    exact ⟨.slice none 0 0, [], rfl, hS, by simpa [sorted] using hrow, by simp, hb⟩
  · have hH : Holds (Value.int .i64) W gb 0 ss.toArray := holds_of_blockI hgb (by simpa using r4)
    have hgl : gb < W.heap.size := (Array.getElem?_eq_some_iff.1 hgb).1
    have cS := hsort gb 0 cap ss W hH hgl (hSN ss hS)
    gi_wp2_with (gi_at_call 51; refine cS.mono ?_; rintro e w' ⟨rfl, nn, os, rfl⟩)
    go_ret
    exact ⟨_, ss, rfl, hS, ownsRow_sortedI (by simp) hbase hgb r1 r2 r3, hnil, hb.grown (grownBy_sortedI _) hb.size (fun j hj => by cases hj; exact hbase)⟩
end Go.Proofs.Ytifhgfjohpbliaa.Vals
end

section
/- The contracts of the library that the shelf holds, laid at this program. -/
namespace Go.Proofs.Ytifhgfjohpbliaa.Lay
open Go.Shelf
def sortInt_ren : Go.Shelf.Ren := ⟨fun | 5 => 51 | 8 => 67 | 7 => 66 | 19 => 80 | 20 => 81 | 10 => 71 | 11 => 72 | 12 => 73 | 13 => 74 | 14 => 75 | 15 => 76 | 16 => 77 | 17 => 78 | 18 => 79 | 30 => 82 | 31 => 83 | 32 => 84 | 33 => 85 | 34 => 86 | 35 => 53 | 40 => 87 | n => n, fun | 23 => 32 | 25 => 3 | 3 => 3 | 32 => 43 | 22 => 32 | 0 => 0 | 44 => 110 | 46 => 112 | 4 => 4 | 36 => 102 | 35 => 101 | 41 => 107 | 5 => 5 | 9 => 9 | 53 => 113 | 57 => 117 | 63 => 119 | 64 => 27 | n => n, fun | n => n⟩
theorem sortInt : Go.Proofs.SlLaysM.n5 Try.prog sortInt_ren := {
  mixed := by kernel_rfl,
  f5 := ⟨Try.f51.name, by decide, Try.func51.trans (congrArg some (by kernel_rfl))⟩,
  f7 := ⟨Try.f66.name, by decide, Try.func66.trans (congrArg some (by kernel_rfl))⟩,
  f8 := Try.func67.trans (congrArg some (by kernel_rfl)),
  f10 := ⟨Try.f71.name, by decide, Try.func71.trans (congrArg some (by kernel_rfl))⟩,
  f11 := ⟨Try.f72.name, by decide, Try.func72.trans (congrArg some (by kernel_rfl))⟩,
  f12 := ⟨Try.f73.name, by decide, Try.func73.trans (congrArg some (by kernel_rfl))⟩,
  f13 := ⟨Try.f74.name, by decide, Try.func74.trans (congrArg some (by kernel_rfl))⟩,
  f14 := ⟨Try.f75.name, by decide, Try.func75.trans (congrArg some (by kernel_rfl))⟩,
  f15 := ⟨Try.f76.name, by decide, Try.func76.trans (congrArg some (by kernel_rfl))⟩,
  f16 := ⟨Try.f77.name, by decide, Try.func77.trans (congrArg some (by kernel_rfl))⟩,
  f17 := ⟨Try.f78.name, by decide, Try.func78.trans (congrArg some (by kernel_rfl))⟩,
  f18 := ⟨Try.f79.name, by decide, Try.func79.trans (congrArg some (by kernel_rfl))⟩,
  f19 := Try.func80.trans (congrArg some (by kernel_rfl)),
  f20 := Try.func81.trans (congrArg some (by kernel_rfl)),
  f30 := ⟨Try.f82.name, by decide, Try.func82.trans (congrArg some (by kernel_rfl))⟩,
  f31 := Try.func83.trans (congrArg some (by kernel_rfl)),
  f32 := Try.func84.trans (congrArg some (by kernel_rfl)),
  f33 := ⟨Try.f85.name, by decide, Try.func85.trans (congrArg some (by kernel_rfl))⟩,
  f34 := ⟨Try.f86.name, by decide, Try.func86.trans (congrArg some (by kernel_rfl))⟩,
  f35 := ⟨Try.f53.name, by decide, Try.func53.trans (congrArg some (by kernel_rfl))⟩,
  f40 := ⟨Try.f87.name, by decide, Try.func87.trans (congrArg some (by kernel_rfl))⟩,
  t0 := Try.underlying0,
  a0 := Try.isAgg0,
  z0 := Try.sizeOf0,
  v0 := Try.zeroValue0,
  t3 := Try.underlying3,
  a3 := Try.isAgg3,
  z3 := Try.sizeOf3,
  v3 := Try.zeroValue3,
  t4 := Try.underlying4,
  a4 := Try.isAgg4,
  z4 := Try.sizeOf4,
  v4 := Try.zeroValue4,
  t5 := Try.underlying5,
  a5 := Try.isAgg5,
  z5 := Try.sizeOf5,
  v5 := Try.zeroValue5,
  t9 := Try.underlying9,
  a9 := Try.isAgg9,
  z9 := Try.sizeOf9,
  v9 := Try.zeroValue9,
  t22 := Try.underlying32,
  a22 := Try.isAgg32,
  z22 := Try.sizeOf32,
  v22 := Try.zeroValue32,
  t23 := Try.underlying32,
  a23 := Try.isAgg32,
  z23 := Try.sizeOf32,
  v23 := Try.zeroValue32,
  t25 := Try.underlying3,
  a25 := Try.isAgg3,
  z25 := Try.sizeOf3,
  v25 := Try.zeroValue3,
  t32 := Try.underlying43,
  a32 := Try.isAgg43,
  z32 := Try.sizeOf43,
  v32 := Try.zeroValue43,
  t35 := Try.underlying101,
  a35 := Try.isAgg101,
  z35 := Try.sizeOf101,
  v35 := Try.zeroValue101,
  t36 := Try.underlying102,
  a36 := Try.isAgg102,
  z36 := Try.sizeOf102,
  v36 := Try.zeroValue102,
  t41 := Try.underlying107,
  a41 := Try.isAgg107,
  z41 := Try.sizeOf107,
  v41 := Try.zeroValue107,
  t44 := Try.underlying110,
  a44 := Try.isAgg110,
  z44 := Try.sizeOf110,
  v44 := Try.zeroValue110,
  t46 := Try.underlying112,
  a46 := Try.isAgg112,
  z46 := Try.sizeOf112,
  v46 := Try.zeroValue112,
  t53 := Try.underlying113,
  a53 := Try.isAgg113,
  z53 := Try.sizeOf113,
  v53 := Try.zeroValue113,
  t57 := Try.underlying117,
  a57 := Try.isAgg117,
  z57 := Try.sizeOf117,
  v57 := Try.zeroValue117,
  t63 := Try.underlying119,
  a63 := Try.isAgg119,
  z63 := Try.sizeOf119,
  v63 := Try.zeroValue119,
  t64 := Try.underlying27,
  a64 := Try.isAgg27,
  z64 := Try.sizeOf27,
  v64 := Try.zeroValue27 }
end Go.Proofs.Ytifhgfjohpbliaa.Lay
end

section
/- view.Commit: what enough nodes have: the middle one of the sorted list. -/
set_option linter.unusedVariables false
set_option linter.unusedSimpArgs false
namespace Go.Proofs.Ytifhgfjohpbliaa.GivenV
open Go.RowKit Go.Proofs.YtifhgfjohpbliaaW.PrintWords Go.Proofs.YtifhgfjohpbliaaW.PrintLast Go.Proofs.YtifhgfjohpbliaaW.PrintMore Go.Proofs.Ytifhgfjohpbliaa.Vals

theorem own_cell {w : World} {base : Nat} {e : TypeId} {size : Nat} {v : Value} {n : Nat} {xs : List Value} (h : w.ownsRow base e size v n xs) {j : Nat} {u : Value} (hj : xs[j]? = some u) :
    ∃ g cap, v = .slice (some ⟨g, 0, none⟩) n cap ∧ w.cell? ⟨g, j, none⟩ = some u := by
  rcases h.2 with ⟨rfl, h0⟩ | ⟨g, cap, cur, rfl, _, hh, _, _, _, ht⟩
  · have : xs = [] := List.eq_nil_of_length_eq_zero (by rw [h.1, h0, Nat.zero_mul])
    rw [this] at hj
    simp at hj
  · refine ⟨g, cap, rfl, ?_⟩
    have h1 : w.cell? ⟨g, j, none⟩ = cur[j]? := blk_cell hh j
    rw [h1, ← Array.getElem?_toList]
    rw [← ht, List.getElem?_take] at hj
    split at hj
    · exact hj
    · simp at hj
def nodesB (n : Int) : Bool := decide (n = 1) || decide (n = 3) || decide (n = 5) || decide (n = 7)
def inB (x : Int) : Bool := decide (0 ≤ x) && decide (x ≤ 1099511627776)
set_option maxRecDepth 100000 in
theorem nodes_calls (n : Int) (w : World) : Calls Try.prog 23 #[.int .i64 n] w fun e w' => e = .returned (.bool (nodesB n)) ∧ w' = w := by
  by_cases h1 : 1 ≤ n
  · by_cases h2 : n ≤ 7
    · have b1 : decide (1 ≤ n) = true := decide_eq_true h1
      have b2 : decide (n ≤ 7) = true := decide_eq_true h2
      have h : n = 1 ∨ n = 2 ∨ n = 3 ∨ n = 4 ∨ n = 5 ∨ n = 6 ∨ n = 7 := by omega
      clear h1 h2 b1 b2
      rcases h with rfl | rfl | rfl | rfl | rfl | rfl | rfl
      all_goals
        go_enter Try.func23, Try.ntmps23
        go_wp2
        go_ret
        exact ⟨rfl, rfl⟩
    · have e : nodesB n = false := by unfold nodesB; simp; omega
      rw [e]
      have b1 : decide (1 ≤ n) = true := decide_eq_true h1
      have b2 : decide (n ≤ 7) = false := decide_eq_false h2
      clear e h1 h2
      go_enter Try.func23, Try.ntmps23
      go_wp2
      go_ret
      exact ⟨rfl, rfl⟩
  · have e : nodesB n = false := by unfold nodesB; simp; omega
    rw [e]
    have b1 : decide (1 ≤ n) = false := decide_eq_false h1
    clear e h1
    go_enter Try.func23, Try.ntmps23
    go_wp2
    go_ret
    exact ⟨rfl, rfl⟩
set_option maxRecDepth 100000 in
theorem in_calls (x : Int) (w : World) : Calls Try.prog 24 #[.int .i64 x] w fun e w' => e = .returned (.bool (inB x)) ∧ w' = w := by
  unfold inB
  by_cases h1 : 0 ≤ x
  · have b1 : decide (0 ≤ x) = true := decide_eq_true h1
    rw [b1, Bool.true_and]
    clear h1
    go_enter Try.func24, Try.ntmps24
    go_wp2
    go_ret
    exact ⟨rfl, rfl⟩
  · have b1 : decide (0 ≤ x) = false := decide_eq_false h1
    rw [b1, Bool.false_and]
    clear h1
    go_enter Try.func24, Try.ntmps24
    go_wp2
    go_ret
    exact ⟨rfl, rfl⟩
set_option maxRecDepth 100000 in
theorem bad_calls (x : Int) (w : World) : Calls Try.prog 25 #[.int .i64 x] w fun e w' => e = .returned (.bool (!inB x)) ∧ w' = w := by
  go_enter Try.func25, Try.ntmps25
  go_wp2_with fail
  refine (in_calls x w).mono ?_
  rintro e w1 ⟨rfl, rfl⟩
  go_wp2
  go_ret
  exact ⟨rfl, rfl⟩
/-- The place of the first one that is none; -1: there is none. -/
def badAt : List Int → Int → Int
  | [], _ => -1
  | x :: l, i => if inB x = true then badAt l (i + 1) else i
theorem badAt_cons (x : Int) (l : List Int) (i : Int) : badAt (x :: l) i = if inB x = true then badAt l (i + 1) else i := rfl
theorem badAt_neg : ∀ (l : List Int) (i : Int), 0 ≤ i → (decide (0 ≤ badAt l i) = !l.all inB)
  | [], i, _ => by simp [badAt]
  | x :: l, i, hi => by
    unfold badAt
    by_cases h : inB x = true
    · rw [if_pos h, badAt_neg l (i + 1) (by omega)]; simp [h]
    · rw [if_neg h]; simp [h, hi]
theorem drop_rd (l : List Int) (i : Nat) (h : i < l.length) : l.drop i = rd l i :: l.drop (i + 1) := by
  rw [List.drop_eq_getElem_cons h]
  unfold rd
  simp [List.getD_eq_getElem?_getD, h]
set_option maxHeartbeats 800000 in
set_option maxRecDepth 100000 in
theorem index_calls (A : Option Addr) (c : Nat) (l : List Int) (w : World) (hr : Kd.C (Kd.int .i64) w A l.length l) (hl : l.length ≤ 7) :
    Calls Try.prog 49 #[.slice A l.length c, .func (.func 25) #[] #[]] w fun e w' => e = .returned (.int .i64 (badAt l 0)) ∧ w' = w := by
  have HR := Aside0.mk hr
  clear hr
  go_enter Try.func49, Try.ntmps49
  go_wp2_with fail
  go_loop [5, 8] (fun _ i => ∃ k : Nat, k ≤ l.length ∧ i = .int .i64 k ∧ Aside0 (badAt l 0 = badAt (l.drop k) k)) (fun _ i => l.length - (intOf i).toNat)
  case atStart => exact ⟨0, by omega, rfl, ⟨rfl⟩⟩
  case round =>
    obtain ⟨k, hk, rfl, E⟩ := hrel
    by_cases hlt : k < l.length
    · obtain ⟨ad, rfl, hc⟩ := Kd.at_int HR.out (k : Int) (by omega) (by omega)
      have hc' : w.cell? (ad.add k) = some (.int .i64 (rd l k)) := hc
      have hd := drop_rd l k hlt
      have E2 := E.out
      rw [hd, badAt_cons] at E2
      clear hc hd
      by_cases hin : inB (rd l k) = true
      · rw [if_pos hin] at E2
        have E3 : Aside0 (badAt l 0 = badAt (l.drop (k + 1)) ((k + 1 : Nat) : Int)) := ⟨by simpa using E2⟩
        clear E2
        go_wp2_with fail
        refine (bad_calls (rd l k) w).mono ?_
        rintro e w1 ⟨rfl, rfl⟩
        rw [hin]
        go_wp2_with fail
        go_round
        case rel => exact ⟨k + 1, by omega, by go_num, E3⟩
        case measure => simp [intOf]; omega
      · rw [if_neg hin] at E2
        have E3 := Aside0.mk E2
        have hin' : inB (rd l k) = false := by simpa using hin
        clear E2 hin
        go_wp2_with fail
        refine (bad_calls (rd l k) w).mono ?_
        rintro e w1 ⟨rfl, rfl⟩
        rw [hin']
        go_wp2_with fail
        go_ret
        exact ⟨by show Ending.returned (.int .i64 (k : Int)) = _; rw [E3.out], rfl⟩
    · obtain rfl : k = l.length := by omega
      have E2 := E.out
      rw [List.drop_of_length_le (Nat.le_refl _)] at E2
      have E3 := Aside0.mk E2
      clear E2
      go_wp2_with fail
      go_ret
      exact ⟨by show Ending.returned (.int .i64 (-1)) = _; rw [E3.out]; rfl, rfl⟩
set_option maxRecDepth 100000 in
theorem contains_calls (A : Option Addr) (c : Nat) (l : List Int) (w : World) (hr : Kd.C (Kd.int .i64) w A l.length l) (hl : l.length ≤ 7) :
    Calls Try.prog 26 #[.slice A l.length c, .func (.func 25) #[] #[]] w fun e w' => e = .returned (.bool (!l.all inB)) ∧ w' = w := by
  rw [← badAt_neg l 0 (by omega)]
  go_enter Try.func26, Try.ntmps26
  go_wp2_with fail
  refine (index_calls A c l w hr hl).mono ?_
  rintro e w1 ⟨rfl, rfl⟩
  go_wp2_with fail
  go_ret
  exact ⟨rfl, rfl⟩
/-- What enough nodes have. -/
def view_Commit.f (l : List Int) : Option (Int × Int) := if nodesB l.length = true then (if l.all inB = true then some (rd (sorted l) ((l.length : Int) / 2), 0) else some (0, 1)) else some (0, 1)
theorem sorted_length (l : List Int) : (sorted l).length = l.length := by unfold sorted; simp
theorem sort_in (n : Nat) (blk off cap : Nat) (ss : List Int) (W : World) (h : Go.Sort.Holds (Value.int .i64) W blk off ss.toArray) (h1 : blk < W.heap.size) (h2 : ss.length < 4611686018427387904) :
    CallsIn Fence.wide n Try.prog 51 #[.slice (some ⟨blk, off, none⟩) ss.length cap] W fun e w' => e = .returned (.tuple #[]) ∧ ∃ k os, w' = Go.Sort.grow (Go.Sort.putRow (Value.int .i64) (Go.Sort.ahead W k) blk off (ss.mergeSort fun x y => decide (x ≤ y)).toArray) os :=
  callsIn_wide.2 (AnyM.slices_Sort_int Lay.sortInt blk off cap ss W h h1 h2)
theorem sort_none (n : Nat) (p : Option Addr) (cap : Nat) (W : World) : CallsIn Fence.wide n Try.prog 51 #[.slice p 0 cap] W fun e w' => e = .returned (.tuple #[]) ∧ w' = W :=
  callsIn_wide.2 (AnyM.slices_Sort_int_none Lay.sortInt p cap W)
set_option maxHeartbeats 800000 in
set_option maxRecDepth 100000 in
theorem sorted_calls (ad : Addr) (c : Nat) (l : List Int) (w : World) (hr : Kd.C (Kd.int .i64) w (some ad) l.length l) (hl : l.length ≤ 7) :
    Calls Try.prog 27 #[.func (.func 52) #[] #[.pointer (some ⟨w.heap.size, 0, none⟩)]] (w.alloc (.cells #[.slice (some ad) l.length c] 32)) fun e W' => ∃ v, e = .returned v ∧ W'.ownsRow (w.heap.size + 1) 3 1 v l.length ((sorted l).map (Value.int .i64)) ∧ Below (w.heap.size + 1) (w.alloc (.cells #[.slice (some ad) l.length c] 32)) W' := by
  refine callsIn_wide.1 (?_ : CallsIn Fence.wide 6 _ _ _ _ _)
  have hat : ∀ j, j < l.length → (w.alloc (.cells #[.slice (some ad) l.length c] 32)).cell? (ad.add j) = some (.int .i64 (l[j]?.getD 0)) ∧ (ad.add j).block < w.heap.size := fun j hj => by
    obtain ⟨ad', he, hc⟩ := Kd.at_int hr (j : Int) (by omega) (by omega)
    obtain rfl := Option.some.inj he
    have hc' : w.cell? (ad.add j) = some (.int .i64 (l[j]?.getD 0)) := by rw [show (ad.add j) = ad.add (j : Int).toNat from rfl, hc]; simp [rd, List.getD_eq_getElem?_getD]
    have hb := World.block_lt_of_cell? w _ hc'
    exact ⟨((below_alloc (Below.refl w.heap.size w) _).cell (p := ad.add j) hb).trans hc', hb⟩
  refine (sorted_in Fence.wide 6 trivial trivial trivial trivial rfl (by omega) 52 #[.pointer (some ⟨w.heap.size, 0, none⟩)] trivial (enters_of Try.func52 (by kernel_rfl) rfl)
    (sort_in _) (sort_none _) w.heap.size (fun ys => ys = l) (fun pre => pre <+: l) l.length (by unfold maxLen; omega) (by omega) (fun xs h => by rw [h]; omega) _ (by simp)
    (values_stops Fence.wide _ trivial rfl (by omega) w.heap.size w.heap.size ad c l (by omega) _ (by simp) (by simp) ((blk_cell (blk_new w _) 0).trans rfl) (fun j hj => (hat j hj).2) (fun j hj => (hat j hj).1))).mono ?_
  rintro e W' ⟨v, xs, rfl, rfl, hrow, _, hb⟩
  have hz : (w.alloc (.cells #[.slice (some ad) xs.length c] 32)).heap.size = w.heap.size + 1 := by simp
  rw [hz] at hrow hb
  exact ⟨v, rfl, hrow, hb⟩
set_option maxHeartbeats 800000 in
set_option maxRecDepth 100000 in
theorem commit_no (A : Option Addr) (c : Nat) (l : List Int) (w : World) (hn : nodesB l.length = false) :
    Calls Try.prog 15 #[.slice A l.length c] w fun e w' => e = .returned (.tuple #[.int .i64 0, .int .i64 1]) ∧ Below w.heap.size w w' := by
  go_enter Try.func15, Try.ntmps15
  go_wp2_with fail
  refine (nodes_calls _ w).mono ?_
  rintro e w1 ⟨rfl, rfl⟩
  rw [hn]
  go_wp2_with fail
  go_ret2
  exact ⟨rfl, Below.refl _ _⟩
set_option maxHeartbeats 800000 in
set_option maxRecDepth 100000 in
theorem commit_bad (A : Option Addr) (c : Nat) (l : List Int) (w : World) (hr : Kd.C (Kd.int .i64) w A l.length l) (hl : l.length ≤ 7) (hn : nodesB l.length = true) (hb : l.all inB = false) :
    Calls Try.prog 15 #[.slice A l.length c] w fun e w' => e = .returned (.tuple #[.int .i64 0, .int .i64 1]) ∧ Below w.heap.size w w' := by
  have HC := Aside0.mk (contains_calls A c l w hr hl)
  rw [hb] at HC
  clear hr
  go_enter Try.func15, Try.ntmps15
  go_wp2_with fail
  refine (nodes_calls _ w).mono ?_
  rintro e w1 ⟨rfl, rfl⟩
  rw [hn]
  go_wp2_with fail
  refine HC.out.mono ?_
  rintro e w1 ⟨rfl, rfl⟩
  go_wp2_with fail
  go_ret2
  exact ⟨rfl, Below.refl _ _⟩
set_option maxHeartbeats 2000000 in
set_option maxRecDepth 100000 in
theorem commit_yes (A : Option Addr) (c : Nat) (l : List Int) (w : World) (hr : Kd.C (Kd.int .i64) w A l.length l) (hl : l.length ≤ 7) (h0 : 0 < l.length) (hn : nodesB l.length = true) (hb : l.all inB = true) :
    Calls Try.prog 15 #[.slice A l.length c] w fun e w' => e = .returned (.tuple #[.int .i64 (rd (sorted l) ((l.length : Int) / 2)), .int .i64 0]) ∧ Below w.heap.size w w' := by
  have HC := Aside0.mk (contains_calls A c l w hr hl)
  rw [hb] at HC
  obtain ⟨ad, rfl, _⟩ := hr.2.2 h0
  have HR := Aside0.mk hr
  clear hr
  go_enter Try.func15, Try.ntmps15
  go_wp2_with fail
  refine (nodes_calls _ w).mono ?_
  rintro e w1 ⟨rfl, rfl⟩
  rw [hn]
  go_wp2_with fail
  refine HC.out.mono ?_
  rintro e w1 ⟨rfl, rfl⟩
  go_wp2_with fail
  refine (callsIn_wide.1 (values_in Fence.wide 5 trivial rfl (some ad) l.length c w1)).mono ?_
  rintro e w2 ⟨rfl, rfl⟩
  go_wp2_with fail
  refine (sorted_calls ad c l w1 HR.out hl).mono ?_
  rintro e w3 ⟨v, rfl, hrow, hb3⟩
  have HB := Aside0.mk ((below_alloc (Below.refl w1.heap.size w1) (.cells #[.slice (some ad) l.length c] 32)).trans (hb3.mono (by simp)))
  have hj : ((sorted l).map (Value.int .i64))[l.length / 2]? = some (.int .i64 (rd (sorted l) ((l.length : Int) / 2))) := by
    have hlt : l.length / 2 < (sorted l).length := by rw [sorted_length]; omega
    rw [List.getElem?_map, List.getElem?_eq_getElem hlt]
    have e : ((l.length : Int) / 2).toNat = l.length / 2 := by omega
    simp [rd, e, List.getD_eq_getElem?_getD, hlt]
  obtain ⟨g, cap, rfl, hcell⟩ := own_cell hrow hj
  have hx0 : (0 : Int) ≤ (l.length : Int) / 2 := by omega
  have hx1 : (l.length : Int) / 2 < (l.length : Int) := by omega
  have hx2 : ((l.length : Int) / 2).toNat = l.length / 2 := by omega
  clear hrow hb3 hj
  go_wp2_with fail
  go_ret2
  exact ⟨rfl, HB.out⟩
theorem view_Commit.calls (A0 : Option Addr) (c0 : Nat) (l0 : List Int) (r1 : Int) (r2 : Int) (w : World) (hr0 : Kd.C (Kd.int .i64) w A0 l0.length l0) (hc0 : l0.length ≤ c0) (h : view_Commit.f l0 = some (r1, r2)) :
    Calls Try.prog 15 #[.slice A0 l0.length c0] w fun e w' => e = .returned (.tuple #[.int .i64 r1, .int .i64 r2]) ∧ Below w.heap.size w w' := by
  unfold view_Commit.f at h
  by_cases hn : nodesB l0.length = true
  · have hl : 0 < l0.length ∧ l0.length ≤ 7 := by unfold nodesB at hn; simp at hn; omega
    rw [if_pos hn] at h
    by_cases hb : l0.all inB = true
    · rw [if_pos hb] at h
      simp only [Option.some.injEq, Prod.mk.injEq] at h
      obtain ⟨rfl, rfl⟩ := h
      exact commit_yes A0 c0 l0 w hr0 hl.2 hl.1 hn hb
    · rw [if_neg hb] at h
      simp only [Option.some.injEq, Prod.mk.injEq] at h
      obtain ⟨rfl, rfl⟩ := h
      exact commit_bad A0 c0 l0 w hr0 hl.2 hn (by simpa using hb)
  · rw [if_neg hn] at h
    simp only [Option.some.injEq, Prod.mk.injEq] at h
    obtain ⟨rfl, rfl⟩ := h
    exact commit_no A0 c0 l0 w (by simpa using hn)
end Go.Proofs.Ytifhgfjohpbliaa.GivenV
end

section
/- view.Best: the place of the best offer. -/
set_option linter.unusedVariables false
set_option linter.unusedSimpArgs false
namespace Go.Proofs.Ytifhgfjohpbliaa.GivenV
open Go.RowKit Go.Proofs.YtifhgfjohpbliaaW.PrintWords Go.Proofs.YtifhgfjohpbliaaW.PrintLast Go.Proofs.YtifhgfjohpbliaaW.PrintMore Go.Proofs.Ytifhgfjohpbliaa.Vals Go.Proofs.Ytifhgfjohpbliaa.Pt

abbrev Off := S38
def better (a b : Off) : Bool := decide (b.f1 < a.f1) || (decide (a.f1 = b.f1) && decide (b.f2 < a.f2))
theorem cmp_eq (a b : Int) : Pb.cmp_Compare_int.f a b = some (if a < b then -1 else if a > b then 1 else 0) := by
  unfold Pb.cmp_Compare_int.f Pb.cmp_isNaN_int.f
  simp
  split
  · rfl
  · split <;> rfl
theorem wrap_small (i : Int) (h0 : 0 ≤ i) (h1 : i < 9223372036854775808) : wrap64 i = i := by
  unfold wrap64
  first
  | (rw [IntKind.wrap_i64]; omega)
  | (simp [IntKind.wrap_i64]; omega)
  | omega
theorem or_eq (a b : Int) : Pb.cmp_Or_int.f 4 [a, b] = some (if a = 0 then b else a) := by
  unfold Pb.cmp_Or_int.f
  simp only [Pb.cmp_Or_int.l0]
  have w1 : wrap64 1 = 1 := wrap_small _ (by omega) (by omega)
  have w2 : wrap64 (1 + 1) = 2 := wrap_small _ (by omega) (by omega)
  have w3 : wrap64 2 = 2 := wrap_small _ (by omega) (by omega)
  by_cases h : a = 0
  · by_cases h2 : b = 0
    · simp [rd, h, h2, w1, w2, w3]
    · simp [rd, h, h2, w1, w2, w3]
  · simp [rd, h, w1, w2, w3]
def cmpO (a b : Off) : Int := if (if a.f1 < b.f1 then (-1 : Int) else if a.f1 > b.f1 then 1 else 0) = 0 then (if a.f2 < b.f2 then -1 else if a.f2 > b.f2 then 1 else 0) else (if a.f1 < b.f1 then -1 else if a.f1 > b.f1 then 1 else 0)
theorem cmpO_pos (a b : Off) : decide (0 < cmpO a b) = better a b := by
  unfold cmpO better
  rw [Bool.eq_iff_iff]
  simp only [decide_eq_true_eq, Bool.or_eq_true, Bool.and_eq_true]
  split <;> split <;> (try split) <;> (try split) <;> omega
theorem best1_calls (a b : Off) (w : World) :
    Calls Try.prog 30 #[.agg #[.int .i64 a.f0, .int .i64 a.f1, .int .i64 a.f2], .agg #[.int .i64 b.f0, .int .i64 b.f1, .int .i64 b.f2]] w fun e w' => e = .returned (.int .i64 (cmpO a b)) ∧ Below w.heap.size w w' := by
  refine Pb.view_Best_1.calls 4 a.f0 a.f1 a.f2 b.f0 b.f1 b.f2 _ w ?_
  unfold Pb.view_Best_1.f
  rw [cmp_eq, cmp_eq]
  simp only [Option.bind_some]
  rw [or_eq]
  rfl
/-- The best of a list of offers, one being at hand. -/
def maxO (m : Off) : List Off → Off
  | [] => m
  | x :: l => maxO (if better x m = true then x else m) l
def offv (x : Off) : Value := .agg #[.int .i64 x.f0, .int .i64 x.f1, .int .i64 x.f2]
def offc (x : Off) (t : Nat) : Obj := .cells #[.int .i64 x.f0, .int .i64 x.f1, .int .i64 x.f2] t (0, 0)
theorem drop_off (l : List Off) (i : Nat) (h : i < l.length) : l.drop i = rd_T38 l i :: l.drop (i + 1) := by
  rw [List.drop_eq_getElem_cons h]
  unfold rd_T38
  simp [List.getD_eq_getElem?_getD, h]
abbrev S6 (wr : World) (p q : Addr) (x m : Off) (w' : World) : Prop :=
  w'.cell? p = some (.int .i64 x.f0) ∧ w'.cell? ⟨p.block, p.off + 1, none⟩ = some (.int .i64 x.f1) ∧ w'.cell? ⟨p.block, p.off + 2, none⟩ = some (.int .i64 x.f2) ∧
  w'.cell? ⟨q.block, 0, none⟩ = some (.int .i64 m.f0) ∧ w'.cell? ⟨q.block, 1, none⟩ = some (.int .i64 m.f1) ∧ w'.cell? ⟨q.block, 2, none⟩ = some (.int .i64 m.f2) ∧ Below wr.heap.size wr w'
theorem keep6 {wr w1 w2 : World} {p q : Addr} {x m : Off} (h : S6 wr p q x m w1) (hb : Below w1.heap.size w1 w2) : S6 wr p q x m w2 := by
  obtain ⟨h1, h2, h3, h4, h5, h6, h7⟩ := h
  have g : ∀ {a : Addr} {v : Value}, w1.cell? a = some v → w2.cell? a = some v := fun {a v} ha => (hb.cell (p := a) (World.block_lt_of_cell? w1 _ ha)).trans ha
  exact ⟨g h1, g h2, g h3, g h4, g h5, g h6, h7.trans (hb.mono h7.size)⟩
theorem keep6d {wr w1 : World} {p q : Addr} {x m : Off} (h : S6 wr p q x m w1) : S6 wr p q x m w1.drew := keep6 h (below_drew1 (Below.refl _ _))
set_option maxHeartbeats 2000000 in
set_option maxRecDepth 100000 in
theorem max_calls (A : Option Addr) (c : Nat) (l : List Off) (w : World) (hr : Kd.C k38 w A l.length l) (h0 : 0 < l.length) (hl : l.length < 9223372036854775807) :
    Calls Try.prog 29 #[.slice A l.length c, .func (.func 30) #[] #[]] w fun e w' => e = .returned (offv (maxO (rd_T38 l 0) (l.drop 1))) ∧ Below w.heap.size w w' := by
  have hu := Try.underlying38
  obtain ⟨ad, rfl, c0, c1, c2⟩ := at_T38 hr 0 (by omega) (by omega)
  have HR := Aside0.mk hr
  have b1 : decide ((l.length : Int) < 1) = false := decide_eq_false (by omega)
  simp only [Int.toNat_zero, Nat.zero_mul, show ad.add 0 = ad from by simp [Addr.add]] at c0 c1 c2
  have HB := Aside0.mk (below_alloc (Below.refl w.heap.size w) (.cells #[.int .i64 0, .int .i64 0, .int .i64 0] 38))
  have g : ∀ {a : Addr} {v : Value}, w.cell? a = some v → (w.alloc (.cells #[.int .i64 0, .int .i64 0, .int .i64 0] 38)).cell? a = some v := fun {a v} ha => (HB.out.cell (p := a) (World.block_lt_of_cell? w _ ha)).trans ha
  have d0 := g c0
  have d1 := g c1
  have d2 := g c2
  clear g c0 c1 c2
  clear hr
  go_enter Try.func29, Try.ntmps29
  go_wp2_with fail
  generalize hm0 : rd_T38 l 0 = m0 at d0 d1 d2 ⊢
  have HM := Aside0.mk hm0
  clear hm0
  clear d0 d1 d2 HB
  go_loopw [6] (fun i wr => ∃ (k : Nat) (m : Off), 1 ≤ k ∧ k ≤ l.length ∧ i = .int .i64 k ∧ Aside0 (maxO m0 (l.drop 1) = maxO m (l.drop k)) ∧ Aside0 (Below w.heap.size w wr) ∧ Aside0 (wr.heap[w.heap.size + 1]? = some (offc m 38)) ∧ Aside0 (wr.heap[w.heap.size]? = some (.cells #[.int .i64 0, .int .i64 0, .int .i64 0] 38 (0, 0)))) (fun i _ => l.length - (intOf i).toNat)
  case atStart =>
    have z : (w.alloc (.cells #[.int .i64 0, .int .i64 0, .int .i64 0] 38)).heap.size = w.heap.size + 1 := by simp
    have q0 := blk_new (w.alloc (.cells #[.int .i64 0, .int .i64 0, .int .i64 0] 38)) (.cells #[.int .i64 m0.f0, .int .i64 m0.f1, .int .i64 m0.f2] 38)
    rw [z] at q0
    exact ⟨1, m0, by omega, by omega, rfl, ⟨rfl⟩, ⟨below_alloc (below_alloc (Below.refl _ _) _) _⟩, ⟨q0⟩, ⟨blk_alloc (blk_new w _) _⟩⟩
  case round =>
    obtain ⟨k, m, hk1, hk, rfl, E, HB, P, P4⟩ := hrel
    by_cases hlt : k < l.length
    · obtain ⟨ad', he, c0, c1, c2⟩ := at_T38 (Kd.C_below HR.out HB.out) (k : Int) (by omega) (by omega)
      obtain rfl := Option.some.inj he
      have hd := Aside0.mk (drop_off l k hlt)
      generalize hx : rd_T38 l (k : Int) = x at c0 c1 c2
      have m0' := (blk_cell P.out 0).trans rfl
      have m1' := (blk_cell P.out 1).trans rfl
      have m2' := (blk_cell P.out 2).trans rfl
      have hb1 : decide ((k : Int) < (l.length : Int)) = true := decide_eq_true (by omega)
      have hS : S6 wr (ad.add (k * 3)) ⟨w.heap.size + 1, 0, none⟩ x m wr := ⟨c0, c1, c2, m0', m1', m2', Below.refl _ _⟩
      have HS := Aside0.mk hS
      have HK := Aside0.mk (fun w1 w2 => @keep6 wr w1 w2 (ad.add (k * 3)) ⟨w.heap.size + 1, 0, none⟩ x m)
      have HX := Aside0.mk hx
      clear hx c0 c1 c2 m0' m1' m2' hS
      go_wp2_with fail
      go_region_held3 (fun w' => w'.cell? (ad.add (k * 3)) = some (.int .i64 x.f0) ∧ w'.cell? ⟨(ad.add (k * 3)).block, (ad.add (k * 3)).off + 1, none⟩ = some (.int .i64 x.f1) ∧ w'.cell? ⟨(ad.add (k * 3)).block, (ad.add (k * 3)).off + 2, none⟩ = some (.int .i64 x.f2) ∧ w'.cell? ⟨w.heap.size + 1, 0, none⟩ = some (.int .i64 m.f0) ∧ w'.cell? ⟨w.heap.size + 1, 1, none⟩ = some (.int .i64 m.f1) ∧ w'.cell? ⟨w.heap.size + 1, 2, none⟩ = some (.int .i64 m.f2) ∧ Below wr.heap.size wr w') (first | exact keep6d HS.out | exact HK.out _ _ (by assumption) hbb) ((go_at_call 30; refine (best1_calls x m _).mono ?_; rintro e w' ⟨rfl, hbb⟩))
      obtain ⟨e0, e1, e2, e3, e4, e5, hBw⟩ : S6 wr (ad.add (k * 3)) ⟨w.heap.size + 1, 0, none⟩ x m w' := by assumption
      rw [cmpO_pos]
      have P' := Aside0.mk (blk_below P.out hBw)
      have P4' := Aside0.mk (blk_below P4.out hBw)
      have HB' := Aside0.mk (HB.out.trans (hBw.mono HB.out.size))
      have f0 := blk_frozen P'.out
      clear e3 e4 e5 hBw hbb
      have HD : Aside0 (maxO m0 (l.drop 1) = maxO (if better x m = true then x else m) (l.drop (k + 1))) := ⟨by rw [E.out, hd.out, HX.out]; rfl⟩
      by_cases hbt : better x m = true
      · have HD2 := HD.out
        rw [if_pos hbt] at HD2
        have HD3 := Aside0.mk HD2
        rw [hbt]
        clear HD2 HD hbt
        go_wp2_with fail
        have q1 := blk_put P'.out 0 (.int .i64 x.f0) rfl
        have q2 := blk_put q1 1 (.int .i64 x.f1) rfl
        have q3 := blk_put q2 2 (.int .i64 x.f2) rfl
        have r1 := (((Below.refl (w.heap.size + 1) w').setCell (p := ⟨w.heap.size + 1, 0, none⟩) (Nat.le_refl _) (.int .i64 x.f0)).setCell (p := ⟨w.heap.size + 1, 1, none⟩) (Nat.le_refl _) (.int .i64 x.f1)).setCell (p := ⟨w.heap.size + 1, 2, none⟩) (Nat.le_refl _) (.int .i64 x.f2)
        have r2 := (r1.block w.heap.size (by omega)).trans P4'.out
        have r3 := HB'.out.trans (r1.mono (by omega))
        have q4 := Aside0.mk q3
        have r4 := Aside0.mk r2
        have r5 := Aside0.mk r3
        clear q1 q2 q3 r1 r2 r3
        go_roundw
        case rel => exact ⟨k + 1, x, by omega, by omega, by go_num, HD3, r5, q4, r4⟩
        case measure => simp [intOf]; omega
      · have HD2 := HD.out
        rw [if_neg hbt] at HD2
        have HD3 := Aside0.mk HD2
        have hbt' : better x m = false := by simpa using hbt
        rw [hbt']
        clear HD2 HD hbt hbt'
        go_wp2_with fail
        go_roundw
        case rel => exact ⟨k + 1, m, by omega, by omega, by go_num, HD3, HB', P', P4'⟩
        case measure => simp [intOf]; omega
    · obtain rfl : k = l.length := by omega
      have hb1 : decide ((l.length : Int) < (l.length : Int)) = false := decide_eq_false (by omega)
      have m0' := (blk_cell P.out 0).trans rfl
      have m1' := (blk_cell P.out 1).trans rfl
      have m2' := (blk_cell P.out 2).trans rfl
      have f0 := blk_frozen P4.out
      have E2 := E.out
      rw [List.drop_of_length_le (Nat.le_refl _)] at E2
      have E3 := Aside0.mk E2
      have z0 := (blk_cell P4.out 0).trans rfl
      have z1 := (blk_cell P4.out 1).trans rfl
      have z2 := (blk_cell P4.out 2).trans rfl
      clear E2
      go_wp2_with fail
      refine bodyPost_ret (v := offv m) (by simp [results, Try.results29, go_sem, offv, m0', m1', m2', z0, z1, z2]) rfl ⟨?_, ?_⟩
      · rw [HM.out, E3.out]; rfl
      · exact ((HB.out.setCell (Nat.le_refl _) _).setCell (Nat.le_refl _) _).setCell (Nat.le_refl _) _

/-- Where the first offer is that has as much as m. -/
def likeB (m x : Off) : Bool := (x.f1 == m.f1) && (x.f2 == m.f2)
def findO (m : Off) : List Off → Int → Int
  | [], _ => -1
  | x :: l, i => if likeB m x = true then i else findO m l (i + 1)
theorem findO_cons (m x : Off) (l : List Off) (i : Int) : findO m (x :: l) i = if likeB m x = true then i else findO m l (i + 1) := rfl
set_option maxHeartbeats 800000 in
set_option maxRecDepth 100000 in
theorem like_calls (b : Nat) (m x : Off) (w : World) (P : w.heap[b]? = some (offc m 38)) :
    Calls Try.prog 34 #[offv x, .pointer (some ⟨b, 0, none⟩)] w fun e w' => e = .returned (.bool (likeB m x)) ∧ Below w.heap.size w w' := by
  have hu := Try.underlying38
  have hP := blk_alloc P (.cells #[.int .i64 x.f0, .int .i64 x.f1, .int .i64 x.f2] 38)
  have m1 := (blk_cell hP 1).trans rfl
  have m2 := (blk_cell hP 2).trans rfl
  have lt := blk_lt P
  clear hP P
  unfold likeB offv
  by_cases h : x.f1 = m.f1
  · have b2 : (x.f1 == m.f1) = true := by simpa using h
    rw [b2, Bool.true_and]
    clear h
    go_enter Try.func34, Try.ntmps34
    go_wp2_with fail
    go_ret
    exact ⟨rfl, below_alloc (Below.refl _ _) _⟩
  · have b2 : (x.f1 == m.f1) = false := by simpa using h
    rw [b2, Bool.false_and]
    clear h
    go_enter Try.func34, Try.ntmps34
    go_wp2_with fail
    go_ret
    exact ⟨rfl, below_alloc (Below.refl _ _) _⟩
set_option maxHeartbeats 800000 in
set_option maxRecDepth 100000 in
theorem find_calls (A : Option Addr) (c b : Nat) (m : Off) (l : List Off) (w : World) (hr : Kd.C k38 w A l.length l) (hl : l.length < 9223372036854775807) (hp : w.heap[b]? = some (offc m 38)) :
    Calls Try.prog 33 #[.slice A l.length c, .func (.func 34) #[] #[.pointer (some ⟨b, 0, none⟩)]] w fun e w' => e = .returned (.int .i64 (findO m l 0)) ∧ Below w.heap.size w w' := by
  have hu := Try.underlying38
  have HR := Aside0.mk hr
  have HP := Aside0.mk hp
  clear hr hp
  go_enter Try.func33, Try.ntmps33
  go_wp2_with fail
  go_loopw [5, 8] (fun _ i wr => ∃ k : Nat, k ≤ l.length ∧ i = .int .i64 k ∧ Aside0 (findO m l 0 = findO m (l.drop k) k) ∧ Aside0 (Below w.heap.size w wr)) (fun _ i _ => l.length - (intOf i).toNat)
  case atStart => exact ⟨0, by omega, rfl, ⟨rfl⟩, ⟨Below.refl _ _⟩⟩
  case round =>
    obtain ⟨k, hk, rfl, E, HB⟩ := hrel
    by_cases hlt : k < l.length
    · obtain ⟨ad, he, c0, c1, c2⟩ := at_T38 (Kd.C_below HR.out HB.out) (k : Int) (by omega) (by omega)
      subst he
      have E2 := E.out
      rw [drop_off l k hlt, findO_cons] at E2
      generalize rd_T38 l (k : Int) = x at c0 c1 c2 E2
      have c0' : wr.cell? (ad.add (k * 3)) = some (.int .i64 x.f0) := c0
      have c1' : wr.cell? ⟨(ad.add (k * 3)).block, (ad.add (k * 3)).off + 1, none⟩ = some (.int .i64 x.f1) := c1
      have c2' : wr.cell? ⟨(ad.add (k * 3)).block, (ad.add (k * 3)).off + 2, none⟩ = some (.int .i64 x.f2) := c2
      clear c0 c1 c2
      have hb1 : decide ((k : Int) < (l.length : Int)) = true := decide_eq_true (by omega)
      have hlk := Aside0.mk (like_calls b m x wr (blk_below HP.out HB.out))
      unfold offv at hlk
      by_cases hin : likeB m x = true
      · rw [if_pos hin] at E2
        have E3 := Aside0.mk E2
        rw [hin] at hlk
        clear E2 hin
        go_wp2_with fail
        refine hlk.out.mono ?_
        rintro e w1 ⟨rfl, hb⟩
        have HB1 := Aside0.mk (HB.out.trans (hb.mono HB.out.size))
        clear hb
        go_wp2_with fail
        go_ret
        exact ⟨by show Ending.returned (.int .i64 (k : Int)) = _; rw [E3.out], HB1.out⟩
      · rw [if_neg hin] at E2
        have E3 : Aside0 (findO m l 0 = findO m (l.drop (k + 1)) ((k + 1 : Nat) : Int)) := ⟨by simpa using E2⟩
        have hin' : likeB m x = false := by simpa using hin
        rw [hin'] at hlk
        clear E2 hin hin'
        go_wp2_with fail
        refine hlk.out.mono ?_
        rintro e w1 ⟨rfl, hb⟩
        have HB1 := Aside0.mk (HB.out.trans (hb.mono HB.out.size))
        clear hb
        go_wp2_with fail
        go_roundw
        case rel => exact ⟨k + 1, by omega, by go_num, E3, HB1⟩
        case measure => simp [intOf]; omega
    · obtain rfl : k = l.length := by omega
      have E2 := E.out
      rw [List.drop_of_length_le (Nat.le_refl _)] at E2
      have E3 := Aside0.mk E2
      clear E2
      go_wp2_with fail
      go_ret
      exact ⟨by show Ending.returned (.int .i64 (-1)) = _; rw [E3.out]; rfl, HB.out⟩
def view_Best.f (l : List Off) : Option (Int × Int) := if l.length < 9223372036854775807 then (if l = [] then some (0, 6) else some (findO (maxO (rd_T38 l 0) (l.drop 1)) l 0, 0)) else none
set_option maxHeartbeats 800000 in
set_option maxRecDepth 100000 in
theorem best_none (A : Option Addr) (c : Nat) (w : World) :
    Calls Try.prog 17 #[.slice A 0 c] w fun e w' => e = .returned (.tuple #[.int .i64 0, .int .i64 6]) ∧ Below w.heap.size w w' := by
  go_enter Try.func17, Try.ntmps17
  go_wp2_with fail
  go_ret2
  exact ⟨rfl, Below.refl _ _⟩
set_option maxHeartbeats 800000 in
set_option maxRecDepth 100000 in
theorem best_some (A : Option Addr) (c : Nat) (l : List Off) (w : World) (hr : Kd.C k38 w A l.length l) (h0 : 0 < l.length) (hl : l.length < 9223372036854775807) :
    Calls Try.prog 17 #[.slice A l.length c] w fun e w' => e = .returned (.tuple #[.int .i64 (findO (maxO (rd_T38 l 0) (l.drop 1)) l 0), .int .i64 0]) ∧ Below w.heap.size w w' := by
  have hu := Try.underlying38
  have HR := Aside0.mk hr
  have b0 : ((l.length : Int) == 0) = false := by simpa using (by omega : ¬ (l.length : Int) = 0)
  have CM := Aside0.mk (max_calls A c l w hr h0 hl)
  clear hr
  generalize maxO (rd_T38 l 0) (l.drop 1) = m at CM ⊢
  have H0 := Aside0.mk h0
  clear h0
  go_enter Try.func17, Try.ntmps17
  go_wp2_with fail
  refine CM.out.mono ?_
  rintro e w1 ⟨rfl, hb⟩
  have HB1 := Aside0.mk hb
  clear hb
  unfold offv
  go_wp2_with fail
  have hP := blk_new w1 (.cells #[.int .i64 m.f0, .int .i64 m.f1, .int .i64 m.f2] 38)
  refine (find_calls A c w1.heap.size m l _ (Kd.C_below (Kd.C_below HR.out HB1.out) (below_alloc (Below.refl _ _) _)) hl hP).mono ?_
  rintro e w2 ⟨rfl, hb⟩
  have HB2 := Aside0.mk ((below_alloc HB1.out (.cells #[.int .i64 m.f0, .int .i64 m.f1, .int .i64 m.f2] 38)).trans (hb.mono (by have := HB1.out.size; simp; omega)))
  clear hb hP
  go_wp2_with fail
  go_ret2
  exact ⟨rfl, HB2.out⟩
theorem view_Best.calls (A0 : Option Addr) (c0 : Nat) (l0 : List Off) (r1 : Int) (r2 : Int) (w : World) (hr0 : Kd.C k38 w A0 l0.length l0) (hc0 : l0.length ≤ c0) (h : view_Best.f l0 = some (r1, r2)) :
    Calls Try.prog 17 #[.slice A0 l0.length c0] w fun e w' => e = .returned (.tuple #[.int .i64 r1, .int .i64 r2]) ∧ Below w.heap.size w w' := by
  unfold view_Best.f at h
  by_cases hl : l0.length < 9223372036854775807
  · rw [if_pos hl] at h
    by_cases hn : l0 = []
    · rw [if_pos hn] at h
      simp only [Option.some.injEq, Prod.mk.injEq] at h
      obtain ⟨rfl, rfl⟩ := h
      subst hn
      exact best_none A0 c0 w
    · rw [if_neg hn] at h
      simp only [Option.some.injEq, Prod.mk.injEq] at h
      obtain ⟨rfl, rfl⟩ := h
      exact best_some A0 c0 l0 w hr0 (List.length_pos_iff.2 hn) hl
  · rw [if_neg hl] at h
    cases h
end Go.Proofs.Ytifhgfjohpbliaa.GivenV
end
